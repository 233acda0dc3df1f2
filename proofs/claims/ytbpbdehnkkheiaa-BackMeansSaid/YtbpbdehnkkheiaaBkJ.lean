/- Contract of profile.Join, exactly. -/
import Derived.Test.YtbpbdehnkkheiaaWyO
namespace Go.Proofs.Ytbpbdehnkkheiaa
open Go.RowKit
attribute [local go_sem ↓] Go.wp_at_zero Go.wp_at_succ

abbrev mxI (a b : Int) : Int := if a < b then b else a
def longerI (p q : Prof) : Int :=
  if ((p.edit != 2) && (q.edit != 2)) = true then 0 else if (q.edit != 2) = true then p.within_ else if (p.edit != 2) = true then q.within_ else if ((p.within_ == 0) || (q.within_ == 0)) = true then 0 else mxI p.within_ q.within_
set_option maxRecDepth 100000 in
set_option maxHeartbeats 1000000 in
theorem longerX_any (p q : Prof) (A B : Option Addr) (c d : Nat) (w : World) : Calls Try.prog 31 #[p.v A c, q.v B d] w fun e w' => e = .returned (.int .i64 (longerI p q)) ∧ Below w.heap.size w w' := by
  have HB := Lib.hid (((Below.refl w.heap.size w).alloc (Nat.le_refl _) (.cells (p.cs A c) 24)).alloc (by simp) (.cells (q.cs B d) 24))
  go_enter Try.func31, Try.ntmps31
  go_wp2
  all_goals go_ret
  all_goals exact ⟨ret_int (by unfold longerI mxI; first | (simp [*]; done) | (simp_all; done) | (simp [*]; omega) | (simp_all; omega)), HB.out⟩
def J2 (p q : Prof) : Prof := { p with edit := mxI p.edit q.edit, delete := mxI p.delete q.delete, thread := mxI p.thread q.thread }
def J3 (p q : Prof) : Prof := { J2 p q with react := p.react || q.react, quote := p.quote || q.quote, mention := p.mention || q.mention }
def J4 (p q : Prof) : Prof := { J3 p q with size := mxI p.size q.size, parts := mxI p.parts q.parts, level := mxI p.level q.level }
def J5 (p q : Prof) : Prof := { J4 p q with files := mxI p.files q.files, bytes := mxI p.bytes q.bytes }
def J6 (p q : Prof) : Prof := { J5 p q with within_ := longerI p q }
def moreT (p q : Prof) (k : Nat) : List ByteArray := (q.types.take k).filter (fun s => !hasS p.types s)
def JK (p q : Prof) (k : Nat) : Prof := { J6 p q with types := p.types ++ moreT p q k }
def joinP (p q : Prof) : Prof := JK p q q.types.length
theorem moreT_len (p q : Prof) (k : Nat) : (moreT p q k).length ≤ q.types.length := Nat.le_trans (List.length_filter_le _ _) (by rw [List.length_take]; omega)
theorem moreT_step (p q : Prof) (k : Nat) {s : ByteArray} (h : q.types[k]? = some s) : moreT p q (k + 1) = moreT p q k ++ (if hasS p.types s = true then [] else [s]) := by
  have hk := (List.getElem?_eq_some_iff.1 h).1
  have he := (List.getElem?_eq_some_iff.1 h).2
  unfold moreT
  rw [List.take_succ_eq_append_getElem hk, List.filter_append, he]
  congr 1
  cases hh : hasS p.types s <;> simp [hh]
def JX (p q : Prof) (A B : Option Addr) (c d z : Nat) (W w : World) : Prop := ∃ m, MS p q A B c d z W m A c w ∧ m = m ∧ m = m
/-- .. and its types are the call's own. -/
def JT (p q : Prof) (A B : Option Addr) (c d z : Nat) (W : World) (k : Nat) (w : World) : Prop := ∃ A' c', MS p q A B c d z W (JK p q k) A' c' w ∧ OwnS w (z + 4) A' c' (p.types ++ moreT p q k)
/-- The profile that Join makes. -/
def JoinOut (p q : Prof) (w : World) (e : Ending) (w' : World) : Prop := Below w.heap.size w w' ∧ ∃ (A : Option Addr) (c : Nat), e = .returned ((joinP p q).v A c) ∧ ProfOk w' w'.heap.size A (joinP p q) ∧ (joinP p q).types.length ≤ c ∧ (joinP p q).types.length ≤ 24
section
variable {p q : Prof} {A B A' : Option Addr} {c d z c' k : Nat} {W w w' : World}
theorem JT.bl (h : JT p q A B c d z W k w) : Below z W w := by obtain ⟨A', c', h1, _⟩ := h; exact h1.bl
theorem JT.later (h : JT p q A B c d z W k w) (hb : Below w.heap.size w w') : JT p q A B c d z W k w' := by
  obtain ⟨A', c', h1, h3⟩ := h
  exact ⟨A', c', h1.later hb, h3.below hb⟩
theorem JT.cloned {base n : Nat} (h1 : MS p q A B c d z W (J6 p q) A c w) (h3 : OwnS w base A' c' p.types) (hb : z + 4 ≤ base) (hn : n = p.types.length) :
    JT p q A B c d z W 0 (w.setCell ⟨z + 3, 12, none⟩ (.slice A' n c')) := by
  subst hn
  have e : moreT p q 0 = [] := by simp [moreT]
  refine ⟨A', c', h1.set (m' := JK p q 0) 12 _ (by decide) ?_, ?_⟩
  · simp [JK, e, J6, J5, J4, J3, J2]
  · rw [e, List.append_nil]
    exact own_set (h3.mono hb) (by omega)
theorem JT.skip {s : ByteArray} (h : JT p q A B c d z W k w) (hs : q.types[k]? = some s) (hh : hasS p.types s = true) : JT p q A B c d z W (k + 1) w := by
  have e : moreT p q (k + 1) = moreT p q k := by rw [moreT_step p q k hs, if_pos hh, List.append_nil]
  unfold JT JK at h ⊢
  rw [e]
  exact h
theorem JT.push {A'' : Option Addr} {c'' n : Nat} {s : ByteArray} (h1 : MS p q A B c d z W (JK p q k) A' c' w) (h3 : OwnS w (z + 4) A'' c'' (p.types ++ moreT p q k ++ [s])) (hs : q.types[k]? = some s) (hh : hasS p.types s = false) (hn : n = (p.types ++ moreT p q k).length + 1) :
    JT p q A B c d z W (k + 1) (w.setCell ⟨z + 3, 12, none⟩ (.slice A'' n c'')) := by
  subst hn
  have e : moreT p q (k + 1) = moreT p q k ++ [s] := by rw [moreT_step p q k hs, if_neg (by rw [hh]; decide)]
  refine ⟨A'', c'', h1.set (m' := JK p q (k + 1)) 12 _ (by decide) ?_, ?_⟩
  · simp [JK, e]
    omega
  · rw [e, ← List.append_assoc]
    exact own_set h3 (by omega)
end
set_option maxRecDepth 100000 in
set_option maxHeartbeats 8000000 in
theorem joinX_any (p q : Prof) (A B : Option Addr) (c d : Nat) (w : World) (hr : ProfOk w w.heap.size A p) (hq : ProfOk w w.heap.size B q) (hlp : p.types.length ≤ 12) (hlq : q.types.length ≤ 12) : Calls Try.prog 15 #[p.v A c, q.v B d] w (JoinOut p q w) := by
  have hth0 : ((((w.alloc (.cells (p.cs A c) 24)).alloc (.cells (q.cs B d) 24)).alloc (.cells (zeroP.cs none 0) 24)).alloc (.cells (zeroP.cs none 0) 24)).there (w.heap.size + 1 + 1 + 1) 0 22 := boxThere _ _ _ (Below.refl _ _) _ (by simp) 22 rfl
  have hld0 : ((((w.alloc (.cells (p.cs A c) 24)).alloc (.cells (q.cs B d) 24)).alloc (.cells (zeroP.cs none 0) 24))).rangeAt w.heap.size 0 (p.cs A c).toList := boxRange _ _ _ (((Below.refl _ _).alloc (by simp) _).alloc (by simp) _)
  have HTH := Lib.hid hth0
  have HLD := Lib.hid hld0
  clear hth0 hld0
  go_enter Try.func15, Try.ntmps15
  go_upto_region 2 with (first | ((with_reducible show wpList _ _ _ (Oper.mk _ (Op.load 24 _) _ _ _ _ :: _) _ _); refine wpList_load_g rfl 24 (.tmp 2) rfl w.heap.size 0 rfl (p.cs A c).toList _ HLD.out Try.underlying24 rfl (by kernel_rfl) ?_) | ((with_reducible show wpList _ _ _ (Oper.mk _ (Op.store 24 _ _) _ _ _ _ :: _) _ _); refine wpList_store_box rfl 24 _ _ rfl _ _ rfl rfl HTH.out (by kernel_rfl) (by kernel_rfl) ?_; intro w2 hrg hth hg; have HM0 := Lib.hid (startMS p q A B c d w w2 hrg hth hg); clear hrg hth hg))
  dsimp only [Act.put]
  have HE := HM0
  clear HM0 HTH HLD
  go_cut [23] (fun v wx => MS p q A B c d w.heap.size w (J2 p q) A c wx)
  case first =>
    as_aux_lemma =>
    go_wp2_with fail
    refine wp_region_held_drew (S := JX p q A B c d w.heap.size w) (by kernel_rfl) ⟨_, HE.out.later (Below.refl _ _).drew, rfl, rfl⟩ ?_
    intro hHeld
    have HE := Lib.hid (HE.out.later (Below.refl _ _).drew)
    obtain ⟨we, hwe⟩ : ∃ x, x = World.drew w2 := ⟨_, rfl⟩
    rw [← hwe] at HE hHeld ⊢
    clear hwe
    refine wpAnyH_take (i := 0) (v := ?_) rfl (by kernel_rfl) (by kernel_rfl) (by kernel_rfl) (fun _ _ _ h => h) (Or.inl ⟨by rfl, ?_⟩) (by assumption) ?_
    rotate_left
    · intro wq hSw
      obtain ⟨mq, hmq, _, _⟩ := hSw
      have a1 := hmq.cp 1 _ rfl; have a3 := hmq.cp 3 _ rfl; have a5 := hmq.cp 5 _ rfl; have b1 := hmq.cq 1 _ rfl; have b3 := hmq.cq 3 _ rfl; have b5 := hmq.cq 5 _ rfl
      clear hmq
      go_simp
      try with_reducible rfl
    simp only [Act.put, List.setIfInBounds_toArray, List.set_cons_zero, List.set_cons_succ, List.getElem_toArray, List.getElem_cons_zero]
    refine wpAnyH_take (i := 1) (v := ?_) rfl (by kernel_rfl) (by kernel_rfl) (by kernel_rfl) (fun _ _ _ h => h) (Or.inl ⟨by rfl, ?_⟩) (by assumption) ?_
    rotate_left
    · intro wq hSw
      obtain ⟨mq, hmq, _, _⟩ := hSw
      have a1 := hmq.cp 1 _ rfl; have a3 := hmq.cp 3 _ rfl; have a5 := hmq.cp 5 _ rfl; have b1 := hmq.cq 1 _ rfl; have b3 := hmq.cq 3 _ rfl; have b5 := hmq.cq 5 _ rfl
      clear hmq
      go_simp
      try with_reducible rfl
    simp only [Act.put, List.setIfInBounds_toArray, List.set_cons_zero, List.set_cons_succ, List.getElem_toArray, List.getElem_cons_zero, List.getElem_cons_succ]
    refine wpAnyH_take (i := 2) (v := ?_) rfl (by kernel_rfl) (by kernel_rfl) (by kernel_rfl) (fun _ _ _ h => h) (Or.inl ⟨by rfl, ?_⟩) (by assumption) ?_
    rotate_left
    · intro wq hSw
      obtain ⟨mq, hmq, _, _⟩ := hSw
      have a1 := hmq.cp 1 _ rfl; have a3 := hmq.cp 3 _ rfl; have a5 := hmq.cp 5 _ rfl; have b1 := hmq.cq 1 _ rfl; have b3 := hmq.cq 3 _ rfl; have b5 := hmq.cq 5 _ rfl
      clear hmq
      go_simp
      try with_reducible rfl
    simp only [Act.put, List.setIfInBounds_toArray, List.set_cons_zero, List.set_cons_succ, List.getElem_toArray, List.getElem_cons_zero, List.getElem_cons_succ]
    refine wpAnyH_take (i := 3) (v := ?_) rfl (by kernel_rfl) (by kernel_rfl) (by kernel_rfl) (fun _ _ _ h => h) (Or.inl ⟨by rfl, ?_⟩) (by assumption) ?_
    rotate_left
    · intro wq hSw
      obtain ⟨mq, hmq, _, _⟩ := hSw
      have a1 := hmq.cp 1 _ rfl; have a3 := hmq.cp 3 _ rfl; have a5 := hmq.cp 5 _ rfl; have b1 := hmq.cq 1 _ rfl; have b3 := hmq.cq 3 _ rfl; have b5 := hmq.cq 5 _ rfl
      clear hmq
      go_simp
      try with_reducible rfl
    simp only [Act.put, List.setIfInBounds_toArray, List.set_cons_zero, List.set_cons_succ, List.getElem_toArray, List.getElem_cons_zero, List.getElem_cons_succ]
    refine wpAnyH_take (i := 4) (v := ?_) rfl (by kernel_rfl) (by kernel_rfl) (by kernel_rfl) (fun _ _ _ h => h) (Or.inl ⟨by rfl, ?_⟩) (by assumption) ?_
    rotate_left
    · intro wq hSw
      obtain ⟨mq, hmq, _, _⟩ := hSw
      have a1 := hmq.cp 1 _ rfl; have a3 := hmq.cp 3 _ rfl; have a5 := hmq.cp 5 _ rfl; have b1 := hmq.cq 1 _ rfl; have b3 := hmq.cq 3 _ rfl; have b5 := hmq.cq 5 _ rfl
      clear hmq
      go_simp
      try with_reducible rfl
    simp only [Act.put, List.setIfInBounds_toArray, List.set_cons_zero, List.set_cons_succ, List.getElem_toArray, List.getElem_cons_zero, List.getElem_cons_succ]
    refine wpAnyH_take (i := 5) (v := ?_) rfl (by kernel_rfl) (by kernel_rfl) (by kernel_rfl) (fun _ _ _ h => h) (Or.inl ⟨by rfl, ?_⟩) (by assumption) ?_
    rotate_left
    · intro wq hSw
      obtain ⟨mq, hmq, _, _⟩ := hSw
      have a1 := hmq.cp 1 _ rfl; have a3 := hmq.cp 3 _ rfl; have a5 := hmq.cp 5 _ rfl; have b1 := hmq.cq 1 _ rfl; have b3 := hmq.cq 3 _ rfl; have b5 := hmq.cq 5 _ rfl
      clear hmq
      go_simp
      try with_reducible rfl
    simp only [Act.put, List.setIfInBounds_toArray, List.set_cons_zero, List.set_cons_succ, List.getElem_toArray, List.getElem_cons_zero, List.getElem_cons_succ]
    refine wpAnyH_take (i := 6) (v := ?_) rfl (by kernel_rfl) (by kernel_rfl) (by kernel_rfl) (fun _ _ _ h => h) (Or.inl ⟨by rfl, ?_⟩) (by assumption) ?_
    rotate_left
    · intro wq hSw
      obtain ⟨mq, hmq, _, _⟩ := hSw
      have a1 := hmq.cp 1 _ rfl; have a3 := hmq.cp 3 _ rfl; have a5 := hmq.cp 5 _ rfl; have b1 := hmq.cq 1 _ rfl; have b3 := hmq.cq 3 _ rfl; have b5 := hmq.cq 5 _ rfl
      clear hmq
      go_simp
      try with_reducible rfl
    simp only [Act.put, List.setIfInBounds_toArray, List.set_cons_zero, List.set_cons_succ, List.getElem_toArray, List.getElem_cons_zero, List.getElem_cons_succ]
    refine wpAnyH_take (i := 7) (v := ?_) rfl (by kernel_rfl) (by kernel_rfl) (by kernel_rfl) (fun _ _ _ h => h) (Or.inl ⟨by rfl, ?_⟩) (by assumption) ?_
    rotate_left
    · intro wq hSw
      obtain ⟨mq, hmq, _, _⟩ := hSw
      have a1 := hmq.cp 1 _ rfl; have a3 := hmq.cp 3 _ rfl; have a5 := hmq.cp 5 _ rfl; have b1 := hmq.cq 1 _ rfl; have b3 := hmq.cq 3 _ rfl; have b5 := hmq.cq 5 _ rfl
      clear hmq
      go_simp
      try with_reducible rfl
    simp only [Act.put, List.setIfInBounds_toArray, List.set_cons_zero, List.set_cons_succ, List.getElem_toArray, List.getElem_cons_zero, List.getElem_cons_succ]
    refine wpAnyH_take (i := 8) (v := ?_) rfl (by kernel_rfl) (by kernel_rfl) (by kernel_rfl) (fun _ _ _ h => h) (Or.inl ⟨by rfl, ?_⟩) (by assumption) ?_
    rotate_left
    · intro wq hSw
      obtain ⟨mq, hmq, _, _⟩ := hSw
      have a1 := hmq.cp 1 _ rfl; have a3 := hmq.cp 3 _ rfl; have a5 := hmq.cp 5 _ rfl; have b1 := hmq.cq 1 _ rfl; have b3 := hmq.cq 3 _ rfl; have b5 := hmq.cq 5 _ rfl
      clear hmq
      go_simp
      try with_reducible rfl
    simp only [Act.put, List.setIfInBounds_toArray, List.set_cons_zero, List.set_cons_succ, List.getElem_toArray, List.getElem_cons_zero, List.getElem_cons_succ]
    refine wpAnyH_take (i := 9) (v := ?_) rfl (by kernel_rfl) (by kernel_rfl) (by kernel_rfl) (fun _ _ _ h => h) (Or.inl ⟨by rfl, ?_⟩) (by assumption) ?_
    rotate_left
    · intro wq hSw
      obtain ⟨mq, hmq, _, _⟩ := hSw
      have a1 := hmq.cp 1 _ rfl; have a3 := hmq.cp 3 _ rfl; have a5 := hmq.cp 5 _ rfl; have b1 := hmq.cq 1 _ rfl; have b3 := hmq.cq 3 _ rfl; have b5 := hmq.cq 5 _ rfl
      clear hmq
      go_simp
      try with_reducible rfl
    simp only [Act.put, List.setIfInBounds_toArray, List.set_cons_zero, List.set_cons_succ, List.getElem_toArray, List.getElem_cons_zero, List.getElem_cons_succ]
    refine wpAnyH_take (i := 10) (v := ?_) rfl (by kernel_rfl) (by kernel_rfl) (by kernel_rfl) (fun _ _ _ h => h) (Or.inl ⟨by rfl, ?_⟩) (by assumption) ?_
    rotate_left
    · intro wq hSw
      obtain ⟨mq, hmq, _, _⟩ := hSw
      have a1 := hmq.cp 1 _ rfl; have a3 := hmq.cp 3 _ rfl; have a5 := hmq.cp 5 _ rfl; have b1 := hmq.cq 1 _ rfl; have b3 := hmq.cq 3 _ rfl; have b5 := hmq.cq 5 _ rfl
      clear hmq
      go_simp
      try with_reducible rfl
    simp only [Act.put, List.setIfInBounds_toArray, List.set_cons_zero, List.set_cons_succ, List.getElem_toArray, List.getElem_cons_zero, List.getElem_cons_succ]
    refine wpAnyH_take (i := 11) (v := ?_) rfl (by kernel_rfl) (by kernel_rfl) (by kernel_rfl) (fun _ _ _ h => h) (Or.inl ⟨by rfl, ?_⟩) (by assumption) ?_
    rotate_left
    · intro wq hSw
      obtain ⟨mq, hmq, _, _⟩ := hSw
      have a1 := hmq.cp 1 _ rfl; have a3 := hmq.cp 3 _ rfl; have a5 := hmq.cp 5 _ rfl; have b1 := hmq.cq 1 _ rfl; have b3 := hmq.cq 3 _ rfl; have b5 := hmq.cq 5 _ rfl
      clear hmq
      go_simp
      try with_reducible rfl
    simp only [Act.put, List.setIfInBounds_toArray, List.set_cons_zero, List.set_cons_succ, List.getElem_toArray, List.getElem_cons_zero, List.getElem_cons_succ]
    refine wpAnyH_take (i := 12) (v := ?_) rfl (by kernel_rfl) (by kernel_rfl) (by kernel_rfl) (fun _ _ _ h => h) (Or.inl ⟨by rfl, ?_⟩) (by assumption) ?_
    rotate_left
    · intro wq hSw
      obtain ⟨mq, hmq, _, _⟩ := hSw
      have a1 := hmq.cp 1 _ rfl; have a3 := hmq.cp 3 _ rfl; have a5 := hmq.cp 5 _ rfl; have b1 := hmq.cq 1 _ rfl; have b3 := hmq.cq 3 _ rfl; have b5 := hmq.cq 5 _ rfl
      clear hmq
      go_simp
      try with_reducible rfl
    simp only [Act.put, List.setIfInBounds_toArray, List.set_cons_zero, List.set_cons_succ, List.getElem_toArray, List.getElem_cons_zero, List.getElem_cons_succ]
    refine wpAnyH_take (i := 13) (v := ?_) rfl (by kernel_rfl) (by kernel_rfl) (by kernel_rfl) (fun _ _ _ h => h) (Or.inl ⟨by rfl, ?_⟩) (by assumption) ?_
    rotate_left
    · intro wq hSw
      obtain ⟨mq, hmq, _, _⟩ := hSw
      have a1 := hmq.cp 1 _ rfl; have a3 := hmq.cp 3 _ rfl; have a5 := hmq.cp 5 _ rfl; have b1 := hmq.cq 1 _ rfl; have b3 := hmq.cq 3 _ rfl; have b5 := hmq.cq 5 _ rfl
      clear hmq
      go_simp
      try with_reducible rfl
    simp only [Act.put, List.setIfInBounds_toArray, List.set_cons_zero, List.set_cons_succ, List.getElem_toArray, List.getElem_cons_zero, List.getElem_cons_succ]
    refine wpAnyH_take (i := 14) (v := ?_) rfl (by kernel_rfl) (by kernel_rfl) (by kernel_rfl) (fun _ _ _ h => h) (Or.inl ⟨by rfl, ?_⟩) (by assumption) ?_
    rotate_left
    · intro wq hSw
      obtain ⟨mq, hmq, _, _⟩ := hSw
      have a1 := hmq.cp 1 _ rfl; have a3 := hmq.cp 3 _ rfl; have a5 := hmq.cp 5 _ rfl; have b1 := hmq.cq 1 _ rfl; have b3 := hmq.cq 3 _ rfl; have b5 := hmq.cq 5 _ rfl
      clear hmq
      go_simp
      try with_reducible rfl
    simp only [Act.put, List.setIfInBounds_toArray, List.set_cons_zero, List.set_cons_succ, List.getElem_toArray, List.getElem_cons_zero, List.getElem_cons_succ]
    refine wpAnyH_take (i := 15) (v := ?_) rfl (by kernel_rfl) (by kernel_rfl) (by kernel_rfl) (fun _ _ _ h => h) (Or.inl ⟨by rfl, ?_⟩) (by assumption) ?_
    rotate_left
    · intro wq hSw
      obtain ⟨mq, hmq, _, _⟩ := hSw
      have a1 := hmq.cp 1 _ rfl; have a3 := hmq.cp 3 _ rfl; have a5 := hmq.cp 5 _ rfl; have b1 := hmq.cq 1 _ rfl; have b3 := hmq.cq 3 _ rfl; have b5 := hmq.cq 5 _ rfl
      clear hmq
      go_simp
      try with_reducible rfl
    simp only [Act.put, List.setIfInBounds_toArray, List.set_cons_zero, List.set_cons_succ, List.getElem_toArray, List.getElem_cons_zero, List.getElem_cons_succ]
    refine wpAnyH_ready (rs := [16]) (by kernel_rfl) (by simp) ?_
    refine AllReadyH.cons rfl (fun K hK => ?_) AllReadyH.nil
    have hco := HE.out.co 1 _ rfl
    have hfo := HE.out.fo 1 (by decide)
    have HE2 := Lib.hid (HE.out.set1 (mxI p.edit q.edit))
    clear hHeld
    go_simp
    refine hK.out _ _ ⟨_, HE2.out, rfl, rfl⟩ ?_
    clear hK K hco hfo HE
    have HE := HE2
    clear HE2
    intro hHeld
    obtain ⟨we, hwe⟩ : ∃ x, x = World.setCell we ⟨w.heap.size + 3, 1, none⟩ (.int .i64 (mxI p.edit q.edit)) := ⟨_, rfl⟩
    rw [← hwe] at HE hHeld ⊢
    clear hwe
    refine wpAnyH_take (i := 17) (v := ?_) rfl (by kernel_rfl) (by kernel_rfl) (by kernel_rfl) (fun _ _ _ h => h) (Or.inl ⟨by rfl, ?_⟩) (by assumption) ?_
    rotate_left
    · intro wq hSw
      obtain ⟨mq, hmq, _, _⟩ := hSw
      have a1 := hmq.cp 1 _ rfl; have a3 := hmq.cp 3 _ rfl; have a5 := hmq.cp 5 _ rfl; have b1 := hmq.cq 1 _ rfl; have b3 := hmq.cq 3 _ rfl; have b5 := hmq.cq 5 _ rfl
      clear hmq
      go_simp
      try with_reducible rfl
    simp only [Act.put, List.setIfInBounds_toArray, List.set_cons_zero, List.set_cons_succ, List.getElem_toArray, List.getElem_cons_zero, List.getElem_cons_succ]
    refine wpAnyH_ready (rs := [18]) (by kernel_rfl) (by simp) ?_
    refine AllReadyH.cons rfl (fun K hK => ?_) AllReadyH.nil
    have hco := HE.out.co 3 _ rfl
    have hfo := HE.out.fo 3 (by decide)
    have HE2 := Lib.hid (HE.out.set3 (mxI p.delete q.delete))
    clear hHeld
    go_simp
    refine hK.out _ _ ⟨_, HE2.out, rfl, rfl⟩ ?_
    clear hK K hco hfo HE
    have HE := HE2
    clear HE2
    intro hHeld
    obtain ⟨we, hwe⟩ : ∃ x, x = World.setCell we ⟨w.heap.size + 3, 3, none⟩ (.int .i64 (mxI p.delete q.delete)) := ⟨_, rfl⟩
    rw [← hwe] at HE hHeld ⊢
    clear hwe
    refine wpAnyH_take (i := 19) (v := ?_) rfl (by kernel_rfl) (by kernel_rfl) (by kernel_rfl) (fun _ _ _ h => h) (Or.inl ⟨by rfl, ?_⟩) (by assumption) ?_
    rotate_left
    · intro wq hSw
      obtain ⟨mq, hmq, _, _⟩ := hSw
      have a1 := hmq.cp 1 _ rfl; have a3 := hmq.cp 3 _ rfl; have a5 := hmq.cp 5 _ rfl; have b1 := hmq.cq 1 _ rfl; have b3 := hmq.cq 3 _ rfl; have b5 := hmq.cq 5 _ rfl
      clear hmq
      go_simp
      try with_reducible rfl
    simp only [Act.put, List.setIfInBounds_toArray, List.set_cons_zero, List.set_cons_succ, List.getElem_toArray, List.getElem_cons_zero, List.getElem_cons_succ]
    refine wpAnyH_ready (rs := [20]) (by kernel_rfl) (by simp) ?_
    refine AllReadyH.cons rfl (fun K hK => ?_) AllReadyH.nil
    have hco := HE.out.co 5 _ rfl
    have hfo := HE.out.fo 5 (by decide)
    have HE2 := Lib.hid (HE.out.set5 (mxI p.thread q.thread))
    clear hHeld
    go_simp
    refine hK.out _ _ ⟨_, HE2.out, rfl, rfl⟩ ?_
    clear hK K hco hfo HE
    have HE := HE2
    clear HE2
    intro hHeld
    obtain ⟨we, hwe⟩ : ∃ x, x = World.setCell we ⟨w.heap.size + 3, 5, none⟩ (.int .i64 (mxI p.thread q.thread)) := ⟨_, rfl⟩
    rw [← hwe] at HE hHeld ⊢
    clear hwe
    clear hHeld
    refine wpAnyH_done (by kernel_rfl) ?_ _
    go_wp2
    all_goals (go_meet; exact HE.out)
  case rest =>
    have HE := Lib.hid hcut
    clear hcut
    go_upto_region 3 with fail
    go_cut [44] (fun v wx => MS p q A B c d w.heap.size w (J3 p q) A c wx)
    case first =>
      cases h4 : p.react <;> cases h6 : p.quote <;> cases h7 : p.mention
      · as_aux_lemma =>
        go_wp2_with fail
        refine wp_region_held_drew (S := JX p q A B c d w.heap.size w) (by kernel_rfl) ⟨_, HE.out.later (Below.refl _ _).drew, rfl, rfl⟩ ?_
        intro hHeld
        have HE := Lib.hid (HE.out.later (Below.refl _ _).drew)
        obtain ⟨we, hwe⟩ : ∃ x, x = World.drew wc := ⟨_, rfl⟩
        rw [← hwe] at HE hHeld ⊢
        clear hwe
        refine wpAnyH_take (i := 0) (v := ?_) rfl (by kernel_rfl) (by kernel_rfl) (by kernel_rfl) (fun _ _ _ h => h) (Or.inl ⟨by rfl, ?_⟩) (by assumption) ?_
        rotate_left
        · intro wq hSw
          obtain ⟨mq, hmq, _, _⟩ := hSw
          have a4 := hmq.cp 4 _ rfl; have a6 := hmq.cp 6 _ rfl; have a7 := hmq.cp 7 _ rfl; have b4 := hmq.cq 4 _ rfl; have b6 := hmq.cq 6 _ rfl; have b7 := hmq.cq 7 _ rfl
          clear hmq
          go_simp
          try with_reducible rfl
        simp only [Act.put, List.setIfInBounds_toArray, List.set_cons_zero, List.set_cons_succ, List.getElem_toArray, List.getElem_cons_zero]
        refine wpAnyH_take (i := 1) (v := ?_) rfl (by kernel_rfl) (by kernel_rfl) (by kernel_rfl) (fun _ _ _ h => h) (Or.inl ⟨by rfl, ?_⟩) (by assumption) ?_
        rotate_left
        · intro wq hSw
          obtain ⟨mq, hmq, _, _⟩ := hSw
          have a4 := hmq.cp 4 _ rfl; have a6 := hmq.cp 6 _ rfl; have a7 := hmq.cp 7 _ rfl; have b4 := hmq.cq 4 _ rfl; have b6 := hmq.cq 6 _ rfl; have b7 := hmq.cq 7 _ rfl
          clear hmq
          go_simp
          try with_reducible rfl
        simp only [Act.put, List.setIfInBounds_toArray, List.set_cons_zero, List.set_cons_succ, List.getElem_toArray, List.getElem_cons_zero, List.getElem_cons_succ]
        refine wpAnyH_take (i := 2) (v := ?_) rfl (by kernel_rfl) (by kernel_rfl) (by kernel_rfl) (fun _ _ _ h => h) (Or.inl ⟨by rfl, ?_⟩) (by assumption) ?_
        rotate_left
        · intro wq hSw
          obtain ⟨mq, hmq, _, _⟩ := hSw
          have a4 := hmq.cp 4 _ rfl; have a6 := hmq.cp 6 _ rfl; have a7 := hmq.cp 7 _ rfl; have b4 := hmq.cq 4 _ rfl; have b6 := hmq.cq 6 _ rfl; have b7 := hmq.cq 7 _ rfl
          clear hmq
          go_simp
          try with_reducible rfl
        simp only [Act.put, List.setIfInBounds_toArray, List.set_cons_zero, List.set_cons_succ, List.getElem_toArray, List.getElem_cons_zero, List.getElem_cons_succ]
        refine wpAnyH_take (i := 3) (v := ?_) rfl (by kernel_rfl) (by kernel_rfl) (by kernel_rfl) (fun _ _ _ h => h) (Or.inl ⟨by rfl, ?_⟩) (by assumption) ?_
        rotate_left
        · intro wq hSw
          obtain ⟨mq, hmq, _, _⟩ := hSw
          have a4 := hmq.cp 4 _ rfl; have a6 := hmq.cp 6 _ rfl; have a7 := hmq.cp 7 _ rfl; have b4 := hmq.cq 4 _ rfl; have b6 := hmq.cq 6 _ rfl; have b7 := hmq.cq 7 _ rfl
          clear hmq
          go_simp
          try with_reducible rfl
        simp only [Act.put, List.setIfInBounds_toArray, List.set_cons_zero, List.set_cons_succ, List.getElem_toArray, List.getElem_cons_zero, List.getElem_cons_succ]
        refine wpAnyH_take (i := 4) (v := ?_) rfl (by kernel_rfl) (by kernel_rfl) (by kernel_rfl) (fun _ _ _ h => h) (Or.inl ⟨by rfl, ?_⟩) (by assumption) ?_
        rotate_left
        · intro wq hSw
          obtain ⟨mq, hmq, _, _⟩ := hSw
          have a4 := hmq.cp 4 _ rfl; have a6 := hmq.cp 6 _ rfl; have a7 := hmq.cp 7 _ rfl; have b4 := hmq.cq 4 _ rfl; have b6 := hmq.cq 6 _ rfl; have b7 := hmq.cq 7 _ rfl
          clear hmq
          go_simp
          try with_reducible rfl
        simp only [Act.put, List.setIfInBounds_toArray, List.set_cons_zero, List.set_cons_succ, List.getElem_toArray, List.getElem_cons_zero, List.getElem_cons_succ]
        refine wpAnyH_take (i := 5) (v := ?_) rfl (by kernel_rfl) (by kernel_rfl) (by kernel_rfl) (fun _ _ _ h => h) (Or.inl ⟨by rfl, ?_⟩) (by assumption) ?_
        rotate_left
        · intro wq hSw
          obtain ⟨mq, hmq, _, _⟩ := hSw
          have a4 := hmq.cp 4 _ rfl; have a6 := hmq.cp 6 _ rfl; have a7 := hmq.cp 7 _ rfl; have b4 := hmq.cq 4 _ rfl; have b6 := hmq.cq 6 _ rfl; have b7 := hmq.cq 7 _ rfl
          clear hmq
          go_simp
          try with_reducible rfl
        simp only [Act.put, List.setIfInBounds_toArray, List.set_cons_zero, List.set_cons_succ, List.getElem_toArray, List.getElem_cons_zero, List.getElem_cons_succ]
        refine wpAnyH_take (i := 6) (v := ?_) rfl (by kernel_rfl) (by kernel_rfl) (by kernel_rfl) (fun _ _ _ h => h) (Or.inl ⟨by rfl, ?_⟩) (by assumption) ?_
        rotate_left
        · intro wq hSw
          obtain ⟨mq, hmq, _, _⟩ := hSw
          have a4 := hmq.cp 4 _ rfl; have a6 := hmq.cp 6 _ rfl; have a7 := hmq.cp 7 _ rfl; have b4 := hmq.cq 4 _ rfl; have b6 := hmq.cq 6 _ rfl; have b7 := hmq.cq 7 _ rfl
          clear hmq
          go_simp
          try with_reducible rfl
        simp only [Act.put, List.setIfInBounds_toArray, List.set_cons_zero, List.set_cons_succ, List.getElem_toArray, List.getElem_cons_zero, List.getElem_cons_succ]
        refine wpAnyH_take (i := 7) (v := ?_) rfl (by kernel_rfl) (by kernel_rfl) (by kernel_rfl) (fun _ _ _ h => h) (Or.inl ⟨by rfl, ?_⟩) (by assumption) ?_
        rotate_left
        · intro wq hSw
          obtain ⟨mq, hmq, _, _⟩ := hSw
          have a4 := hmq.cp 4 _ rfl; have a6 := hmq.cp 6 _ rfl; have a7 := hmq.cp 7 _ rfl; have b4 := hmq.cq 4 _ rfl; have b6 := hmq.cq 6 _ rfl; have b7 := hmq.cq 7 _ rfl
          clear hmq
          go_simp
          try with_reducible rfl
        simp only [Act.put, List.setIfInBounds_toArray, List.set_cons_zero, List.set_cons_succ, List.getElem_toArray, List.getElem_cons_zero, List.getElem_cons_succ]
        refine wpAnyH_take (i := 8) (v := ?_) rfl (by kernel_rfl) (by kernel_rfl) (by kernel_rfl) (fun _ _ _ h => h) (Or.inl ⟨by rfl, ?_⟩) (by assumption) ?_
        rotate_left
        · intro wq hSw
          obtain ⟨mq, hmq, _, _⟩ := hSw
          have a4 := hmq.cp 4 _ rfl; have a6 := hmq.cp 6 _ rfl; have a7 := hmq.cp 7 _ rfl; have b4 := hmq.cq 4 _ rfl; have b6 := hmq.cq 6 _ rfl; have b7 := hmq.cq 7 _ rfl
          clear hmq
          go_simp
          try with_reducible rfl
        simp only [Act.put, List.setIfInBounds_toArray, List.set_cons_zero, List.set_cons_succ, List.getElem_toArray, List.getElem_cons_zero, List.getElem_cons_succ]
        refine wpAnyH_take (i := 9) (v := ?_) rfl (by kernel_rfl) (by kernel_rfl) (by kernel_rfl) (fun _ _ _ h => h) (Or.inl ⟨by rfl, ?_⟩) (by assumption) ?_
        rotate_left
        · intro wq hSw
          obtain ⟨mq, hmq, _, _⟩ := hSw
          have a4 := hmq.cp 4 _ rfl; have a6 := hmq.cp 6 _ rfl; have a7 := hmq.cp 7 _ rfl; have b4 := hmq.cq 4 _ rfl; have b6 := hmq.cq 6 _ rfl; have b7 := hmq.cq 7 _ rfl
          clear hmq
          go_simp
          try with_reducible rfl
        simp only [Act.put, List.setIfInBounds_toArray, List.set_cons_zero, List.set_cons_succ, List.getElem_toArray, List.getElem_cons_zero, List.getElem_cons_succ]
        refine wpAnyH_take (i := 10) (v := ?_) rfl (by kernel_rfl) (by kernel_rfl) (by kernel_rfl) (fun _ _ _ h => h) (Or.inl ⟨by rfl, ?_⟩) (by assumption) ?_
        rotate_left
        · intro wq hSw
          obtain ⟨mq, hmq, _, _⟩ := hSw
          have a4 := hmq.cp 4 _ rfl; have a6 := hmq.cp 6 _ rfl; have a7 := hmq.cp 7 _ rfl; have b4 := hmq.cq 4 _ rfl; have b6 := hmq.cq 6 _ rfl; have b7 := hmq.cq 7 _ rfl
          clear hmq
          go_simp
          try with_reducible rfl
        simp only [Act.put, List.setIfInBounds_toArray, List.set_cons_zero, List.set_cons_succ, List.getElem_toArray, List.getElem_cons_zero, List.getElem_cons_succ]
        refine wpAnyH_take (i := 11) (v := ?_) rfl (by kernel_rfl) (by kernel_rfl) (by kernel_rfl) (fun _ _ _ h => h) (Or.inl ⟨by rfl, ?_⟩) (by assumption) ?_
        rotate_left
        · intro wq hSw
          obtain ⟨mq, hmq, _, _⟩ := hSw
          have a4 := hmq.cp 4 _ rfl; have a6 := hmq.cp 6 _ rfl; have a7 := hmq.cp 7 _ rfl; have b4 := hmq.cq 4 _ rfl; have b6 := hmq.cq 6 _ rfl; have b7 := hmq.cq 7 _ rfl
          clear hmq
          go_simp
          try with_reducible rfl
        simp only [Act.put, List.setIfInBounds_toArray, List.set_cons_zero, List.set_cons_succ, List.getElem_toArray, List.getElem_cons_zero, List.getElem_cons_succ]
        refine wpAnyH_take (i := 12) (v := ?_) rfl (by kernel_rfl) (by kernel_rfl) (by kernel_rfl) (fun _ _ _ h => h) (Or.inl ⟨by rfl, ?_⟩) (by assumption) ?_
        rotate_left
        · intro wq hSw
          obtain ⟨mq, hmq, _, _⟩ := hSw
          have a4 := hmq.cp 4 _ rfl; have a6 := hmq.cp 6 _ rfl; have a7 := hmq.cp 7 _ rfl; have b4 := hmq.cq 4 _ rfl; have b6 := hmq.cq 6 _ rfl; have b7 := hmq.cq 7 _ rfl
          clear hmq
          go_simp
          try with_reducible rfl
        simp only [Act.put, List.setIfInBounds_toArray, List.set_cons_zero, List.set_cons_succ, List.getElem_toArray, List.getElem_cons_zero, List.getElem_cons_succ]
        refine wpAnyH_take (i := 13) (v := ?_) rfl (by kernel_rfl) (by kernel_rfl) (by kernel_rfl) (fun _ _ _ h => h) (Or.inl ⟨by rfl, ?_⟩) (by assumption) ?_
        rotate_left
        · intro wq hSw
          obtain ⟨mq, hmq, _, _⟩ := hSw
          have a4 := hmq.cp 4 _ rfl; have a6 := hmq.cp 6 _ rfl; have a7 := hmq.cp 7 _ rfl; have b4 := hmq.cq 4 _ rfl; have b6 := hmq.cq 6 _ rfl; have b7 := hmq.cq 7 _ rfl
          clear hmq
          go_simp
          try with_reducible rfl
        simp only [Act.put, List.setIfInBounds_toArray, List.set_cons_zero, List.set_cons_succ, List.getElem_toArray, List.getElem_cons_zero, List.getElem_cons_succ]
        refine wpAnyH_take (i := 14) (v := ?_) rfl (by kernel_rfl) (by kernel_rfl) (by kernel_rfl) (fun _ _ _ h => h) (Or.inl ⟨by rfl, ?_⟩) (by assumption) ?_
        rotate_left
        · intro wq hSw
          obtain ⟨mq, hmq, _, _⟩ := hSw
          have a4 := hmq.cp 4 _ rfl; have a6 := hmq.cp 6 _ rfl; have a7 := hmq.cp 7 _ rfl; have b4 := hmq.cq 4 _ rfl; have b6 := hmq.cq 6 _ rfl; have b7 := hmq.cq 7 _ rfl
          clear hmq
          go_simp
          try with_reducible rfl
        simp only [Act.put, List.setIfInBounds_toArray, List.set_cons_zero, List.set_cons_succ, List.getElem_toArray, List.getElem_cons_zero, List.getElem_cons_succ]
        refine wpAnyH_take (i := 15) (v := ?_) rfl (by kernel_rfl) (by kernel_rfl) (by kernel_rfl) (fun _ _ _ h => h) (Or.inl ⟨by rfl, ?_⟩) (by assumption) ?_
        rotate_left
        · intro wq hSw
          obtain ⟨mq, hmq, _, _⟩ := hSw
          have a4 := hmq.cp 4 _ rfl; have a6 := hmq.cp 6 _ rfl; have a7 := hmq.cp 7 _ rfl; have b4 := hmq.cq 4 _ rfl; have b6 := hmq.cq 6 _ rfl; have b7 := hmq.cq 7 _ rfl
          clear hmq
          go_simp
          try with_reducible rfl
        simp only [Act.put, List.setIfInBounds_toArray, List.set_cons_zero, List.set_cons_succ, List.getElem_toArray, List.getElem_cons_zero, List.getElem_cons_succ]
        refine wpAnyH_take (i := 16) (v := ?_) rfl (by kernel_rfl) (by kernel_rfl) (by kernel_rfl) (fun _ _ _ h => h) (Or.inl ⟨by rfl, ?_⟩) (by assumption) ?_
        rotate_left
        · intro wq hSw
          obtain ⟨mq, hmq, _, _⟩ := hSw
          have a4 := hmq.cp 4 _ rfl; have a6 := hmq.cp 6 _ rfl; have a7 := hmq.cp 7 _ rfl; have b4 := hmq.cq 4 _ rfl; have b6 := hmq.cq 6 _ rfl; have b7 := hmq.cq 7 _ rfl
          clear hmq
          go_simp
          try with_reducible rfl
        simp only [Act.put, List.setIfInBounds_toArray, List.set_cons_zero, List.set_cons_succ, List.getElem_toArray, List.getElem_cons_zero, List.getElem_cons_succ]
        refine wpAnyH_take (i := 17) (v := ?_) rfl (by kernel_rfl) (by kernel_rfl) (by kernel_rfl) (fun _ _ _ h => h) (Or.inl ⟨by rfl, ?_⟩) (by assumption) ?_
        rotate_left
        · intro wq hSw
          obtain ⟨mq, hmq, _, _⟩ := hSw
          have a4 := hmq.cp 4 _ rfl; have a6 := hmq.cp 6 _ rfl; have a7 := hmq.cp 7 _ rfl; have b4 := hmq.cq 4 _ rfl; have b6 := hmq.cq 6 _ rfl; have b7 := hmq.cq 7 _ rfl
          clear hmq
          go_simp
          try with_reducible rfl
        simp only [Act.put, List.setIfInBounds_toArray, List.set_cons_zero, List.set_cons_succ, List.getElem_toArray, List.getElem_cons_zero, List.getElem_cons_succ]
        refine wpAnyH_take (i := 18) (v := ?_) rfl (by kernel_rfl) (by kernel_rfl) (by kernel_rfl) (fun _ _ _ h => h) (Or.inl ⟨by rfl, ?_⟩) (by assumption) ?_
        rotate_left
        · intro wq hSw
          obtain ⟨mq, hmq, _, _⟩ := hSw
          have a4 := hmq.cp 4 _ rfl; have a6 := hmq.cp 6 _ rfl; have a7 := hmq.cp 7 _ rfl; have b4 := hmq.cq 4 _ rfl; have b6 := hmq.cq 6 _ rfl; have b7 := hmq.cq 7 _ rfl
          clear hmq
          go_simp
          try with_reducible rfl
        simp only [Act.put, List.setIfInBounds_toArray, List.set_cons_zero, List.set_cons_succ, List.getElem_toArray, List.getElem_cons_zero, List.getElem_cons_succ]
        refine wpAnyH_ready (rs := [19]) (by kernel_rfl) (by simp) ?_
        refine AllReadyH.cons rfl (fun K hK => ?_) AllReadyH.nil
        have hco := HE.out.co 4 _ rfl
        have hfo := HE.out.fo 4 (by decide)
        have HE2 := Lib.hid (HE.out.set4 (q.react))
        clear hHeld
        go_simp
        refine hK.out _ _ ⟨_, HE2.out, rfl, rfl⟩ ?_
        clear hK K hco hfo HE
        have HE := HE2
        clear HE2
        intro hHeld
        obtain ⟨we, hwe⟩ : ∃ x, x = World.setCell we ⟨w.heap.size + 3, 4, none⟩ (.bool (q.react)) := ⟨_, rfl⟩
        rw [← hwe] at HE hHeld ⊢
        clear hwe
        refine wpAnyH_take (i := 20) (v := ?_) rfl (by kernel_rfl) (by kernel_rfl) (by kernel_rfl) (fun _ _ _ h => h) (Or.inl ⟨by rfl, ?_⟩) (by assumption) ?_
        rotate_left
        · intro wq hSw
          obtain ⟨mq, hmq, _, _⟩ := hSw
          have a4 := hmq.cp 4 _ rfl; have a6 := hmq.cp 6 _ rfl; have a7 := hmq.cp 7 _ rfl; have b4 := hmq.cq 4 _ rfl; have b6 := hmq.cq 6 _ rfl; have b7 := hmq.cq 7 _ rfl
          clear hmq
          go_simp
          try with_reducible rfl
        simp only [Act.put, List.setIfInBounds_toArray, List.set_cons_zero, List.set_cons_succ, List.getElem_toArray, List.getElem_cons_zero, List.getElem_cons_succ]
        refine wpAnyH_ready (rs := [21]) (by kernel_rfl) (by simp) ?_
        refine AllReadyH.cons rfl (fun K hK => ?_) AllReadyH.nil
        have hco := HE.out.co 6 _ rfl
        have hfo := HE.out.fo 6 (by decide)
        have HE2 := Lib.hid (HE.out.set6 (q.quote))
        clear hHeld
        go_simp
        refine hK.out _ _ ⟨_, HE2.out, rfl, rfl⟩ ?_
        clear hK K hco hfo HE
        have HE := HE2
        clear HE2
        intro hHeld
        obtain ⟨we, hwe⟩ : ∃ x, x = World.setCell we ⟨w.heap.size + 3, 6, none⟩ (.bool (q.quote)) := ⟨_, rfl⟩
        rw [← hwe] at HE hHeld ⊢
        clear hwe
        refine wpAnyH_take (i := 22) (v := ?_) rfl (by kernel_rfl) (by kernel_rfl) (by kernel_rfl) (fun _ _ _ h => h) (Or.inl ⟨by rfl, ?_⟩) (by assumption) ?_
        rotate_left
        · intro wq hSw
          obtain ⟨mq, hmq, _, _⟩ := hSw
          have a4 := hmq.cp 4 _ rfl; have a6 := hmq.cp 6 _ rfl; have a7 := hmq.cp 7 _ rfl; have b4 := hmq.cq 4 _ rfl; have b6 := hmq.cq 6 _ rfl; have b7 := hmq.cq 7 _ rfl
          clear hmq
          go_simp
          try with_reducible rfl
        simp only [Act.put, List.setIfInBounds_toArray, List.set_cons_zero, List.set_cons_succ, List.getElem_toArray, List.getElem_cons_zero, List.getElem_cons_succ]
        refine wpAnyH_ready (rs := [23]) (by kernel_rfl) (by simp) ?_
        refine AllReadyH.cons rfl (fun K hK => ?_) AllReadyH.nil
        have hco := HE.out.co 7 _ rfl
        have hfo := HE.out.fo 7 (by decide)
        have HE2 := Lib.hid (HE.out.set7 (q.mention))
        clear hHeld
        go_simp
        refine hK.out _ _ ⟨_, HE2.out, rfl, rfl⟩ ?_
        clear hK K hco hfo HE
        have HE := HE2
        clear HE2
        intro hHeld
        obtain ⟨we, hwe⟩ : ∃ x, x = World.setCell we ⟨w.heap.size + 3, 7, none⟩ (.bool (q.mention)) := ⟨_, rfl⟩
        rw [← hwe] at HE hHeld ⊢
        clear hwe
        clear hHeld
        refine wpAnyH_done (by kernel_rfl) ?_ _
        go_wp2
        all_goals (go_meet; unfold J3; rw [h4, h6, h7]; exact HE.out)
      · as_aux_lemma =>
        go_wp2_with fail
        refine wp_region_held_drew (S := JX p q A B c d w.heap.size w) (by kernel_rfl) ⟨_, HE.out.later (Below.refl _ _).drew, rfl, rfl⟩ ?_
        intro hHeld
        have HE := Lib.hid (HE.out.later (Below.refl _ _).drew)
        obtain ⟨we, hwe⟩ : ∃ x, x = World.drew wc := ⟨_, rfl⟩
        rw [← hwe] at HE hHeld ⊢
        clear hwe
        refine wpAnyH_take (i := 0) (v := ?_) rfl (by kernel_rfl) (by kernel_rfl) (by kernel_rfl) (fun _ _ _ h => h) (Or.inl ⟨by rfl, ?_⟩) (by assumption) ?_
        rotate_left
        · intro wq hSw
          obtain ⟨mq, hmq, _, _⟩ := hSw
          have a4 := hmq.cp 4 _ rfl; have a6 := hmq.cp 6 _ rfl; have a7 := hmq.cp 7 _ rfl; have b4 := hmq.cq 4 _ rfl; have b6 := hmq.cq 6 _ rfl; have b7 := hmq.cq 7 _ rfl
          clear hmq
          go_simp
          try with_reducible rfl
        simp only [Act.put, List.setIfInBounds_toArray, List.set_cons_zero, List.set_cons_succ, List.getElem_toArray, List.getElem_cons_zero]
        refine wpAnyH_take (i := 1) (v := ?_) rfl (by kernel_rfl) (by kernel_rfl) (by kernel_rfl) (fun _ _ _ h => h) (Or.inl ⟨by rfl, ?_⟩) (by assumption) ?_
        rotate_left
        · intro wq hSw
          obtain ⟨mq, hmq, _, _⟩ := hSw
          have a4 := hmq.cp 4 _ rfl; have a6 := hmq.cp 6 _ rfl; have a7 := hmq.cp 7 _ rfl; have b4 := hmq.cq 4 _ rfl; have b6 := hmq.cq 6 _ rfl; have b7 := hmq.cq 7 _ rfl
          clear hmq
          go_simp
          try with_reducible rfl
        simp only [Act.put, List.setIfInBounds_toArray, List.set_cons_zero, List.set_cons_succ, List.getElem_toArray, List.getElem_cons_zero, List.getElem_cons_succ]
        refine wpAnyH_take (i := 2) (v := ?_) rfl (by kernel_rfl) (by kernel_rfl) (by kernel_rfl) (fun _ _ _ h => h) (Or.inl ⟨by rfl, ?_⟩) (by assumption) ?_
        rotate_left
        · intro wq hSw
          obtain ⟨mq, hmq, _, _⟩ := hSw
          have a4 := hmq.cp 4 _ rfl; have a6 := hmq.cp 6 _ rfl; have a7 := hmq.cp 7 _ rfl; have b4 := hmq.cq 4 _ rfl; have b6 := hmq.cq 6 _ rfl; have b7 := hmq.cq 7 _ rfl
          clear hmq
          go_simp
          try with_reducible rfl
        simp only [Act.put, List.setIfInBounds_toArray, List.set_cons_zero, List.set_cons_succ, List.getElem_toArray, List.getElem_cons_zero, List.getElem_cons_succ]
        refine wpAnyH_take (i := 3) (v := ?_) rfl (by kernel_rfl) (by kernel_rfl) (by kernel_rfl) (fun _ _ _ h => h) (Or.inl ⟨by rfl, ?_⟩) (by assumption) ?_
        rotate_left
        · intro wq hSw
          obtain ⟨mq, hmq, _, _⟩ := hSw
          have a4 := hmq.cp 4 _ rfl; have a6 := hmq.cp 6 _ rfl; have a7 := hmq.cp 7 _ rfl; have b4 := hmq.cq 4 _ rfl; have b6 := hmq.cq 6 _ rfl; have b7 := hmq.cq 7 _ rfl
          clear hmq
          go_simp
          try with_reducible rfl
        simp only [Act.put, List.setIfInBounds_toArray, List.set_cons_zero, List.set_cons_succ, List.getElem_toArray, List.getElem_cons_zero, List.getElem_cons_succ]
        refine wpAnyH_take (i := 4) (v := ?_) rfl (by kernel_rfl) (by kernel_rfl) (by kernel_rfl) (fun _ _ _ h => h) (Or.inl ⟨by rfl, ?_⟩) (by assumption) ?_
        rotate_left
        · intro wq hSw
          obtain ⟨mq, hmq, _, _⟩ := hSw
          have a4 := hmq.cp 4 _ rfl; have a6 := hmq.cp 6 _ rfl; have a7 := hmq.cp 7 _ rfl; have b4 := hmq.cq 4 _ rfl; have b6 := hmq.cq 6 _ rfl; have b7 := hmq.cq 7 _ rfl
          clear hmq
          go_simp
          try with_reducible rfl
        simp only [Act.put, List.setIfInBounds_toArray, List.set_cons_zero, List.set_cons_succ, List.getElem_toArray, List.getElem_cons_zero, List.getElem_cons_succ]
        refine wpAnyH_take (i := 5) (v := ?_) rfl (by kernel_rfl) (by kernel_rfl) (by kernel_rfl) (fun _ _ _ h => h) (Or.inl ⟨by rfl, ?_⟩) (by assumption) ?_
        rotate_left
        · intro wq hSw
          obtain ⟨mq, hmq, _, _⟩ := hSw
          have a4 := hmq.cp 4 _ rfl; have a6 := hmq.cp 6 _ rfl; have a7 := hmq.cp 7 _ rfl; have b4 := hmq.cq 4 _ rfl; have b6 := hmq.cq 6 _ rfl; have b7 := hmq.cq 7 _ rfl
          clear hmq
          go_simp
          try with_reducible rfl
        simp only [Act.put, List.setIfInBounds_toArray, List.set_cons_zero, List.set_cons_succ, List.getElem_toArray, List.getElem_cons_zero, List.getElem_cons_succ]
        refine wpAnyH_take (i := 6) (v := ?_) rfl (by kernel_rfl) (by kernel_rfl) (by kernel_rfl) (fun _ _ _ h => h) (Or.inl ⟨by rfl, ?_⟩) (by assumption) ?_
        rotate_left
        · intro wq hSw
          obtain ⟨mq, hmq, _, _⟩ := hSw
          have a4 := hmq.cp 4 _ rfl; have a6 := hmq.cp 6 _ rfl; have a7 := hmq.cp 7 _ rfl; have b4 := hmq.cq 4 _ rfl; have b6 := hmq.cq 6 _ rfl; have b7 := hmq.cq 7 _ rfl
          clear hmq
          go_simp
          try with_reducible rfl
        simp only [Act.put, List.setIfInBounds_toArray, List.set_cons_zero, List.set_cons_succ, List.getElem_toArray, List.getElem_cons_zero, List.getElem_cons_succ]
        refine wpAnyH_take (i := 7) (v := ?_) rfl (by kernel_rfl) (by kernel_rfl) (by kernel_rfl) (fun _ _ _ h => h) (Or.inl ⟨by rfl, ?_⟩) (by assumption) ?_
        rotate_left
        · intro wq hSw
          obtain ⟨mq, hmq, _, _⟩ := hSw
          have a4 := hmq.cp 4 _ rfl; have a6 := hmq.cp 6 _ rfl; have a7 := hmq.cp 7 _ rfl; have b4 := hmq.cq 4 _ rfl; have b6 := hmq.cq 6 _ rfl; have b7 := hmq.cq 7 _ rfl
          clear hmq
          go_simp
          try with_reducible rfl
        simp only [Act.put, List.setIfInBounds_toArray, List.set_cons_zero, List.set_cons_succ, List.getElem_toArray, List.getElem_cons_zero, List.getElem_cons_succ]
        refine wpAnyH_take (i := 8) (v := ?_) rfl (by kernel_rfl) (by kernel_rfl) (by kernel_rfl) (fun _ _ _ h => h) (Or.inl ⟨by rfl, ?_⟩) (by assumption) ?_
        rotate_left
        · intro wq hSw
          obtain ⟨mq, hmq, _, _⟩ := hSw
          have a4 := hmq.cp 4 _ rfl; have a6 := hmq.cp 6 _ rfl; have a7 := hmq.cp 7 _ rfl; have b4 := hmq.cq 4 _ rfl; have b6 := hmq.cq 6 _ rfl; have b7 := hmq.cq 7 _ rfl
          clear hmq
          go_simp
          try with_reducible rfl
        simp only [Act.put, List.setIfInBounds_toArray, List.set_cons_zero, List.set_cons_succ, List.getElem_toArray, List.getElem_cons_zero, List.getElem_cons_succ]
        refine wpAnyH_take (i := 9) (v := ?_) rfl (by kernel_rfl) (by kernel_rfl) (by kernel_rfl) (fun _ _ _ h => h) (Or.inl ⟨by rfl, ?_⟩) (by assumption) ?_
        rotate_left
        · intro wq hSw
          obtain ⟨mq, hmq, _, _⟩ := hSw
          have a4 := hmq.cp 4 _ rfl; have a6 := hmq.cp 6 _ rfl; have a7 := hmq.cp 7 _ rfl; have b4 := hmq.cq 4 _ rfl; have b6 := hmq.cq 6 _ rfl; have b7 := hmq.cq 7 _ rfl
          clear hmq
          go_simp
          try with_reducible rfl
        simp only [Act.put, List.setIfInBounds_toArray, List.set_cons_zero, List.set_cons_succ, List.getElem_toArray, List.getElem_cons_zero, List.getElem_cons_succ]
        refine wpAnyH_take (i := 10) (v := ?_) rfl (by kernel_rfl) (by kernel_rfl) (by kernel_rfl) (fun _ _ _ h => h) (Or.inl ⟨by rfl, ?_⟩) (by assumption) ?_
        rotate_left
        · intro wq hSw
          obtain ⟨mq, hmq, _, _⟩ := hSw
          have a4 := hmq.cp 4 _ rfl; have a6 := hmq.cp 6 _ rfl; have a7 := hmq.cp 7 _ rfl; have b4 := hmq.cq 4 _ rfl; have b6 := hmq.cq 6 _ rfl; have b7 := hmq.cq 7 _ rfl
          clear hmq
          go_simp
          try with_reducible rfl
        simp only [Act.put, List.setIfInBounds_toArray, List.set_cons_zero, List.set_cons_succ, List.getElem_toArray, List.getElem_cons_zero, List.getElem_cons_succ]
        refine wpAnyH_take (i := 11) (v := ?_) rfl (by kernel_rfl) (by kernel_rfl) (by kernel_rfl) (fun _ _ _ h => h) (Or.inl ⟨by rfl, ?_⟩) (by assumption) ?_
        rotate_left
        · intro wq hSw
          obtain ⟨mq, hmq, _, _⟩ := hSw
          have a4 := hmq.cp 4 _ rfl; have a6 := hmq.cp 6 _ rfl; have a7 := hmq.cp 7 _ rfl; have b4 := hmq.cq 4 _ rfl; have b6 := hmq.cq 6 _ rfl; have b7 := hmq.cq 7 _ rfl
          clear hmq
          go_simp
          try with_reducible rfl
        simp only [Act.put, List.setIfInBounds_toArray, List.set_cons_zero, List.set_cons_succ, List.getElem_toArray, List.getElem_cons_zero, List.getElem_cons_succ]
        refine wpAnyH_take (i := 12) (v := ?_) rfl (by kernel_rfl) (by kernel_rfl) (by kernel_rfl) (fun _ _ _ h => h) (Or.inl ⟨by rfl, ?_⟩) (by assumption) ?_
        rotate_left
        · intro wq hSw
          obtain ⟨mq, hmq, _, _⟩ := hSw
          have a4 := hmq.cp 4 _ rfl; have a6 := hmq.cp 6 _ rfl; have a7 := hmq.cp 7 _ rfl; have b4 := hmq.cq 4 _ rfl; have b6 := hmq.cq 6 _ rfl; have b7 := hmq.cq 7 _ rfl
          clear hmq
          go_simp
          try with_reducible rfl
        simp only [Act.put, List.setIfInBounds_toArray, List.set_cons_zero, List.set_cons_succ, List.getElem_toArray, List.getElem_cons_zero, List.getElem_cons_succ]
        refine wpAnyH_take (i := 13) (v := ?_) rfl (by kernel_rfl) (by kernel_rfl) (by kernel_rfl) (fun _ _ _ h => h) (Or.inl ⟨by rfl, ?_⟩) (by assumption) ?_
        rotate_left
        · intro wq hSw
          obtain ⟨mq, hmq, _, _⟩ := hSw
          have a4 := hmq.cp 4 _ rfl; have a6 := hmq.cp 6 _ rfl; have a7 := hmq.cp 7 _ rfl; have b4 := hmq.cq 4 _ rfl; have b6 := hmq.cq 6 _ rfl; have b7 := hmq.cq 7 _ rfl
          clear hmq
          go_simp
          try with_reducible rfl
        simp only [Act.put, List.setIfInBounds_toArray, List.set_cons_zero, List.set_cons_succ, List.getElem_toArray, List.getElem_cons_zero, List.getElem_cons_succ]
        refine wpAnyH_take (i := 14) (v := ?_) rfl (by kernel_rfl) (by kernel_rfl) (by kernel_rfl) (fun _ _ _ h => h) (Or.inl ⟨by rfl, ?_⟩) (by assumption) ?_
        rotate_left
        · intro wq hSw
          obtain ⟨mq, hmq, _, _⟩ := hSw
          have a4 := hmq.cp 4 _ rfl; have a6 := hmq.cp 6 _ rfl; have a7 := hmq.cp 7 _ rfl; have b4 := hmq.cq 4 _ rfl; have b6 := hmq.cq 6 _ rfl; have b7 := hmq.cq 7 _ rfl
          clear hmq
          go_simp
          try with_reducible rfl
        simp only [Act.put, List.setIfInBounds_toArray, List.set_cons_zero, List.set_cons_succ, List.getElem_toArray, List.getElem_cons_zero, List.getElem_cons_succ]
        refine wpAnyH_take (i := 15) (v := undef) rfl (by kernel_rfl) (by kernel_rfl) (by kernel_rfl) (fun _ _ _ h => h) (Or.inr ⟨by rfl, rfl⟩) (by assumption) ?_
        simp only [Act.put, List.setIfInBounds_toArray, List.set_cons_zero, List.set_cons_succ, List.getElem_toArray, List.getElem_cons_zero, List.getElem_cons_succ]
        refine wpAnyH_take (i := 16) (v := undef) rfl (by kernel_rfl) (by kernel_rfl) (by kernel_rfl) (fun _ _ _ h => h) (Or.inr ⟨by rfl, rfl⟩) (by assumption) ?_
        simp only [Act.put, List.setIfInBounds_toArray, List.set_cons_zero, List.set_cons_succ, List.getElem_toArray, List.getElem_cons_zero, List.getElem_cons_succ]
        refine wpAnyH_take (i := 17) (v := ?_) rfl (by kernel_rfl) (by kernel_rfl) (by kernel_rfl) (fun _ _ _ h => h) (Or.inl ⟨by rfl, ?_⟩) (by assumption) ?_
        rotate_left
        · intro wq hSw
          obtain ⟨mq, hmq, _, _⟩ := hSw
          have a4 := hmq.cp 4 _ rfl; have a6 := hmq.cp 6 _ rfl; have a7 := hmq.cp 7 _ rfl; have b4 := hmq.cq 4 _ rfl; have b6 := hmq.cq 6 _ rfl; have b7 := hmq.cq 7 _ rfl
          clear hmq
          go_simp
          try with_reducible rfl
        simp only [Act.put, List.setIfInBounds_toArray, List.set_cons_zero, List.set_cons_succ, List.getElem_toArray, List.getElem_cons_zero, List.getElem_cons_succ]
        refine wpAnyH_take (i := 18) (v := ?_) rfl (by kernel_rfl) (by kernel_rfl) (by kernel_rfl) (fun _ _ _ h => h) (Or.inl ⟨by rfl, ?_⟩) (by assumption) ?_
        rotate_left
        · intro wq hSw
          obtain ⟨mq, hmq, _, _⟩ := hSw
          have a4 := hmq.cp 4 _ rfl; have a6 := hmq.cp 6 _ rfl; have a7 := hmq.cp 7 _ rfl; have b4 := hmq.cq 4 _ rfl; have b6 := hmq.cq 6 _ rfl; have b7 := hmq.cq 7 _ rfl
          clear hmq
          go_simp
          try with_reducible rfl
        simp only [Act.put, List.setIfInBounds_toArray, List.set_cons_zero, List.set_cons_succ, List.getElem_toArray, List.getElem_cons_zero, List.getElem_cons_succ]
        refine wpAnyH_ready (rs := [19]) (by kernel_rfl) (by simp) ?_
        refine AllReadyH.cons rfl (fun K hK => ?_) AllReadyH.nil
        have hco := HE.out.co 4 _ rfl
        have hfo := HE.out.fo 4 (by decide)
        have HE2 := Lib.hid (HE.out.set4 (q.react))
        clear hHeld
        go_simp
        refine hK.out _ _ ⟨_, HE2.out, rfl, rfl⟩ ?_
        clear hK K hco hfo HE
        have HE := HE2
        clear HE2
        intro hHeld
        obtain ⟨we, hwe⟩ : ∃ x, x = World.setCell we ⟨w.heap.size + 3, 4, none⟩ (.bool (q.react)) := ⟨_, rfl⟩
        rw [← hwe] at HE hHeld ⊢
        clear hwe
        refine wpAnyH_take (i := 20) (v := ?_) rfl (by kernel_rfl) (by kernel_rfl) (by kernel_rfl) (fun _ _ _ h => h) (Or.inl ⟨by rfl, ?_⟩) (by assumption) ?_
        rotate_left
        · intro wq hSw
          obtain ⟨mq, hmq, _, _⟩ := hSw
          have a4 := hmq.cp 4 _ rfl; have a6 := hmq.cp 6 _ rfl; have a7 := hmq.cp 7 _ rfl; have b4 := hmq.cq 4 _ rfl; have b6 := hmq.cq 6 _ rfl; have b7 := hmq.cq 7 _ rfl
          clear hmq
          go_simp
          try with_reducible rfl
        simp only [Act.put, List.setIfInBounds_toArray, List.set_cons_zero, List.set_cons_succ, List.getElem_toArray, List.getElem_cons_zero, List.getElem_cons_succ]
        refine wpAnyH_ready (rs := [21]) (by kernel_rfl) (by simp) ?_
        refine AllReadyH.cons rfl (fun K hK => ?_) AllReadyH.nil
        have hco := HE.out.co 6 _ rfl
        have hfo := HE.out.fo 6 (by decide)
        have HE2 := Lib.hid (HE.out.set6 (q.quote))
        clear hHeld
        go_simp
        refine hK.out _ _ ⟨_, HE2.out, rfl, rfl⟩ ?_
        clear hK K hco hfo HE
        have HE := HE2
        clear HE2
        intro hHeld
        obtain ⟨we, hwe⟩ : ∃ x, x = World.setCell we ⟨w.heap.size + 3, 6, none⟩ (.bool (q.quote)) := ⟨_, rfl⟩
        rw [← hwe] at HE hHeld ⊢
        clear hwe
        refine wpAnyH_take (i := 22) (v := ?_) rfl (by kernel_rfl) (by kernel_rfl) (by kernel_rfl) (fun _ _ _ h => h) (Or.inl ⟨by rfl, ?_⟩) (by assumption) ?_
        rotate_left
        · intro wq hSw
          obtain ⟨mq, hmq, _, _⟩ := hSw
          have a4 := hmq.cp 4 _ rfl; have a6 := hmq.cp 6 _ rfl; have a7 := hmq.cp 7 _ rfl; have b4 := hmq.cq 4 _ rfl; have b6 := hmq.cq 6 _ rfl; have b7 := hmq.cq 7 _ rfl
          clear hmq
          go_simp
          try with_reducible rfl
        simp only [Act.put, List.setIfInBounds_toArray, List.set_cons_zero, List.set_cons_succ, List.getElem_toArray, List.getElem_cons_zero, List.getElem_cons_succ]
        refine wpAnyH_ready (rs := [23]) (by kernel_rfl) (by simp) ?_
        refine AllReadyH.cons rfl (fun K hK => ?_) AllReadyH.nil
        have hco := HE.out.co 7 _ rfl
        have hfo := HE.out.fo 7 (by decide)
        have HE2 := Lib.hid (HE.out.set7 (true))
        clear hHeld
        go_simp
        refine hK.out _ _ ⟨_, HE2.out, rfl, rfl⟩ ?_
        clear hK K hco hfo HE
        have HE := HE2
        clear HE2
        intro hHeld
        obtain ⟨we, hwe⟩ : ∃ x, x = World.setCell we ⟨w.heap.size + 3, 7, none⟩ (.bool (true)) := ⟨_, rfl⟩
        rw [← hwe] at HE hHeld ⊢
        clear hwe
        clear hHeld
        refine wpAnyH_done (by kernel_rfl) ?_ _
        go_wp2
        all_goals (go_meet; unfold J3; rw [h4, h6, h7]; exact HE.out)
      · as_aux_lemma =>
        go_wp2_with fail
        refine wp_region_held_drew (S := JX p q A B c d w.heap.size w) (by kernel_rfl) ⟨_, HE.out.later (Below.refl _ _).drew, rfl, rfl⟩ ?_
        intro hHeld
        have HE := Lib.hid (HE.out.later (Below.refl _ _).drew)
        obtain ⟨we, hwe⟩ : ∃ x, x = World.drew wc := ⟨_, rfl⟩
        rw [← hwe] at HE hHeld ⊢
        clear hwe
        refine wpAnyH_take (i := 0) (v := ?_) rfl (by kernel_rfl) (by kernel_rfl) (by kernel_rfl) (fun _ _ _ h => h) (Or.inl ⟨by rfl, ?_⟩) (by assumption) ?_
        rotate_left
        · intro wq hSw
          obtain ⟨mq, hmq, _, _⟩ := hSw
          have a4 := hmq.cp 4 _ rfl; have a6 := hmq.cp 6 _ rfl; have a7 := hmq.cp 7 _ rfl; have b4 := hmq.cq 4 _ rfl; have b6 := hmq.cq 6 _ rfl; have b7 := hmq.cq 7 _ rfl
          clear hmq
          go_simp
          try with_reducible rfl
        simp only [Act.put, List.setIfInBounds_toArray, List.set_cons_zero, List.set_cons_succ, List.getElem_toArray, List.getElem_cons_zero]
        refine wpAnyH_take (i := 1) (v := ?_) rfl (by kernel_rfl) (by kernel_rfl) (by kernel_rfl) (fun _ _ _ h => h) (Or.inl ⟨by rfl, ?_⟩) (by assumption) ?_
        rotate_left
        · intro wq hSw
          obtain ⟨mq, hmq, _, _⟩ := hSw
          have a4 := hmq.cp 4 _ rfl; have a6 := hmq.cp 6 _ rfl; have a7 := hmq.cp 7 _ rfl; have b4 := hmq.cq 4 _ rfl; have b6 := hmq.cq 6 _ rfl; have b7 := hmq.cq 7 _ rfl
          clear hmq
          go_simp
          try with_reducible rfl
        simp only [Act.put, List.setIfInBounds_toArray, List.set_cons_zero, List.set_cons_succ, List.getElem_toArray, List.getElem_cons_zero, List.getElem_cons_succ]
        refine wpAnyH_take (i := 2) (v := ?_) rfl (by kernel_rfl) (by kernel_rfl) (by kernel_rfl) (fun _ _ _ h => h) (Or.inl ⟨by rfl, ?_⟩) (by assumption) ?_
        rotate_left
        · intro wq hSw
          obtain ⟨mq, hmq, _, _⟩ := hSw
          have a4 := hmq.cp 4 _ rfl; have a6 := hmq.cp 6 _ rfl; have a7 := hmq.cp 7 _ rfl; have b4 := hmq.cq 4 _ rfl; have b6 := hmq.cq 6 _ rfl; have b7 := hmq.cq 7 _ rfl
          clear hmq
          go_simp
          try with_reducible rfl
        simp only [Act.put, List.setIfInBounds_toArray, List.set_cons_zero, List.set_cons_succ, List.getElem_toArray, List.getElem_cons_zero, List.getElem_cons_succ]
        refine wpAnyH_take (i := 3) (v := ?_) rfl (by kernel_rfl) (by kernel_rfl) (by kernel_rfl) (fun _ _ _ h => h) (Or.inl ⟨by rfl, ?_⟩) (by assumption) ?_
        rotate_left
        · intro wq hSw
          obtain ⟨mq, hmq, _, _⟩ := hSw
          have a4 := hmq.cp 4 _ rfl; have a6 := hmq.cp 6 _ rfl; have a7 := hmq.cp 7 _ rfl; have b4 := hmq.cq 4 _ rfl; have b6 := hmq.cq 6 _ rfl; have b7 := hmq.cq 7 _ rfl
          clear hmq
          go_simp
          try with_reducible rfl
        simp only [Act.put, List.setIfInBounds_toArray, List.set_cons_zero, List.set_cons_succ, List.getElem_toArray, List.getElem_cons_zero, List.getElem_cons_succ]
        refine wpAnyH_take (i := 4) (v := ?_) rfl (by kernel_rfl) (by kernel_rfl) (by kernel_rfl) (fun _ _ _ h => h) (Or.inl ⟨by rfl, ?_⟩) (by assumption) ?_
        rotate_left
        · intro wq hSw
          obtain ⟨mq, hmq, _, _⟩ := hSw
          have a4 := hmq.cp 4 _ rfl; have a6 := hmq.cp 6 _ rfl; have a7 := hmq.cp 7 _ rfl; have b4 := hmq.cq 4 _ rfl; have b6 := hmq.cq 6 _ rfl; have b7 := hmq.cq 7 _ rfl
          clear hmq
          go_simp
          try with_reducible rfl
        simp only [Act.put, List.setIfInBounds_toArray, List.set_cons_zero, List.set_cons_succ, List.getElem_toArray, List.getElem_cons_zero, List.getElem_cons_succ]
        refine wpAnyH_take (i := 5) (v := ?_) rfl (by kernel_rfl) (by kernel_rfl) (by kernel_rfl) (fun _ _ _ h => h) (Or.inl ⟨by rfl, ?_⟩) (by assumption) ?_
        rotate_left
        · intro wq hSw
          obtain ⟨mq, hmq, _, _⟩ := hSw
          have a4 := hmq.cp 4 _ rfl; have a6 := hmq.cp 6 _ rfl; have a7 := hmq.cp 7 _ rfl; have b4 := hmq.cq 4 _ rfl; have b6 := hmq.cq 6 _ rfl; have b7 := hmq.cq 7 _ rfl
          clear hmq
          go_simp
          try with_reducible rfl
        simp only [Act.put, List.setIfInBounds_toArray, List.set_cons_zero, List.set_cons_succ, List.getElem_toArray, List.getElem_cons_zero, List.getElem_cons_succ]
        refine wpAnyH_take (i := 6) (v := ?_) rfl (by kernel_rfl) (by kernel_rfl) (by kernel_rfl) (fun _ _ _ h => h) (Or.inl ⟨by rfl, ?_⟩) (by assumption) ?_
        rotate_left
        · intro wq hSw
          obtain ⟨mq, hmq, _, _⟩ := hSw
          have a4 := hmq.cp 4 _ rfl; have a6 := hmq.cp 6 _ rfl; have a7 := hmq.cp 7 _ rfl; have b4 := hmq.cq 4 _ rfl; have b6 := hmq.cq 6 _ rfl; have b7 := hmq.cq 7 _ rfl
          clear hmq
          go_simp
          try with_reducible rfl
        simp only [Act.put, List.setIfInBounds_toArray, List.set_cons_zero, List.set_cons_succ, List.getElem_toArray, List.getElem_cons_zero, List.getElem_cons_succ]
        refine wpAnyH_take (i := 7) (v := ?_) rfl (by kernel_rfl) (by kernel_rfl) (by kernel_rfl) (fun _ _ _ h => h) (Or.inl ⟨by rfl, ?_⟩) (by assumption) ?_
        rotate_left
        · intro wq hSw
          obtain ⟨mq, hmq, _, _⟩ := hSw
          have a4 := hmq.cp 4 _ rfl; have a6 := hmq.cp 6 _ rfl; have a7 := hmq.cp 7 _ rfl; have b4 := hmq.cq 4 _ rfl; have b6 := hmq.cq 6 _ rfl; have b7 := hmq.cq 7 _ rfl
          clear hmq
          go_simp
          try with_reducible rfl
        simp only [Act.put, List.setIfInBounds_toArray, List.set_cons_zero, List.set_cons_succ, List.getElem_toArray, List.getElem_cons_zero, List.getElem_cons_succ]
        refine wpAnyH_take (i := 8) (v := ?_) rfl (by kernel_rfl) (by kernel_rfl) (by kernel_rfl) (fun _ _ _ h => h) (Or.inl ⟨by rfl, ?_⟩) (by assumption) ?_
        rotate_left
        · intro wq hSw
          obtain ⟨mq, hmq, _, _⟩ := hSw
          have a4 := hmq.cp 4 _ rfl; have a6 := hmq.cp 6 _ rfl; have a7 := hmq.cp 7 _ rfl; have b4 := hmq.cq 4 _ rfl; have b6 := hmq.cq 6 _ rfl; have b7 := hmq.cq 7 _ rfl
          clear hmq
          go_simp
          try with_reducible rfl
        simp only [Act.put, List.setIfInBounds_toArray, List.set_cons_zero, List.set_cons_succ, List.getElem_toArray, List.getElem_cons_zero, List.getElem_cons_succ]
        refine wpAnyH_take (i := 9) (v := undef) rfl (by kernel_rfl) (by kernel_rfl) (by kernel_rfl) (fun _ _ _ h => h) (Or.inr ⟨by rfl, rfl⟩) (by assumption) ?_
        simp only [Act.put, List.setIfInBounds_toArray, List.set_cons_zero, List.set_cons_succ, List.getElem_toArray, List.getElem_cons_zero, List.getElem_cons_succ]
        refine wpAnyH_take (i := 10) (v := undef) rfl (by kernel_rfl) (by kernel_rfl) (by kernel_rfl) (fun _ _ _ h => h) (Or.inr ⟨by rfl, rfl⟩) (by assumption) ?_
        simp only [Act.put, List.setIfInBounds_toArray, List.set_cons_zero, List.set_cons_succ, List.getElem_toArray, List.getElem_cons_zero, List.getElem_cons_succ]
        refine wpAnyH_take (i := 11) (v := ?_) rfl (by kernel_rfl) (by kernel_rfl) (by kernel_rfl) (fun _ _ _ h => h) (Or.inl ⟨by rfl, ?_⟩) (by assumption) ?_
        rotate_left
        · intro wq hSw
          obtain ⟨mq, hmq, _, _⟩ := hSw
          have a4 := hmq.cp 4 _ rfl; have a6 := hmq.cp 6 _ rfl; have a7 := hmq.cp 7 _ rfl; have b4 := hmq.cq 4 _ rfl; have b6 := hmq.cq 6 _ rfl; have b7 := hmq.cq 7 _ rfl
          clear hmq
          go_simp
          try with_reducible rfl
        simp only [Act.put, List.setIfInBounds_toArray, List.set_cons_zero, List.set_cons_succ, List.getElem_toArray, List.getElem_cons_zero, List.getElem_cons_succ]
        refine wpAnyH_take (i := 12) (v := ?_) rfl (by kernel_rfl) (by kernel_rfl) (by kernel_rfl) (fun _ _ _ h => h) (Or.inl ⟨by rfl, ?_⟩) (by assumption) ?_
        rotate_left
        · intro wq hSw
          obtain ⟨mq, hmq, _, _⟩ := hSw
          have a4 := hmq.cp 4 _ rfl; have a6 := hmq.cp 6 _ rfl; have a7 := hmq.cp 7 _ rfl; have b4 := hmq.cq 4 _ rfl; have b6 := hmq.cq 6 _ rfl; have b7 := hmq.cq 7 _ rfl
          clear hmq
          go_simp
          try with_reducible rfl
        simp only [Act.put, List.setIfInBounds_toArray, List.set_cons_zero, List.set_cons_succ, List.getElem_toArray, List.getElem_cons_zero, List.getElem_cons_succ]
        refine wpAnyH_take (i := 13) (v := ?_) rfl (by kernel_rfl) (by kernel_rfl) (by kernel_rfl) (fun _ _ _ h => h) (Or.inl ⟨by rfl, ?_⟩) (by assumption) ?_
        rotate_left
        · intro wq hSw
          obtain ⟨mq, hmq, _, _⟩ := hSw
          have a4 := hmq.cp 4 _ rfl; have a6 := hmq.cp 6 _ rfl; have a7 := hmq.cp 7 _ rfl; have b4 := hmq.cq 4 _ rfl; have b6 := hmq.cq 6 _ rfl; have b7 := hmq.cq 7 _ rfl
          clear hmq
          go_simp
          try with_reducible rfl
        simp only [Act.put, List.setIfInBounds_toArray, List.set_cons_zero, List.set_cons_succ, List.getElem_toArray, List.getElem_cons_zero, List.getElem_cons_succ]
        refine wpAnyH_take (i := 14) (v := ?_) rfl (by kernel_rfl) (by kernel_rfl) (by kernel_rfl) (fun _ _ _ h => h) (Or.inl ⟨by rfl, ?_⟩) (by assumption) ?_
        rotate_left
        · intro wq hSw
          obtain ⟨mq, hmq, _, _⟩ := hSw
          have a4 := hmq.cp 4 _ rfl; have a6 := hmq.cp 6 _ rfl; have a7 := hmq.cp 7 _ rfl; have b4 := hmq.cq 4 _ rfl; have b6 := hmq.cq 6 _ rfl; have b7 := hmq.cq 7 _ rfl
          clear hmq
          go_simp
          try with_reducible rfl
        simp only [Act.put, List.setIfInBounds_toArray, List.set_cons_zero, List.set_cons_succ, List.getElem_toArray, List.getElem_cons_zero, List.getElem_cons_succ]
        refine wpAnyH_take (i := 15) (v := ?_) rfl (by kernel_rfl) (by kernel_rfl) (by kernel_rfl) (fun _ _ _ h => h) (Or.inl ⟨by rfl, ?_⟩) (by assumption) ?_
        rotate_left
        · intro wq hSw
          obtain ⟨mq, hmq, _, _⟩ := hSw
          have a4 := hmq.cp 4 _ rfl; have a6 := hmq.cp 6 _ rfl; have a7 := hmq.cp 7 _ rfl; have b4 := hmq.cq 4 _ rfl; have b6 := hmq.cq 6 _ rfl; have b7 := hmq.cq 7 _ rfl
          clear hmq
          go_simp
          try with_reducible rfl
        simp only [Act.put, List.setIfInBounds_toArray, List.set_cons_zero, List.set_cons_succ, List.getElem_toArray, List.getElem_cons_zero, List.getElem_cons_succ]
        refine wpAnyH_take (i := 16) (v := ?_) rfl (by kernel_rfl) (by kernel_rfl) (by kernel_rfl) (fun _ _ _ h => h) (Or.inl ⟨by rfl, ?_⟩) (by assumption) ?_
        rotate_left
        · intro wq hSw
          obtain ⟨mq, hmq, _, _⟩ := hSw
          have a4 := hmq.cp 4 _ rfl; have a6 := hmq.cp 6 _ rfl; have a7 := hmq.cp 7 _ rfl; have b4 := hmq.cq 4 _ rfl; have b6 := hmq.cq 6 _ rfl; have b7 := hmq.cq 7 _ rfl
          clear hmq
          go_simp
          try with_reducible rfl
        simp only [Act.put, List.setIfInBounds_toArray, List.set_cons_zero, List.set_cons_succ, List.getElem_toArray, List.getElem_cons_zero, List.getElem_cons_succ]
        refine wpAnyH_take (i := 17) (v := ?_) rfl (by kernel_rfl) (by kernel_rfl) (by kernel_rfl) (fun _ _ _ h => h) (Or.inl ⟨by rfl, ?_⟩) (by assumption) ?_
        rotate_left
        · intro wq hSw
          obtain ⟨mq, hmq, _, _⟩ := hSw
          have a4 := hmq.cp 4 _ rfl; have a6 := hmq.cp 6 _ rfl; have a7 := hmq.cp 7 _ rfl; have b4 := hmq.cq 4 _ rfl; have b6 := hmq.cq 6 _ rfl; have b7 := hmq.cq 7 _ rfl
          clear hmq
          go_simp
          try with_reducible rfl
        simp only [Act.put, List.setIfInBounds_toArray, List.set_cons_zero, List.set_cons_succ, List.getElem_toArray, List.getElem_cons_zero, List.getElem_cons_succ]
        refine wpAnyH_take (i := 18) (v := ?_) rfl (by kernel_rfl) (by kernel_rfl) (by kernel_rfl) (fun _ _ _ h => h) (Or.inl ⟨by rfl, ?_⟩) (by assumption) ?_
        rotate_left
        · intro wq hSw
          obtain ⟨mq, hmq, _, _⟩ := hSw
          have a4 := hmq.cp 4 _ rfl; have a6 := hmq.cp 6 _ rfl; have a7 := hmq.cp 7 _ rfl; have b4 := hmq.cq 4 _ rfl; have b6 := hmq.cq 6 _ rfl; have b7 := hmq.cq 7 _ rfl
          clear hmq
          go_simp
          try with_reducible rfl
        simp only [Act.put, List.setIfInBounds_toArray, List.set_cons_zero, List.set_cons_succ, List.getElem_toArray, List.getElem_cons_zero, List.getElem_cons_succ]
        refine wpAnyH_ready (rs := [19]) (by kernel_rfl) (by simp) ?_
        refine AllReadyH.cons rfl (fun K hK => ?_) AllReadyH.nil
        have hco := HE.out.co 4 _ rfl
        have hfo := HE.out.fo 4 (by decide)
        have HE2 := Lib.hid (HE.out.set4 (q.react))
        clear hHeld
        go_simp
        refine hK.out _ _ ⟨_, HE2.out, rfl, rfl⟩ ?_
        clear hK K hco hfo HE
        have HE := HE2
        clear HE2
        intro hHeld
        obtain ⟨we, hwe⟩ : ∃ x, x = World.setCell we ⟨w.heap.size + 3, 4, none⟩ (.bool (q.react)) := ⟨_, rfl⟩
        rw [← hwe] at HE hHeld ⊢
        clear hwe
        refine wpAnyH_take (i := 20) (v := ?_) rfl (by kernel_rfl) (by kernel_rfl) (by kernel_rfl) (fun _ _ _ h => h) (Or.inl ⟨by rfl, ?_⟩) (by assumption) ?_
        rotate_left
        · intro wq hSw
          obtain ⟨mq, hmq, _, _⟩ := hSw
          have a4 := hmq.cp 4 _ rfl; have a6 := hmq.cp 6 _ rfl; have a7 := hmq.cp 7 _ rfl; have b4 := hmq.cq 4 _ rfl; have b6 := hmq.cq 6 _ rfl; have b7 := hmq.cq 7 _ rfl
          clear hmq
          go_simp
          try with_reducible rfl
        simp only [Act.put, List.setIfInBounds_toArray, List.set_cons_zero, List.set_cons_succ, List.getElem_toArray, List.getElem_cons_zero, List.getElem_cons_succ]
        refine wpAnyH_ready (rs := [21]) (by kernel_rfl) (by simp) ?_
        refine AllReadyH.cons rfl (fun K hK => ?_) AllReadyH.nil
        have hco := HE.out.co 6 _ rfl
        have hfo := HE.out.fo 6 (by decide)
        have HE2 := Lib.hid (HE.out.set6 (true))
        clear hHeld
        go_simp
        refine hK.out _ _ ⟨_, HE2.out, rfl, rfl⟩ ?_
        clear hK K hco hfo HE
        have HE := HE2
        clear HE2
        intro hHeld
        obtain ⟨we, hwe⟩ : ∃ x, x = World.setCell we ⟨w.heap.size + 3, 6, none⟩ (.bool (true)) := ⟨_, rfl⟩
        rw [← hwe] at HE hHeld ⊢
        clear hwe
        refine wpAnyH_take (i := 22) (v := ?_) rfl (by kernel_rfl) (by kernel_rfl) (by kernel_rfl) (fun _ _ _ h => h) (Or.inl ⟨by rfl, ?_⟩) (by assumption) ?_
        rotate_left
        · intro wq hSw
          obtain ⟨mq, hmq, _, _⟩ := hSw
          have a4 := hmq.cp 4 _ rfl; have a6 := hmq.cp 6 _ rfl; have a7 := hmq.cp 7 _ rfl; have b4 := hmq.cq 4 _ rfl; have b6 := hmq.cq 6 _ rfl; have b7 := hmq.cq 7 _ rfl
          clear hmq
          go_simp
          try with_reducible rfl
        simp only [Act.put, List.setIfInBounds_toArray, List.set_cons_zero, List.set_cons_succ, List.getElem_toArray, List.getElem_cons_zero, List.getElem_cons_succ]
        refine wpAnyH_ready (rs := [23]) (by kernel_rfl) (by simp) ?_
        refine AllReadyH.cons rfl (fun K hK => ?_) AllReadyH.nil
        have hco := HE.out.co 7 _ rfl
        have hfo := HE.out.fo 7 (by decide)
        have HE2 := Lib.hid (HE.out.set7 (q.mention))
        clear hHeld
        go_simp
        refine hK.out _ _ ⟨_, HE2.out, rfl, rfl⟩ ?_
        clear hK K hco hfo HE
        have HE := HE2
        clear HE2
        intro hHeld
        obtain ⟨we, hwe⟩ : ∃ x, x = World.setCell we ⟨w.heap.size + 3, 7, none⟩ (.bool (q.mention)) := ⟨_, rfl⟩
        rw [← hwe] at HE hHeld ⊢
        clear hwe
        clear hHeld
        refine wpAnyH_done (by kernel_rfl) ?_ _
        go_wp2
        all_goals (go_meet; unfold J3; rw [h4, h6, h7]; exact HE.out)
      · as_aux_lemma =>
        go_wp2_with fail
        refine wp_region_held_drew (S := JX p q A B c d w.heap.size w) (by kernel_rfl) ⟨_, HE.out.later (Below.refl _ _).drew, rfl, rfl⟩ ?_
        intro hHeld
        have HE := Lib.hid (HE.out.later (Below.refl _ _).drew)
        obtain ⟨we, hwe⟩ : ∃ x, x = World.drew wc := ⟨_, rfl⟩
        rw [← hwe] at HE hHeld ⊢
        clear hwe
        refine wpAnyH_take (i := 0) (v := ?_) rfl (by kernel_rfl) (by kernel_rfl) (by kernel_rfl) (fun _ _ _ h => h) (Or.inl ⟨by rfl, ?_⟩) (by assumption) ?_
        rotate_left
        · intro wq hSw
          obtain ⟨mq, hmq, _, _⟩ := hSw
          have a4 := hmq.cp 4 _ rfl; have a6 := hmq.cp 6 _ rfl; have a7 := hmq.cp 7 _ rfl; have b4 := hmq.cq 4 _ rfl; have b6 := hmq.cq 6 _ rfl; have b7 := hmq.cq 7 _ rfl
          clear hmq
          go_simp
          try with_reducible rfl
        simp only [Act.put, List.setIfInBounds_toArray, List.set_cons_zero, List.set_cons_succ, List.getElem_toArray, List.getElem_cons_zero]
        refine wpAnyH_take (i := 1) (v := ?_) rfl (by kernel_rfl) (by kernel_rfl) (by kernel_rfl) (fun _ _ _ h => h) (Or.inl ⟨by rfl, ?_⟩) (by assumption) ?_
        rotate_left
        · intro wq hSw
          obtain ⟨mq, hmq, _, _⟩ := hSw
          have a4 := hmq.cp 4 _ rfl; have a6 := hmq.cp 6 _ rfl; have a7 := hmq.cp 7 _ rfl; have b4 := hmq.cq 4 _ rfl; have b6 := hmq.cq 6 _ rfl; have b7 := hmq.cq 7 _ rfl
          clear hmq
          go_simp
          try with_reducible rfl
        simp only [Act.put, List.setIfInBounds_toArray, List.set_cons_zero, List.set_cons_succ, List.getElem_toArray, List.getElem_cons_zero, List.getElem_cons_succ]
        refine wpAnyH_take (i := 2) (v := ?_) rfl (by kernel_rfl) (by kernel_rfl) (by kernel_rfl) (fun _ _ _ h => h) (Or.inl ⟨by rfl, ?_⟩) (by assumption) ?_
        rotate_left
        · intro wq hSw
          obtain ⟨mq, hmq, _, _⟩ := hSw
          have a4 := hmq.cp 4 _ rfl; have a6 := hmq.cp 6 _ rfl; have a7 := hmq.cp 7 _ rfl; have b4 := hmq.cq 4 _ rfl; have b6 := hmq.cq 6 _ rfl; have b7 := hmq.cq 7 _ rfl
          clear hmq
          go_simp
          try with_reducible rfl
        simp only [Act.put, List.setIfInBounds_toArray, List.set_cons_zero, List.set_cons_succ, List.getElem_toArray, List.getElem_cons_zero, List.getElem_cons_succ]
        refine wpAnyH_take (i := 3) (v := ?_) rfl (by kernel_rfl) (by kernel_rfl) (by kernel_rfl) (fun _ _ _ h => h) (Or.inl ⟨by rfl, ?_⟩) (by assumption) ?_
        rotate_left
        · intro wq hSw
          obtain ⟨mq, hmq, _, _⟩ := hSw
          have a4 := hmq.cp 4 _ rfl; have a6 := hmq.cp 6 _ rfl; have a7 := hmq.cp 7 _ rfl; have b4 := hmq.cq 4 _ rfl; have b6 := hmq.cq 6 _ rfl; have b7 := hmq.cq 7 _ rfl
          clear hmq
          go_simp
          try with_reducible rfl
        simp only [Act.put, List.setIfInBounds_toArray, List.set_cons_zero, List.set_cons_succ, List.getElem_toArray, List.getElem_cons_zero, List.getElem_cons_succ]
        refine wpAnyH_take (i := 4) (v := ?_) rfl (by kernel_rfl) (by kernel_rfl) (by kernel_rfl) (fun _ _ _ h => h) (Or.inl ⟨by rfl, ?_⟩) (by assumption) ?_
        rotate_left
        · intro wq hSw
          obtain ⟨mq, hmq, _, _⟩ := hSw
          have a4 := hmq.cp 4 _ rfl; have a6 := hmq.cp 6 _ rfl; have a7 := hmq.cp 7 _ rfl; have b4 := hmq.cq 4 _ rfl; have b6 := hmq.cq 6 _ rfl; have b7 := hmq.cq 7 _ rfl
          clear hmq
          go_simp
          try with_reducible rfl
        simp only [Act.put, List.setIfInBounds_toArray, List.set_cons_zero, List.set_cons_succ, List.getElem_toArray, List.getElem_cons_zero, List.getElem_cons_succ]
        refine wpAnyH_take (i := 5) (v := ?_) rfl (by kernel_rfl) (by kernel_rfl) (by kernel_rfl) (fun _ _ _ h => h) (Or.inl ⟨by rfl, ?_⟩) (by assumption) ?_
        rotate_left
        · intro wq hSw
          obtain ⟨mq, hmq, _, _⟩ := hSw
          have a4 := hmq.cp 4 _ rfl; have a6 := hmq.cp 6 _ rfl; have a7 := hmq.cp 7 _ rfl; have b4 := hmq.cq 4 _ rfl; have b6 := hmq.cq 6 _ rfl; have b7 := hmq.cq 7 _ rfl
          clear hmq
          go_simp
          try with_reducible rfl
        simp only [Act.put, List.setIfInBounds_toArray, List.set_cons_zero, List.set_cons_succ, List.getElem_toArray, List.getElem_cons_zero, List.getElem_cons_succ]
        refine wpAnyH_take (i := 6) (v := ?_) rfl (by kernel_rfl) (by kernel_rfl) (by kernel_rfl) (fun _ _ _ h => h) (Or.inl ⟨by rfl, ?_⟩) (by assumption) ?_
        rotate_left
        · intro wq hSw
          obtain ⟨mq, hmq, _, _⟩ := hSw
          have a4 := hmq.cp 4 _ rfl; have a6 := hmq.cp 6 _ rfl; have a7 := hmq.cp 7 _ rfl; have b4 := hmq.cq 4 _ rfl; have b6 := hmq.cq 6 _ rfl; have b7 := hmq.cq 7 _ rfl
          clear hmq
          go_simp
          try with_reducible rfl
        simp only [Act.put, List.setIfInBounds_toArray, List.set_cons_zero, List.set_cons_succ, List.getElem_toArray, List.getElem_cons_zero, List.getElem_cons_succ]
        refine wpAnyH_take (i := 7) (v := ?_) rfl (by kernel_rfl) (by kernel_rfl) (by kernel_rfl) (fun _ _ _ h => h) (Or.inl ⟨by rfl, ?_⟩) (by assumption) ?_
        rotate_left
        · intro wq hSw
          obtain ⟨mq, hmq, _, _⟩ := hSw
          have a4 := hmq.cp 4 _ rfl; have a6 := hmq.cp 6 _ rfl; have a7 := hmq.cp 7 _ rfl; have b4 := hmq.cq 4 _ rfl; have b6 := hmq.cq 6 _ rfl; have b7 := hmq.cq 7 _ rfl
          clear hmq
          go_simp
          try with_reducible rfl
        simp only [Act.put, List.setIfInBounds_toArray, List.set_cons_zero, List.set_cons_succ, List.getElem_toArray, List.getElem_cons_zero, List.getElem_cons_succ]
        refine wpAnyH_take (i := 8) (v := ?_) rfl (by kernel_rfl) (by kernel_rfl) (by kernel_rfl) (fun _ _ _ h => h) (Or.inl ⟨by rfl, ?_⟩) (by assumption) ?_
        rotate_left
        · intro wq hSw
          obtain ⟨mq, hmq, _, _⟩ := hSw
          have a4 := hmq.cp 4 _ rfl; have a6 := hmq.cp 6 _ rfl; have a7 := hmq.cp 7 _ rfl; have b4 := hmq.cq 4 _ rfl; have b6 := hmq.cq 6 _ rfl; have b7 := hmq.cq 7 _ rfl
          clear hmq
          go_simp
          try with_reducible rfl
        simp only [Act.put, List.setIfInBounds_toArray, List.set_cons_zero, List.set_cons_succ, List.getElem_toArray, List.getElem_cons_zero, List.getElem_cons_succ]
        refine wpAnyH_take (i := 9) (v := undef) rfl (by kernel_rfl) (by kernel_rfl) (by kernel_rfl) (fun _ _ _ h => h) (Or.inr ⟨by rfl, rfl⟩) (by assumption) ?_
        simp only [Act.put, List.setIfInBounds_toArray, List.set_cons_zero, List.set_cons_succ, List.getElem_toArray, List.getElem_cons_zero, List.getElem_cons_succ]
        refine wpAnyH_take (i := 10) (v := undef) rfl (by kernel_rfl) (by kernel_rfl) (by kernel_rfl) (fun _ _ _ h => h) (Or.inr ⟨by rfl, rfl⟩) (by assumption) ?_
        simp only [Act.put, List.setIfInBounds_toArray, List.set_cons_zero, List.set_cons_succ, List.getElem_toArray, List.getElem_cons_zero, List.getElem_cons_succ]
        refine wpAnyH_take (i := 11) (v := ?_) rfl (by kernel_rfl) (by kernel_rfl) (by kernel_rfl) (fun _ _ _ h => h) (Or.inl ⟨by rfl, ?_⟩) (by assumption) ?_
        rotate_left
        · intro wq hSw
          obtain ⟨mq, hmq, _, _⟩ := hSw
          have a4 := hmq.cp 4 _ rfl; have a6 := hmq.cp 6 _ rfl; have a7 := hmq.cp 7 _ rfl; have b4 := hmq.cq 4 _ rfl; have b6 := hmq.cq 6 _ rfl; have b7 := hmq.cq 7 _ rfl
          clear hmq
          go_simp
          try with_reducible rfl
        simp only [Act.put, List.setIfInBounds_toArray, List.set_cons_zero, List.set_cons_succ, List.getElem_toArray, List.getElem_cons_zero, List.getElem_cons_succ]
        refine wpAnyH_take (i := 12) (v := ?_) rfl (by kernel_rfl) (by kernel_rfl) (by kernel_rfl) (fun _ _ _ h => h) (Or.inl ⟨by rfl, ?_⟩) (by assumption) ?_
        rotate_left
        · intro wq hSw
          obtain ⟨mq, hmq, _, _⟩ := hSw
          have a4 := hmq.cp 4 _ rfl; have a6 := hmq.cp 6 _ rfl; have a7 := hmq.cp 7 _ rfl; have b4 := hmq.cq 4 _ rfl; have b6 := hmq.cq 6 _ rfl; have b7 := hmq.cq 7 _ rfl
          clear hmq
          go_simp
          try with_reducible rfl
        simp only [Act.put, List.setIfInBounds_toArray, List.set_cons_zero, List.set_cons_succ, List.getElem_toArray, List.getElem_cons_zero, List.getElem_cons_succ]
        refine wpAnyH_take (i := 13) (v := ?_) rfl (by kernel_rfl) (by kernel_rfl) (by kernel_rfl) (fun _ _ _ h => h) (Or.inl ⟨by rfl, ?_⟩) (by assumption) ?_
        rotate_left
        · intro wq hSw
          obtain ⟨mq, hmq, _, _⟩ := hSw
          have a4 := hmq.cp 4 _ rfl; have a6 := hmq.cp 6 _ rfl; have a7 := hmq.cp 7 _ rfl; have b4 := hmq.cq 4 _ rfl; have b6 := hmq.cq 6 _ rfl; have b7 := hmq.cq 7 _ rfl
          clear hmq
          go_simp
          try with_reducible rfl
        simp only [Act.put, List.setIfInBounds_toArray, List.set_cons_zero, List.set_cons_succ, List.getElem_toArray, List.getElem_cons_zero, List.getElem_cons_succ]
        refine wpAnyH_take (i := 14) (v := ?_) rfl (by kernel_rfl) (by kernel_rfl) (by kernel_rfl) (fun _ _ _ h => h) (Or.inl ⟨by rfl, ?_⟩) (by assumption) ?_
        rotate_left
        · intro wq hSw
          obtain ⟨mq, hmq, _, _⟩ := hSw
          have a4 := hmq.cp 4 _ rfl; have a6 := hmq.cp 6 _ rfl; have a7 := hmq.cp 7 _ rfl; have b4 := hmq.cq 4 _ rfl; have b6 := hmq.cq 6 _ rfl; have b7 := hmq.cq 7 _ rfl
          clear hmq
          go_simp
          try with_reducible rfl
        simp only [Act.put, List.setIfInBounds_toArray, List.set_cons_zero, List.set_cons_succ, List.getElem_toArray, List.getElem_cons_zero, List.getElem_cons_succ]
        refine wpAnyH_take (i := 15) (v := undef) rfl (by kernel_rfl) (by kernel_rfl) (by kernel_rfl) (fun _ _ _ h => h) (Or.inr ⟨by rfl, rfl⟩) (by assumption) ?_
        simp only [Act.put, List.setIfInBounds_toArray, List.set_cons_zero, List.set_cons_succ, List.getElem_toArray, List.getElem_cons_zero, List.getElem_cons_succ]
        refine wpAnyH_take (i := 16) (v := undef) rfl (by kernel_rfl) (by kernel_rfl) (by kernel_rfl) (fun _ _ _ h => h) (Or.inr ⟨by rfl, rfl⟩) (by assumption) ?_
        simp only [Act.put, List.setIfInBounds_toArray, List.set_cons_zero, List.set_cons_succ, List.getElem_toArray, List.getElem_cons_zero, List.getElem_cons_succ]
        refine wpAnyH_take (i := 17) (v := ?_) rfl (by kernel_rfl) (by kernel_rfl) (by kernel_rfl) (fun _ _ _ h => h) (Or.inl ⟨by rfl, ?_⟩) (by assumption) ?_
        rotate_left
        · intro wq hSw
          obtain ⟨mq, hmq, _, _⟩ := hSw
          have a4 := hmq.cp 4 _ rfl; have a6 := hmq.cp 6 _ rfl; have a7 := hmq.cp 7 _ rfl; have b4 := hmq.cq 4 _ rfl; have b6 := hmq.cq 6 _ rfl; have b7 := hmq.cq 7 _ rfl
          clear hmq
          go_simp
          try with_reducible rfl
        simp only [Act.put, List.setIfInBounds_toArray, List.set_cons_zero, List.set_cons_succ, List.getElem_toArray, List.getElem_cons_zero, List.getElem_cons_succ]
        refine wpAnyH_take (i := 18) (v := ?_) rfl (by kernel_rfl) (by kernel_rfl) (by kernel_rfl) (fun _ _ _ h => h) (Or.inl ⟨by rfl, ?_⟩) (by assumption) ?_
        rotate_left
        · intro wq hSw
          obtain ⟨mq, hmq, _, _⟩ := hSw
          have a4 := hmq.cp 4 _ rfl; have a6 := hmq.cp 6 _ rfl; have a7 := hmq.cp 7 _ rfl; have b4 := hmq.cq 4 _ rfl; have b6 := hmq.cq 6 _ rfl; have b7 := hmq.cq 7 _ rfl
          clear hmq
          go_simp
          try with_reducible rfl
        simp only [Act.put, List.setIfInBounds_toArray, List.set_cons_zero, List.set_cons_succ, List.getElem_toArray, List.getElem_cons_zero, List.getElem_cons_succ]
        refine wpAnyH_ready (rs := [19]) (by kernel_rfl) (by simp) ?_
        refine AllReadyH.cons rfl (fun K hK => ?_) AllReadyH.nil
        have hco := HE.out.co 4 _ rfl
        have hfo := HE.out.fo 4 (by decide)
        have HE2 := Lib.hid (HE.out.set4 (q.react))
        clear hHeld
        go_simp
        refine hK.out _ _ ⟨_, HE2.out, rfl, rfl⟩ ?_
        clear hK K hco hfo HE
        have HE := HE2
        clear HE2
        intro hHeld
        obtain ⟨we, hwe⟩ : ∃ x, x = World.setCell we ⟨w.heap.size + 3, 4, none⟩ (.bool (q.react)) := ⟨_, rfl⟩
        rw [← hwe] at HE hHeld ⊢
        clear hwe
        refine wpAnyH_take (i := 20) (v := ?_) rfl (by kernel_rfl) (by kernel_rfl) (by kernel_rfl) (fun _ _ _ h => h) (Or.inl ⟨by rfl, ?_⟩) (by assumption) ?_
        rotate_left
        · intro wq hSw
          obtain ⟨mq, hmq, _, _⟩ := hSw
          have a4 := hmq.cp 4 _ rfl; have a6 := hmq.cp 6 _ rfl; have a7 := hmq.cp 7 _ rfl; have b4 := hmq.cq 4 _ rfl; have b6 := hmq.cq 6 _ rfl; have b7 := hmq.cq 7 _ rfl
          clear hmq
          go_simp
          try with_reducible rfl
        simp only [Act.put, List.setIfInBounds_toArray, List.set_cons_zero, List.set_cons_succ, List.getElem_toArray, List.getElem_cons_zero, List.getElem_cons_succ]
        refine wpAnyH_ready (rs := [21]) (by kernel_rfl) (by simp) ?_
        refine AllReadyH.cons rfl (fun K hK => ?_) AllReadyH.nil
        have hco := HE.out.co 6 _ rfl
        have hfo := HE.out.fo 6 (by decide)
        have HE2 := Lib.hid (HE.out.set6 (true))
        clear hHeld
        go_simp
        refine hK.out _ _ ⟨_, HE2.out, rfl, rfl⟩ ?_
        clear hK K hco hfo HE
        have HE := HE2
        clear HE2
        intro hHeld
        obtain ⟨we, hwe⟩ : ∃ x, x = World.setCell we ⟨w.heap.size + 3, 6, none⟩ (.bool (true)) := ⟨_, rfl⟩
        rw [← hwe] at HE hHeld ⊢
        clear hwe
        refine wpAnyH_take (i := 22) (v := ?_) rfl (by kernel_rfl) (by kernel_rfl) (by kernel_rfl) (fun _ _ _ h => h) (Or.inl ⟨by rfl, ?_⟩) (by assumption) ?_
        rotate_left
        · intro wq hSw
          obtain ⟨mq, hmq, _, _⟩ := hSw
          have a4 := hmq.cp 4 _ rfl; have a6 := hmq.cp 6 _ rfl; have a7 := hmq.cp 7 _ rfl; have b4 := hmq.cq 4 _ rfl; have b6 := hmq.cq 6 _ rfl; have b7 := hmq.cq 7 _ rfl
          clear hmq
          go_simp
          try with_reducible rfl
        simp only [Act.put, List.setIfInBounds_toArray, List.set_cons_zero, List.set_cons_succ, List.getElem_toArray, List.getElem_cons_zero, List.getElem_cons_succ]
        refine wpAnyH_ready (rs := [23]) (by kernel_rfl) (by simp) ?_
        refine AllReadyH.cons rfl (fun K hK => ?_) AllReadyH.nil
        have hco := HE.out.co 7 _ rfl
        have hfo := HE.out.fo 7 (by decide)
        have HE2 := Lib.hid (HE.out.set7 (true))
        clear hHeld
        go_simp
        refine hK.out _ _ ⟨_, HE2.out, rfl, rfl⟩ ?_
        clear hK K hco hfo HE
        have HE := HE2
        clear HE2
        intro hHeld
        obtain ⟨we, hwe⟩ : ∃ x, x = World.setCell we ⟨w.heap.size + 3, 7, none⟩ (.bool (true)) := ⟨_, rfl⟩
        rw [← hwe] at HE hHeld ⊢
        clear hwe
        clear hHeld
        refine wpAnyH_done (by kernel_rfl) ?_ _
        go_wp2
        all_goals (go_meet; unfold J3; rw [h4, h6, h7]; exact HE.out)
      · as_aux_lemma =>
        go_wp2_with fail
        refine wp_region_held_drew (S := JX p q A B c d w.heap.size w) (by kernel_rfl) ⟨_, HE.out.later (Below.refl _ _).drew, rfl, rfl⟩ ?_
        intro hHeld
        have HE := Lib.hid (HE.out.later (Below.refl _ _).drew)
        obtain ⟨we, hwe⟩ : ∃ x, x = World.drew wc := ⟨_, rfl⟩
        rw [← hwe] at HE hHeld ⊢
        clear hwe
        refine wpAnyH_take (i := 0) (v := ?_) rfl (by kernel_rfl) (by kernel_rfl) (by kernel_rfl) (fun _ _ _ h => h) (Or.inl ⟨by rfl, ?_⟩) (by assumption) ?_
        rotate_left
        · intro wq hSw
          obtain ⟨mq, hmq, _, _⟩ := hSw
          have a4 := hmq.cp 4 _ rfl; have a6 := hmq.cp 6 _ rfl; have a7 := hmq.cp 7 _ rfl; have b4 := hmq.cq 4 _ rfl; have b6 := hmq.cq 6 _ rfl; have b7 := hmq.cq 7 _ rfl
          clear hmq
          go_simp
          try with_reducible rfl
        simp only [Act.put, List.setIfInBounds_toArray, List.set_cons_zero, List.set_cons_succ, List.getElem_toArray, List.getElem_cons_zero]
        refine wpAnyH_take (i := 1) (v := ?_) rfl (by kernel_rfl) (by kernel_rfl) (by kernel_rfl) (fun _ _ _ h => h) (Or.inl ⟨by rfl, ?_⟩) (by assumption) ?_
        rotate_left
        · intro wq hSw
          obtain ⟨mq, hmq, _, _⟩ := hSw
          have a4 := hmq.cp 4 _ rfl; have a6 := hmq.cp 6 _ rfl; have a7 := hmq.cp 7 _ rfl; have b4 := hmq.cq 4 _ rfl; have b6 := hmq.cq 6 _ rfl; have b7 := hmq.cq 7 _ rfl
          clear hmq
          go_simp
          try with_reducible rfl
        simp only [Act.put, List.setIfInBounds_toArray, List.set_cons_zero, List.set_cons_succ, List.getElem_toArray, List.getElem_cons_zero, List.getElem_cons_succ]
        refine wpAnyH_take (i := 2) (v := ?_) rfl (by kernel_rfl) (by kernel_rfl) (by kernel_rfl) (fun _ _ _ h => h) (Or.inl ⟨by rfl, ?_⟩) (by assumption) ?_
        rotate_left
        · intro wq hSw
          obtain ⟨mq, hmq, _, _⟩ := hSw
          have a4 := hmq.cp 4 _ rfl; have a6 := hmq.cp 6 _ rfl; have a7 := hmq.cp 7 _ rfl; have b4 := hmq.cq 4 _ rfl; have b6 := hmq.cq 6 _ rfl; have b7 := hmq.cq 7 _ rfl
          clear hmq
          go_simp
          try with_reducible rfl
        simp only [Act.put, List.setIfInBounds_toArray, List.set_cons_zero, List.set_cons_succ, List.getElem_toArray, List.getElem_cons_zero, List.getElem_cons_succ]
        refine wpAnyH_take (i := 3) (v := undef) rfl (by kernel_rfl) (by kernel_rfl) (by kernel_rfl) (fun _ _ _ h => h) (Or.inr ⟨by rfl, rfl⟩) (by assumption) ?_
        simp only [Act.put, List.setIfInBounds_toArray, List.set_cons_zero, List.set_cons_succ, List.getElem_toArray, List.getElem_cons_zero, List.getElem_cons_succ]
        refine wpAnyH_take (i := 4) (v := undef) rfl (by kernel_rfl) (by kernel_rfl) (by kernel_rfl) (fun _ _ _ h => h) (Or.inr ⟨by rfl, rfl⟩) (by assumption) ?_
        simp only [Act.put, List.setIfInBounds_toArray, List.set_cons_zero, List.set_cons_succ, List.getElem_toArray, List.getElem_cons_zero, List.getElem_cons_succ]
        refine wpAnyH_take (i := 5) (v := ?_) rfl (by kernel_rfl) (by kernel_rfl) (by kernel_rfl) (fun _ _ _ h => h) (Or.inl ⟨by rfl, ?_⟩) (by assumption) ?_
        rotate_left
        · intro wq hSw
          obtain ⟨mq, hmq, _, _⟩ := hSw
          have a4 := hmq.cp 4 _ rfl; have a6 := hmq.cp 6 _ rfl; have a7 := hmq.cp 7 _ rfl; have b4 := hmq.cq 4 _ rfl; have b6 := hmq.cq 6 _ rfl; have b7 := hmq.cq 7 _ rfl
          clear hmq
          go_simp
          try with_reducible rfl
        simp only [Act.put, List.setIfInBounds_toArray, List.set_cons_zero, List.set_cons_succ, List.getElem_toArray, List.getElem_cons_zero, List.getElem_cons_succ]
        refine wpAnyH_take (i := 6) (v := ?_) rfl (by kernel_rfl) (by kernel_rfl) (by kernel_rfl) (fun _ _ _ h => h) (Or.inl ⟨by rfl, ?_⟩) (by assumption) ?_
        rotate_left
        · intro wq hSw
          obtain ⟨mq, hmq, _, _⟩ := hSw
          have a4 := hmq.cp 4 _ rfl; have a6 := hmq.cp 6 _ rfl; have a7 := hmq.cp 7 _ rfl; have b4 := hmq.cq 4 _ rfl; have b6 := hmq.cq 6 _ rfl; have b7 := hmq.cq 7 _ rfl
          clear hmq
          go_simp
          try with_reducible rfl
        simp only [Act.put, List.setIfInBounds_toArray, List.set_cons_zero, List.set_cons_succ, List.getElem_toArray, List.getElem_cons_zero, List.getElem_cons_succ]
        refine wpAnyH_take (i := 7) (v := ?_) rfl (by kernel_rfl) (by kernel_rfl) (by kernel_rfl) (fun _ _ _ h => h) (Or.inl ⟨by rfl, ?_⟩) (by assumption) ?_
        rotate_left
        · intro wq hSw
          obtain ⟨mq, hmq, _, _⟩ := hSw
          have a4 := hmq.cp 4 _ rfl; have a6 := hmq.cp 6 _ rfl; have a7 := hmq.cp 7 _ rfl; have b4 := hmq.cq 4 _ rfl; have b6 := hmq.cq 6 _ rfl; have b7 := hmq.cq 7 _ rfl
          clear hmq
          go_simp
          try with_reducible rfl
        simp only [Act.put, List.setIfInBounds_toArray, List.set_cons_zero, List.set_cons_succ, List.getElem_toArray, List.getElem_cons_zero, List.getElem_cons_succ]
        refine wpAnyH_take (i := 8) (v := ?_) rfl (by kernel_rfl) (by kernel_rfl) (by kernel_rfl) (fun _ _ _ h => h) (Or.inl ⟨by rfl, ?_⟩) (by assumption) ?_
        rotate_left
        · intro wq hSw
          obtain ⟨mq, hmq, _, _⟩ := hSw
          have a4 := hmq.cp 4 _ rfl; have a6 := hmq.cp 6 _ rfl; have a7 := hmq.cp 7 _ rfl; have b4 := hmq.cq 4 _ rfl; have b6 := hmq.cq 6 _ rfl; have b7 := hmq.cq 7 _ rfl
          clear hmq
          go_simp
          try with_reducible rfl
        simp only [Act.put, List.setIfInBounds_toArray, List.set_cons_zero, List.set_cons_succ, List.getElem_toArray, List.getElem_cons_zero, List.getElem_cons_succ]
        refine wpAnyH_take (i := 9) (v := ?_) rfl (by kernel_rfl) (by kernel_rfl) (by kernel_rfl) (fun _ _ _ h => h) (Or.inl ⟨by rfl, ?_⟩) (by assumption) ?_
        rotate_left
        · intro wq hSw
          obtain ⟨mq, hmq, _, _⟩ := hSw
          have a4 := hmq.cp 4 _ rfl; have a6 := hmq.cp 6 _ rfl; have a7 := hmq.cp 7 _ rfl; have b4 := hmq.cq 4 _ rfl; have b6 := hmq.cq 6 _ rfl; have b7 := hmq.cq 7 _ rfl
          clear hmq
          go_simp
          try with_reducible rfl
        simp only [Act.put, List.setIfInBounds_toArray, List.set_cons_zero, List.set_cons_succ, List.getElem_toArray, List.getElem_cons_zero, List.getElem_cons_succ]
        refine wpAnyH_take (i := 10) (v := ?_) rfl (by kernel_rfl) (by kernel_rfl) (by kernel_rfl) (fun _ _ _ h => h) (Or.inl ⟨by rfl, ?_⟩) (by assumption) ?_
        rotate_left
        · intro wq hSw
          obtain ⟨mq, hmq, _, _⟩ := hSw
          have a4 := hmq.cp 4 _ rfl; have a6 := hmq.cp 6 _ rfl; have a7 := hmq.cp 7 _ rfl; have b4 := hmq.cq 4 _ rfl; have b6 := hmq.cq 6 _ rfl; have b7 := hmq.cq 7 _ rfl
          clear hmq
          go_simp
          try with_reducible rfl
        simp only [Act.put, List.setIfInBounds_toArray, List.set_cons_zero, List.set_cons_succ, List.getElem_toArray, List.getElem_cons_zero, List.getElem_cons_succ]
        refine wpAnyH_take (i := 11) (v := ?_) rfl (by kernel_rfl) (by kernel_rfl) (by kernel_rfl) (fun _ _ _ h => h) (Or.inl ⟨by rfl, ?_⟩) (by assumption) ?_
        rotate_left
        · intro wq hSw
          obtain ⟨mq, hmq, _, _⟩ := hSw
          have a4 := hmq.cp 4 _ rfl; have a6 := hmq.cp 6 _ rfl; have a7 := hmq.cp 7 _ rfl; have b4 := hmq.cq 4 _ rfl; have b6 := hmq.cq 6 _ rfl; have b7 := hmq.cq 7 _ rfl
          clear hmq
          go_simp
          try with_reducible rfl
        simp only [Act.put, List.setIfInBounds_toArray, List.set_cons_zero, List.set_cons_succ, List.getElem_toArray, List.getElem_cons_zero, List.getElem_cons_succ]
        refine wpAnyH_take (i := 12) (v := ?_) rfl (by kernel_rfl) (by kernel_rfl) (by kernel_rfl) (fun _ _ _ h => h) (Or.inl ⟨by rfl, ?_⟩) (by assumption) ?_
        rotate_left
        · intro wq hSw
          obtain ⟨mq, hmq, _, _⟩ := hSw
          have a4 := hmq.cp 4 _ rfl; have a6 := hmq.cp 6 _ rfl; have a7 := hmq.cp 7 _ rfl; have b4 := hmq.cq 4 _ rfl; have b6 := hmq.cq 6 _ rfl; have b7 := hmq.cq 7 _ rfl
          clear hmq
          go_simp
          try with_reducible rfl
        simp only [Act.put, List.setIfInBounds_toArray, List.set_cons_zero, List.set_cons_succ, List.getElem_toArray, List.getElem_cons_zero, List.getElem_cons_succ]
        refine wpAnyH_take (i := 13) (v := ?_) rfl (by kernel_rfl) (by kernel_rfl) (by kernel_rfl) (fun _ _ _ h => h) (Or.inl ⟨by rfl, ?_⟩) (by assumption) ?_
        rotate_left
        · intro wq hSw
          obtain ⟨mq, hmq, _, _⟩ := hSw
          have a4 := hmq.cp 4 _ rfl; have a6 := hmq.cp 6 _ rfl; have a7 := hmq.cp 7 _ rfl; have b4 := hmq.cq 4 _ rfl; have b6 := hmq.cq 6 _ rfl; have b7 := hmq.cq 7 _ rfl
          clear hmq
          go_simp
          try with_reducible rfl
        simp only [Act.put, List.setIfInBounds_toArray, List.set_cons_zero, List.set_cons_succ, List.getElem_toArray, List.getElem_cons_zero, List.getElem_cons_succ]
        refine wpAnyH_take (i := 14) (v := ?_) rfl (by kernel_rfl) (by kernel_rfl) (by kernel_rfl) (fun _ _ _ h => h) (Or.inl ⟨by rfl, ?_⟩) (by assumption) ?_
        rotate_left
        · intro wq hSw
          obtain ⟨mq, hmq, _, _⟩ := hSw
          have a4 := hmq.cp 4 _ rfl; have a6 := hmq.cp 6 _ rfl; have a7 := hmq.cp 7 _ rfl; have b4 := hmq.cq 4 _ rfl; have b6 := hmq.cq 6 _ rfl; have b7 := hmq.cq 7 _ rfl
          clear hmq
          go_simp
          try with_reducible rfl
        simp only [Act.put, List.setIfInBounds_toArray, List.set_cons_zero, List.set_cons_succ, List.getElem_toArray, List.getElem_cons_zero, List.getElem_cons_succ]
        refine wpAnyH_take (i := 15) (v := ?_) rfl (by kernel_rfl) (by kernel_rfl) (by kernel_rfl) (fun _ _ _ h => h) (Or.inl ⟨by rfl, ?_⟩) (by assumption) ?_
        rotate_left
        · intro wq hSw
          obtain ⟨mq, hmq, _, _⟩ := hSw
          have a4 := hmq.cp 4 _ rfl; have a6 := hmq.cp 6 _ rfl; have a7 := hmq.cp 7 _ rfl; have b4 := hmq.cq 4 _ rfl; have b6 := hmq.cq 6 _ rfl; have b7 := hmq.cq 7 _ rfl
          clear hmq
          go_simp
          try with_reducible rfl
        simp only [Act.put, List.setIfInBounds_toArray, List.set_cons_zero, List.set_cons_succ, List.getElem_toArray, List.getElem_cons_zero, List.getElem_cons_succ]
        refine wpAnyH_take (i := 16) (v := ?_) rfl (by kernel_rfl) (by kernel_rfl) (by kernel_rfl) (fun _ _ _ h => h) (Or.inl ⟨by rfl, ?_⟩) (by assumption) ?_
        rotate_left
        · intro wq hSw
          obtain ⟨mq, hmq, _, _⟩ := hSw
          have a4 := hmq.cp 4 _ rfl; have a6 := hmq.cp 6 _ rfl; have a7 := hmq.cp 7 _ rfl; have b4 := hmq.cq 4 _ rfl; have b6 := hmq.cq 6 _ rfl; have b7 := hmq.cq 7 _ rfl
          clear hmq
          go_simp
          try with_reducible rfl
        simp only [Act.put, List.setIfInBounds_toArray, List.set_cons_zero, List.set_cons_succ, List.getElem_toArray, List.getElem_cons_zero, List.getElem_cons_succ]
        refine wpAnyH_take (i := 17) (v := ?_) rfl (by kernel_rfl) (by kernel_rfl) (by kernel_rfl) (fun _ _ _ h => h) (Or.inl ⟨by rfl, ?_⟩) (by assumption) ?_
        rotate_left
        · intro wq hSw
          obtain ⟨mq, hmq, _, _⟩ := hSw
          have a4 := hmq.cp 4 _ rfl; have a6 := hmq.cp 6 _ rfl; have a7 := hmq.cp 7 _ rfl; have b4 := hmq.cq 4 _ rfl; have b6 := hmq.cq 6 _ rfl; have b7 := hmq.cq 7 _ rfl
          clear hmq
          go_simp
          try with_reducible rfl
        simp only [Act.put, List.setIfInBounds_toArray, List.set_cons_zero, List.set_cons_succ, List.getElem_toArray, List.getElem_cons_zero, List.getElem_cons_succ]
        refine wpAnyH_take (i := 18) (v := ?_) rfl (by kernel_rfl) (by kernel_rfl) (by kernel_rfl) (fun _ _ _ h => h) (Or.inl ⟨by rfl, ?_⟩) (by assumption) ?_
        rotate_left
        · intro wq hSw
          obtain ⟨mq, hmq, _, _⟩ := hSw
          have a4 := hmq.cp 4 _ rfl; have a6 := hmq.cp 6 _ rfl; have a7 := hmq.cp 7 _ rfl; have b4 := hmq.cq 4 _ rfl; have b6 := hmq.cq 6 _ rfl; have b7 := hmq.cq 7 _ rfl
          clear hmq
          go_simp
          try with_reducible rfl
        simp only [Act.put, List.setIfInBounds_toArray, List.set_cons_zero, List.set_cons_succ, List.getElem_toArray, List.getElem_cons_zero, List.getElem_cons_succ]
        refine wpAnyH_ready (rs := [19]) (by kernel_rfl) (by simp) ?_
        refine AllReadyH.cons rfl (fun K hK => ?_) AllReadyH.nil
        have hco := HE.out.co 4 _ rfl
        have hfo := HE.out.fo 4 (by decide)
        have HE2 := Lib.hid (HE.out.set4 (true))
        clear hHeld
        go_simp
        refine hK.out _ _ ⟨_, HE2.out, rfl, rfl⟩ ?_
        clear hK K hco hfo HE
        have HE := HE2
        clear HE2
        intro hHeld
        obtain ⟨we, hwe⟩ : ∃ x, x = World.setCell we ⟨w.heap.size + 3, 4, none⟩ (.bool (true)) := ⟨_, rfl⟩
        rw [← hwe] at HE hHeld ⊢
        clear hwe
        refine wpAnyH_take (i := 20) (v := ?_) rfl (by kernel_rfl) (by kernel_rfl) (by kernel_rfl) (fun _ _ _ h => h) (Or.inl ⟨by rfl, ?_⟩) (by assumption) ?_
        rotate_left
        · intro wq hSw
          obtain ⟨mq, hmq, _, _⟩ := hSw
          have a4 := hmq.cp 4 _ rfl; have a6 := hmq.cp 6 _ rfl; have a7 := hmq.cp 7 _ rfl; have b4 := hmq.cq 4 _ rfl; have b6 := hmq.cq 6 _ rfl; have b7 := hmq.cq 7 _ rfl
          clear hmq
          go_simp
          try with_reducible rfl
        simp only [Act.put, List.setIfInBounds_toArray, List.set_cons_zero, List.set_cons_succ, List.getElem_toArray, List.getElem_cons_zero, List.getElem_cons_succ]
        refine wpAnyH_ready (rs := [21]) (by kernel_rfl) (by simp) ?_
        refine AllReadyH.cons rfl (fun K hK => ?_) AllReadyH.nil
        have hco := HE.out.co 6 _ rfl
        have hfo := HE.out.fo 6 (by decide)
        have HE2 := Lib.hid (HE.out.set6 (q.quote))
        clear hHeld
        go_simp
        refine hK.out _ _ ⟨_, HE2.out, rfl, rfl⟩ ?_
        clear hK K hco hfo HE
        have HE := HE2
        clear HE2
        intro hHeld
        obtain ⟨we, hwe⟩ : ∃ x, x = World.setCell we ⟨w.heap.size + 3, 6, none⟩ (.bool (q.quote)) := ⟨_, rfl⟩
        rw [← hwe] at HE hHeld ⊢
        clear hwe
        refine wpAnyH_take (i := 22) (v := ?_) rfl (by kernel_rfl) (by kernel_rfl) (by kernel_rfl) (fun _ _ _ h => h) (Or.inl ⟨by rfl, ?_⟩) (by assumption) ?_
        rotate_left
        · intro wq hSw
          obtain ⟨mq, hmq, _, _⟩ := hSw
          have a4 := hmq.cp 4 _ rfl; have a6 := hmq.cp 6 _ rfl; have a7 := hmq.cp 7 _ rfl; have b4 := hmq.cq 4 _ rfl; have b6 := hmq.cq 6 _ rfl; have b7 := hmq.cq 7 _ rfl
          clear hmq
          go_simp
          try with_reducible rfl
        simp only [Act.put, List.setIfInBounds_toArray, List.set_cons_zero, List.set_cons_succ, List.getElem_toArray, List.getElem_cons_zero, List.getElem_cons_succ]
        refine wpAnyH_ready (rs := [23]) (by kernel_rfl) (by simp) ?_
        refine AllReadyH.cons rfl (fun K hK => ?_) AllReadyH.nil
        have hco := HE.out.co 7 _ rfl
        have hfo := HE.out.fo 7 (by decide)
        have HE2 := Lib.hid (HE.out.set7 (q.mention))
        clear hHeld
        go_simp
        refine hK.out _ _ ⟨_, HE2.out, rfl, rfl⟩ ?_
        clear hK K hco hfo HE
        have HE := HE2
        clear HE2
        intro hHeld
        obtain ⟨we, hwe⟩ : ∃ x, x = World.setCell we ⟨w.heap.size + 3, 7, none⟩ (.bool (q.mention)) := ⟨_, rfl⟩
        rw [← hwe] at HE hHeld ⊢
        clear hwe
        clear hHeld
        refine wpAnyH_done (by kernel_rfl) ?_ _
        go_wp2
        all_goals (go_meet; unfold J3; rw [h4, h6, h7]; exact HE.out)
      · as_aux_lemma =>
        go_wp2_with fail
        refine wp_region_held_drew (S := JX p q A B c d w.heap.size w) (by kernel_rfl) ⟨_, HE.out.later (Below.refl _ _).drew, rfl, rfl⟩ ?_
        intro hHeld
        have HE := Lib.hid (HE.out.later (Below.refl _ _).drew)
        obtain ⟨we, hwe⟩ : ∃ x, x = World.drew wc := ⟨_, rfl⟩
        rw [← hwe] at HE hHeld ⊢
        clear hwe
        refine wpAnyH_take (i := 0) (v := ?_) rfl (by kernel_rfl) (by kernel_rfl) (by kernel_rfl) (fun _ _ _ h => h) (Or.inl ⟨by rfl, ?_⟩) (by assumption) ?_
        rotate_left
        · intro wq hSw
          obtain ⟨mq, hmq, _, _⟩ := hSw
          have a4 := hmq.cp 4 _ rfl; have a6 := hmq.cp 6 _ rfl; have a7 := hmq.cp 7 _ rfl; have b4 := hmq.cq 4 _ rfl; have b6 := hmq.cq 6 _ rfl; have b7 := hmq.cq 7 _ rfl
          clear hmq
          go_simp
          try with_reducible rfl
        simp only [Act.put, List.setIfInBounds_toArray, List.set_cons_zero, List.set_cons_succ, List.getElem_toArray, List.getElem_cons_zero]
        refine wpAnyH_take (i := 1) (v := ?_) rfl (by kernel_rfl) (by kernel_rfl) (by kernel_rfl) (fun _ _ _ h => h) (Or.inl ⟨by rfl, ?_⟩) (by assumption) ?_
        rotate_left
        · intro wq hSw
          obtain ⟨mq, hmq, _, _⟩ := hSw
          have a4 := hmq.cp 4 _ rfl; have a6 := hmq.cp 6 _ rfl; have a7 := hmq.cp 7 _ rfl; have b4 := hmq.cq 4 _ rfl; have b6 := hmq.cq 6 _ rfl; have b7 := hmq.cq 7 _ rfl
          clear hmq
          go_simp
          try with_reducible rfl
        simp only [Act.put, List.setIfInBounds_toArray, List.set_cons_zero, List.set_cons_succ, List.getElem_toArray, List.getElem_cons_zero, List.getElem_cons_succ]
        refine wpAnyH_take (i := 2) (v := ?_) rfl (by kernel_rfl) (by kernel_rfl) (by kernel_rfl) (fun _ _ _ h => h) (Or.inl ⟨by rfl, ?_⟩) (by assumption) ?_
        rotate_left
        · intro wq hSw
          obtain ⟨mq, hmq, _, _⟩ := hSw
          have a4 := hmq.cp 4 _ rfl; have a6 := hmq.cp 6 _ rfl; have a7 := hmq.cp 7 _ rfl; have b4 := hmq.cq 4 _ rfl; have b6 := hmq.cq 6 _ rfl; have b7 := hmq.cq 7 _ rfl
          clear hmq
          go_simp
          try with_reducible rfl
        simp only [Act.put, List.setIfInBounds_toArray, List.set_cons_zero, List.set_cons_succ, List.getElem_toArray, List.getElem_cons_zero, List.getElem_cons_succ]
        refine wpAnyH_take (i := 3) (v := undef) rfl (by kernel_rfl) (by kernel_rfl) (by kernel_rfl) (fun _ _ _ h => h) (Or.inr ⟨by rfl, rfl⟩) (by assumption) ?_
        simp only [Act.put, List.setIfInBounds_toArray, List.set_cons_zero, List.set_cons_succ, List.getElem_toArray, List.getElem_cons_zero, List.getElem_cons_succ]
        refine wpAnyH_take (i := 4) (v := undef) rfl (by kernel_rfl) (by kernel_rfl) (by kernel_rfl) (fun _ _ _ h => h) (Or.inr ⟨by rfl, rfl⟩) (by assumption) ?_
        simp only [Act.put, List.setIfInBounds_toArray, List.set_cons_zero, List.set_cons_succ, List.getElem_toArray, List.getElem_cons_zero, List.getElem_cons_succ]
        refine wpAnyH_take (i := 5) (v := ?_) rfl (by kernel_rfl) (by kernel_rfl) (by kernel_rfl) (fun _ _ _ h => h) (Or.inl ⟨by rfl, ?_⟩) (by assumption) ?_
        rotate_left
        · intro wq hSw
          obtain ⟨mq, hmq, _, _⟩ := hSw
          have a4 := hmq.cp 4 _ rfl; have a6 := hmq.cp 6 _ rfl; have a7 := hmq.cp 7 _ rfl; have b4 := hmq.cq 4 _ rfl; have b6 := hmq.cq 6 _ rfl; have b7 := hmq.cq 7 _ rfl
          clear hmq
          go_simp
          try with_reducible rfl
        simp only [Act.put, List.setIfInBounds_toArray, List.set_cons_zero, List.set_cons_succ, List.getElem_toArray, List.getElem_cons_zero, List.getElem_cons_succ]
        refine wpAnyH_take (i := 6) (v := ?_) rfl (by kernel_rfl) (by kernel_rfl) (by kernel_rfl) (fun _ _ _ h => h) (Or.inl ⟨by rfl, ?_⟩) (by assumption) ?_
        rotate_left
        · intro wq hSw
          obtain ⟨mq, hmq, _, _⟩ := hSw
          have a4 := hmq.cp 4 _ rfl; have a6 := hmq.cp 6 _ rfl; have a7 := hmq.cp 7 _ rfl; have b4 := hmq.cq 4 _ rfl; have b6 := hmq.cq 6 _ rfl; have b7 := hmq.cq 7 _ rfl
          clear hmq
          go_simp
          try with_reducible rfl
        simp only [Act.put, List.setIfInBounds_toArray, List.set_cons_zero, List.set_cons_succ, List.getElem_toArray, List.getElem_cons_zero, List.getElem_cons_succ]
        refine wpAnyH_take (i := 7) (v := ?_) rfl (by kernel_rfl) (by kernel_rfl) (by kernel_rfl) (fun _ _ _ h => h) (Or.inl ⟨by rfl, ?_⟩) (by assumption) ?_
        rotate_left
        · intro wq hSw
          obtain ⟨mq, hmq, _, _⟩ := hSw
          have a4 := hmq.cp 4 _ rfl; have a6 := hmq.cp 6 _ rfl; have a7 := hmq.cp 7 _ rfl; have b4 := hmq.cq 4 _ rfl; have b6 := hmq.cq 6 _ rfl; have b7 := hmq.cq 7 _ rfl
          clear hmq
          go_simp
          try with_reducible rfl
        simp only [Act.put, List.setIfInBounds_toArray, List.set_cons_zero, List.set_cons_succ, List.getElem_toArray, List.getElem_cons_zero, List.getElem_cons_succ]
        refine wpAnyH_take (i := 8) (v := ?_) rfl (by kernel_rfl) (by kernel_rfl) (by kernel_rfl) (fun _ _ _ h => h) (Or.inl ⟨by rfl, ?_⟩) (by assumption) ?_
        rotate_left
        · intro wq hSw
          obtain ⟨mq, hmq, _, _⟩ := hSw
          have a4 := hmq.cp 4 _ rfl; have a6 := hmq.cp 6 _ rfl; have a7 := hmq.cp 7 _ rfl; have b4 := hmq.cq 4 _ rfl; have b6 := hmq.cq 6 _ rfl; have b7 := hmq.cq 7 _ rfl
          clear hmq
          go_simp
          try with_reducible rfl
        simp only [Act.put, List.setIfInBounds_toArray, List.set_cons_zero, List.set_cons_succ, List.getElem_toArray, List.getElem_cons_zero, List.getElem_cons_succ]
        refine wpAnyH_take (i := 9) (v := ?_) rfl (by kernel_rfl) (by kernel_rfl) (by kernel_rfl) (fun _ _ _ h => h) (Or.inl ⟨by rfl, ?_⟩) (by assumption) ?_
        rotate_left
        · intro wq hSw
          obtain ⟨mq, hmq, _, _⟩ := hSw
          have a4 := hmq.cp 4 _ rfl; have a6 := hmq.cp 6 _ rfl; have a7 := hmq.cp 7 _ rfl; have b4 := hmq.cq 4 _ rfl; have b6 := hmq.cq 6 _ rfl; have b7 := hmq.cq 7 _ rfl
          clear hmq
          go_simp
          try with_reducible rfl
        simp only [Act.put, List.setIfInBounds_toArray, List.set_cons_zero, List.set_cons_succ, List.getElem_toArray, List.getElem_cons_zero, List.getElem_cons_succ]
        refine wpAnyH_take (i := 10) (v := ?_) rfl (by kernel_rfl) (by kernel_rfl) (by kernel_rfl) (fun _ _ _ h => h) (Or.inl ⟨by rfl, ?_⟩) (by assumption) ?_
        rotate_left
        · intro wq hSw
          obtain ⟨mq, hmq, _, _⟩ := hSw
          have a4 := hmq.cp 4 _ rfl; have a6 := hmq.cp 6 _ rfl; have a7 := hmq.cp 7 _ rfl; have b4 := hmq.cq 4 _ rfl; have b6 := hmq.cq 6 _ rfl; have b7 := hmq.cq 7 _ rfl
          clear hmq
          go_simp
          try with_reducible rfl
        simp only [Act.put, List.setIfInBounds_toArray, List.set_cons_zero, List.set_cons_succ, List.getElem_toArray, List.getElem_cons_zero, List.getElem_cons_succ]
        refine wpAnyH_take (i := 11) (v := ?_) rfl (by kernel_rfl) (by kernel_rfl) (by kernel_rfl) (fun _ _ _ h => h) (Or.inl ⟨by rfl, ?_⟩) (by assumption) ?_
        rotate_left
        · intro wq hSw
          obtain ⟨mq, hmq, _, _⟩ := hSw
          have a4 := hmq.cp 4 _ rfl; have a6 := hmq.cp 6 _ rfl; have a7 := hmq.cp 7 _ rfl; have b4 := hmq.cq 4 _ rfl; have b6 := hmq.cq 6 _ rfl; have b7 := hmq.cq 7 _ rfl
          clear hmq
          go_simp
          try with_reducible rfl
        simp only [Act.put, List.setIfInBounds_toArray, List.set_cons_zero, List.set_cons_succ, List.getElem_toArray, List.getElem_cons_zero, List.getElem_cons_succ]
        refine wpAnyH_take (i := 12) (v := ?_) rfl (by kernel_rfl) (by kernel_rfl) (by kernel_rfl) (fun _ _ _ h => h) (Or.inl ⟨by rfl, ?_⟩) (by assumption) ?_
        rotate_left
        · intro wq hSw
          obtain ⟨mq, hmq, _, _⟩ := hSw
          have a4 := hmq.cp 4 _ rfl; have a6 := hmq.cp 6 _ rfl; have a7 := hmq.cp 7 _ rfl; have b4 := hmq.cq 4 _ rfl; have b6 := hmq.cq 6 _ rfl; have b7 := hmq.cq 7 _ rfl
          clear hmq
          go_simp
          try with_reducible rfl
        simp only [Act.put, List.setIfInBounds_toArray, List.set_cons_zero, List.set_cons_succ, List.getElem_toArray, List.getElem_cons_zero, List.getElem_cons_succ]
        refine wpAnyH_take (i := 13) (v := ?_) rfl (by kernel_rfl) (by kernel_rfl) (by kernel_rfl) (fun _ _ _ h => h) (Or.inl ⟨by rfl, ?_⟩) (by assumption) ?_
        rotate_left
        · intro wq hSw
          obtain ⟨mq, hmq, _, _⟩ := hSw
          have a4 := hmq.cp 4 _ rfl; have a6 := hmq.cp 6 _ rfl; have a7 := hmq.cp 7 _ rfl; have b4 := hmq.cq 4 _ rfl; have b6 := hmq.cq 6 _ rfl; have b7 := hmq.cq 7 _ rfl
          clear hmq
          go_simp
          try with_reducible rfl
        simp only [Act.put, List.setIfInBounds_toArray, List.set_cons_zero, List.set_cons_succ, List.getElem_toArray, List.getElem_cons_zero, List.getElem_cons_succ]
        refine wpAnyH_take (i := 14) (v := ?_) rfl (by kernel_rfl) (by kernel_rfl) (by kernel_rfl) (fun _ _ _ h => h) (Or.inl ⟨by rfl, ?_⟩) (by assumption) ?_
        rotate_left
        · intro wq hSw
          obtain ⟨mq, hmq, _, _⟩ := hSw
          have a4 := hmq.cp 4 _ rfl; have a6 := hmq.cp 6 _ rfl; have a7 := hmq.cp 7 _ rfl; have b4 := hmq.cq 4 _ rfl; have b6 := hmq.cq 6 _ rfl; have b7 := hmq.cq 7 _ rfl
          clear hmq
          go_simp
          try with_reducible rfl
        simp only [Act.put, List.setIfInBounds_toArray, List.set_cons_zero, List.set_cons_succ, List.getElem_toArray, List.getElem_cons_zero, List.getElem_cons_succ]
        refine wpAnyH_take (i := 15) (v := undef) rfl (by kernel_rfl) (by kernel_rfl) (by kernel_rfl) (fun _ _ _ h => h) (Or.inr ⟨by rfl, rfl⟩) (by assumption) ?_
        simp only [Act.put, List.setIfInBounds_toArray, List.set_cons_zero, List.set_cons_succ, List.getElem_toArray, List.getElem_cons_zero, List.getElem_cons_succ]
        refine wpAnyH_take (i := 16) (v := undef) rfl (by kernel_rfl) (by kernel_rfl) (by kernel_rfl) (fun _ _ _ h => h) (Or.inr ⟨by rfl, rfl⟩) (by assumption) ?_
        simp only [Act.put, List.setIfInBounds_toArray, List.set_cons_zero, List.set_cons_succ, List.getElem_toArray, List.getElem_cons_zero, List.getElem_cons_succ]
        refine wpAnyH_take (i := 17) (v := ?_) rfl (by kernel_rfl) (by kernel_rfl) (by kernel_rfl) (fun _ _ _ h => h) (Or.inl ⟨by rfl, ?_⟩) (by assumption) ?_
        rotate_left
        · intro wq hSw
          obtain ⟨mq, hmq, _, _⟩ := hSw
          have a4 := hmq.cp 4 _ rfl; have a6 := hmq.cp 6 _ rfl; have a7 := hmq.cp 7 _ rfl; have b4 := hmq.cq 4 _ rfl; have b6 := hmq.cq 6 _ rfl; have b7 := hmq.cq 7 _ rfl
          clear hmq
          go_simp
          try with_reducible rfl
        simp only [Act.put, List.setIfInBounds_toArray, List.set_cons_zero, List.set_cons_succ, List.getElem_toArray, List.getElem_cons_zero, List.getElem_cons_succ]
        refine wpAnyH_take (i := 18) (v := ?_) rfl (by kernel_rfl) (by kernel_rfl) (by kernel_rfl) (fun _ _ _ h => h) (Or.inl ⟨by rfl, ?_⟩) (by assumption) ?_
        rotate_left
        · intro wq hSw
          obtain ⟨mq, hmq, _, _⟩ := hSw
          have a4 := hmq.cp 4 _ rfl; have a6 := hmq.cp 6 _ rfl; have a7 := hmq.cp 7 _ rfl; have b4 := hmq.cq 4 _ rfl; have b6 := hmq.cq 6 _ rfl; have b7 := hmq.cq 7 _ rfl
          clear hmq
          go_simp
          try with_reducible rfl
        simp only [Act.put, List.setIfInBounds_toArray, List.set_cons_zero, List.set_cons_succ, List.getElem_toArray, List.getElem_cons_zero, List.getElem_cons_succ]
        refine wpAnyH_ready (rs := [19]) (by kernel_rfl) (by simp) ?_
        refine AllReadyH.cons rfl (fun K hK => ?_) AllReadyH.nil
        have hco := HE.out.co 4 _ rfl
        have hfo := HE.out.fo 4 (by decide)
        have HE2 := Lib.hid (HE.out.set4 (true))
        clear hHeld
        go_simp
        refine hK.out _ _ ⟨_, HE2.out, rfl, rfl⟩ ?_
        clear hK K hco hfo HE
        have HE := HE2
        clear HE2
        intro hHeld
        obtain ⟨we, hwe⟩ : ∃ x, x = World.setCell we ⟨w.heap.size + 3, 4, none⟩ (.bool (true)) := ⟨_, rfl⟩
        rw [← hwe] at HE hHeld ⊢
        clear hwe
        refine wpAnyH_take (i := 20) (v := ?_) rfl (by kernel_rfl) (by kernel_rfl) (by kernel_rfl) (fun _ _ _ h => h) (Or.inl ⟨by rfl, ?_⟩) (by assumption) ?_
        rotate_left
        · intro wq hSw
          obtain ⟨mq, hmq, _, _⟩ := hSw
          have a4 := hmq.cp 4 _ rfl; have a6 := hmq.cp 6 _ rfl; have a7 := hmq.cp 7 _ rfl; have b4 := hmq.cq 4 _ rfl; have b6 := hmq.cq 6 _ rfl; have b7 := hmq.cq 7 _ rfl
          clear hmq
          go_simp
          try with_reducible rfl
        simp only [Act.put, List.setIfInBounds_toArray, List.set_cons_zero, List.set_cons_succ, List.getElem_toArray, List.getElem_cons_zero, List.getElem_cons_succ]
        refine wpAnyH_ready (rs := [21]) (by kernel_rfl) (by simp) ?_
        refine AllReadyH.cons rfl (fun K hK => ?_) AllReadyH.nil
        have hco := HE.out.co 6 _ rfl
        have hfo := HE.out.fo 6 (by decide)
        have HE2 := Lib.hid (HE.out.set6 (q.quote))
        clear hHeld
        go_simp
        refine hK.out _ _ ⟨_, HE2.out, rfl, rfl⟩ ?_
        clear hK K hco hfo HE
        have HE := HE2
        clear HE2
        intro hHeld
        obtain ⟨we, hwe⟩ : ∃ x, x = World.setCell we ⟨w.heap.size + 3, 6, none⟩ (.bool (q.quote)) := ⟨_, rfl⟩
        rw [← hwe] at HE hHeld ⊢
        clear hwe
        refine wpAnyH_take (i := 22) (v := ?_) rfl (by kernel_rfl) (by kernel_rfl) (by kernel_rfl) (fun _ _ _ h => h) (Or.inl ⟨by rfl, ?_⟩) (by assumption) ?_
        rotate_left
        · intro wq hSw
          obtain ⟨mq, hmq, _, _⟩ := hSw
          have a4 := hmq.cp 4 _ rfl; have a6 := hmq.cp 6 _ rfl; have a7 := hmq.cp 7 _ rfl; have b4 := hmq.cq 4 _ rfl; have b6 := hmq.cq 6 _ rfl; have b7 := hmq.cq 7 _ rfl
          clear hmq
          go_simp
          try with_reducible rfl
        simp only [Act.put, List.setIfInBounds_toArray, List.set_cons_zero, List.set_cons_succ, List.getElem_toArray, List.getElem_cons_zero, List.getElem_cons_succ]
        refine wpAnyH_ready (rs := [23]) (by kernel_rfl) (by simp) ?_
        refine AllReadyH.cons rfl (fun K hK => ?_) AllReadyH.nil
        have hco := HE.out.co 7 _ rfl
        have hfo := HE.out.fo 7 (by decide)
        have HE2 := Lib.hid (HE.out.set7 (true))
        clear hHeld
        go_simp
        refine hK.out _ _ ⟨_, HE2.out, rfl, rfl⟩ ?_
        clear hK K hco hfo HE
        have HE := HE2
        clear HE2
        intro hHeld
        obtain ⟨we, hwe⟩ : ∃ x, x = World.setCell we ⟨w.heap.size + 3, 7, none⟩ (.bool (true)) := ⟨_, rfl⟩
        rw [← hwe] at HE hHeld ⊢
        clear hwe
        clear hHeld
        refine wpAnyH_done (by kernel_rfl) ?_ _
        go_wp2
        all_goals (go_meet; unfold J3; rw [h4, h6, h7]; exact HE.out)
      · as_aux_lemma =>
        go_wp2_with fail
        refine wp_region_held_drew (S := JX p q A B c d w.heap.size w) (by kernel_rfl) ⟨_, HE.out.later (Below.refl _ _).drew, rfl, rfl⟩ ?_
        intro hHeld
        have HE := Lib.hid (HE.out.later (Below.refl _ _).drew)
        obtain ⟨we, hwe⟩ : ∃ x, x = World.drew wc := ⟨_, rfl⟩
        rw [← hwe] at HE hHeld ⊢
        clear hwe
        refine wpAnyH_take (i := 0) (v := ?_) rfl (by kernel_rfl) (by kernel_rfl) (by kernel_rfl) (fun _ _ _ h => h) (Or.inl ⟨by rfl, ?_⟩) (by assumption) ?_
        rotate_left
        · intro wq hSw
          obtain ⟨mq, hmq, _, _⟩ := hSw
          have a4 := hmq.cp 4 _ rfl; have a6 := hmq.cp 6 _ rfl; have a7 := hmq.cp 7 _ rfl; have b4 := hmq.cq 4 _ rfl; have b6 := hmq.cq 6 _ rfl; have b7 := hmq.cq 7 _ rfl
          clear hmq
          go_simp
          try with_reducible rfl
        simp only [Act.put, List.setIfInBounds_toArray, List.set_cons_zero, List.set_cons_succ, List.getElem_toArray, List.getElem_cons_zero]
        refine wpAnyH_take (i := 1) (v := ?_) rfl (by kernel_rfl) (by kernel_rfl) (by kernel_rfl) (fun _ _ _ h => h) (Or.inl ⟨by rfl, ?_⟩) (by assumption) ?_
        rotate_left
        · intro wq hSw
          obtain ⟨mq, hmq, _, _⟩ := hSw
          have a4 := hmq.cp 4 _ rfl; have a6 := hmq.cp 6 _ rfl; have a7 := hmq.cp 7 _ rfl; have b4 := hmq.cq 4 _ rfl; have b6 := hmq.cq 6 _ rfl; have b7 := hmq.cq 7 _ rfl
          clear hmq
          go_simp
          try with_reducible rfl
        simp only [Act.put, List.setIfInBounds_toArray, List.set_cons_zero, List.set_cons_succ, List.getElem_toArray, List.getElem_cons_zero, List.getElem_cons_succ]
        refine wpAnyH_take (i := 2) (v := ?_) rfl (by kernel_rfl) (by kernel_rfl) (by kernel_rfl) (fun _ _ _ h => h) (Or.inl ⟨by rfl, ?_⟩) (by assumption) ?_
        rotate_left
        · intro wq hSw
          obtain ⟨mq, hmq, _, _⟩ := hSw
          have a4 := hmq.cp 4 _ rfl; have a6 := hmq.cp 6 _ rfl; have a7 := hmq.cp 7 _ rfl; have b4 := hmq.cq 4 _ rfl; have b6 := hmq.cq 6 _ rfl; have b7 := hmq.cq 7 _ rfl
          clear hmq
          go_simp
          try with_reducible rfl
        simp only [Act.put, List.setIfInBounds_toArray, List.set_cons_zero, List.set_cons_succ, List.getElem_toArray, List.getElem_cons_zero, List.getElem_cons_succ]
        refine wpAnyH_take (i := 3) (v := undef) rfl (by kernel_rfl) (by kernel_rfl) (by kernel_rfl) (fun _ _ _ h => h) (Or.inr ⟨by rfl, rfl⟩) (by assumption) ?_
        simp only [Act.put, List.setIfInBounds_toArray, List.set_cons_zero, List.set_cons_succ, List.getElem_toArray, List.getElem_cons_zero, List.getElem_cons_succ]
        refine wpAnyH_take (i := 4) (v := undef) rfl (by kernel_rfl) (by kernel_rfl) (by kernel_rfl) (fun _ _ _ h => h) (Or.inr ⟨by rfl, rfl⟩) (by assumption) ?_
        simp only [Act.put, List.setIfInBounds_toArray, List.set_cons_zero, List.set_cons_succ, List.getElem_toArray, List.getElem_cons_zero, List.getElem_cons_succ]
        refine wpAnyH_take (i := 5) (v := ?_) rfl (by kernel_rfl) (by kernel_rfl) (by kernel_rfl) (fun _ _ _ h => h) (Or.inl ⟨by rfl, ?_⟩) (by assumption) ?_
        rotate_left
        · intro wq hSw
          obtain ⟨mq, hmq, _, _⟩ := hSw
          have a4 := hmq.cp 4 _ rfl; have a6 := hmq.cp 6 _ rfl; have a7 := hmq.cp 7 _ rfl; have b4 := hmq.cq 4 _ rfl; have b6 := hmq.cq 6 _ rfl; have b7 := hmq.cq 7 _ rfl
          clear hmq
          go_simp
          try with_reducible rfl
        simp only [Act.put, List.setIfInBounds_toArray, List.set_cons_zero, List.set_cons_succ, List.getElem_toArray, List.getElem_cons_zero, List.getElem_cons_succ]
        refine wpAnyH_take (i := 6) (v := ?_) rfl (by kernel_rfl) (by kernel_rfl) (by kernel_rfl) (fun _ _ _ h => h) (Or.inl ⟨by rfl, ?_⟩) (by assumption) ?_
        rotate_left
        · intro wq hSw
          obtain ⟨mq, hmq, _, _⟩ := hSw
          have a4 := hmq.cp 4 _ rfl; have a6 := hmq.cp 6 _ rfl; have a7 := hmq.cp 7 _ rfl; have b4 := hmq.cq 4 _ rfl; have b6 := hmq.cq 6 _ rfl; have b7 := hmq.cq 7 _ rfl
          clear hmq
          go_simp
          try with_reducible rfl
        simp only [Act.put, List.setIfInBounds_toArray, List.set_cons_zero, List.set_cons_succ, List.getElem_toArray, List.getElem_cons_zero, List.getElem_cons_succ]
        refine wpAnyH_take (i := 7) (v := ?_) rfl (by kernel_rfl) (by kernel_rfl) (by kernel_rfl) (fun _ _ _ h => h) (Or.inl ⟨by rfl, ?_⟩) (by assumption) ?_
        rotate_left
        · intro wq hSw
          obtain ⟨mq, hmq, _, _⟩ := hSw
          have a4 := hmq.cp 4 _ rfl; have a6 := hmq.cp 6 _ rfl; have a7 := hmq.cp 7 _ rfl; have b4 := hmq.cq 4 _ rfl; have b6 := hmq.cq 6 _ rfl; have b7 := hmq.cq 7 _ rfl
          clear hmq
          go_simp
          try with_reducible rfl
        simp only [Act.put, List.setIfInBounds_toArray, List.set_cons_zero, List.set_cons_succ, List.getElem_toArray, List.getElem_cons_zero, List.getElem_cons_succ]
        refine wpAnyH_take (i := 8) (v := ?_) rfl (by kernel_rfl) (by kernel_rfl) (by kernel_rfl) (fun _ _ _ h => h) (Or.inl ⟨by rfl, ?_⟩) (by assumption) ?_
        rotate_left
        · intro wq hSw
          obtain ⟨mq, hmq, _, _⟩ := hSw
          have a4 := hmq.cp 4 _ rfl; have a6 := hmq.cp 6 _ rfl; have a7 := hmq.cp 7 _ rfl; have b4 := hmq.cq 4 _ rfl; have b6 := hmq.cq 6 _ rfl; have b7 := hmq.cq 7 _ rfl
          clear hmq
          go_simp
          try with_reducible rfl
        simp only [Act.put, List.setIfInBounds_toArray, List.set_cons_zero, List.set_cons_succ, List.getElem_toArray, List.getElem_cons_zero, List.getElem_cons_succ]
        refine wpAnyH_take (i := 9) (v := undef) rfl (by kernel_rfl) (by kernel_rfl) (by kernel_rfl) (fun _ _ _ h => h) (Or.inr ⟨by rfl, rfl⟩) (by assumption) ?_
        simp only [Act.put, List.setIfInBounds_toArray, List.set_cons_zero, List.set_cons_succ, List.getElem_toArray, List.getElem_cons_zero, List.getElem_cons_succ]
        refine wpAnyH_take (i := 10) (v := undef) rfl (by kernel_rfl) (by kernel_rfl) (by kernel_rfl) (fun _ _ _ h => h) (Or.inr ⟨by rfl, rfl⟩) (by assumption) ?_
        simp only [Act.put, List.setIfInBounds_toArray, List.set_cons_zero, List.set_cons_succ, List.getElem_toArray, List.getElem_cons_zero, List.getElem_cons_succ]
        refine wpAnyH_take (i := 11) (v := ?_) rfl (by kernel_rfl) (by kernel_rfl) (by kernel_rfl) (fun _ _ _ h => h) (Or.inl ⟨by rfl, ?_⟩) (by assumption) ?_
        rotate_left
        · intro wq hSw
          obtain ⟨mq, hmq, _, _⟩ := hSw
          have a4 := hmq.cp 4 _ rfl; have a6 := hmq.cp 6 _ rfl; have a7 := hmq.cp 7 _ rfl; have b4 := hmq.cq 4 _ rfl; have b6 := hmq.cq 6 _ rfl; have b7 := hmq.cq 7 _ rfl
          clear hmq
          go_simp
          try with_reducible rfl
        simp only [Act.put, List.setIfInBounds_toArray, List.set_cons_zero, List.set_cons_succ, List.getElem_toArray, List.getElem_cons_zero, List.getElem_cons_succ]
        refine wpAnyH_take (i := 12) (v := ?_) rfl (by kernel_rfl) (by kernel_rfl) (by kernel_rfl) (fun _ _ _ h => h) (Or.inl ⟨by rfl, ?_⟩) (by assumption) ?_
        rotate_left
        · intro wq hSw
          obtain ⟨mq, hmq, _, _⟩ := hSw
          have a4 := hmq.cp 4 _ rfl; have a6 := hmq.cp 6 _ rfl; have a7 := hmq.cp 7 _ rfl; have b4 := hmq.cq 4 _ rfl; have b6 := hmq.cq 6 _ rfl; have b7 := hmq.cq 7 _ rfl
          clear hmq
          go_simp
          try with_reducible rfl
        simp only [Act.put, List.setIfInBounds_toArray, List.set_cons_zero, List.set_cons_succ, List.getElem_toArray, List.getElem_cons_zero, List.getElem_cons_succ]
        refine wpAnyH_take (i := 13) (v := ?_) rfl (by kernel_rfl) (by kernel_rfl) (by kernel_rfl) (fun _ _ _ h => h) (Or.inl ⟨by rfl, ?_⟩) (by assumption) ?_
        rotate_left
        · intro wq hSw
          obtain ⟨mq, hmq, _, _⟩ := hSw
          have a4 := hmq.cp 4 _ rfl; have a6 := hmq.cp 6 _ rfl; have a7 := hmq.cp 7 _ rfl; have b4 := hmq.cq 4 _ rfl; have b6 := hmq.cq 6 _ rfl; have b7 := hmq.cq 7 _ rfl
          clear hmq
          go_simp
          try with_reducible rfl
        simp only [Act.put, List.setIfInBounds_toArray, List.set_cons_zero, List.set_cons_succ, List.getElem_toArray, List.getElem_cons_zero, List.getElem_cons_succ]
        refine wpAnyH_take (i := 14) (v := ?_) rfl (by kernel_rfl) (by kernel_rfl) (by kernel_rfl) (fun _ _ _ h => h) (Or.inl ⟨by rfl, ?_⟩) (by assumption) ?_
        rotate_left
        · intro wq hSw
          obtain ⟨mq, hmq, _, _⟩ := hSw
          have a4 := hmq.cp 4 _ rfl; have a6 := hmq.cp 6 _ rfl; have a7 := hmq.cp 7 _ rfl; have b4 := hmq.cq 4 _ rfl; have b6 := hmq.cq 6 _ rfl; have b7 := hmq.cq 7 _ rfl
          clear hmq
          go_simp
          try with_reducible rfl
        simp only [Act.put, List.setIfInBounds_toArray, List.set_cons_zero, List.set_cons_succ, List.getElem_toArray, List.getElem_cons_zero, List.getElem_cons_succ]
        refine wpAnyH_take (i := 15) (v := ?_) rfl (by kernel_rfl) (by kernel_rfl) (by kernel_rfl) (fun _ _ _ h => h) (Or.inl ⟨by rfl, ?_⟩) (by assumption) ?_
        rotate_left
        · intro wq hSw
          obtain ⟨mq, hmq, _, _⟩ := hSw
          have a4 := hmq.cp 4 _ rfl; have a6 := hmq.cp 6 _ rfl; have a7 := hmq.cp 7 _ rfl; have b4 := hmq.cq 4 _ rfl; have b6 := hmq.cq 6 _ rfl; have b7 := hmq.cq 7 _ rfl
          clear hmq
          go_simp
          try with_reducible rfl
        simp only [Act.put, List.setIfInBounds_toArray, List.set_cons_zero, List.set_cons_succ, List.getElem_toArray, List.getElem_cons_zero, List.getElem_cons_succ]
        refine wpAnyH_take (i := 16) (v := ?_) rfl (by kernel_rfl) (by kernel_rfl) (by kernel_rfl) (fun _ _ _ h => h) (Or.inl ⟨by rfl, ?_⟩) (by assumption) ?_
        rotate_left
        · intro wq hSw
          obtain ⟨mq, hmq, _, _⟩ := hSw
          have a4 := hmq.cp 4 _ rfl; have a6 := hmq.cp 6 _ rfl; have a7 := hmq.cp 7 _ rfl; have b4 := hmq.cq 4 _ rfl; have b6 := hmq.cq 6 _ rfl; have b7 := hmq.cq 7 _ rfl
          clear hmq
          go_simp
          try with_reducible rfl
        simp only [Act.put, List.setIfInBounds_toArray, List.set_cons_zero, List.set_cons_succ, List.getElem_toArray, List.getElem_cons_zero, List.getElem_cons_succ]
        refine wpAnyH_take (i := 17) (v := ?_) rfl (by kernel_rfl) (by kernel_rfl) (by kernel_rfl) (fun _ _ _ h => h) (Or.inl ⟨by rfl, ?_⟩) (by assumption) ?_
        rotate_left
        · intro wq hSw
          obtain ⟨mq, hmq, _, _⟩ := hSw
          have a4 := hmq.cp 4 _ rfl; have a6 := hmq.cp 6 _ rfl; have a7 := hmq.cp 7 _ rfl; have b4 := hmq.cq 4 _ rfl; have b6 := hmq.cq 6 _ rfl; have b7 := hmq.cq 7 _ rfl
          clear hmq
          go_simp
          try with_reducible rfl
        simp only [Act.put, List.setIfInBounds_toArray, List.set_cons_zero, List.set_cons_succ, List.getElem_toArray, List.getElem_cons_zero, List.getElem_cons_succ]
        refine wpAnyH_take (i := 18) (v := ?_) rfl (by kernel_rfl) (by kernel_rfl) (by kernel_rfl) (fun _ _ _ h => h) (Or.inl ⟨by rfl, ?_⟩) (by assumption) ?_
        rotate_left
        · intro wq hSw
          obtain ⟨mq, hmq, _, _⟩ := hSw
          have a4 := hmq.cp 4 _ rfl; have a6 := hmq.cp 6 _ rfl; have a7 := hmq.cp 7 _ rfl; have b4 := hmq.cq 4 _ rfl; have b6 := hmq.cq 6 _ rfl; have b7 := hmq.cq 7 _ rfl
          clear hmq
          go_simp
          try with_reducible rfl
        simp only [Act.put, List.setIfInBounds_toArray, List.set_cons_zero, List.set_cons_succ, List.getElem_toArray, List.getElem_cons_zero, List.getElem_cons_succ]
        refine wpAnyH_ready (rs := [19]) (by kernel_rfl) (by simp) ?_
        refine AllReadyH.cons rfl (fun K hK => ?_) AllReadyH.nil
        have hco := HE.out.co 4 _ rfl
        have hfo := HE.out.fo 4 (by decide)
        have HE2 := Lib.hid (HE.out.set4 (true))
        clear hHeld
        go_simp
        refine hK.out _ _ ⟨_, HE2.out, rfl, rfl⟩ ?_
        clear hK K hco hfo HE
        have HE := HE2
        clear HE2
        intro hHeld
        obtain ⟨we, hwe⟩ : ∃ x, x = World.setCell we ⟨w.heap.size + 3, 4, none⟩ (.bool (true)) := ⟨_, rfl⟩
        rw [← hwe] at HE hHeld ⊢
        clear hwe
        refine wpAnyH_take (i := 20) (v := ?_) rfl (by kernel_rfl) (by kernel_rfl) (by kernel_rfl) (fun _ _ _ h => h) (Or.inl ⟨by rfl, ?_⟩) (by assumption) ?_
        rotate_left
        · intro wq hSw
          obtain ⟨mq, hmq, _, _⟩ := hSw
          have a4 := hmq.cp 4 _ rfl; have a6 := hmq.cp 6 _ rfl; have a7 := hmq.cp 7 _ rfl; have b4 := hmq.cq 4 _ rfl; have b6 := hmq.cq 6 _ rfl; have b7 := hmq.cq 7 _ rfl
          clear hmq
          go_simp
          try with_reducible rfl
        simp only [Act.put, List.setIfInBounds_toArray, List.set_cons_zero, List.set_cons_succ, List.getElem_toArray, List.getElem_cons_zero, List.getElem_cons_succ]
        refine wpAnyH_ready (rs := [21]) (by kernel_rfl) (by simp) ?_
        refine AllReadyH.cons rfl (fun K hK => ?_) AllReadyH.nil
        have hco := HE.out.co 6 _ rfl
        have hfo := HE.out.fo 6 (by decide)
        have HE2 := Lib.hid (HE.out.set6 (true))
        clear hHeld
        go_simp
        refine hK.out _ _ ⟨_, HE2.out, rfl, rfl⟩ ?_
        clear hK K hco hfo HE
        have HE := HE2
        clear HE2
        intro hHeld
        obtain ⟨we, hwe⟩ : ∃ x, x = World.setCell we ⟨w.heap.size + 3, 6, none⟩ (.bool (true)) := ⟨_, rfl⟩
        rw [← hwe] at HE hHeld ⊢
        clear hwe
        refine wpAnyH_take (i := 22) (v := ?_) rfl (by kernel_rfl) (by kernel_rfl) (by kernel_rfl) (fun _ _ _ h => h) (Or.inl ⟨by rfl, ?_⟩) (by assumption) ?_
        rotate_left
        · intro wq hSw
          obtain ⟨mq, hmq, _, _⟩ := hSw
          have a4 := hmq.cp 4 _ rfl; have a6 := hmq.cp 6 _ rfl; have a7 := hmq.cp 7 _ rfl; have b4 := hmq.cq 4 _ rfl; have b6 := hmq.cq 6 _ rfl; have b7 := hmq.cq 7 _ rfl
          clear hmq
          go_simp
          try with_reducible rfl
        simp only [Act.put, List.setIfInBounds_toArray, List.set_cons_zero, List.set_cons_succ, List.getElem_toArray, List.getElem_cons_zero, List.getElem_cons_succ]
        refine wpAnyH_ready (rs := [23]) (by kernel_rfl) (by simp) ?_
        refine AllReadyH.cons rfl (fun K hK => ?_) AllReadyH.nil
        have hco := HE.out.co 7 _ rfl
        have hfo := HE.out.fo 7 (by decide)
        have HE2 := Lib.hid (HE.out.set7 (q.mention))
        clear hHeld
        go_simp
        refine hK.out _ _ ⟨_, HE2.out, rfl, rfl⟩ ?_
        clear hK K hco hfo HE
        have HE := HE2
        clear HE2
        intro hHeld
        obtain ⟨we, hwe⟩ : ∃ x, x = World.setCell we ⟨w.heap.size + 3, 7, none⟩ (.bool (q.mention)) := ⟨_, rfl⟩
        rw [← hwe] at HE hHeld ⊢
        clear hwe
        clear hHeld
        refine wpAnyH_done (by kernel_rfl) ?_ _
        go_wp2
        all_goals (go_meet; unfold J3; rw [h4, h6, h7]; exact HE.out)
      · as_aux_lemma =>
        go_wp2_with fail
        refine wp_region_held_drew (S := JX p q A B c d w.heap.size w) (by kernel_rfl) ⟨_, HE.out.later (Below.refl _ _).drew, rfl, rfl⟩ ?_
        intro hHeld
        have HE := Lib.hid (HE.out.later (Below.refl _ _).drew)
        obtain ⟨we, hwe⟩ : ∃ x, x = World.drew wc := ⟨_, rfl⟩
        rw [← hwe] at HE hHeld ⊢
        clear hwe
        refine wpAnyH_take (i := 0) (v := ?_) rfl (by kernel_rfl) (by kernel_rfl) (by kernel_rfl) (fun _ _ _ h => h) (Or.inl ⟨by rfl, ?_⟩) (by assumption) ?_
        rotate_left
        · intro wq hSw
          obtain ⟨mq, hmq, _, _⟩ := hSw
          have a4 := hmq.cp 4 _ rfl; have a6 := hmq.cp 6 _ rfl; have a7 := hmq.cp 7 _ rfl; have b4 := hmq.cq 4 _ rfl; have b6 := hmq.cq 6 _ rfl; have b7 := hmq.cq 7 _ rfl
          clear hmq
          go_simp
          try with_reducible rfl
        simp only [Act.put, List.setIfInBounds_toArray, List.set_cons_zero, List.set_cons_succ, List.getElem_toArray, List.getElem_cons_zero]
        refine wpAnyH_take (i := 1) (v := ?_) rfl (by kernel_rfl) (by kernel_rfl) (by kernel_rfl) (fun _ _ _ h => h) (Or.inl ⟨by rfl, ?_⟩) (by assumption) ?_
        rotate_left
        · intro wq hSw
          obtain ⟨mq, hmq, _, _⟩ := hSw
          have a4 := hmq.cp 4 _ rfl; have a6 := hmq.cp 6 _ rfl; have a7 := hmq.cp 7 _ rfl; have b4 := hmq.cq 4 _ rfl; have b6 := hmq.cq 6 _ rfl; have b7 := hmq.cq 7 _ rfl
          clear hmq
          go_simp
          try with_reducible rfl
        simp only [Act.put, List.setIfInBounds_toArray, List.set_cons_zero, List.set_cons_succ, List.getElem_toArray, List.getElem_cons_zero, List.getElem_cons_succ]
        refine wpAnyH_take (i := 2) (v := ?_) rfl (by kernel_rfl) (by kernel_rfl) (by kernel_rfl) (fun _ _ _ h => h) (Or.inl ⟨by rfl, ?_⟩) (by assumption) ?_
        rotate_left
        · intro wq hSw
          obtain ⟨mq, hmq, _, _⟩ := hSw
          have a4 := hmq.cp 4 _ rfl; have a6 := hmq.cp 6 _ rfl; have a7 := hmq.cp 7 _ rfl; have b4 := hmq.cq 4 _ rfl; have b6 := hmq.cq 6 _ rfl; have b7 := hmq.cq 7 _ rfl
          clear hmq
          go_simp
          try with_reducible rfl
        simp only [Act.put, List.setIfInBounds_toArray, List.set_cons_zero, List.set_cons_succ, List.getElem_toArray, List.getElem_cons_zero, List.getElem_cons_succ]
        refine wpAnyH_take (i := 3) (v := undef) rfl (by kernel_rfl) (by kernel_rfl) (by kernel_rfl) (fun _ _ _ h => h) (Or.inr ⟨by rfl, rfl⟩) (by assumption) ?_
        simp only [Act.put, List.setIfInBounds_toArray, List.set_cons_zero, List.set_cons_succ, List.getElem_toArray, List.getElem_cons_zero, List.getElem_cons_succ]
        refine wpAnyH_take (i := 4) (v := undef) rfl (by kernel_rfl) (by kernel_rfl) (by kernel_rfl) (fun _ _ _ h => h) (Or.inr ⟨by rfl, rfl⟩) (by assumption) ?_
        simp only [Act.put, List.setIfInBounds_toArray, List.set_cons_zero, List.set_cons_succ, List.getElem_toArray, List.getElem_cons_zero, List.getElem_cons_succ]
        refine wpAnyH_take (i := 5) (v := ?_) rfl (by kernel_rfl) (by kernel_rfl) (by kernel_rfl) (fun _ _ _ h => h) (Or.inl ⟨by rfl, ?_⟩) (by assumption) ?_
        rotate_left
        · intro wq hSw
          obtain ⟨mq, hmq, _, _⟩ := hSw
          have a4 := hmq.cp 4 _ rfl; have a6 := hmq.cp 6 _ rfl; have a7 := hmq.cp 7 _ rfl; have b4 := hmq.cq 4 _ rfl; have b6 := hmq.cq 6 _ rfl; have b7 := hmq.cq 7 _ rfl
          clear hmq
          go_simp
          try with_reducible rfl
        simp only [Act.put, List.setIfInBounds_toArray, List.set_cons_zero, List.set_cons_succ, List.getElem_toArray, List.getElem_cons_zero, List.getElem_cons_succ]
        refine wpAnyH_take (i := 6) (v := ?_) rfl (by kernel_rfl) (by kernel_rfl) (by kernel_rfl) (fun _ _ _ h => h) (Or.inl ⟨by rfl, ?_⟩) (by assumption) ?_
        rotate_left
        · intro wq hSw
          obtain ⟨mq, hmq, _, _⟩ := hSw
          have a4 := hmq.cp 4 _ rfl; have a6 := hmq.cp 6 _ rfl; have a7 := hmq.cp 7 _ rfl; have b4 := hmq.cq 4 _ rfl; have b6 := hmq.cq 6 _ rfl; have b7 := hmq.cq 7 _ rfl
          clear hmq
          go_simp
          try with_reducible rfl
        simp only [Act.put, List.setIfInBounds_toArray, List.set_cons_zero, List.set_cons_succ, List.getElem_toArray, List.getElem_cons_zero, List.getElem_cons_succ]
        refine wpAnyH_take (i := 7) (v := ?_) rfl (by kernel_rfl) (by kernel_rfl) (by kernel_rfl) (fun _ _ _ h => h) (Or.inl ⟨by rfl, ?_⟩) (by assumption) ?_
        rotate_left
        · intro wq hSw
          obtain ⟨mq, hmq, _, _⟩ := hSw
          have a4 := hmq.cp 4 _ rfl; have a6 := hmq.cp 6 _ rfl; have a7 := hmq.cp 7 _ rfl; have b4 := hmq.cq 4 _ rfl; have b6 := hmq.cq 6 _ rfl; have b7 := hmq.cq 7 _ rfl
          clear hmq
          go_simp
          try with_reducible rfl
        simp only [Act.put, List.setIfInBounds_toArray, List.set_cons_zero, List.set_cons_succ, List.getElem_toArray, List.getElem_cons_zero, List.getElem_cons_succ]
        refine wpAnyH_take (i := 8) (v := ?_) rfl (by kernel_rfl) (by kernel_rfl) (by kernel_rfl) (fun _ _ _ h => h) (Or.inl ⟨by rfl, ?_⟩) (by assumption) ?_
        rotate_left
        · intro wq hSw
          obtain ⟨mq, hmq, _, _⟩ := hSw
          have a4 := hmq.cp 4 _ rfl; have a6 := hmq.cp 6 _ rfl; have a7 := hmq.cp 7 _ rfl; have b4 := hmq.cq 4 _ rfl; have b6 := hmq.cq 6 _ rfl; have b7 := hmq.cq 7 _ rfl
          clear hmq
          go_simp
          try with_reducible rfl
        simp only [Act.put, List.setIfInBounds_toArray, List.set_cons_zero, List.set_cons_succ, List.getElem_toArray, List.getElem_cons_zero, List.getElem_cons_succ]
        refine wpAnyH_take (i := 9) (v := undef) rfl (by kernel_rfl) (by kernel_rfl) (by kernel_rfl) (fun _ _ _ h => h) (Or.inr ⟨by rfl, rfl⟩) (by assumption) ?_
        simp only [Act.put, List.setIfInBounds_toArray, List.set_cons_zero, List.set_cons_succ, List.getElem_toArray, List.getElem_cons_zero, List.getElem_cons_succ]
        refine wpAnyH_take (i := 10) (v := undef) rfl (by kernel_rfl) (by kernel_rfl) (by kernel_rfl) (fun _ _ _ h => h) (Or.inr ⟨by rfl, rfl⟩) (by assumption) ?_
        simp only [Act.put, List.setIfInBounds_toArray, List.set_cons_zero, List.set_cons_succ, List.getElem_toArray, List.getElem_cons_zero, List.getElem_cons_succ]
        refine wpAnyH_take (i := 11) (v := ?_) rfl (by kernel_rfl) (by kernel_rfl) (by kernel_rfl) (fun _ _ _ h => h) (Or.inl ⟨by rfl, ?_⟩) (by assumption) ?_
        rotate_left
        · intro wq hSw
          obtain ⟨mq, hmq, _, _⟩ := hSw
          have a4 := hmq.cp 4 _ rfl; have a6 := hmq.cp 6 _ rfl; have a7 := hmq.cp 7 _ rfl; have b4 := hmq.cq 4 _ rfl; have b6 := hmq.cq 6 _ rfl; have b7 := hmq.cq 7 _ rfl
          clear hmq
          go_simp
          try with_reducible rfl
        simp only [Act.put, List.setIfInBounds_toArray, List.set_cons_zero, List.set_cons_succ, List.getElem_toArray, List.getElem_cons_zero, List.getElem_cons_succ]
        refine wpAnyH_take (i := 12) (v := ?_) rfl (by kernel_rfl) (by kernel_rfl) (by kernel_rfl) (fun _ _ _ h => h) (Or.inl ⟨by rfl, ?_⟩) (by assumption) ?_
        rotate_left
        · intro wq hSw
          obtain ⟨mq, hmq, _, _⟩ := hSw
          have a4 := hmq.cp 4 _ rfl; have a6 := hmq.cp 6 _ rfl; have a7 := hmq.cp 7 _ rfl; have b4 := hmq.cq 4 _ rfl; have b6 := hmq.cq 6 _ rfl; have b7 := hmq.cq 7 _ rfl
          clear hmq
          go_simp
          try with_reducible rfl
        simp only [Act.put, List.setIfInBounds_toArray, List.set_cons_zero, List.set_cons_succ, List.getElem_toArray, List.getElem_cons_zero, List.getElem_cons_succ]
        refine wpAnyH_take (i := 13) (v := ?_) rfl (by kernel_rfl) (by kernel_rfl) (by kernel_rfl) (fun _ _ _ h => h) (Or.inl ⟨by rfl, ?_⟩) (by assumption) ?_
        rotate_left
        · intro wq hSw
          obtain ⟨mq, hmq, _, _⟩ := hSw
          have a4 := hmq.cp 4 _ rfl; have a6 := hmq.cp 6 _ rfl; have a7 := hmq.cp 7 _ rfl; have b4 := hmq.cq 4 _ rfl; have b6 := hmq.cq 6 _ rfl; have b7 := hmq.cq 7 _ rfl
          clear hmq
          go_simp
          try with_reducible rfl
        simp only [Act.put, List.setIfInBounds_toArray, List.set_cons_zero, List.set_cons_succ, List.getElem_toArray, List.getElem_cons_zero, List.getElem_cons_succ]
        refine wpAnyH_take (i := 14) (v := ?_) rfl (by kernel_rfl) (by kernel_rfl) (by kernel_rfl) (fun _ _ _ h => h) (Or.inl ⟨by rfl, ?_⟩) (by assumption) ?_
        rotate_left
        · intro wq hSw
          obtain ⟨mq, hmq, _, _⟩ := hSw
          have a4 := hmq.cp 4 _ rfl; have a6 := hmq.cp 6 _ rfl; have a7 := hmq.cp 7 _ rfl; have b4 := hmq.cq 4 _ rfl; have b6 := hmq.cq 6 _ rfl; have b7 := hmq.cq 7 _ rfl
          clear hmq
          go_simp
          try with_reducible rfl
        simp only [Act.put, List.setIfInBounds_toArray, List.set_cons_zero, List.set_cons_succ, List.getElem_toArray, List.getElem_cons_zero, List.getElem_cons_succ]
        refine wpAnyH_take (i := 15) (v := undef) rfl (by kernel_rfl) (by kernel_rfl) (by kernel_rfl) (fun _ _ _ h => h) (Or.inr ⟨by rfl, rfl⟩) (by assumption) ?_
        simp only [Act.put, List.setIfInBounds_toArray, List.set_cons_zero, List.set_cons_succ, List.getElem_toArray, List.getElem_cons_zero, List.getElem_cons_succ]
        refine wpAnyH_take (i := 16) (v := undef) rfl (by kernel_rfl) (by kernel_rfl) (by kernel_rfl) (fun _ _ _ h => h) (Or.inr ⟨by rfl, rfl⟩) (by assumption) ?_
        simp only [Act.put, List.setIfInBounds_toArray, List.set_cons_zero, List.set_cons_succ, List.getElem_toArray, List.getElem_cons_zero, List.getElem_cons_succ]
        refine wpAnyH_take (i := 17) (v := ?_) rfl (by kernel_rfl) (by kernel_rfl) (by kernel_rfl) (fun _ _ _ h => h) (Or.inl ⟨by rfl, ?_⟩) (by assumption) ?_
        rotate_left
        · intro wq hSw
          obtain ⟨mq, hmq, _, _⟩ := hSw
          have a4 := hmq.cp 4 _ rfl; have a6 := hmq.cp 6 _ rfl; have a7 := hmq.cp 7 _ rfl; have b4 := hmq.cq 4 _ rfl; have b6 := hmq.cq 6 _ rfl; have b7 := hmq.cq 7 _ rfl
          clear hmq
          go_simp
          try with_reducible rfl
        simp only [Act.put, List.setIfInBounds_toArray, List.set_cons_zero, List.set_cons_succ, List.getElem_toArray, List.getElem_cons_zero, List.getElem_cons_succ]
        refine wpAnyH_take (i := 18) (v := ?_) rfl (by kernel_rfl) (by kernel_rfl) (by kernel_rfl) (fun _ _ _ h => h) (Or.inl ⟨by rfl, ?_⟩) (by assumption) ?_
        rotate_left
        · intro wq hSw
          obtain ⟨mq, hmq, _, _⟩ := hSw
          have a4 := hmq.cp 4 _ rfl; have a6 := hmq.cp 6 _ rfl; have a7 := hmq.cp 7 _ rfl; have b4 := hmq.cq 4 _ rfl; have b6 := hmq.cq 6 _ rfl; have b7 := hmq.cq 7 _ rfl
          clear hmq
          go_simp
          try with_reducible rfl
        simp only [Act.put, List.setIfInBounds_toArray, List.set_cons_zero, List.set_cons_succ, List.getElem_toArray, List.getElem_cons_zero, List.getElem_cons_succ]
        refine wpAnyH_ready (rs := [19]) (by kernel_rfl) (by simp) ?_
        refine AllReadyH.cons rfl (fun K hK => ?_) AllReadyH.nil
        have hco := HE.out.co 4 _ rfl
        have hfo := HE.out.fo 4 (by decide)
        have HE2 := Lib.hid (HE.out.set4 (true))
        clear hHeld
        go_simp
        refine hK.out _ _ ⟨_, HE2.out, rfl, rfl⟩ ?_
        clear hK K hco hfo HE
        have HE := HE2
        clear HE2
        intro hHeld
        obtain ⟨we, hwe⟩ : ∃ x, x = World.setCell we ⟨w.heap.size + 3, 4, none⟩ (.bool (true)) := ⟨_, rfl⟩
        rw [← hwe] at HE hHeld ⊢
        clear hwe
        refine wpAnyH_take (i := 20) (v := ?_) rfl (by kernel_rfl) (by kernel_rfl) (by kernel_rfl) (fun _ _ _ h => h) (Or.inl ⟨by rfl, ?_⟩) (by assumption) ?_
        rotate_left
        · intro wq hSw
          obtain ⟨mq, hmq, _, _⟩ := hSw
          have a4 := hmq.cp 4 _ rfl; have a6 := hmq.cp 6 _ rfl; have a7 := hmq.cp 7 _ rfl; have b4 := hmq.cq 4 _ rfl; have b6 := hmq.cq 6 _ rfl; have b7 := hmq.cq 7 _ rfl
          clear hmq
          go_simp
          try with_reducible rfl
        simp only [Act.put, List.setIfInBounds_toArray, List.set_cons_zero, List.set_cons_succ, List.getElem_toArray, List.getElem_cons_zero, List.getElem_cons_succ]
        refine wpAnyH_ready (rs := [21]) (by kernel_rfl) (by simp) ?_
        refine AllReadyH.cons rfl (fun K hK => ?_) AllReadyH.nil
        have hco := HE.out.co 6 _ rfl
        have hfo := HE.out.fo 6 (by decide)
        have HE2 := Lib.hid (HE.out.set6 (true))
        clear hHeld
        go_simp
        refine hK.out _ _ ⟨_, HE2.out, rfl, rfl⟩ ?_
        clear hK K hco hfo HE
        have HE := HE2
        clear HE2
        intro hHeld
        obtain ⟨we, hwe⟩ : ∃ x, x = World.setCell we ⟨w.heap.size + 3, 6, none⟩ (.bool (true)) := ⟨_, rfl⟩
        rw [← hwe] at HE hHeld ⊢
        clear hwe
        refine wpAnyH_take (i := 22) (v := ?_) rfl (by kernel_rfl) (by kernel_rfl) (by kernel_rfl) (fun _ _ _ h => h) (Or.inl ⟨by rfl, ?_⟩) (by assumption) ?_
        rotate_left
        · intro wq hSw
          obtain ⟨mq, hmq, _, _⟩ := hSw
          have a4 := hmq.cp 4 _ rfl; have a6 := hmq.cp 6 _ rfl; have a7 := hmq.cp 7 _ rfl; have b4 := hmq.cq 4 _ rfl; have b6 := hmq.cq 6 _ rfl; have b7 := hmq.cq 7 _ rfl
          clear hmq
          go_simp
          try with_reducible rfl
        simp only [Act.put, List.setIfInBounds_toArray, List.set_cons_zero, List.set_cons_succ, List.getElem_toArray, List.getElem_cons_zero, List.getElem_cons_succ]
        refine wpAnyH_ready (rs := [23]) (by kernel_rfl) (by simp) ?_
        refine AllReadyH.cons rfl (fun K hK => ?_) AllReadyH.nil
        have hco := HE.out.co 7 _ rfl
        have hfo := HE.out.fo 7 (by decide)
        have HE2 := Lib.hid (HE.out.set7 (true))
        clear hHeld
        go_simp
        refine hK.out _ _ ⟨_, HE2.out, rfl, rfl⟩ ?_
        clear hK K hco hfo HE
        have HE := HE2
        clear HE2
        intro hHeld
        obtain ⟨we, hwe⟩ : ∃ x, x = World.setCell we ⟨w.heap.size + 3, 7, none⟩ (.bool (true)) := ⟨_, rfl⟩
        rw [← hwe] at HE hHeld ⊢
        clear hwe
        clear hHeld
        refine wpAnyH_done (by kernel_rfl) ?_ _
        go_wp2
        all_goals (go_meet; unfold J3; rw [h4, h6, h7]; exact HE.out)
    case rest =>
      have HE := Lib.hid hcut
      clear hcut
      go_upto_region 4 with fail
      go_cut [62] (fun v wx => MS p q A B c d w.heap.size w (J4 p q) A c wx)
      case first =>
        as_aux_lemma =>
        go_wp2_with fail
        refine wp_region_held_drew (S := JX p q A B c d w.heap.size w) (by kernel_rfl) ⟨_, HE.out.later (Below.refl _ _).drew, rfl, rfl⟩ ?_
        intro hHeld
        have HE := Lib.hid (HE.out.later (Below.refl _ _).drew)
        obtain ⟨we, hwe⟩ : ∃ x, x = World.drew wc := ⟨_, rfl⟩
        rw [← hwe] at HE hHeld ⊢
        clear hwe
        refine wpAnyH_take (i := 0) (v := ?_) rfl (by kernel_rfl) (by kernel_rfl) (by kernel_rfl) (fun _ _ _ h => h) (Or.inl ⟨by rfl, ?_⟩) (by assumption) ?_
        rotate_left
        · intro wq hSw
          obtain ⟨mq, hmq, _, _⟩ := hSw
          have a8 := hmq.cp 8 _ rfl; have a9 := hmq.cp 9 _ rfl; have a16 := hmq.cp 16 _ rfl; have b8 := hmq.cq 8 _ rfl; have b9 := hmq.cq 9 _ rfl; have b16 := hmq.cq 16 _ rfl
          clear hmq
          go_simp
          try with_reducible rfl
        simp only [Act.put, List.setIfInBounds_toArray, List.set_cons_zero, List.set_cons_succ, List.getElem_toArray, List.getElem_cons_zero]
        refine wpAnyH_take (i := 1) (v := ?_) rfl (by kernel_rfl) (by kernel_rfl) (by kernel_rfl) (fun _ _ _ h => h) (Or.inl ⟨by rfl, ?_⟩) (by assumption) ?_
        rotate_left
        · intro wq hSw
          obtain ⟨mq, hmq, _, _⟩ := hSw
          have a8 := hmq.cp 8 _ rfl; have a9 := hmq.cp 9 _ rfl; have a16 := hmq.cp 16 _ rfl; have b8 := hmq.cq 8 _ rfl; have b9 := hmq.cq 9 _ rfl; have b16 := hmq.cq 16 _ rfl
          clear hmq
          go_simp
          try with_reducible rfl
        simp only [Act.put, List.setIfInBounds_toArray, List.set_cons_zero, List.set_cons_succ, List.getElem_toArray, List.getElem_cons_zero, List.getElem_cons_succ]
        refine wpAnyH_take (i := 2) (v := ?_) rfl (by kernel_rfl) (by kernel_rfl) (by kernel_rfl) (fun _ _ _ h => h) (Or.inl ⟨by rfl, ?_⟩) (by assumption) ?_
        rotate_left
        · intro wq hSw
          obtain ⟨mq, hmq, _, _⟩ := hSw
          have a8 := hmq.cp 8 _ rfl; have a9 := hmq.cp 9 _ rfl; have a16 := hmq.cp 16 _ rfl; have b8 := hmq.cq 8 _ rfl; have b9 := hmq.cq 9 _ rfl; have b16 := hmq.cq 16 _ rfl
          clear hmq
          go_simp
          try with_reducible rfl
        simp only [Act.put, List.setIfInBounds_toArray, List.set_cons_zero, List.set_cons_succ, List.getElem_toArray, List.getElem_cons_zero, List.getElem_cons_succ]
        refine wpAnyH_take (i := 3) (v := ?_) rfl (by kernel_rfl) (by kernel_rfl) (by kernel_rfl) (fun _ _ _ h => h) (Or.inl ⟨by rfl, ?_⟩) (by assumption) ?_
        rotate_left
        · intro wq hSw
          obtain ⟨mq, hmq, _, _⟩ := hSw
          have a8 := hmq.cp 8 _ rfl; have a9 := hmq.cp 9 _ rfl; have a16 := hmq.cp 16 _ rfl; have b8 := hmq.cq 8 _ rfl; have b9 := hmq.cq 9 _ rfl; have b16 := hmq.cq 16 _ rfl
          clear hmq
          go_simp
          try with_reducible rfl
        simp only [Act.put, List.setIfInBounds_toArray, List.set_cons_zero, List.set_cons_succ, List.getElem_toArray, List.getElem_cons_zero, List.getElem_cons_succ]
        refine wpAnyH_take (i := 4) (v := ?_) rfl (by kernel_rfl) (by kernel_rfl) (by kernel_rfl) (fun _ _ _ h => h) (Or.inl ⟨by rfl, ?_⟩) (by assumption) ?_
        rotate_left
        · intro wq hSw
          obtain ⟨mq, hmq, _, _⟩ := hSw
          have a8 := hmq.cp 8 _ rfl; have a9 := hmq.cp 9 _ rfl; have a16 := hmq.cp 16 _ rfl; have b8 := hmq.cq 8 _ rfl; have b9 := hmq.cq 9 _ rfl; have b16 := hmq.cq 16 _ rfl
          clear hmq
          go_simp
          try with_reducible rfl
        simp only [Act.put, List.setIfInBounds_toArray, List.set_cons_zero, List.set_cons_succ, List.getElem_toArray, List.getElem_cons_zero, List.getElem_cons_succ]
        refine wpAnyH_take (i := 5) (v := ?_) rfl (by kernel_rfl) (by kernel_rfl) (by kernel_rfl) (fun _ _ _ h => h) (Or.inl ⟨by rfl, ?_⟩) (by assumption) ?_
        rotate_left
        · intro wq hSw
          obtain ⟨mq, hmq, _, _⟩ := hSw
          have a8 := hmq.cp 8 _ rfl; have a9 := hmq.cp 9 _ rfl; have a16 := hmq.cp 16 _ rfl; have b8 := hmq.cq 8 _ rfl; have b9 := hmq.cq 9 _ rfl; have b16 := hmq.cq 16 _ rfl
          clear hmq
          go_simp
          try with_reducible rfl
        simp only [Act.put, List.setIfInBounds_toArray, List.set_cons_zero, List.set_cons_succ, List.getElem_toArray, List.getElem_cons_zero, List.getElem_cons_succ]
        refine wpAnyH_take (i := 6) (v := ?_) rfl (by kernel_rfl) (by kernel_rfl) (by kernel_rfl) (fun _ _ _ h => h) (Or.inl ⟨by rfl, ?_⟩) (by assumption) ?_
        rotate_left
        · intro wq hSw
          obtain ⟨mq, hmq, _, _⟩ := hSw
          have a8 := hmq.cp 8 _ rfl; have a9 := hmq.cp 9 _ rfl; have a16 := hmq.cp 16 _ rfl; have b8 := hmq.cq 8 _ rfl; have b9 := hmq.cq 9 _ rfl; have b16 := hmq.cq 16 _ rfl
          clear hmq
          go_simp
          try with_reducible rfl
        simp only [Act.put, List.setIfInBounds_toArray, List.set_cons_zero, List.set_cons_succ, List.getElem_toArray, List.getElem_cons_zero, List.getElem_cons_succ]
        refine wpAnyH_take (i := 7) (v := ?_) rfl (by kernel_rfl) (by kernel_rfl) (by kernel_rfl) (fun _ _ _ h => h) (Or.inl ⟨by rfl, ?_⟩) (by assumption) ?_
        rotate_left
        · intro wq hSw
          obtain ⟨mq, hmq, _, _⟩ := hSw
          have a8 := hmq.cp 8 _ rfl; have a9 := hmq.cp 9 _ rfl; have a16 := hmq.cp 16 _ rfl; have b8 := hmq.cq 8 _ rfl; have b9 := hmq.cq 9 _ rfl; have b16 := hmq.cq 16 _ rfl
          clear hmq
          go_simp
          try with_reducible rfl
        simp only [Act.put, List.setIfInBounds_toArray, List.set_cons_zero, List.set_cons_succ, List.getElem_toArray, List.getElem_cons_zero, List.getElem_cons_succ]
        refine wpAnyH_take (i := 8) (v := ?_) rfl (by kernel_rfl) (by kernel_rfl) (by kernel_rfl) (fun _ _ _ h => h) (Or.inl ⟨by rfl, ?_⟩) (by assumption) ?_
        rotate_left
        · intro wq hSw
          obtain ⟨mq, hmq, _, _⟩ := hSw
          have a8 := hmq.cp 8 _ rfl; have a9 := hmq.cp 9 _ rfl; have a16 := hmq.cp 16 _ rfl; have b8 := hmq.cq 8 _ rfl; have b9 := hmq.cq 9 _ rfl; have b16 := hmq.cq 16 _ rfl
          clear hmq
          go_simp
          try with_reducible rfl
        simp only [Act.put, List.setIfInBounds_toArray, List.set_cons_zero, List.set_cons_succ, List.getElem_toArray, List.getElem_cons_zero, List.getElem_cons_succ]
        refine wpAnyH_take (i := 9) (v := ?_) rfl (by kernel_rfl) (by kernel_rfl) (by kernel_rfl) (fun _ _ _ h => h) (Or.inl ⟨by rfl, ?_⟩) (by assumption) ?_
        rotate_left
        · intro wq hSw
          obtain ⟨mq, hmq, _, _⟩ := hSw
          have a8 := hmq.cp 8 _ rfl; have a9 := hmq.cp 9 _ rfl; have a16 := hmq.cp 16 _ rfl; have b8 := hmq.cq 8 _ rfl; have b9 := hmq.cq 9 _ rfl; have b16 := hmq.cq 16 _ rfl
          clear hmq
          go_simp
          try with_reducible rfl
        simp only [Act.put, List.setIfInBounds_toArray, List.set_cons_zero, List.set_cons_succ, List.getElem_toArray, List.getElem_cons_zero, List.getElem_cons_succ]
        refine wpAnyH_take (i := 10) (v := ?_) rfl (by kernel_rfl) (by kernel_rfl) (by kernel_rfl) (fun _ _ _ h => h) (Or.inl ⟨by rfl, ?_⟩) (by assumption) ?_
        rotate_left
        · intro wq hSw
          obtain ⟨mq, hmq, _, _⟩ := hSw
          have a8 := hmq.cp 8 _ rfl; have a9 := hmq.cp 9 _ rfl; have a16 := hmq.cp 16 _ rfl; have b8 := hmq.cq 8 _ rfl; have b9 := hmq.cq 9 _ rfl; have b16 := hmq.cq 16 _ rfl
          clear hmq
          go_simp
          try with_reducible rfl
        simp only [Act.put, List.setIfInBounds_toArray, List.set_cons_zero, List.set_cons_succ, List.getElem_toArray, List.getElem_cons_zero, List.getElem_cons_succ]
        refine wpAnyH_take (i := 11) (v := ?_) rfl (by kernel_rfl) (by kernel_rfl) (by kernel_rfl) (fun _ _ _ h => h) (Or.inl ⟨by rfl, ?_⟩) (by assumption) ?_
        rotate_left
        · intro wq hSw
          obtain ⟨mq, hmq, _, _⟩ := hSw
          have a8 := hmq.cp 8 _ rfl; have a9 := hmq.cp 9 _ rfl; have a16 := hmq.cp 16 _ rfl; have b8 := hmq.cq 8 _ rfl; have b9 := hmq.cq 9 _ rfl; have b16 := hmq.cq 16 _ rfl
          clear hmq
          go_simp
          try with_reducible rfl
        simp only [Act.put, List.setIfInBounds_toArray, List.set_cons_zero, List.set_cons_succ, List.getElem_toArray, List.getElem_cons_zero, List.getElem_cons_succ]
        refine wpAnyH_take (i := 12) (v := ?_) rfl (by kernel_rfl) (by kernel_rfl) (by kernel_rfl) (fun _ _ _ h => h) (Or.inl ⟨by rfl, ?_⟩) (by assumption) ?_
        rotate_left
        · intro wq hSw
          obtain ⟨mq, hmq, _, _⟩ := hSw
          have a8 := hmq.cp 8 _ rfl; have a9 := hmq.cp 9 _ rfl; have a16 := hmq.cp 16 _ rfl; have b8 := hmq.cq 8 _ rfl; have b9 := hmq.cq 9 _ rfl; have b16 := hmq.cq 16 _ rfl
          clear hmq
          go_simp
          try with_reducible rfl
        simp only [Act.put, List.setIfInBounds_toArray, List.set_cons_zero, List.set_cons_succ, List.getElem_toArray, List.getElem_cons_zero, List.getElem_cons_succ]
        refine wpAnyH_take (i := 13) (v := ?_) rfl (by kernel_rfl) (by kernel_rfl) (by kernel_rfl) (fun _ _ _ h => h) (Or.inl ⟨by rfl, ?_⟩) (by assumption) ?_
        rotate_left
        · intro wq hSw
          obtain ⟨mq, hmq, _, _⟩ := hSw
          have a8 := hmq.cp 8 _ rfl; have a9 := hmq.cp 9 _ rfl; have a16 := hmq.cp 16 _ rfl; have b8 := hmq.cq 8 _ rfl; have b9 := hmq.cq 9 _ rfl; have b16 := hmq.cq 16 _ rfl
          clear hmq
          go_simp
          try with_reducible rfl
        simp only [Act.put, List.setIfInBounds_toArray, List.set_cons_zero, List.set_cons_succ, List.getElem_toArray, List.getElem_cons_zero, List.getElem_cons_succ]
        refine wpAnyH_take (i := 14) (v := ?_) rfl (by kernel_rfl) (by kernel_rfl) (by kernel_rfl) (fun _ _ _ h => h) (Or.inl ⟨by rfl, ?_⟩) (by assumption) ?_
        rotate_left
        · intro wq hSw
          obtain ⟨mq, hmq, _, _⟩ := hSw
          have a8 := hmq.cp 8 _ rfl; have a9 := hmq.cp 9 _ rfl; have a16 := hmq.cp 16 _ rfl; have b8 := hmq.cq 8 _ rfl; have b9 := hmq.cq 9 _ rfl; have b16 := hmq.cq 16 _ rfl
          clear hmq
          go_simp
          try with_reducible rfl
        simp only [Act.put, List.setIfInBounds_toArray, List.set_cons_zero, List.set_cons_succ, List.getElem_toArray, List.getElem_cons_zero, List.getElem_cons_succ]
        refine wpAnyH_take (i := 15) (v := ?_) rfl (by kernel_rfl) (by kernel_rfl) (by kernel_rfl) (fun _ _ _ h => h) (Or.inl ⟨by rfl, ?_⟩) (by assumption) ?_
        rotate_left
        · intro wq hSw
          obtain ⟨mq, hmq, _, _⟩ := hSw
          have a8 := hmq.cp 8 _ rfl; have a9 := hmq.cp 9 _ rfl; have a16 := hmq.cp 16 _ rfl; have b8 := hmq.cq 8 _ rfl; have b9 := hmq.cq 9 _ rfl; have b16 := hmq.cq 16 _ rfl
          clear hmq
          go_simp
          try with_reducible rfl
        simp only [Act.put, List.setIfInBounds_toArray, List.set_cons_zero, List.set_cons_succ, List.getElem_toArray, List.getElem_cons_zero, List.getElem_cons_succ]
        refine wpAnyH_ready (rs := [16]) (by kernel_rfl) (by simp) ?_
        refine AllReadyH.cons rfl (fun K hK => ?_) AllReadyH.nil
        have hco := HE.out.co 8 _ rfl
        have hfo := HE.out.fo 8 (by decide)
        have HE2 := Lib.hid (HE.out.set8 (mxI p.size q.size))
        clear hHeld
        go_simp
        refine hK.out _ _ ⟨_, HE2.out, rfl, rfl⟩ ?_
        clear hK K hco hfo HE
        have HE := HE2
        clear HE2
        intro hHeld
        obtain ⟨we, hwe⟩ : ∃ x, x = World.setCell we ⟨w.heap.size + 3, 8, none⟩ (.int .i64 (mxI p.size q.size)) := ⟨_, rfl⟩
        rw [← hwe] at HE hHeld ⊢
        clear hwe
        refine wpAnyH_take (i := 17) (v := ?_) rfl (by kernel_rfl) (by kernel_rfl) (by kernel_rfl) (fun _ _ _ h => h) (Or.inl ⟨by rfl, ?_⟩) (by assumption) ?_
        rotate_left
        · intro wq hSw
          obtain ⟨mq, hmq, _, _⟩ := hSw
          have a8 := hmq.cp 8 _ rfl; have a9 := hmq.cp 9 _ rfl; have a16 := hmq.cp 16 _ rfl; have b8 := hmq.cq 8 _ rfl; have b9 := hmq.cq 9 _ rfl; have b16 := hmq.cq 16 _ rfl
          clear hmq
          go_simp
          try with_reducible rfl
        simp only [Act.put, List.setIfInBounds_toArray, List.set_cons_zero, List.set_cons_succ, List.getElem_toArray, List.getElem_cons_zero, List.getElem_cons_succ]
        refine wpAnyH_ready (rs := [18]) (by kernel_rfl) (by simp) ?_
        refine AllReadyH.cons rfl (fun K hK => ?_) AllReadyH.nil
        have hco := HE.out.co 9 _ rfl
        have hfo := HE.out.fo 9 (by decide)
        have HE2 := Lib.hid (HE.out.set9 (mxI p.parts q.parts))
        clear hHeld
        go_simp
        refine hK.out _ _ ⟨_, HE2.out, rfl, rfl⟩ ?_
        clear hK K hco hfo HE
        have HE := HE2
        clear HE2
        intro hHeld
        obtain ⟨we, hwe⟩ : ∃ x, x = World.setCell we ⟨w.heap.size + 3, 9, none⟩ (.int .i64 (mxI p.parts q.parts)) := ⟨_, rfl⟩
        rw [← hwe] at HE hHeld ⊢
        clear hwe
        refine wpAnyH_take (i := 19) (v := ?_) rfl (by kernel_rfl) (by kernel_rfl) (by kernel_rfl) (fun _ _ _ h => h) (Or.inl ⟨by rfl, ?_⟩) (by assumption) ?_
        rotate_left
        · intro wq hSw
          obtain ⟨mq, hmq, _, _⟩ := hSw
          have a8 := hmq.cp 8 _ rfl; have a9 := hmq.cp 9 _ rfl; have a16 := hmq.cp 16 _ rfl; have b8 := hmq.cq 8 _ rfl; have b9 := hmq.cq 9 _ rfl; have b16 := hmq.cq 16 _ rfl
          clear hmq
          go_simp
          try with_reducible rfl
        simp only [Act.put, List.setIfInBounds_toArray, List.set_cons_zero, List.set_cons_succ, List.getElem_toArray, List.getElem_cons_zero, List.getElem_cons_succ]
        refine wpAnyH_ready (rs := [20]) (by kernel_rfl) (by simp) ?_
        refine AllReadyH.cons rfl (fun K hK => ?_) AllReadyH.nil
        have hco := HE.out.co 16 _ rfl
        have hfo := HE.out.fo 16 (by decide)
        have HE2 := Lib.hid (HE.out.set16 (mxI p.level q.level))
        clear hHeld
        go_simp
        refine hK.out _ _ ⟨_, HE2.out, rfl, rfl⟩ ?_
        clear hK K hco hfo HE
        have HE := HE2
        clear HE2
        intro hHeld
        obtain ⟨we, hwe⟩ : ∃ x, x = World.setCell we ⟨w.heap.size + 3, 16, none⟩ (.int .i64 (mxI p.level q.level)) := ⟨_, rfl⟩
        rw [← hwe] at HE hHeld ⊢
        clear hwe
        clear hHeld
        refine wpAnyH_done (by kernel_rfl) ?_ _
        go_wp2
        all_goals (go_meet; exact HE.out)
      case rest =>
        have HE := Lib.hid hcut
        clear hcut
        go_upto_region 5 with fail
        go_cut [75] (fun v wx => MS p q A B c d w.heap.size w (J5 p q) A c wx)
        case first =>
          as_aux_lemma =>
          go_wp2_with fail
          refine wp_region_held_drew (S := JX p q A B c d w.heap.size w) (by kernel_rfl) ⟨_, HE.out.later (Below.refl _ _).drew, rfl, rfl⟩ ?_
          intro hHeld
          have HE := Lib.hid (HE.out.later (Below.refl _ _).drew)
          obtain ⟨we, hwe⟩ : ∃ x, x = World.drew wc := ⟨_, rfl⟩
          rw [← hwe] at HE hHeld ⊢
          clear hwe
          refine wpAnyH_take (i := 0) (v := ?_) rfl (by kernel_rfl) (by kernel_rfl) (by kernel_rfl) (fun _ _ _ h => h) (Or.inl ⟨by rfl, ?_⟩) (by assumption) ?_
          rotate_left
          · intro wq hSw
            obtain ⟨mq, hmq, _, _⟩ := hSw
            have a10 := hmq.cp 10 _ rfl; have a11 := hmq.cp 11 _ rfl; have b10 := hmq.cq 10 _ rfl; have b11 := hmq.cq 11 _ rfl
            clear hmq
            go_simp
            try with_reducible rfl
          simp only [Act.put, List.setIfInBounds_toArray, List.set_cons_zero, List.set_cons_succ, List.getElem_toArray, List.getElem_cons_zero]
          refine wpAnyH_take (i := 1) (v := ?_) rfl (by kernel_rfl) (by kernel_rfl) (by kernel_rfl) (fun _ _ _ h => h) (Or.inl ⟨by rfl, ?_⟩) (by assumption) ?_
          rotate_left
          · intro wq hSw
            obtain ⟨mq, hmq, _, _⟩ := hSw
            have a10 := hmq.cp 10 _ rfl; have a11 := hmq.cp 11 _ rfl; have b10 := hmq.cq 10 _ rfl; have b11 := hmq.cq 11 _ rfl
            clear hmq
            go_simp
            try with_reducible rfl
          simp only [Act.put, List.setIfInBounds_toArray, List.set_cons_zero, List.set_cons_succ, List.getElem_toArray, List.getElem_cons_zero, List.getElem_cons_succ]
          refine wpAnyH_take (i := 2) (v := ?_) rfl (by kernel_rfl) (by kernel_rfl) (by kernel_rfl) (fun _ _ _ h => h) (Or.inl ⟨by rfl, ?_⟩) (by assumption) ?_
          rotate_left
          · intro wq hSw
            obtain ⟨mq, hmq, _, _⟩ := hSw
            have a10 := hmq.cp 10 _ rfl; have a11 := hmq.cp 11 _ rfl; have b10 := hmq.cq 10 _ rfl; have b11 := hmq.cq 11 _ rfl
            clear hmq
            go_simp
            try with_reducible rfl
          simp only [Act.put, List.setIfInBounds_toArray, List.set_cons_zero, List.set_cons_succ, List.getElem_toArray, List.getElem_cons_zero, List.getElem_cons_succ]
          refine wpAnyH_take (i := 3) (v := ?_) rfl (by kernel_rfl) (by kernel_rfl) (by kernel_rfl) (fun _ _ _ h => h) (Or.inl ⟨by rfl, ?_⟩) (by assumption) ?_
          rotate_left
          · intro wq hSw
            obtain ⟨mq, hmq, _, _⟩ := hSw
            have a10 := hmq.cp 10 _ rfl; have a11 := hmq.cp 11 _ rfl; have b10 := hmq.cq 10 _ rfl; have b11 := hmq.cq 11 _ rfl
            clear hmq
            go_simp
            try with_reducible rfl
          simp only [Act.put, List.setIfInBounds_toArray, List.set_cons_zero, List.set_cons_succ, List.getElem_toArray, List.getElem_cons_zero, List.getElem_cons_succ]
          refine wpAnyH_take (i := 4) (v := ?_) rfl (by kernel_rfl) (by kernel_rfl) (by kernel_rfl) (fun _ _ _ h => h) (Or.inl ⟨by rfl, ?_⟩) (by assumption) ?_
          rotate_left
          · intro wq hSw
            obtain ⟨mq, hmq, _, _⟩ := hSw
            have a10 := hmq.cp 10 _ rfl; have a11 := hmq.cp 11 _ rfl; have b10 := hmq.cq 10 _ rfl; have b11 := hmq.cq 11 _ rfl
            clear hmq
            go_simp
            try with_reducible rfl
          simp only [Act.put, List.setIfInBounds_toArray, List.set_cons_zero, List.set_cons_succ, List.getElem_toArray, List.getElem_cons_zero, List.getElem_cons_succ]
          refine wpAnyH_take (i := 5) (v := ?_) rfl (by kernel_rfl) (by kernel_rfl) (by kernel_rfl) (fun _ _ _ h => h) (Or.inl ⟨by rfl, ?_⟩) (by assumption) ?_
          rotate_left
          · intro wq hSw
            obtain ⟨mq, hmq, _, _⟩ := hSw
            have a10 := hmq.cp 10 _ rfl; have a11 := hmq.cp 11 _ rfl; have b10 := hmq.cq 10 _ rfl; have b11 := hmq.cq 11 _ rfl
            clear hmq
            go_simp
            try with_reducible rfl
          simp only [Act.put, List.setIfInBounds_toArray, List.set_cons_zero, List.set_cons_succ, List.getElem_toArray, List.getElem_cons_zero, List.getElem_cons_succ]
          refine wpAnyH_take (i := 6) (v := ?_) rfl (by kernel_rfl) (by kernel_rfl) (by kernel_rfl) (fun _ _ _ h => h) (Or.inl ⟨by rfl, ?_⟩) (by assumption) ?_
          rotate_left
          · intro wq hSw
            obtain ⟨mq, hmq, _, _⟩ := hSw
            have a10 := hmq.cp 10 _ rfl; have a11 := hmq.cp 11 _ rfl; have b10 := hmq.cq 10 _ rfl; have b11 := hmq.cq 11 _ rfl
            clear hmq
            go_simp
            try with_reducible rfl
          simp only [Act.put, List.setIfInBounds_toArray, List.set_cons_zero, List.set_cons_succ, List.getElem_toArray, List.getElem_cons_zero, List.getElem_cons_succ]
          refine wpAnyH_take (i := 7) (v := ?_) rfl (by kernel_rfl) (by kernel_rfl) (by kernel_rfl) (fun _ _ _ h => h) (Or.inl ⟨by rfl, ?_⟩) (by assumption) ?_
          rotate_left
          · intro wq hSw
            obtain ⟨mq, hmq, _, _⟩ := hSw
            have a10 := hmq.cp 10 _ rfl; have a11 := hmq.cp 11 _ rfl; have b10 := hmq.cq 10 _ rfl; have b11 := hmq.cq 11 _ rfl
            clear hmq
            go_simp
            try with_reducible rfl
          simp only [Act.put, List.setIfInBounds_toArray, List.set_cons_zero, List.set_cons_succ, List.getElem_toArray, List.getElem_cons_zero, List.getElem_cons_succ]
          refine wpAnyH_take (i := 8) (v := ?_) rfl (by kernel_rfl) (by kernel_rfl) (by kernel_rfl) (fun _ _ _ h => h) (Or.inl ⟨by rfl, ?_⟩) (by assumption) ?_
          rotate_left
          · intro wq hSw
            obtain ⟨mq, hmq, _, _⟩ := hSw
            have a10 := hmq.cp 10 _ rfl; have a11 := hmq.cp 11 _ rfl; have b10 := hmq.cq 10 _ rfl; have b11 := hmq.cq 11 _ rfl
            clear hmq
            go_simp
            try with_reducible rfl
          simp only [Act.put, List.setIfInBounds_toArray, List.set_cons_zero, List.set_cons_succ, List.getElem_toArray, List.getElem_cons_zero, List.getElem_cons_succ]
          refine wpAnyH_take (i := 9) (v := ?_) rfl (by kernel_rfl) (by kernel_rfl) (by kernel_rfl) (fun _ _ _ h => h) (Or.inl ⟨by rfl, ?_⟩) (by assumption) ?_
          rotate_left
          · intro wq hSw
            obtain ⟨mq, hmq, _, _⟩ := hSw
            have a10 := hmq.cp 10 _ rfl; have a11 := hmq.cp 11 _ rfl; have b10 := hmq.cq 10 _ rfl; have b11 := hmq.cq 11 _ rfl
            clear hmq
            go_simp
            try with_reducible rfl
          simp only [Act.put, List.setIfInBounds_toArray, List.set_cons_zero, List.set_cons_succ, List.getElem_toArray, List.getElem_cons_zero, List.getElem_cons_succ]
          refine wpAnyH_take (i := 10) (v := ?_) rfl (by kernel_rfl) (by kernel_rfl) (by kernel_rfl) (fun _ _ _ h => h) (Or.inl ⟨by rfl, ?_⟩) (by assumption) ?_
          rotate_left
          · intro wq hSw
            obtain ⟨mq, hmq, _, _⟩ := hSw
            have a10 := hmq.cp 10 _ rfl; have a11 := hmq.cp 11 _ rfl; have b10 := hmq.cq 10 _ rfl; have b11 := hmq.cq 11 _ rfl
            clear hmq
            go_simp
            try with_reducible rfl
          simp only [Act.put, List.setIfInBounds_toArray, List.set_cons_zero, List.set_cons_succ, List.getElem_toArray, List.getElem_cons_zero, List.getElem_cons_succ]
          refine wpAnyH_ready (rs := [11]) (by kernel_rfl) (by simp) ?_
          refine AllReadyH.cons rfl (fun K hK => ?_) AllReadyH.nil
          have hco := HE.out.co 10 _ rfl
          have hfo := HE.out.fo 10 (by decide)
          have HE2 := Lib.hid (HE.out.set10 (mxI p.files q.files))
          clear hHeld
          go_simp
          refine hK.out _ _ ⟨_, HE2.out, rfl, rfl⟩ ?_
          clear hK K hco hfo HE
          have HE := HE2
          clear HE2
          intro hHeld
          obtain ⟨we, hwe⟩ : ∃ x, x = World.setCell we ⟨w.heap.size + 3, 10, none⟩ (.int .i64 (mxI p.files q.files)) := ⟨_, rfl⟩
          rw [← hwe] at HE hHeld ⊢
          clear hwe
          refine wpAnyH_take (i := 12) (v := ?_) rfl (by kernel_rfl) (by kernel_rfl) (by kernel_rfl) (fun _ _ _ h => h) (Or.inl ⟨by rfl, ?_⟩) (by assumption) ?_
          rotate_left
          · intro wq hSw
            obtain ⟨mq, hmq, _, _⟩ := hSw
            have a10 := hmq.cp 10 _ rfl; have a11 := hmq.cp 11 _ rfl; have b10 := hmq.cq 10 _ rfl; have b11 := hmq.cq 11 _ rfl
            clear hmq
            go_simp
            try with_reducible rfl
          simp only [Act.put, List.setIfInBounds_toArray, List.set_cons_zero, List.set_cons_succ, List.getElem_toArray, List.getElem_cons_zero, List.getElem_cons_succ]
          refine wpAnyH_ready (rs := [13]) (by kernel_rfl) (by simp) ?_
          refine AllReadyH.cons rfl (fun K hK => ?_) AllReadyH.nil
          have hco := HE.out.co 11 _ rfl
          have hfo := HE.out.fo 11 (by decide)
          have HE2 := Lib.hid (HE.out.set11 (mxI p.bytes q.bytes))
          clear hHeld
          go_simp
          refine hK.out _ _ ⟨_, HE2.out, rfl, rfl⟩ ?_
          clear hK K hco hfo HE
          have HE := HE2
          clear HE2
          intro hHeld
          obtain ⟨we, hwe⟩ : ∃ x, x = World.setCell we ⟨w.heap.size + 3, 11, none⟩ (.int .i64 (mxI p.bytes q.bytes)) := ⟨_, rfl⟩
          rw [← hwe] at HE hHeld ⊢
          clear hwe
          clear hHeld
          refine wpAnyH_done (by kernel_rfl) ?_ _
          go_wp2
          all_goals (go_meet; exact HE.out)
        case rest =>
          have HE := Lib.hid hcut
          clear hcut
          go_upto_region 6 with fail
          go_cut [80] (fun v wx => MS p q A B c d w.heap.size w (J6 p q) A c wx)
          case first =>
            go_wp2_with (first | ((with_reducible show wpList _ _ _ (Oper.mk _ (Op.load 24 (.tmp 2)) _ _ _ _ :: _) _ _); refine wpList_load_g rfl 24 (.tmp 2) rfl w.heap.size 0 rfl (p.cs A c).toList _ HE.out.rp Try.underlying24 rfl (by kernel_rfl) ?_) | ((with_reducible show wpList _ _ _ (Oper.mk _ (Op.load 24 (.tmp 3)) _ _ _ _ :: _) _ _); refine wpList_load_g rfl 24 (.tmp 3) rfl (w.heap.size + 1) 0 rfl (q.cs B d).toList _ HE.out.rq Try.underlying24 rfl (by kernel_rfl) ?_))
            refine (longerX_any p q A B c d _).mono ?_
            rintro e w1 ⟨rfl, hb1⟩
            have hm2 := HE.out.later hb1
            have o2 := hm2.co 2 _ rfl
            have q2 := hm2.fo 2 (by decide)
            have HM2 := Lib.hid hm2
            clear hm2 hb1
            go_wp2
            go_meet
            exact HM2.out.set2 _
          case rest =>
            have HE := Lib.hid hcut
            clear hcut
            go_upto_region 7 with fail
            go_cut [84] (fun v wx => JT p q A B c d w.heap.size w 0 wx)
            case first =>
              have hrp := (hr.rd.below HE.out.bl).more HE.out.bl.size
              have a12 := HE.out.cp 12 _ rfl
              go_wp2_with fail
              refine (strClone_any p.types A c _ hrp (by omega)).mono ?_
              rintro e w1 ⟨A2, c2, rfl, ho, hb1⟩
              have hm2 := HE.out.later hb1
              have o12 := hm2.co 12 _ rfl
              have q12 := hm2.fo 12 (by decide)
              have HM2 := Lib.hid hm2
              have HO := Lib.hid ho
              clear hm2 hb1 ho a12
              go_wp2
              go_meet
              exact JT.cloned HM2.out HO.out HE.out.sz rfl
            case rest =>
              have hT := hcut
              clear hcut
              have b12 := (show _ from (by obtain ⟨A', c', h1, _⟩ := hT; exact h1.cq 12 _ rfl) : (_ : World).cell? ⟨w.heap.size + 1, 12, none⟩ = some (.slice B q.types.length d))
              have HT := Lib.hid hT
              clear hT
              go_wp2_with fail
              clear b12
              go_loopw [89] (fun i wr => ∃ k : Nat, k ≤ q.types.length ∧ i = .int .i64 k ∧ JT p q A B c d w.heap.size w k wr) (fun i _ => q.types.length - (intOf i).toNat)
              case atStart => exact ⟨0, Nat.zero_le _, rfl, HT.out⟩
              case round =>
                obtain ⟨k, hk, rfl, hT⟩ := hrel
                clear HT
                by_cases hlt : k < q.types.length
                · have hrp := (hr.rd.below hT.bl).more hT.bl.size
                  have hrq := hq.rd.below hT.bl
                  obtain ⟨b, off, s, rfl, hbb, hp, hc⟩ := RdS_at hrq hlt
                  have HT := Lib.hid hT
                  have hml := moreT_len p q k
                  obtain ⟨A', c', h1, h3⟩ := hT
                  have a12 := h1.cp 12 _ rfl
                  have HM := Lib.hid h1
                  have HO := Lib.hid h3
                  have HP := Lib.hid hp
                  clear h1 h3 hp hrq
                  go_wp2_with fail
                  refine (strCont_any p.types s A c _ hrp hr.len).mono ?_
                  rintro e w1 ⟨rfl, rfl⟩
                  generalize hhs : hasS p.types s = hs
                  have HS := Lib.hid hhs
                  clear hhs
                  cases hs
                  rotate_left
                  · go_wp2
                    go_roundw
                    case rel => exact ⟨k + 1, by omega, by go_num, HT.out.skip HP.out HS.out⟩
                    case measure => simp [intOf]; omega
                  · have o12 := HM.out.co 12 _ rfl
                    have hb1 : Below wr.heap.size wr (wr.alloc (.cells #[.string s] 9)) := (Below.refl _ _).alloc (Nat.le_refl _) _
                    have HB1 := Lib.hid hb1
                    have HOA := Lib.hid (HO.out.below hb1)
                    have HRD := Lib.hid (RdL.one (sz := 1) (enc := strCells) wr s #[.string s] 9 rfl _ rfl)
                    have HBY := Lib.hid (show ((p.types ++ moreT p q k).length + [s].length) * 16 ≤ 140737488355328 by simp; omega)
                    have HSZ := Lib.hid (show w.heap.size + 4 ≤ (wr.alloc (.cells #[.string s] 9)).heap.size by have := HM.out.sz; simp; omega)
                    clear hc a12 hb1
                    go_wp2_with (at_builtin; refine wp_append_l rfl (.tmp 99) (.tmp 101) rfl slS strLay (w.heap.size + 4) (xs := p.types ++ moreT p q k) (ys := [s]) (B := wr.heap.size + 1) rfl rfl HOA.out rfl rfl HRD.out HBY.out HSZ.out ?_; intro A2 c2 w2 hown2 hg2 hbl2 hat; have hm2 := (HM.out.later HB1.out).below hbl2; have n12 := hm2.co 12 _ rfl; have q12 := hm2.fo 12 (by decide); have HM2 := Lib.hid hm2; have HO2 := Lib.hid hown2; clear o12 hm2 hown2 hg2 hbl2 hat HOA HRD HBY HSZ)
                    go_roundw
                    case rel => exact ⟨k + 1, by omega, by go_num, JT.push HM2.out HO2.out HP.out HS.out (by first | (simp; done) | (simp; omega))⟩
                    case measure => simp [intOf]; omega
                · obtain rfl : k = q.types.length := by omega
                  obtain ⟨A', c', hm, ho⟩ := hT
                  have HM := Lib.hid hm
                  have HO := Lib.hid ho
                  have hml := moreT_len p q q.types.length
                  clear hm ho
                  go_wp2_with (first | ((with_reducible show wpList _ _ _ (Oper.mk _ (Op.load 24 _) _ _ _ _ :: _) _ _); refine wpList_load_g rfl 24 (.tmp 5) rfl (w.heap.size + 1 + 1 + 1) 0 rfl ((joinP p q).cs A' c').toList _ HM.out.ro Try.underlying24 rfl (by kernel_rfl) ?_) | ((with_reducible show wpList _ _ _ (Oper.mk _ (Op.store 24 _ _) _ _ _ _ :: _) _ _); refine wpList_store_box rfl 24 _ _ rfl _ _ rfl rfl HM.out.tr (by kernel_rfl) (by kernel_rfl) ?_; intro w2 hrg hth hg))
                  have hO2 := HO.out.kept hg (own_far HO.out (by omega))
                  refine ret_box 4 24 rfl (w.heap.size + 1 + 1) _ _ rfl hrg Try.underlying24 rfl (by kernel_rfl) rfl ⟨HM.out.bl.grown hg (by have := HM.out.sz; omega) (fun k hk => by cases hk; omega), A', c', rfl, ⟨hO2.rd strLay, hr.nm, by show (p.types ++ moreT p q q.types.length).length ≤ _; rw [List.length_append]; omega, fun s hs => ?_⟩, hO2.len_cap, by show (p.types ++ moreT p q q.types.length).length ≤ _; rw [List.length_append]; omega⟩
                  rcases List.mem_append.1 hs with hs | hs
                  · exact hr.ts s hs
                  · exact hq.ts s (List.mem_of_mem_take (List.mem_filter.1 hs).1)
end Go.Proofs.Ytbpbdehnkkheiaa
