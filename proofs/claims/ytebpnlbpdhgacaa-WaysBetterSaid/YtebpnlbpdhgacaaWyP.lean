/- Contract of profile.Join. -/
import Derived.Test.YtebpnlbpdhgacaaWyO
namespace Go.Proofs.Ytebpnlbpdhgacaa
open Go.RowKit
attribute [local go_sem ↓] Go.wp_at_zero Go.wp_at_succ

theorem MT.cloned {p q m : Prof} {A B A' A'' : Option Addr} {c d z k c' c'' base n : Nat} {W w : World} {xs : List ByteArray} (h1 : MS p q A B c d z W m A' c' w) (h2 : m.name = p.name) (h3 : OwnS w base A'' c'' xs) (hb : z + 4 ≤ base) (h4 : ∀ s ∈ xs, s.size ≤ 9223372036854775807) (h5 : xs.length ≤ k) (hn : n = xs.length) :
    MT p q A B c d z W k (w.setCell ⟨z + 3, 12, none⟩ (.slice A'' n c'')) := by
  subst hn
  exact ⟨{ m with types := xs }, A'', c'', h1.set 12 _ (by decide) rfl, h2, own_set (h3.mono hb) (by omega), h4, h5⟩

set_option maxRecDepth 100000 in
set_option maxHeartbeats 8000000 in
theorem join_any (p q : Prof) (A B : Option Addr) (c d : Nat) (w : World) (hr : ProfOk w w.heap.size A p) (hq : ProfOk w w.heap.size B q) (hlp : p.types.length ≤ 12) (hlq : q.types.length ≤ 12) : Calls Try.prog 13 #[p.v A c, q.v B d] w (ProfOut w) := by
  have hth0 : ((((w.alloc (.cells (p.cs A c) 24)).alloc (.cells (q.cs B d) 24)).alloc (.cells (zeroP.cs none 0) 24)).alloc (.cells (zeroP.cs none 0) 24)).there (w.heap.size + 1 + 1 + 1) 0 22 := boxThere _ _ _ (Below.refl _ _) _ (by simp) 22 rfl
  have hld0 : ((((w.alloc (.cells (p.cs A c) 24)).alloc (.cells (q.cs B d) 24)).alloc (.cells (zeroP.cs none 0) 24))).rangeAt w.heap.size 0 (p.cs A c).toList := boxRange _ _ _ (((Below.refl _ _).alloc (by simp) _).alloc (by simp) _)
  have HTH := Lib.hid hth0
  have HLD := Lib.hid hld0
  clear hth0 hld0
  go_enter Try.func13, Try.ntmps13
  go_upto_region 2 with (first | ((with_reducible show wpList _ _ _ (Oper.mk _ (Op.load 24 _) _ _ _ _ :: _) _ _); refine wpList_load_g rfl 24 (.tmp 2) rfl w.heap.size 0 rfl (p.cs A c).toList _ HLD.out Try.underlying24 rfl (by kernel_rfl) ?_) | ((with_reducible show wpList _ _ _ (Oper.mk _ (Op.store 24 _ _) _ _ _ _ :: _) _ _); refine wpList_store_box rfl 24 _ _ rfl _ _ rfl rfl HTH.out (by kernel_rfl) (by kernel_rfl) ?_; intro w2 hrg hth hg; have HM0 := Lib.hid (startMS p q A B c d w w2 hrg hth hg); clear hrg hth hg))
  dsimp only [Act.put]
  have hHeld : MX p q A B c d w.heap.size w w2 := ⟨p, HM0.out, rfl, rfl⟩
  clear HM0 HTH HLD
  go_cut [23] (fun v wx => MX p q A B c d w.heap.size w wx)
  case first =>
    as_aux_lemma =>
    have HH := Lib.hid hHeld
    clear hHeld
    go_wp2_with fail
    refine wp_region_held_drew (S := MX p q A B c d w.heap.size w) (by kernel_rfl) (HH.out.later (Below.refl _ _).drew) ?_
    clear HH
    intro hHeld
    refine wpAnyH_take (i := 0) (v := ?_) rfl (by kernel_rfl) (by kernel_rfl) (by kernel_rfl) (fun _ _ _ h => h) (Or.inl ⟨by rfl, ?_⟩) (by assumption) ?_
    rotate_left
    · intro wq hSw
      obtain ⟨mq, hmq, _, _⟩ := hSw
      have a1 := hmq.cp 1 _ rfl; have a3 := hmq.cp 3 _ rfl; have a5 := hmq.cp 5 _ rfl; have b1 := hmq.cq 1 _ rfl; have b3 := hmq.cq 3 _ rfl; have b5 := hmq.cq 5 _ rfl
      clear hmq
      go_simp
      try with_reducible rfl
    simp only [Act.put, List.setIfInBounds_toArray, List.set_cons_zero, List.set_cons_succ, List.getElem_toArray, List.getElem_cons_zero]
    refine wpAnyH_take (i := 1) (v := ?_) rfl (by kernel_rfl) (by kernel_rfl) (by kernel_rfl) (fun _ _ _ h => h) (Or.inl ⟨by rfl, ?_⟩) (by assumption) ?_
    rotate_left
    · intro wq hSw
      obtain ⟨mq, hmq, _, _⟩ := hSw
      have a1 := hmq.cp 1 _ rfl; have a3 := hmq.cp 3 _ rfl; have a5 := hmq.cp 5 _ rfl; have b1 := hmq.cq 1 _ rfl; have b3 := hmq.cq 3 _ rfl; have b5 := hmq.cq 5 _ rfl
      clear hmq
      go_simp
      try with_reducible rfl
    simp only [Act.put, List.setIfInBounds_toArray, List.set_cons_zero, List.set_cons_succ, List.getElem_toArray, List.getElem_cons_zero, List.getElem_cons_succ]
    refine wpAnyH_take (i := 2) (v := ?_) rfl (by kernel_rfl) (by kernel_rfl) (by kernel_rfl) (fun _ _ _ h => h) (Or.inl ⟨by rfl, ?_⟩) (by assumption) ?_
    rotate_left
    · intro wq hSw
      obtain ⟨mq, hmq, _, _⟩ := hSw
      have a1 := hmq.cp 1 _ rfl; have a3 := hmq.cp 3 _ rfl; have a5 := hmq.cp 5 _ rfl; have b1 := hmq.cq 1 _ rfl; have b3 := hmq.cq 3 _ rfl; have b5 := hmq.cq 5 _ rfl
      clear hmq
      go_simp
      try with_reducible rfl
    simp only [Act.put, List.setIfInBounds_toArray, List.set_cons_zero, List.set_cons_succ, List.getElem_toArray, List.getElem_cons_zero, List.getElem_cons_succ]
    refine wpAnyH_take (i := 3) (v := ?_) rfl (by kernel_rfl) (by kernel_rfl) (by kernel_rfl) (fun _ _ _ h => h) (Or.inl ⟨by rfl, ?_⟩) (by assumption) ?_
    rotate_left
    · intro wq hSw
      obtain ⟨mq, hmq, _, _⟩ := hSw
      have a1 := hmq.cp 1 _ rfl; have a3 := hmq.cp 3 _ rfl; have a5 := hmq.cp 5 _ rfl; have b1 := hmq.cq 1 _ rfl; have b3 := hmq.cq 3 _ rfl; have b5 := hmq.cq 5 _ rfl
      clear hmq
      go_simp
      try with_reducible rfl
    simp only [Act.put, List.setIfInBounds_toArray, List.set_cons_zero, List.set_cons_succ, List.getElem_toArray, List.getElem_cons_zero, List.getElem_cons_succ]
    refine wpAnyH_take (i := 4) (v := ?_) rfl (by kernel_rfl) (by kernel_rfl) (by kernel_rfl) (fun _ _ _ h => h) (Or.inl ⟨by rfl, ?_⟩) (by assumption) ?_
    rotate_left
    · intro wq hSw
      obtain ⟨mq, hmq, _, _⟩ := hSw
      have a1 := hmq.cp 1 _ rfl; have a3 := hmq.cp 3 _ rfl; have a5 := hmq.cp 5 _ rfl; have b1 := hmq.cq 1 _ rfl; have b3 := hmq.cq 3 _ rfl; have b5 := hmq.cq 5 _ rfl
      clear hmq
      go_simp
      try with_reducible rfl
    simp only [Act.put, List.setIfInBounds_toArray, List.set_cons_zero, List.set_cons_succ, List.getElem_toArray, List.getElem_cons_zero, List.getElem_cons_succ]
    refine wpAnyH_take (i := 5) (v := ?_) rfl (by kernel_rfl) (by kernel_rfl) (by kernel_rfl) (fun _ _ _ h => h) (Or.inl ⟨by rfl, ?_⟩) (by assumption) ?_
    rotate_left
    · intro wq hSw
      obtain ⟨mq, hmq, _, _⟩ := hSw
      have a1 := hmq.cp 1 _ rfl; have a3 := hmq.cp 3 _ rfl; have a5 := hmq.cp 5 _ rfl; have b1 := hmq.cq 1 _ rfl; have b3 := hmq.cq 3 _ rfl; have b5 := hmq.cq 5 _ rfl
      clear hmq
      go_simp
      try with_reducible rfl
    simp only [Act.put, List.setIfInBounds_toArray, List.set_cons_zero, List.set_cons_succ, List.getElem_toArray, List.getElem_cons_zero, List.getElem_cons_succ]
    refine wpAnyH_take (i := 6) (v := ?_) rfl (by kernel_rfl) (by kernel_rfl) (by kernel_rfl) (fun _ _ _ h => h) (Or.inl ⟨by rfl, ?_⟩) (by assumption) ?_
    rotate_left
    · intro wq hSw
      obtain ⟨mq, hmq, _, _⟩ := hSw
      have a1 := hmq.cp 1 _ rfl; have a3 := hmq.cp 3 _ rfl; have a5 := hmq.cp 5 _ rfl; have b1 := hmq.cq 1 _ rfl; have b3 := hmq.cq 3 _ rfl; have b5 := hmq.cq 5 _ rfl
      clear hmq
      go_simp
      try with_reducible rfl
    simp only [Act.put, List.setIfInBounds_toArray, List.set_cons_zero, List.set_cons_succ, List.getElem_toArray, List.getElem_cons_zero, List.getElem_cons_succ]
    refine wpAnyH_take (i := 7) (v := ?_) rfl (by kernel_rfl) (by kernel_rfl) (by kernel_rfl) (fun _ _ _ h => h) (Or.inl ⟨by rfl, ?_⟩) (by assumption) ?_
    rotate_left
    · intro wq hSw
      obtain ⟨mq, hmq, _, _⟩ := hSw
      have a1 := hmq.cp 1 _ rfl; have a3 := hmq.cp 3 _ rfl; have a5 := hmq.cp 5 _ rfl; have b1 := hmq.cq 1 _ rfl; have b3 := hmq.cq 3 _ rfl; have b5 := hmq.cq 5 _ rfl
      clear hmq
      go_simp
      try with_reducible rfl
    simp only [Act.put, List.setIfInBounds_toArray, List.set_cons_zero, List.set_cons_succ, List.getElem_toArray, List.getElem_cons_zero, List.getElem_cons_succ]
    refine wpAnyH_take (i := 8) (v := ?_) rfl (by kernel_rfl) (by kernel_rfl) (by kernel_rfl) (fun _ _ _ h => h) (Or.inl ⟨by rfl, ?_⟩) (by assumption) ?_
    rotate_left
    · intro wq hSw
      obtain ⟨mq, hmq, _, _⟩ := hSw
      have a1 := hmq.cp 1 _ rfl; have a3 := hmq.cp 3 _ rfl; have a5 := hmq.cp 5 _ rfl; have b1 := hmq.cq 1 _ rfl; have b3 := hmq.cq 3 _ rfl; have b5 := hmq.cq 5 _ rfl
      clear hmq
      go_simp
      try with_reducible rfl
    simp only [Act.put, List.setIfInBounds_toArray, List.set_cons_zero, List.set_cons_succ, List.getElem_toArray, List.getElem_cons_zero, List.getElem_cons_succ]
    refine wpAnyH_take (i := 9) (v := ?_) rfl (by kernel_rfl) (by kernel_rfl) (by kernel_rfl) (fun _ _ _ h => h) (Or.inl ⟨by rfl, ?_⟩) (by assumption) ?_
    rotate_left
    · intro wq hSw
      obtain ⟨mq, hmq, _, _⟩ := hSw
      have a1 := hmq.cp 1 _ rfl; have a3 := hmq.cp 3 _ rfl; have a5 := hmq.cp 5 _ rfl; have b1 := hmq.cq 1 _ rfl; have b3 := hmq.cq 3 _ rfl; have b5 := hmq.cq 5 _ rfl
      clear hmq
      go_simp
      try with_reducible rfl
    simp only [Act.put, List.setIfInBounds_toArray, List.set_cons_zero, List.set_cons_succ, List.getElem_toArray, List.getElem_cons_zero, List.getElem_cons_succ]
    refine wpAnyH_take (i := 10) (v := ?_) rfl (by kernel_rfl) (by kernel_rfl) (by kernel_rfl) (fun _ _ _ h => h) (Or.inl ⟨by rfl, ?_⟩) (by assumption) ?_
    rotate_left
    · intro wq hSw
      obtain ⟨mq, hmq, _, _⟩ := hSw
      have a1 := hmq.cp 1 _ rfl; have a3 := hmq.cp 3 _ rfl; have a5 := hmq.cp 5 _ rfl; have b1 := hmq.cq 1 _ rfl; have b3 := hmq.cq 3 _ rfl; have b5 := hmq.cq 5 _ rfl
      clear hmq
      go_simp
      try with_reducible rfl
    simp only [Act.put, List.setIfInBounds_toArray, List.set_cons_zero, List.set_cons_succ, List.getElem_toArray, List.getElem_cons_zero, List.getElem_cons_succ]
    refine wpAnyH_take (i := 11) (v := ?_) rfl (by kernel_rfl) (by kernel_rfl) (by kernel_rfl) (fun _ _ _ h => h) (Or.inl ⟨by rfl, ?_⟩) (by assumption) ?_
    rotate_left
    · intro wq hSw
      obtain ⟨mq, hmq, _, _⟩ := hSw
      have a1 := hmq.cp 1 _ rfl; have a3 := hmq.cp 3 _ rfl; have a5 := hmq.cp 5 _ rfl; have b1 := hmq.cq 1 _ rfl; have b3 := hmq.cq 3 _ rfl; have b5 := hmq.cq 5 _ rfl
      clear hmq
      go_simp
      try with_reducible rfl
    simp only [Act.put, List.setIfInBounds_toArray, List.set_cons_zero, List.set_cons_succ, List.getElem_toArray, List.getElem_cons_zero, List.getElem_cons_succ]
    refine wpAnyH_take (i := 12) (v := ?_) rfl (by kernel_rfl) (by kernel_rfl) (by kernel_rfl) (fun _ _ _ h => h) (Or.inl ⟨by rfl, ?_⟩) (by assumption) ?_
    rotate_left
    · intro wq hSw
      obtain ⟨mq, hmq, _, _⟩ := hSw
      have a1 := hmq.cp 1 _ rfl; have a3 := hmq.cp 3 _ rfl; have a5 := hmq.cp 5 _ rfl; have b1 := hmq.cq 1 _ rfl; have b3 := hmq.cq 3 _ rfl; have b5 := hmq.cq 5 _ rfl
      clear hmq
      go_simp
      try with_reducible rfl
    simp only [Act.put, List.setIfInBounds_toArray, List.set_cons_zero, List.set_cons_succ, List.getElem_toArray, List.getElem_cons_zero, List.getElem_cons_succ]
    refine wpAnyH_take (i := 13) (v := ?_) rfl (by kernel_rfl) (by kernel_rfl) (by kernel_rfl) (fun _ _ _ h => h) (Or.inl ⟨by rfl, ?_⟩) (by assumption) ?_
    rotate_left
    · intro wq hSw
      obtain ⟨mq, hmq, _, _⟩ := hSw
      have a1 := hmq.cp 1 _ rfl; have a3 := hmq.cp 3 _ rfl; have a5 := hmq.cp 5 _ rfl; have b1 := hmq.cq 1 _ rfl; have b3 := hmq.cq 3 _ rfl; have b5 := hmq.cq 5 _ rfl
      clear hmq
      go_simp
      try with_reducible rfl
    simp only [Act.put, List.setIfInBounds_toArray, List.set_cons_zero, List.set_cons_succ, List.getElem_toArray, List.getElem_cons_zero, List.getElem_cons_succ]
    refine wpAnyH_take (i := 14) (v := ?_) rfl (by kernel_rfl) (by kernel_rfl) (by kernel_rfl) (fun _ _ _ h => h) (Or.inl ⟨by rfl, ?_⟩) (by assumption) ?_
    rotate_left
    · intro wq hSw
      obtain ⟨mq, hmq, _, _⟩ := hSw
      have a1 := hmq.cp 1 _ rfl; have a3 := hmq.cp 3 _ rfl; have a5 := hmq.cp 5 _ rfl; have b1 := hmq.cq 1 _ rfl; have b3 := hmq.cq 3 _ rfl; have b5 := hmq.cq 5 _ rfl
      clear hmq
      go_simp
      try with_reducible rfl
    simp only [Act.put, List.setIfInBounds_toArray, List.set_cons_zero, List.set_cons_succ, List.getElem_toArray, List.getElem_cons_zero, List.getElem_cons_succ]
    refine wpAnyH_take (i := 15) (v := ?_) rfl (by kernel_rfl) (by kernel_rfl) (by kernel_rfl) (fun _ _ _ h => h) (Or.inl ⟨by rfl, ?_⟩) (by assumption) ?_
    rotate_left
    · intro wq hSw
      obtain ⟨mq, hmq, _, _⟩ := hSw
      have a1 := hmq.cp 1 _ rfl; have a3 := hmq.cp 3 _ rfl; have a5 := hmq.cp 5 _ rfl; have b1 := hmq.cq 1 _ rfl; have b3 := hmq.cq 3 _ rfl; have b5 := hmq.cq 5 _ rfl
      clear hmq
      go_simp
      try with_reducible rfl
    simp only [Act.put, List.setIfInBounds_toArray, List.set_cons_zero, List.set_cons_succ, List.getElem_toArray, List.getElem_cons_zero, List.getElem_cons_succ]
    refine wpAnyH_ready (rs := [16]) (by kernel_rfl) (by simp) ?_
    refine AllReadyH.cons rfl (fun K hK => ?_) AllReadyH.nil
    obtain ⟨mq, hmq, hn, ht⟩ := hHeld
    have hco := hmq.co 1 _ rfl
    have hfo := hmq.fo 1 (by decide)
    have HM := Lib.hid hmq
    have HN := Lib.hid hn
    have HTT := Lib.hid ht
    clear hmq hn ht
    go_simp
    refine hK.out _ _ ⟨_, HM.out.set1 _, HN.out, HTT.out⟩ ?_
    clear hK K hco hfo HM HN HTT
    intro hHeld
    refine wpAnyH_take (i := 17) (v := ?_) rfl (by kernel_rfl) (by kernel_rfl) (by kernel_rfl) (fun _ _ _ h => h) (Or.inl ⟨by rfl, ?_⟩) (by assumption) ?_
    rotate_left
    · intro wq hSw
      obtain ⟨mq, hmq, _, _⟩ := hSw
      have a1 := hmq.cp 1 _ rfl; have a3 := hmq.cp 3 _ rfl; have a5 := hmq.cp 5 _ rfl; have b1 := hmq.cq 1 _ rfl; have b3 := hmq.cq 3 _ rfl; have b5 := hmq.cq 5 _ rfl
      clear hmq
      go_simp
      try with_reducible rfl
    simp only [Act.put, List.setIfInBounds_toArray, List.set_cons_zero, List.set_cons_succ, List.getElem_toArray, List.getElem_cons_zero, List.getElem_cons_succ]
    refine wpAnyH_ready (rs := [18]) (by kernel_rfl) (by simp) ?_
    refine AllReadyH.cons rfl (fun K hK => ?_) AllReadyH.nil
    obtain ⟨mq, hmq, hn, ht⟩ := hHeld
    have hco := hmq.co 3 _ rfl
    have hfo := hmq.fo 3 (by decide)
    have HM := Lib.hid hmq
    have HN := Lib.hid hn
    have HTT := Lib.hid ht
    clear hmq hn ht
    go_simp
    refine hK.out _ _ ⟨_, HM.out.set3 _, HN.out, HTT.out⟩ ?_
    clear hK K hco hfo HM HN HTT
    intro hHeld
    refine wpAnyH_take (i := 19) (v := ?_) rfl (by kernel_rfl) (by kernel_rfl) (by kernel_rfl) (fun _ _ _ h => h) (Or.inl ⟨by rfl, ?_⟩) (by assumption) ?_
    rotate_left
    · intro wq hSw
      obtain ⟨mq, hmq, _, _⟩ := hSw
      have a1 := hmq.cp 1 _ rfl; have a3 := hmq.cp 3 _ rfl; have a5 := hmq.cp 5 _ rfl; have b1 := hmq.cq 1 _ rfl; have b3 := hmq.cq 3 _ rfl; have b5 := hmq.cq 5 _ rfl
      clear hmq
      go_simp
      try with_reducible rfl
    simp only [Act.put, List.setIfInBounds_toArray, List.set_cons_zero, List.set_cons_succ, List.getElem_toArray, List.getElem_cons_zero, List.getElem_cons_succ]
    refine wpAnyH_ready (rs := [20]) (by kernel_rfl) (by simp) ?_
    refine AllReadyH.cons rfl (fun K hK => ?_) AllReadyH.nil
    obtain ⟨mq, hmq, hn, ht⟩ := hHeld
    have hco := hmq.co 5 _ rfl
    have hfo := hmq.fo 5 (by decide)
    have HM := Lib.hid hmq
    have HN := Lib.hid hn
    have HTT := Lib.hid ht
    clear hmq hn ht
    go_simp
    refine hK.out _ _ ⟨_, HM.out.set5 _, HN.out, HTT.out⟩ ?_
    clear hK K hco hfo HM HN HTT
    intro hHeld
    have HZ0 := Lib.hid hHeld
    clear hHeld
    refine wpAnyH_done (by kernel_rfl) (normal_gen (M := MX p q A B c d w.heap.size w) HZ0.out (fun wz hHeld => ?_)) _
    clear HZ0
    have HZ := Lib.hid hHeld
    clear hHeld
    go_wp2
    all_goals (go_meet; exact HZ.out)
  case rest =>
    have hHeld := hcut
    clear hcut
    go_upto_region 3 with fail
    go_cut [44] (fun v wx => MX p q A B c d w.heap.size w wx)
    case first =>
      as_aux_lemma =>
      have HH := Lib.hid hHeld
      clear hHeld
      cases h4 : p.react <;> cases h6 : p.quote <;> cases h7 : p.mention
      · as_aux_lemma =>
        go_wp2_with fail
        refine wp_region_held_drew (S := MX p q A B c d w.heap.size w) (by kernel_rfl) (HH.out.later (Below.refl _ _).drew) ?_
        clear HH
        intro hHeld
        refine wpAnyH_take (i := 0) (v := ?_) rfl (by kernel_rfl) (by kernel_rfl) (by kernel_rfl) (fun _ _ _ h => h) (Or.inl ⟨by rfl, ?_⟩) (by assumption) ?_
        rotate_left
        · intro wq hSw
          obtain ⟨mq, hmq, _, _⟩ := hSw
          have a4 := hmq.cp 4 _ rfl; have a6 := hmq.cp 6 _ rfl; have a7 := hmq.cp 7 _ rfl; have b4 := hmq.cq 4 _ rfl; have b6 := hmq.cq 6 _ rfl; have b7 := hmq.cq 7 _ rfl
          clear hmq
          go_simp
          try with_reducible rfl
        simp only [Act.put, List.setIfInBounds_toArray, List.set_cons_zero, List.set_cons_succ, List.getElem_toArray, List.getElem_cons_zero]
        refine wpAnyH_take (i := 1) (v := ?_) rfl (by kernel_rfl) (by kernel_rfl) (by kernel_rfl) (fun _ _ _ h => h) (Or.inl ⟨by rfl, ?_⟩) (by assumption) ?_
        rotate_left
        · intro wq hSw
          obtain ⟨mq, hmq, _, _⟩ := hSw
          have a4 := hmq.cp 4 _ rfl; have a6 := hmq.cp 6 _ rfl; have a7 := hmq.cp 7 _ rfl; have b4 := hmq.cq 4 _ rfl; have b6 := hmq.cq 6 _ rfl; have b7 := hmq.cq 7 _ rfl
          clear hmq
          go_simp
          try with_reducible rfl
        simp only [Act.put, List.setIfInBounds_toArray, List.set_cons_zero, List.set_cons_succ, List.getElem_toArray, List.getElem_cons_zero, List.getElem_cons_succ]
        refine wpAnyH_take (i := 2) (v := ?_) rfl (by kernel_rfl) (by kernel_rfl) (by kernel_rfl) (fun _ _ _ h => h) (Or.inl ⟨by rfl, ?_⟩) (by assumption) ?_
        rotate_left
        · intro wq hSw
          obtain ⟨mq, hmq, _, _⟩ := hSw
          have a4 := hmq.cp 4 _ rfl; have a6 := hmq.cp 6 _ rfl; have a7 := hmq.cp 7 _ rfl; have b4 := hmq.cq 4 _ rfl; have b6 := hmq.cq 6 _ rfl; have b7 := hmq.cq 7 _ rfl
          clear hmq
          go_simp
          try with_reducible rfl
        simp only [Act.put, List.setIfInBounds_toArray, List.set_cons_zero, List.set_cons_succ, List.getElem_toArray, List.getElem_cons_zero, List.getElem_cons_succ]
        refine wpAnyH_take (i := 3) (v := ?_) rfl (by kernel_rfl) (by kernel_rfl) (by kernel_rfl) (fun _ _ _ h => h) (Or.inl ⟨by rfl, ?_⟩) (by assumption) ?_
        rotate_left
        · intro wq hSw
          obtain ⟨mq, hmq, _, _⟩ := hSw
          have a4 := hmq.cp 4 _ rfl; have a6 := hmq.cp 6 _ rfl; have a7 := hmq.cp 7 _ rfl; have b4 := hmq.cq 4 _ rfl; have b6 := hmq.cq 6 _ rfl; have b7 := hmq.cq 7 _ rfl
          clear hmq
          go_simp
          try with_reducible rfl
        simp only [Act.put, List.setIfInBounds_toArray, List.set_cons_zero, List.set_cons_succ, List.getElem_toArray, List.getElem_cons_zero, List.getElem_cons_succ]
        refine wpAnyH_take (i := 4) (v := ?_) rfl (by kernel_rfl) (by kernel_rfl) (by kernel_rfl) (fun _ _ _ h => h) (Or.inl ⟨by rfl, ?_⟩) (by assumption) ?_
        rotate_left
        · intro wq hSw
          obtain ⟨mq, hmq, _, _⟩ := hSw
          have a4 := hmq.cp 4 _ rfl; have a6 := hmq.cp 6 _ rfl; have a7 := hmq.cp 7 _ rfl; have b4 := hmq.cq 4 _ rfl; have b6 := hmq.cq 6 _ rfl; have b7 := hmq.cq 7 _ rfl
          clear hmq
          go_simp
          try with_reducible rfl
        simp only [Act.put, List.setIfInBounds_toArray, List.set_cons_zero, List.set_cons_succ, List.getElem_toArray, List.getElem_cons_zero, List.getElem_cons_succ]
        refine wpAnyH_take (i := 5) (v := ?_) rfl (by kernel_rfl) (by kernel_rfl) (by kernel_rfl) (fun _ _ _ h => h) (Or.inl ⟨by rfl, ?_⟩) (by assumption) ?_
        rotate_left
        · intro wq hSw
          obtain ⟨mq, hmq, _, _⟩ := hSw
          have a4 := hmq.cp 4 _ rfl; have a6 := hmq.cp 6 _ rfl; have a7 := hmq.cp 7 _ rfl; have b4 := hmq.cq 4 _ rfl; have b6 := hmq.cq 6 _ rfl; have b7 := hmq.cq 7 _ rfl
          clear hmq
          go_simp
          try with_reducible rfl
        simp only [Act.put, List.setIfInBounds_toArray, List.set_cons_zero, List.set_cons_succ, List.getElem_toArray, List.getElem_cons_zero, List.getElem_cons_succ]
        refine wpAnyH_take (i := 6) (v := ?_) rfl (by kernel_rfl) (by kernel_rfl) (by kernel_rfl) (fun _ _ _ h => h) (Or.inl ⟨by rfl, ?_⟩) (by assumption) ?_
        rotate_left
        · intro wq hSw
          obtain ⟨mq, hmq, _, _⟩ := hSw
          have a4 := hmq.cp 4 _ rfl; have a6 := hmq.cp 6 _ rfl; have a7 := hmq.cp 7 _ rfl; have b4 := hmq.cq 4 _ rfl; have b6 := hmq.cq 6 _ rfl; have b7 := hmq.cq 7 _ rfl
          clear hmq
          go_simp
          try with_reducible rfl
        simp only [Act.put, List.setIfInBounds_toArray, List.set_cons_zero, List.set_cons_succ, List.getElem_toArray, List.getElem_cons_zero, List.getElem_cons_succ]
        refine wpAnyH_take (i := 7) (v := ?_) rfl (by kernel_rfl) (by kernel_rfl) (by kernel_rfl) (fun _ _ _ h => h) (Or.inl ⟨by rfl, ?_⟩) (by assumption) ?_
        rotate_left
        · intro wq hSw
          obtain ⟨mq, hmq, _, _⟩ := hSw
          have a4 := hmq.cp 4 _ rfl; have a6 := hmq.cp 6 _ rfl; have a7 := hmq.cp 7 _ rfl; have b4 := hmq.cq 4 _ rfl; have b6 := hmq.cq 6 _ rfl; have b7 := hmq.cq 7 _ rfl
          clear hmq
          go_simp
          try with_reducible rfl
        simp only [Act.put, List.setIfInBounds_toArray, List.set_cons_zero, List.set_cons_succ, List.getElem_toArray, List.getElem_cons_zero, List.getElem_cons_succ]
        refine wpAnyH_take (i := 8) (v := ?_) rfl (by kernel_rfl) (by kernel_rfl) (by kernel_rfl) (fun _ _ _ h => h) (Or.inl ⟨by rfl, ?_⟩) (by assumption) ?_
        rotate_left
        · intro wq hSw
          obtain ⟨mq, hmq, _, _⟩ := hSw
          have a4 := hmq.cp 4 _ rfl; have a6 := hmq.cp 6 _ rfl; have a7 := hmq.cp 7 _ rfl; have b4 := hmq.cq 4 _ rfl; have b6 := hmq.cq 6 _ rfl; have b7 := hmq.cq 7 _ rfl
          clear hmq
          go_simp
          try with_reducible rfl
        simp only [Act.put, List.setIfInBounds_toArray, List.set_cons_zero, List.set_cons_succ, List.getElem_toArray, List.getElem_cons_zero, List.getElem_cons_succ]
        refine wpAnyH_take (i := 9) (v := ?_) rfl (by kernel_rfl) (by kernel_rfl) (by kernel_rfl) (fun _ _ _ h => h) (Or.inl ⟨by rfl, ?_⟩) (by assumption) ?_
        rotate_left
        · intro wq hSw
          obtain ⟨mq, hmq, _, _⟩ := hSw
          have a4 := hmq.cp 4 _ rfl; have a6 := hmq.cp 6 _ rfl; have a7 := hmq.cp 7 _ rfl; have b4 := hmq.cq 4 _ rfl; have b6 := hmq.cq 6 _ rfl; have b7 := hmq.cq 7 _ rfl
          clear hmq
          go_simp
          try with_reducible rfl
        simp only [Act.put, List.setIfInBounds_toArray, List.set_cons_zero, List.set_cons_succ, List.getElem_toArray, List.getElem_cons_zero, List.getElem_cons_succ]
        refine wpAnyH_take (i := 10) (v := ?_) rfl (by kernel_rfl) (by kernel_rfl) (by kernel_rfl) (fun _ _ _ h => h) (Or.inl ⟨by rfl, ?_⟩) (by assumption) ?_
        rotate_left
        · intro wq hSw
          obtain ⟨mq, hmq, _, _⟩ := hSw
          have a4 := hmq.cp 4 _ rfl; have a6 := hmq.cp 6 _ rfl; have a7 := hmq.cp 7 _ rfl; have b4 := hmq.cq 4 _ rfl; have b6 := hmq.cq 6 _ rfl; have b7 := hmq.cq 7 _ rfl
          clear hmq
          go_simp
          try with_reducible rfl
        simp only [Act.put, List.setIfInBounds_toArray, List.set_cons_zero, List.set_cons_succ, List.getElem_toArray, List.getElem_cons_zero, List.getElem_cons_succ]
        refine wpAnyH_take (i := 11) (v := ?_) rfl (by kernel_rfl) (by kernel_rfl) (by kernel_rfl) (fun _ _ _ h => h) (Or.inl ⟨by rfl, ?_⟩) (by assumption) ?_
        rotate_left
        · intro wq hSw
          obtain ⟨mq, hmq, _, _⟩ := hSw
          have a4 := hmq.cp 4 _ rfl; have a6 := hmq.cp 6 _ rfl; have a7 := hmq.cp 7 _ rfl; have b4 := hmq.cq 4 _ rfl; have b6 := hmq.cq 6 _ rfl; have b7 := hmq.cq 7 _ rfl
          clear hmq
          go_simp
          try with_reducible rfl
        simp only [Act.put, List.setIfInBounds_toArray, List.set_cons_zero, List.set_cons_succ, List.getElem_toArray, List.getElem_cons_zero, List.getElem_cons_succ]
        refine wpAnyH_take (i := 12) (v := ?_) rfl (by kernel_rfl) (by kernel_rfl) (by kernel_rfl) (fun _ _ _ h => h) (Or.inl ⟨by rfl, ?_⟩) (by assumption) ?_
        rotate_left
        · intro wq hSw
          obtain ⟨mq, hmq, _, _⟩ := hSw
          have a4 := hmq.cp 4 _ rfl; have a6 := hmq.cp 6 _ rfl; have a7 := hmq.cp 7 _ rfl; have b4 := hmq.cq 4 _ rfl; have b6 := hmq.cq 6 _ rfl; have b7 := hmq.cq 7 _ rfl
          clear hmq
          go_simp
          try with_reducible rfl
        simp only [Act.put, List.setIfInBounds_toArray, List.set_cons_zero, List.set_cons_succ, List.getElem_toArray, List.getElem_cons_zero, List.getElem_cons_succ]
        refine wpAnyH_take (i := 13) (v := ?_) rfl (by kernel_rfl) (by kernel_rfl) (by kernel_rfl) (fun _ _ _ h => h) (Or.inl ⟨by rfl, ?_⟩) (by assumption) ?_
        rotate_left
        · intro wq hSw
          obtain ⟨mq, hmq, _, _⟩ := hSw
          have a4 := hmq.cp 4 _ rfl; have a6 := hmq.cp 6 _ rfl; have a7 := hmq.cp 7 _ rfl; have b4 := hmq.cq 4 _ rfl; have b6 := hmq.cq 6 _ rfl; have b7 := hmq.cq 7 _ rfl
          clear hmq
          go_simp
          try with_reducible rfl
        simp only [Act.put, List.setIfInBounds_toArray, List.set_cons_zero, List.set_cons_succ, List.getElem_toArray, List.getElem_cons_zero, List.getElem_cons_succ]
        refine wpAnyH_take (i := 14) (v := ?_) rfl (by kernel_rfl) (by kernel_rfl) (by kernel_rfl) (fun _ _ _ h => h) (Or.inl ⟨by rfl, ?_⟩) (by assumption) ?_
        rotate_left
        · intro wq hSw
          obtain ⟨mq, hmq, _, _⟩ := hSw
          have a4 := hmq.cp 4 _ rfl; have a6 := hmq.cp 6 _ rfl; have a7 := hmq.cp 7 _ rfl; have b4 := hmq.cq 4 _ rfl; have b6 := hmq.cq 6 _ rfl; have b7 := hmq.cq 7 _ rfl
          clear hmq
          go_simp
          try with_reducible rfl
        simp only [Act.put, List.setIfInBounds_toArray, List.set_cons_zero, List.set_cons_succ, List.getElem_toArray, List.getElem_cons_zero, List.getElem_cons_succ]
        refine wpAnyH_take (i := 15) (v := ?_) rfl (by kernel_rfl) (by kernel_rfl) (by kernel_rfl) (fun _ _ _ h => h) (Or.inl ⟨by rfl, ?_⟩) (by assumption) ?_
        rotate_left
        · intro wq hSw
          obtain ⟨mq, hmq, _, _⟩ := hSw
          have a4 := hmq.cp 4 _ rfl; have a6 := hmq.cp 6 _ rfl; have a7 := hmq.cp 7 _ rfl; have b4 := hmq.cq 4 _ rfl; have b6 := hmq.cq 6 _ rfl; have b7 := hmq.cq 7 _ rfl
          clear hmq
          go_simp
          try with_reducible rfl
        simp only [Act.put, List.setIfInBounds_toArray, List.set_cons_zero, List.set_cons_succ, List.getElem_toArray, List.getElem_cons_zero, List.getElem_cons_succ]
        refine wpAnyH_take (i := 16) (v := ?_) rfl (by kernel_rfl) (by kernel_rfl) (by kernel_rfl) (fun _ _ _ h => h) (Or.inl ⟨by rfl, ?_⟩) (by assumption) ?_
        rotate_left
        · intro wq hSw
          obtain ⟨mq, hmq, _, _⟩ := hSw
          have a4 := hmq.cp 4 _ rfl; have a6 := hmq.cp 6 _ rfl; have a7 := hmq.cp 7 _ rfl; have b4 := hmq.cq 4 _ rfl; have b6 := hmq.cq 6 _ rfl; have b7 := hmq.cq 7 _ rfl
          clear hmq
          go_simp
          try with_reducible rfl
        simp only [Act.put, List.setIfInBounds_toArray, List.set_cons_zero, List.set_cons_succ, List.getElem_toArray, List.getElem_cons_zero, List.getElem_cons_succ]
        refine wpAnyH_take (i := 17) (v := ?_) rfl (by kernel_rfl) (by kernel_rfl) (by kernel_rfl) (fun _ _ _ h => h) (Or.inl ⟨by rfl, ?_⟩) (by assumption) ?_
        rotate_left
        · intro wq hSw
          obtain ⟨mq, hmq, _, _⟩ := hSw
          have a4 := hmq.cp 4 _ rfl; have a6 := hmq.cp 6 _ rfl; have a7 := hmq.cp 7 _ rfl; have b4 := hmq.cq 4 _ rfl; have b6 := hmq.cq 6 _ rfl; have b7 := hmq.cq 7 _ rfl
          clear hmq
          go_simp
          try with_reducible rfl
        simp only [Act.put, List.setIfInBounds_toArray, List.set_cons_zero, List.set_cons_succ, List.getElem_toArray, List.getElem_cons_zero, List.getElem_cons_succ]
        refine wpAnyH_take (i := 18) (v := ?_) rfl (by kernel_rfl) (by kernel_rfl) (by kernel_rfl) (fun _ _ _ h => h) (Or.inl ⟨by rfl, ?_⟩) (by assumption) ?_
        rotate_left
        · intro wq hSw
          obtain ⟨mq, hmq, _, _⟩ := hSw
          have a4 := hmq.cp 4 _ rfl; have a6 := hmq.cp 6 _ rfl; have a7 := hmq.cp 7 _ rfl; have b4 := hmq.cq 4 _ rfl; have b6 := hmq.cq 6 _ rfl; have b7 := hmq.cq 7 _ rfl
          clear hmq
          go_simp
          try with_reducible rfl
        simp only [Act.put, List.setIfInBounds_toArray, List.set_cons_zero, List.set_cons_succ, List.getElem_toArray, List.getElem_cons_zero, List.getElem_cons_succ]
        refine wpAnyH_ready (rs := [19]) (by kernel_rfl) (by simp) ?_
        refine AllReadyH.cons rfl (fun K hK => ?_) AllReadyH.nil
        obtain ⟨mq, hmq, hn, ht⟩ := hHeld
        have hco := hmq.co 4 _ rfl
        have hfo := hmq.fo 4 (by decide)
        have HM := Lib.hid hmq
        have HN := Lib.hid hn
        have HTT := Lib.hid ht
        clear hmq hn ht
        go_simp
        refine hK.out _ _ ⟨_, HM.out.set4 _, HN.out, HTT.out⟩ ?_
        clear hK K hco hfo HM HN HTT
        intro hHeld
        refine wpAnyH_take (i := 20) (v := ?_) rfl (by kernel_rfl) (by kernel_rfl) (by kernel_rfl) (fun _ _ _ h => h) (Or.inl ⟨by rfl, ?_⟩) (by assumption) ?_
        rotate_left
        · intro wq hSw
          obtain ⟨mq, hmq, _, _⟩ := hSw
          have a4 := hmq.cp 4 _ rfl; have a6 := hmq.cp 6 _ rfl; have a7 := hmq.cp 7 _ rfl; have b4 := hmq.cq 4 _ rfl; have b6 := hmq.cq 6 _ rfl; have b7 := hmq.cq 7 _ rfl
          clear hmq
          go_simp
          try with_reducible rfl
        simp only [Act.put, List.setIfInBounds_toArray, List.set_cons_zero, List.set_cons_succ, List.getElem_toArray, List.getElem_cons_zero, List.getElem_cons_succ]
        refine wpAnyH_ready (rs := [21]) (by kernel_rfl) (by simp) ?_
        refine AllReadyH.cons rfl (fun K hK => ?_) AllReadyH.nil
        obtain ⟨mq, hmq, hn, ht⟩ := hHeld
        have hco := hmq.co 6 _ rfl
        have hfo := hmq.fo 6 (by decide)
        have HM := Lib.hid hmq
        have HN := Lib.hid hn
        have HTT := Lib.hid ht
        clear hmq hn ht
        go_simp
        refine hK.out _ _ ⟨_, HM.out.set6 _, HN.out, HTT.out⟩ ?_
        clear hK K hco hfo HM HN HTT
        intro hHeld
        refine wpAnyH_take (i := 22) (v := ?_) rfl (by kernel_rfl) (by kernel_rfl) (by kernel_rfl) (fun _ _ _ h => h) (Or.inl ⟨by rfl, ?_⟩) (by assumption) ?_
        rotate_left
        · intro wq hSw
          obtain ⟨mq, hmq, _, _⟩ := hSw
          have a4 := hmq.cp 4 _ rfl; have a6 := hmq.cp 6 _ rfl; have a7 := hmq.cp 7 _ rfl; have b4 := hmq.cq 4 _ rfl; have b6 := hmq.cq 6 _ rfl; have b7 := hmq.cq 7 _ rfl
          clear hmq
          go_simp
          try with_reducible rfl
        simp only [Act.put, List.setIfInBounds_toArray, List.set_cons_zero, List.set_cons_succ, List.getElem_toArray, List.getElem_cons_zero, List.getElem_cons_succ]
        refine wpAnyH_ready (rs := [23]) (by kernel_rfl) (by simp) ?_
        refine AllReadyH.cons rfl (fun K hK => ?_) AllReadyH.nil
        obtain ⟨mq, hmq, hn, ht⟩ := hHeld
        have hco := hmq.co 7 _ rfl
        have hfo := hmq.fo 7 (by decide)
        have HM := Lib.hid hmq
        have HN := Lib.hid hn
        have HTT := Lib.hid ht
        clear hmq hn ht
        go_simp
        refine hK.out _ _ ⟨_, HM.out.set7 _, HN.out, HTT.out⟩ ?_
        clear hK K hco hfo HM HN HTT
        intro hHeld
        have HZ0 := Lib.hid hHeld
        clear hHeld
        refine wpAnyH_done (by kernel_rfl) (normal_gen (M := MX p q A B c d w.heap.size w) HZ0.out (fun wz hHeld => ?_)) _
        clear HZ0
        have HZ := Lib.hid hHeld
        clear hHeld
        go_wp2
        all_goals (go_meet; exact HZ.out)
      · as_aux_lemma =>
        go_wp2_with fail
        refine wp_region_held_drew (S := MX p q A B c d w.heap.size w) (by kernel_rfl) (HH.out.later (Below.refl _ _).drew) ?_
        clear HH
        intro hHeld
        refine wpAnyH_take (i := 0) (v := ?_) rfl (by kernel_rfl) (by kernel_rfl) (by kernel_rfl) (fun _ _ _ h => h) (Or.inl ⟨by rfl, ?_⟩) (by assumption) ?_
        rotate_left
        · intro wq hSw
          obtain ⟨mq, hmq, _, _⟩ := hSw
          have a4 := hmq.cp 4 _ rfl; have a6 := hmq.cp 6 _ rfl; have a7 := hmq.cp 7 _ rfl; have b4 := hmq.cq 4 _ rfl; have b6 := hmq.cq 6 _ rfl; have b7 := hmq.cq 7 _ rfl
          clear hmq
          go_simp
          try with_reducible rfl
        simp only [Act.put, List.setIfInBounds_toArray, List.set_cons_zero, List.set_cons_succ, List.getElem_toArray, List.getElem_cons_zero]
        refine wpAnyH_take (i := 1) (v := ?_) rfl (by kernel_rfl) (by kernel_rfl) (by kernel_rfl) (fun _ _ _ h => h) (Or.inl ⟨by rfl, ?_⟩) (by assumption) ?_
        rotate_left
        · intro wq hSw
          obtain ⟨mq, hmq, _, _⟩ := hSw
          have a4 := hmq.cp 4 _ rfl; have a6 := hmq.cp 6 _ rfl; have a7 := hmq.cp 7 _ rfl; have b4 := hmq.cq 4 _ rfl; have b6 := hmq.cq 6 _ rfl; have b7 := hmq.cq 7 _ rfl
          clear hmq
          go_simp
          try with_reducible rfl
        simp only [Act.put, List.setIfInBounds_toArray, List.set_cons_zero, List.set_cons_succ, List.getElem_toArray, List.getElem_cons_zero, List.getElem_cons_succ]
        refine wpAnyH_take (i := 2) (v := ?_) rfl (by kernel_rfl) (by kernel_rfl) (by kernel_rfl) (fun _ _ _ h => h) (Or.inl ⟨by rfl, ?_⟩) (by assumption) ?_
        rotate_left
        · intro wq hSw
          obtain ⟨mq, hmq, _, _⟩ := hSw
          have a4 := hmq.cp 4 _ rfl; have a6 := hmq.cp 6 _ rfl; have a7 := hmq.cp 7 _ rfl; have b4 := hmq.cq 4 _ rfl; have b6 := hmq.cq 6 _ rfl; have b7 := hmq.cq 7 _ rfl
          clear hmq
          go_simp
          try with_reducible rfl
        simp only [Act.put, List.setIfInBounds_toArray, List.set_cons_zero, List.set_cons_succ, List.getElem_toArray, List.getElem_cons_zero, List.getElem_cons_succ]
        refine wpAnyH_take (i := 3) (v := ?_) rfl (by kernel_rfl) (by kernel_rfl) (by kernel_rfl) (fun _ _ _ h => h) (Or.inl ⟨by rfl, ?_⟩) (by assumption) ?_
        rotate_left
        · intro wq hSw
          obtain ⟨mq, hmq, _, _⟩ := hSw
          have a4 := hmq.cp 4 _ rfl; have a6 := hmq.cp 6 _ rfl; have a7 := hmq.cp 7 _ rfl; have b4 := hmq.cq 4 _ rfl; have b6 := hmq.cq 6 _ rfl; have b7 := hmq.cq 7 _ rfl
          clear hmq
          go_simp
          try with_reducible rfl
        simp only [Act.put, List.setIfInBounds_toArray, List.set_cons_zero, List.set_cons_succ, List.getElem_toArray, List.getElem_cons_zero, List.getElem_cons_succ]
        refine wpAnyH_take (i := 4) (v := ?_) rfl (by kernel_rfl) (by kernel_rfl) (by kernel_rfl) (fun _ _ _ h => h) (Or.inl ⟨by rfl, ?_⟩) (by assumption) ?_
        rotate_left
        · intro wq hSw
          obtain ⟨mq, hmq, _, _⟩ := hSw
          have a4 := hmq.cp 4 _ rfl; have a6 := hmq.cp 6 _ rfl; have a7 := hmq.cp 7 _ rfl; have b4 := hmq.cq 4 _ rfl; have b6 := hmq.cq 6 _ rfl; have b7 := hmq.cq 7 _ rfl
          clear hmq
          go_simp
          try with_reducible rfl
        simp only [Act.put, List.setIfInBounds_toArray, List.set_cons_zero, List.set_cons_succ, List.getElem_toArray, List.getElem_cons_zero, List.getElem_cons_succ]
        refine wpAnyH_take (i := 5) (v := ?_) rfl (by kernel_rfl) (by kernel_rfl) (by kernel_rfl) (fun _ _ _ h => h) (Or.inl ⟨by rfl, ?_⟩) (by assumption) ?_
        rotate_left
        · intro wq hSw
          obtain ⟨mq, hmq, _, _⟩ := hSw
          have a4 := hmq.cp 4 _ rfl; have a6 := hmq.cp 6 _ rfl; have a7 := hmq.cp 7 _ rfl; have b4 := hmq.cq 4 _ rfl; have b6 := hmq.cq 6 _ rfl; have b7 := hmq.cq 7 _ rfl
          clear hmq
          go_simp
          try with_reducible rfl
        simp only [Act.put, List.setIfInBounds_toArray, List.set_cons_zero, List.set_cons_succ, List.getElem_toArray, List.getElem_cons_zero, List.getElem_cons_succ]
        refine wpAnyH_take (i := 6) (v := ?_) rfl (by kernel_rfl) (by kernel_rfl) (by kernel_rfl) (fun _ _ _ h => h) (Or.inl ⟨by rfl, ?_⟩) (by assumption) ?_
        rotate_left
        · intro wq hSw
          obtain ⟨mq, hmq, _, _⟩ := hSw
          have a4 := hmq.cp 4 _ rfl; have a6 := hmq.cp 6 _ rfl; have a7 := hmq.cp 7 _ rfl; have b4 := hmq.cq 4 _ rfl; have b6 := hmq.cq 6 _ rfl; have b7 := hmq.cq 7 _ rfl
          clear hmq
          go_simp
          try with_reducible rfl
        simp only [Act.put, List.setIfInBounds_toArray, List.set_cons_zero, List.set_cons_succ, List.getElem_toArray, List.getElem_cons_zero, List.getElem_cons_succ]
        refine wpAnyH_take (i := 7) (v := ?_) rfl (by kernel_rfl) (by kernel_rfl) (by kernel_rfl) (fun _ _ _ h => h) (Or.inl ⟨by rfl, ?_⟩) (by assumption) ?_
        rotate_left
        · intro wq hSw
          obtain ⟨mq, hmq, _, _⟩ := hSw
          have a4 := hmq.cp 4 _ rfl; have a6 := hmq.cp 6 _ rfl; have a7 := hmq.cp 7 _ rfl; have b4 := hmq.cq 4 _ rfl; have b6 := hmq.cq 6 _ rfl; have b7 := hmq.cq 7 _ rfl
          clear hmq
          go_simp
          try with_reducible rfl
        simp only [Act.put, List.setIfInBounds_toArray, List.set_cons_zero, List.set_cons_succ, List.getElem_toArray, List.getElem_cons_zero, List.getElem_cons_succ]
        refine wpAnyH_take (i := 8) (v := ?_) rfl (by kernel_rfl) (by kernel_rfl) (by kernel_rfl) (fun _ _ _ h => h) (Or.inl ⟨by rfl, ?_⟩) (by assumption) ?_
        rotate_left
        · intro wq hSw
          obtain ⟨mq, hmq, _, _⟩ := hSw
          have a4 := hmq.cp 4 _ rfl; have a6 := hmq.cp 6 _ rfl; have a7 := hmq.cp 7 _ rfl; have b4 := hmq.cq 4 _ rfl; have b6 := hmq.cq 6 _ rfl; have b7 := hmq.cq 7 _ rfl
          clear hmq
          go_simp
          try with_reducible rfl
        simp only [Act.put, List.setIfInBounds_toArray, List.set_cons_zero, List.set_cons_succ, List.getElem_toArray, List.getElem_cons_zero, List.getElem_cons_succ]
        refine wpAnyH_take (i := 9) (v := ?_) rfl (by kernel_rfl) (by kernel_rfl) (by kernel_rfl) (fun _ _ _ h => h) (Or.inl ⟨by rfl, ?_⟩) (by assumption) ?_
        rotate_left
        · intro wq hSw
          obtain ⟨mq, hmq, _, _⟩ := hSw
          have a4 := hmq.cp 4 _ rfl; have a6 := hmq.cp 6 _ rfl; have a7 := hmq.cp 7 _ rfl; have b4 := hmq.cq 4 _ rfl; have b6 := hmq.cq 6 _ rfl; have b7 := hmq.cq 7 _ rfl
          clear hmq
          go_simp
          try with_reducible rfl
        simp only [Act.put, List.setIfInBounds_toArray, List.set_cons_zero, List.set_cons_succ, List.getElem_toArray, List.getElem_cons_zero, List.getElem_cons_succ]
        refine wpAnyH_take (i := 10) (v := ?_) rfl (by kernel_rfl) (by kernel_rfl) (by kernel_rfl) (fun _ _ _ h => h) (Or.inl ⟨by rfl, ?_⟩) (by assumption) ?_
        rotate_left
        · intro wq hSw
          obtain ⟨mq, hmq, _, _⟩ := hSw
          have a4 := hmq.cp 4 _ rfl; have a6 := hmq.cp 6 _ rfl; have a7 := hmq.cp 7 _ rfl; have b4 := hmq.cq 4 _ rfl; have b6 := hmq.cq 6 _ rfl; have b7 := hmq.cq 7 _ rfl
          clear hmq
          go_simp
          try with_reducible rfl
        simp only [Act.put, List.setIfInBounds_toArray, List.set_cons_zero, List.set_cons_succ, List.getElem_toArray, List.getElem_cons_zero, List.getElem_cons_succ]
        refine wpAnyH_take (i := 11) (v := ?_) rfl (by kernel_rfl) (by kernel_rfl) (by kernel_rfl) (fun _ _ _ h => h) (Or.inl ⟨by rfl, ?_⟩) (by assumption) ?_
        rotate_left
        · intro wq hSw
          obtain ⟨mq, hmq, _, _⟩ := hSw
          have a4 := hmq.cp 4 _ rfl; have a6 := hmq.cp 6 _ rfl; have a7 := hmq.cp 7 _ rfl; have b4 := hmq.cq 4 _ rfl; have b6 := hmq.cq 6 _ rfl; have b7 := hmq.cq 7 _ rfl
          clear hmq
          go_simp
          try with_reducible rfl
        simp only [Act.put, List.setIfInBounds_toArray, List.set_cons_zero, List.set_cons_succ, List.getElem_toArray, List.getElem_cons_zero, List.getElem_cons_succ]
        refine wpAnyH_take (i := 12) (v := ?_) rfl (by kernel_rfl) (by kernel_rfl) (by kernel_rfl) (fun _ _ _ h => h) (Or.inl ⟨by rfl, ?_⟩) (by assumption) ?_
        rotate_left
        · intro wq hSw
          obtain ⟨mq, hmq, _, _⟩ := hSw
          have a4 := hmq.cp 4 _ rfl; have a6 := hmq.cp 6 _ rfl; have a7 := hmq.cp 7 _ rfl; have b4 := hmq.cq 4 _ rfl; have b6 := hmq.cq 6 _ rfl; have b7 := hmq.cq 7 _ rfl
          clear hmq
          go_simp
          try with_reducible rfl
        simp only [Act.put, List.setIfInBounds_toArray, List.set_cons_zero, List.set_cons_succ, List.getElem_toArray, List.getElem_cons_zero, List.getElem_cons_succ]
        refine wpAnyH_take (i := 13) (v := ?_) rfl (by kernel_rfl) (by kernel_rfl) (by kernel_rfl) (fun _ _ _ h => h) (Or.inl ⟨by rfl, ?_⟩) (by assumption) ?_
        rotate_left
        · intro wq hSw
          obtain ⟨mq, hmq, _, _⟩ := hSw
          have a4 := hmq.cp 4 _ rfl; have a6 := hmq.cp 6 _ rfl; have a7 := hmq.cp 7 _ rfl; have b4 := hmq.cq 4 _ rfl; have b6 := hmq.cq 6 _ rfl; have b7 := hmq.cq 7 _ rfl
          clear hmq
          go_simp
          try with_reducible rfl
        simp only [Act.put, List.setIfInBounds_toArray, List.set_cons_zero, List.set_cons_succ, List.getElem_toArray, List.getElem_cons_zero, List.getElem_cons_succ]
        refine wpAnyH_take (i := 14) (v := ?_) rfl (by kernel_rfl) (by kernel_rfl) (by kernel_rfl) (fun _ _ _ h => h) (Or.inl ⟨by rfl, ?_⟩) (by assumption) ?_
        rotate_left
        · intro wq hSw
          obtain ⟨mq, hmq, _, _⟩ := hSw
          have a4 := hmq.cp 4 _ rfl; have a6 := hmq.cp 6 _ rfl; have a7 := hmq.cp 7 _ rfl; have b4 := hmq.cq 4 _ rfl; have b6 := hmq.cq 6 _ rfl; have b7 := hmq.cq 7 _ rfl
          clear hmq
          go_simp
          try with_reducible rfl
        simp only [Act.put, List.setIfInBounds_toArray, List.set_cons_zero, List.set_cons_succ, List.getElem_toArray, List.getElem_cons_zero, List.getElem_cons_succ]
        refine wpAnyH_take (i := 15) (v := undef) rfl (by kernel_rfl) (by kernel_rfl) (by kernel_rfl) (fun _ _ _ h => h) (Or.inr ⟨by rfl, rfl⟩) (by assumption) ?_
        simp only [Act.put, List.setIfInBounds_toArray, List.set_cons_zero, List.set_cons_succ, List.getElem_toArray, List.getElem_cons_zero, List.getElem_cons_succ]
        refine wpAnyH_take (i := 16) (v := undef) rfl (by kernel_rfl) (by kernel_rfl) (by kernel_rfl) (fun _ _ _ h => h) (Or.inr ⟨by rfl, rfl⟩) (by assumption) ?_
        simp only [Act.put, List.setIfInBounds_toArray, List.set_cons_zero, List.set_cons_succ, List.getElem_toArray, List.getElem_cons_zero, List.getElem_cons_succ]
        refine wpAnyH_take (i := 17) (v := ?_) rfl (by kernel_rfl) (by kernel_rfl) (by kernel_rfl) (fun _ _ _ h => h) (Or.inl ⟨by rfl, ?_⟩) (by assumption) ?_
        rotate_left
        · intro wq hSw
          obtain ⟨mq, hmq, _, _⟩ := hSw
          have a4 := hmq.cp 4 _ rfl; have a6 := hmq.cp 6 _ rfl; have a7 := hmq.cp 7 _ rfl; have b4 := hmq.cq 4 _ rfl; have b6 := hmq.cq 6 _ rfl; have b7 := hmq.cq 7 _ rfl
          clear hmq
          go_simp
          try with_reducible rfl
        simp only [Act.put, List.setIfInBounds_toArray, List.set_cons_zero, List.set_cons_succ, List.getElem_toArray, List.getElem_cons_zero, List.getElem_cons_succ]
        refine wpAnyH_take (i := 18) (v := ?_) rfl (by kernel_rfl) (by kernel_rfl) (by kernel_rfl) (fun _ _ _ h => h) (Or.inl ⟨by rfl, ?_⟩) (by assumption) ?_
        rotate_left
        · intro wq hSw
          obtain ⟨mq, hmq, _, _⟩ := hSw
          have a4 := hmq.cp 4 _ rfl; have a6 := hmq.cp 6 _ rfl; have a7 := hmq.cp 7 _ rfl; have b4 := hmq.cq 4 _ rfl; have b6 := hmq.cq 6 _ rfl; have b7 := hmq.cq 7 _ rfl
          clear hmq
          go_simp
          try with_reducible rfl
        simp only [Act.put, List.setIfInBounds_toArray, List.set_cons_zero, List.set_cons_succ, List.getElem_toArray, List.getElem_cons_zero, List.getElem_cons_succ]
        refine wpAnyH_ready (rs := [19]) (by kernel_rfl) (by simp) ?_
        refine AllReadyH.cons rfl (fun K hK => ?_) AllReadyH.nil
        obtain ⟨mq, hmq, hn, ht⟩ := hHeld
        have hco := hmq.co 4 _ rfl
        have hfo := hmq.fo 4 (by decide)
        have HM := Lib.hid hmq
        have HN := Lib.hid hn
        have HTT := Lib.hid ht
        clear hmq hn ht
        go_simp
        refine hK.out _ _ ⟨_, HM.out.set4 _, HN.out, HTT.out⟩ ?_
        clear hK K hco hfo HM HN HTT
        intro hHeld
        refine wpAnyH_take (i := 20) (v := ?_) rfl (by kernel_rfl) (by kernel_rfl) (by kernel_rfl) (fun _ _ _ h => h) (Or.inl ⟨by rfl, ?_⟩) (by assumption) ?_
        rotate_left
        · intro wq hSw
          obtain ⟨mq, hmq, _, _⟩ := hSw
          have a4 := hmq.cp 4 _ rfl; have a6 := hmq.cp 6 _ rfl; have a7 := hmq.cp 7 _ rfl; have b4 := hmq.cq 4 _ rfl; have b6 := hmq.cq 6 _ rfl; have b7 := hmq.cq 7 _ rfl
          clear hmq
          go_simp
          try with_reducible rfl
        simp only [Act.put, List.setIfInBounds_toArray, List.set_cons_zero, List.set_cons_succ, List.getElem_toArray, List.getElem_cons_zero, List.getElem_cons_succ]
        refine wpAnyH_ready (rs := [21]) (by kernel_rfl) (by simp) ?_
        refine AllReadyH.cons rfl (fun K hK => ?_) AllReadyH.nil
        obtain ⟨mq, hmq, hn, ht⟩ := hHeld
        have hco := hmq.co 6 _ rfl
        have hfo := hmq.fo 6 (by decide)
        have HM := Lib.hid hmq
        have HN := Lib.hid hn
        have HTT := Lib.hid ht
        clear hmq hn ht
        go_simp
        refine hK.out _ _ ⟨_, HM.out.set6 _, HN.out, HTT.out⟩ ?_
        clear hK K hco hfo HM HN HTT
        intro hHeld
        refine wpAnyH_take (i := 22) (v := ?_) rfl (by kernel_rfl) (by kernel_rfl) (by kernel_rfl) (fun _ _ _ h => h) (Or.inl ⟨by rfl, ?_⟩) (by assumption) ?_
        rotate_left
        · intro wq hSw
          obtain ⟨mq, hmq, _, _⟩ := hSw
          have a4 := hmq.cp 4 _ rfl; have a6 := hmq.cp 6 _ rfl; have a7 := hmq.cp 7 _ rfl; have b4 := hmq.cq 4 _ rfl; have b6 := hmq.cq 6 _ rfl; have b7 := hmq.cq 7 _ rfl
          clear hmq
          go_simp
          try with_reducible rfl
        simp only [Act.put, List.setIfInBounds_toArray, List.set_cons_zero, List.set_cons_succ, List.getElem_toArray, List.getElem_cons_zero, List.getElem_cons_succ]
        refine wpAnyH_ready (rs := [23]) (by kernel_rfl) (by simp) ?_
        refine AllReadyH.cons rfl (fun K hK => ?_) AllReadyH.nil
        obtain ⟨mq, hmq, hn, ht⟩ := hHeld
        have hco := hmq.co 7 _ rfl
        have hfo := hmq.fo 7 (by decide)
        have HM := Lib.hid hmq
        have HN := Lib.hid hn
        have HTT := Lib.hid ht
        clear hmq hn ht
        go_simp
        refine hK.out _ _ ⟨_, HM.out.set7 _, HN.out, HTT.out⟩ ?_
        clear hK K hco hfo HM HN HTT
        intro hHeld
        have HZ0 := Lib.hid hHeld
        clear hHeld
        refine wpAnyH_done (by kernel_rfl) (normal_gen (M := MX p q A B c d w.heap.size w) HZ0.out (fun wz hHeld => ?_)) _
        clear HZ0
        have HZ := Lib.hid hHeld
        clear hHeld
        go_wp2
        all_goals (go_meet; exact HZ.out)
      · as_aux_lemma =>
        go_wp2_with fail
        refine wp_region_held_drew (S := MX p q A B c d w.heap.size w) (by kernel_rfl) (HH.out.later (Below.refl _ _).drew) ?_
        clear HH
        intro hHeld
        refine wpAnyH_take (i := 0) (v := ?_) rfl (by kernel_rfl) (by kernel_rfl) (by kernel_rfl) (fun _ _ _ h => h) (Or.inl ⟨by rfl, ?_⟩) (by assumption) ?_
        rotate_left
        · intro wq hSw
          obtain ⟨mq, hmq, _, _⟩ := hSw
          have a4 := hmq.cp 4 _ rfl; have a6 := hmq.cp 6 _ rfl; have a7 := hmq.cp 7 _ rfl; have b4 := hmq.cq 4 _ rfl; have b6 := hmq.cq 6 _ rfl; have b7 := hmq.cq 7 _ rfl
          clear hmq
          go_simp
          try with_reducible rfl
        simp only [Act.put, List.setIfInBounds_toArray, List.set_cons_zero, List.set_cons_succ, List.getElem_toArray, List.getElem_cons_zero]
        refine wpAnyH_take (i := 1) (v := ?_) rfl (by kernel_rfl) (by kernel_rfl) (by kernel_rfl) (fun _ _ _ h => h) (Or.inl ⟨by rfl, ?_⟩) (by assumption) ?_
        rotate_left
        · intro wq hSw
          obtain ⟨mq, hmq, _, _⟩ := hSw
          have a4 := hmq.cp 4 _ rfl; have a6 := hmq.cp 6 _ rfl; have a7 := hmq.cp 7 _ rfl; have b4 := hmq.cq 4 _ rfl; have b6 := hmq.cq 6 _ rfl; have b7 := hmq.cq 7 _ rfl
          clear hmq
          go_simp
          try with_reducible rfl
        simp only [Act.put, List.setIfInBounds_toArray, List.set_cons_zero, List.set_cons_succ, List.getElem_toArray, List.getElem_cons_zero, List.getElem_cons_succ]
        refine wpAnyH_take (i := 2) (v := ?_) rfl (by kernel_rfl) (by kernel_rfl) (by kernel_rfl) (fun _ _ _ h => h) (Or.inl ⟨by rfl, ?_⟩) (by assumption) ?_
        rotate_left
        · intro wq hSw
          obtain ⟨mq, hmq, _, _⟩ := hSw
          have a4 := hmq.cp 4 _ rfl; have a6 := hmq.cp 6 _ rfl; have a7 := hmq.cp 7 _ rfl; have b4 := hmq.cq 4 _ rfl; have b6 := hmq.cq 6 _ rfl; have b7 := hmq.cq 7 _ rfl
          clear hmq
          go_simp
          try with_reducible rfl
        simp only [Act.put, List.setIfInBounds_toArray, List.set_cons_zero, List.set_cons_succ, List.getElem_toArray, List.getElem_cons_zero, List.getElem_cons_succ]
        refine wpAnyH_take (i := 3) (v := ?_) rfl (by kernel_rfl) (by kernel_rfl) (by kernel_rfl) (fun _ _ _ h => h) (Or.inl ⟨by rfl, ?_⟩) (by assumption) ?_
        rotate_left
        · intro wq hSw
          obtain ⟨mq, hmq, _, _⟩ := hSw
          have a4 := hmq.cp 4 _ rfl; have a6 := hmq.cp 6 _ rfl; have a7 := hmq.cp 7 _ rfl; have b4 := hmq.cq 4 _ rfl; have b6 := hmq.cq 6 _ rfl; have b7 := hmq.cq 7 _ rfl
          clear hmq
          go_simp
          try with_reducible rfl
        simp only [Act.put, List.setIfInBounds_toArray, List.set_cons_zero, List.set_cons_succ, List.getElem_toArray, List.getElem_cons_zero, List.getElem_cons_succ]
        refine wpAnyH_take (i := 4) (v := ?_) rfl (by kernel_rfl) (by kernel_rfl) (by kernel_rfl) (fun _ _ _ h => h) (Or.inl ⟨by rfl, ?_⟩) (by assumption) ?_
        rotate_left
        · intro wq hSw
          obtain ⟨mq, hmq, _, _⟩ := hSw
          have a4 := hmq.cp 4 _ rfl; have a6 := hmq.cp 6 _ rfl; have a7 := hmq.cp 7 _ rfl; have b4 := hmq.cq 4 _ rfl; have b6 := hmq.cq 6 _ rfl; have b7 := hmq.cq 7 _ rfl
          clear hmq
          go_simp
          try with_reducible rfl
        simp only [Act.put, List.setIfInBounds_toArray, List.set_cons_zero, List.set_cons_succ, List.getElem_toArray, List.getElem_cons_zero, List.getElem_cons_succ]
        refine wpAnyH_take (i := 5) (v := ?_) rfl (by kernel_rfl) (by kernel_rfl) (by kernel_rfl) (fun _ _ _ h => h) (Or.inl ⟨by rfl, ?_⟩) (by assumption) ?_
        rotate_left
        · intro wq hSw
          obtain ⟨mq, hmq, _, _⟩ := hSw
          have a4 := hmq.cp 4 _ rfl; have a6 := hmq.cp 6 _ rfl; have a7 := hmq.cp 7 _ rfl; have b4 := hmq.cq 4 _ rfl; have b6 := hmq.cq 6 _ rfl; have b7 := hmq.cq 7 _ rfl
          clear hmq
          go_simp
          try with_reducible rfl
        simp only [Act.put, List.setIfInBounds_toArray, List.set_cons_zero, List.set_cons_succ, List.getElem_toArray, List.getElem_cons_zero, List.getElem_cons_succ]
        refine wpAnyH_take (i := 6) (v := ?_) rfl (by kernel_rfl) (by kernel_rfl) (by kernel_rfl) (fun _ _ _ h => h) (Or.inl ⟨by rfl, ?_⟩) (by assumption) ?_
        rotate_left
        · intro wq hSw
          obtain ⟨mq, hmq, _, _⟩ := hSw
          have a4 := hmq.cp 4 _ rfl; have a6 := hmq.cp 6 _ rfl; have a7 := hmq.cp 7 _ rfl; have b4 := hmq.cq 4 _ rfl; have b6 := hmq.cq 6 _ rfl; have b7 := hmq.cq 7 _ rfl
          clear hmq
          go_simp
          try with_reducible rfl
        simp only [Act.put, List.setIfInBounds_toArray, List.set_cons_zero, List.set_cons_succ, List.getElem_toArray, List.getElem_cons_zero, List.getElem_cons_succ]
        refine wpAnyH_take (i := 7) (v := ?_) rfl (by kernel_rfl) (by kernel_rfl) (by kernel_rfl) (fun _ _ _ h => h) (Or.inl ⟨by rfl, ?_⟩) (by assumption) ?_
        rotate_left
        · intro wq hSw
          obtain ⟨mq, hmq, _, _⟩ := hSw
          have a4 := hmq.cp 4 _ rfl; have a6 := hmq.cp 6 _ rfl; have a7 := hmq.cp 7 _ rfl; have b4 := hmq.cq 4 _ rfl; have b6 := hmq.cq 6 _ rfl; have b7 := hmq.cq 7 _ rfl
          clear hmq
          go_simp
          try with_reducible rfl
        simp only [Act.put, List.setIfInBounds_toArray, List.set_cons_zero, List.set_cons_succ, List.getElem_toArray, List.getElem_cons_zero, List.getElem_cons_succ]
        refine wpAnyH_take (i := 8) (v := ?_) rfl (by kernel_rfl) (by kernel_rfl) (by kernel_rfl) (fun _ _ _ h => h) (Or.inl ⟨by rfl, ?_⟩) (by assumption) ?_
        rotate_left
        · intro wq hSw
          obtain ⟨mq, hmq, _, _⟩ := hSw
          have a4 := hmq.cp 4 _ rfl; have a6 := hmq.cp 6 _ rfl; have a7 := hmq.cp 7 _ rfl; have b4 := hmq.cq 4 _ rfl; have b6 := hmq.cq 6 _ rfl; have b7 := hmq.cq 7 _ rfl
          clear hmq
          go_simp
          try with_reducible rfl
        simp only [Act.put, List.setIfInBounds_toArray, List.set_cons_zero, List.set_cons_succ, List.getElem_toArray, List.getElem_cons_zero, List.getElem_cons_succ]
        refine wpAnyH_take (i := 9) (v := undef) rfl (by kernel_rfl) (by kernel_rfl) (by kernel_rfl) (fun _ _ _ h => h) (Or.inr ⟨by rfl, rfl⟩) (by assumption) ?_
        simp only [Act.put, List.setIfInBounds_toArray, List.set_cons_zero, List.set_cons_succ, List.getElem_toArray, List.getElem_cons_zero, List.getElem_cons_succ]
        refine wpAnyH_take (i := 10) (v := undef) rfl (by kernel_rfl) (by kernel_rfl) (by kernel_rfl) (fun _ _ _ h => h) (Or.inr ⟨by rfl, rfl⟩) (by assumption) ?_
        simp only [Act.put, List.setIfInBounds_toArray, List.set_cons_zero, List.set_cons_succ, List.getElem_toArray, List.getElem_cons_zero, List.getElem_cons_succ]
        refine wpAnyH_take (i := 11) (v := ?_) rfl (by kernel_rfl) (by kernel_rfl) (by kernel_rfl) (fun _ _ _ h => h) (Or.inl ⟨by rfl, ?_⟩) (by assumption) ?_
        rotate_left
        · intro wq hSw
          obtain ⟨mq, hmq, _, _⟩ := hSw
          have a4 := hmq.cp 4 _ rfl; have a6 := hmq.cp 6 _ rfl; have a7 := hmq.cp 7 _ rfl; have b4 := hmq.cq 4 _ rfl; have b6 := hmq.cq 6 _ rfl; have b7 := hmq.cq 7 _ rfl
          clear hmq
          go_simp
          try with_reducible rfl
        simp only [Act.put, List.setIfInBounds_toArray, List.set_cons_zero, List.set_cons_succ, List.getElem_toArray, List.getElem_cons_zero, List.getElem_cons_succ]
        refine wpAnyH_take (i := 12) (v := ?_) rfl (by kernel_rfl) (by kernel_rfl) (by kernel_rfl) (fun _ _ _ h => h) (Or.inl ⟨by rfl, ?_⟩) (by assumption) ?_
        rotate_left
        · intro wq hSw
          obtain ⟨mq, hmq, _, _⟩ := hSw
          have a4 := hmq.cp 4 _ rfl; have a6 := hmq.cp 6 _ rfl; have a7 := hmq.cp 7 _ rfl; have b4 := hmq.cq 4 _ rfl; have b6 := hmq.cq 6 _ rfl; have b7 := hmq.cq 7 _ rfl
          clear hmq
          go_simp
          try with_reducible rfl
        simp only [Act.put, List.setIfInBounds_toArray, List.set_cons_zero, List.set_cons_succ, List.getElem_toArray, List.getElem_cons_zero, List.getElem_cons_succ]
        refine wpAnyH_take (i := 13) (v := ?_) rfl (by kernel_rfl) (by kernel_rfl) (by kernel_rfl) (fun _ _ _ h => h) (Or.inl ⟨by rfl, ?_⟩) (by assumption) ?_
        rotate_left
        · intro wq hSw
          obtain ⟨mq, hmq, _, _⟩ := hSw
          have a4 := hmq.cp 4 _ rfl; have a6 := hmq.cp 6 _ rfl; have a7 := hmq.cp 7 _ rfl; have b4 := hmq.cq 4 _ rfl; have b6 := hmq.cq 6 _ rfl; have b7 := hmq.cq 7 _ rfl
          clear hmq
          go_simp
          try with_reducible rfl
        simp only [Act.put, List.setIfInBounds_toArray, List.set_cons_zero, List.set_cons_succ, List.getElem_toArray, List.getElem_cons_zero, List.getElem_cons_succ]
        refine wpAnyH_take (i := 14) (v := ?_) rfl (by kernel_rfl) (by kernel_rfl) (by kernel_rfl) (fun _ _ _ h => h) (Or.inl ⟨by rfl, ?_⟩) (by assumption) ?_
        rotate_left
        · intro wq hSw
          obtain ⟨mq, hmq, _, _⟩ := hSw
          have a4 := hmq.cp 4 _ rfl; have a6 := hmq.cp 6 _ rfl; have a7 := hmq.cp 7 _ rfl; have b4 := hmq.cq 4 _ rfl; have b6 := hmq.cq 6 _ rfl; have b7 := hmq.cq 7 _ rfl
          clear hmq
          go_simp
          try with_reducible rfl
        simp only [Act.put, List.setIfInBounds_toArray, List.set_cons_zero, List.set_cons_succ, List.getElem_toArray, List.getElem_cons_zero, List.getElem_cons_succ]
        refine wpAnyH_take (i := 15) (v := ?_) rfl (by kernel_rfl) (by kernel_rfl) (by kernel_rfl) (fun _ _ _ h => h) (Or.inl ⟨by rfl, ?_⟩) (by assumption) ?_
        rotate_left
        · intro wq hSw
          obtain ⟨mq, hmq, _, _⟩ := hSw
          have a4 := hmq.cp 4 _ rfl; have a6 := hmq.cp 6 _ rfl; have a7 := hmq.cp 7 _ rfl; have b4 := hmq.cq 4 _ rfl; have b6 := hmq.cq 6 _ rfl; have b7 := hmq.cq 7 _ rfl
          clear hmq
          go_simp
          try with_reducible rfl
        simp only [Act.put, List.setIfInBounds_toArray, List.set_cons_zero, List.set_cons_succ, List.getElem_toArray, List.getElem_cons_zero, List.getElem_cons_succ]
        refine wpAnyH_take (i := 16) (v := ?_) rfl (by kernel_rfl) (by kernel_rfl) (by kernel_rfl) (fun _ _ _ h => h) (Or.inl ⟨by rfl, ?_⟩) (by assumption) ?_
        rotate_left
        · intro wq hSw
          obtain ⟨mq, hmq, _, _⟩ := hSw
          have a4 := hmq.cp 4 _ rfl; have a6 := hmq.cp 6 _ rfl; have a7 := hmq.cp 7 _ rfl; have b4 := hmq.cq 4 _ rfl; have b6 := hmq.cq 6 _ rfl; have b7 := hmq.cq 7 _ rfl
          clear hmq
          go_simp
          try with_reducible rfl
        simp only [Act.put, List.setIfInBounds_toArray, List.set_cons_zero, List.set_cons_succ, List.getElem_toArray, List.getElem_cons_zero, List.getElem_cons_succ]
        refine wpAnyH_take (i := 17) (v := ?_) rfl (by kernel_rfl) (by kernel_rfl) (by kernel_rfl) (fun _ _ _ h => h) (Or.inl ⟨by rfl, ?_⟩) (by assumption) ?_
        rotate_left
        · intro wq hSw
          obtain ⟨mq, hmq, _, _⟩ := hSw
          have a4 := hmq.cp 4 _ rfl; have a6 := hmq.cp 6 _ rfl; have a7 := hmq.cp 7 _ rfl; have b4 := hmq.cq 4 _ rfl; have b6 := hmq.cq 6 _ rfl; have b7 := hmq.cq 7 _ rfl
          clear hmq
          go_simp
          try with_reducible rfl
        simp only [Act.put, List.setIfInBounds_toArray, List.set_cons_zero, List.set_cons_succ, List.getElem_toArray, List.getElem_cons_zero, List.getElem_cons_succ]
        refine wpAnyH_take (i := 18) (v := ?_) rfl (by kernel_rfl) (by kernel_rfl) (by kernel_rfl) (fun _ _ _ h => h) (Or.inl ⟨by rfl, ?_⟩) (by assumption) ?_
        rotate_left
        · intro wq hSw
          obtain ⟨mq, hmq, _, _⟩ := hSw
          have a4 := hmq.cp 4 _ rfl; have a6 := hmq.cp 6 _ rfl; have a7 := hmq.cp 7 _ rfl; have b4 := hmq.cq 4 _ rfl; have b6 := hmq.cq 6 _ rfl; have b7 := hmq.cq 7 _ rfl
          clear hmq
          go_simp
          try with_reducible rfl
        simp only [Act.put, List.setIfInBounds_toArray, List.set_cons_zero, List.set_cons_succ, List.getElem_toArray, List.getElem_cons_zero, List.getElem_cons_succ]
        refine wpAnyH_ready (rs := [19]) (by kernel_rfl) (by simp) ?_
        refine AllReadyH.cons rfl (fun K hK => ?_) AllReadyH.nil
        obtain ⟨mq, hmq, hn, ht⟩ := hHeld
        have hco := hmq.co 4 _ rfl
        have hfo := hmq.fo 4 (by decide)
        have HM := Lib.hid hmq
        have HN := Lib.hid hn
        have HTT := Lib.hid ht
        clear hmq hn ht
        go_simp
        refine hK.out _ _ ⟨_, HM.out.set4 _, HN.out, HTT.out⟩ ?_
        clear hK K hco hfo HM HN HTT
        intro hHeld
        refine wpAnyH_take (i := 20) (v := ?_) rfl (by kernel_rfl) (by kernel_rfl) (by kernel_rfl) (fun _ _ _ h => h) (Or.inl ⟨by rfl, ?_⟩) (by assumption) ?_
        rotate_left
        · intro wq hSw
          obtain ⟨mq, hmq, _, _⟩ := hSw
          have a4 := hmq.cp 4 _ rfl; have a6 := hmq.cp 6 _ rfl; have a7 := hmq.cp 7 _ rfl; have b4 := hmq.cq 4 _ rfl; have b6 := hmq.cq 6 _ rfl; have b7 := hmq.cq 7 _ rfl
          clear hmq
          go_simp
          try with_reducible rfl
        simp only [Act.put, List.setIfInBounds_toArray, List.set_cons_zero, List.set_cons_succ, List.getElem_toArray, List.getElem_cons_zero, List.getElem_cons_succ]
        refine wpAnyH_ready (rs := [21]) (by kernel_rfl) (by simp) ?_
        refine AllReadyH.cons rfl (fun K hK => ?_) AllReadyH.nil
        obtain ⟨mq, hmq, hn, ht⟩ := hHeld
        have hco := hmq.co 6 _ rfl
        have hfo := hmq.fo 6 (by decide)
        have HM := Lib.hid hmq
        have HN := Lib.hid hn
        have HTT := Lib.hid ht
        clear hmq hn ht
        go_simp
        refine hK.out _ _ ⟨_, HM.out.set6 _, HN.out, HTT.out⟩ ?_
        clear hK K hco hfo HM HN HTT
        intro hHeld
        refine wpAnyH_take (i := 22) (v := ?_) rfl (by kernel_rfl) (by kernel_rfl) (by kernel_rfl) (fun _ _ _ h => h) (Or.inl ⟨by rfl, ?_⟩) (by assumption) ?_
        rotate_left
        · intro wq hSw
          obtain ⟨mq, hmq, _, _⟩ := hSw
          have a4 := hmq.cp 4 _ rfl; have a6 := hmq.cp 6 _ rfl; have a7 := hmq.cp 7 _ rfl; have b4 := hmq.cq 4 _ rfl; have b6 := hmq.cq 6 _ rfl; have b7 := hmq.cq 7 _ rfl
          clear hmq
          go_simp
          try with_reducible rfl
        simp only [Act.put, List.setIfInBounds_toArray, List.set_cons_zero, List.set_cons_succ, List.getElem_toArray, List.getElem_cons_zero, List.getElem_cons_succ]
        refine wpAnyH_ready (rs := [23]) (by kernel_rfl) (by simp) ?_
        refine AllReadyH.cons rfl (fun K hK => ?_) AllReadyH.nil
        obtain ⟨mq, hmq, hn, ht⟩ := hHeld
        have hco := hmq.co 7 _ rfl
        have hfo := hmq.fo 7 (by decide)
        have HM := Lib.hid hmq
        have HN := Lib.hid hn
        have HTT := Lib.hid ht
        clear hmq hn ht
        go_simp
        refine hK.out _ _ ⟨_, HM.out.set7 _, HN.out, HTT.out⟩ ?_
        clear hK K hco hfo HM HN HTT
        intro hHeld
        have HZ0 := Lib.hid hHeld
        clear hHeld
        refine wpAnyH_done (by kernel_rfl) (normal_gen (M := MX p q A B c d w.heap.size w) HZ0.out (fun wz hHeld => ?_)) _
        clear HZ0
        have HZ := Lib.hid hHeld
        clear hHeld
        go_wp2
        all_goals (go_meet; exact HZ.out)
      · as_aux_lemma =>
        go_wp2_with fail
        refine wp_region_held_drew (S := MX p q A B c d w.heap.size w) (by kernel_rfl) (HH.out.later (Below.refl _ _).drew) ?_
        clear HH
        intro hHeld
        refine wpAnyH_take (i := 0) (v := ?_) rfl (by kernel_rfl) (by kernel_rfl) (by kernel_rfl) (fun _ _ _ h => h) (Or.inl ⟨by rfl, ?_⟩) (by assumption) ?_
        rotate_left
        · intro wq hSw
          obtain ⟨mq, hmq, _, _⟩ := hSw
          have a4 := hmq.cp 4 _ rfl; have a6 := hmq.cp 6 _ rfl; have a7 := hmq.cp 7 _ rfl; have b4 := hmq.cq 4 _ rfl; have b6 := hmq.cq 6 _ rfl; have b7 := hmq.cq 7 _ rfl
          clear hmq
          go_simp
          try with_reducible rfl
        simp only [Act.put, List.setIfInBounds_toArray, List.set_cons_zero, List.set_cons_succ, List.getElem_toArray, List.getElem_cons_zero]
        refine wpAnyH_take (i := 1) (v := ?_) rfl (by kernel_rfl) (by kernel_rfl) (by kernel_rfl) (fun _ _ _ h => h) (Or.inl ⟨by rfl, ?_⟩) (by assumption) ?_
        rotate_left
        · intro wq hSw
          obtain ⟨mq, hmq, _, _⟩ := hSw
          have a4 := hmq.cp 4 _ rfl; have a6 := hmq.cp 6 _ rfl; have a7 := hmq.cp 7 _ rfl; have b4 := hmq.cq 4 _ rfl; have b6 := hmq.cq 6 _ rfl; have b7 := hmq.cq 7 _ rfl
          clear hmq
          go_simp
          try with_reducible rfl
        simp only [Act.put, List.setIfInBounds_toArray, List.set_cons_zero, List.set_cons_succ, List.getElem_toArray, List.getElem_cons_zero, List.getElem_cons_succ]
        refine wpAnyH_take (i := 2) (v := ?_) rfl (by kernel_rfl) (by kernel_rfl) (by kernel_rfl) (fun _ _ _ h => h) (Or.inl ⟨by rfl, ?_⟩) (by assumption) ?_
        rotate_left
        · intro wq hSw
          obtain ⟨mq, hmq, _, _⟩ := hSw
          have a4 := hmq.cp 4 _ rfl; have a6 := hmq.cp 6 _ rfl; have a7 := hmq.cp 7 _ rfl; have b4 := hmq.cq 4 _ rfl; have b6 := hmq.cq 6 _ rfl; have b7 := hmq.cq 7 _ rfl
          clear hmq
          go_simp
          try with_reducible rfl
        simp only [Act.put, List.setIfInBounds_toArray, List.set_cons_zero, List.set_cons_succ, List.getElem_toArray, List.getElem_cons_zero, List.getElem_cons_succ]
        refine wpAnyH_take (i := 3) (v := ?_) rfl (by kernel_rfl) (by kernel_rfl) (by kernel_rfl) (fun _ _ _ h => h) (Or.inl ⟨by rfl, ?_⟩) (by assumption) ?_
        rotate_left
        · intro wq hSw
          obtain ⟨mq, hmq, _, _⟩ := hSw
          have a4 := hmq.cp 4 _ rfl; have a6 := hmq.cp 6 _ rfl; have a7 := hmq.cp 7 _ rfl; have b4 := hmq.cq 4 _ rfl; have b6 := hmq.cq 6 _ rfl; have b7 := hmq.cq 7 _ rfl
          clear hmq
          go_simp
          try with_reducible rfl
        simp only [Act.put, List.setIfInBounds_toArray, List.set_cons_zero, List.set_cons_succ, List.getElem_toArray, List.getElem_cons_zero, List.getElem_cons_succ]
        refine wpAnyH_take (i := 4) (v := ?_) rfl (by kernel_rfl) (by kernel_rfl) (by kernel_rfl) (fun _ _ _ h => h) (Or.inl ⟨by rfl, ?_⟩) (by assumption) ?_
        rotate_left
        · intro wq hSw
          obtain ⟨mq, hmq, _, _⟩ := hSw
          have a4 := hmq.cp 4 _ rfl; have a6 := hmq.cp 6 _ rfl; have a7 := hmq.cp 7 _ rfl; have b4 := hmq.cq 4 _ rfl; have b6 := hmq.cq 6 _ rfl; have b7 := hmq.cq 7 _ rfl
          clear hmq
          go_simp
          try with_reducible rfl
        simp only [Act.put, List.setIfInBounds_toArray, List.set_cons_zero, List.set_cons_succ, List.getElem_toArray, List.getElem_cons_zero, List.getElem_cons_succ]
        refine wpAnyH_take (i := 5) (v := ?_) rfl (by kernel_rfl) (by kernel_rfl) (by kernel_rfl) (fun _ _ _ h => h) (Or.inl ⟨by rfl, ?_⟩) (by assumption) ?_
        rotate_left
        · intro wq hSw
          obtain ⟨mq, hmq, _, _⟩ := hSw
          have a4 := hmq.cp 4 _ rfl; have a6 := hmq.cp 6 _ rfl; have a7 := hmq.cp 7 _ rfl; have b4 := hmq.cq 4 _ rfl; have b6 := hmq.cq 6 _ rfl; have b7 := hmq.cq 7 _ rfl
          clear hmq
          go_simp
          try with_reducible rfl
        simp only [Act.put, List.setIfInBounds_toArray, List.set_cons_zero, List.set_cons_succ, List.getElem_toArray, List.getElem_cons_zero, List.getElem_cons_succ]
        refine wpAnyH_take (i := 6) (v := ?_) rfl (by kernel_rfl) (by kernel_rfl) (by kernel_rfl) (fun _ _ _ h => h) (Or.inl ⟨by rfl, ?_⟩) (by assumption) ?_
        rotate_left
        · intro wq hSw
          obtain ⟨mq, hmq, _, _⟩ := hSw
          have a4 := hmq.cp 4 _ rfl; have a6 := hmq.cp 6 _ rfl; have a7 := hmq.cp 7 _ rfl; have b4 := hmq.cq 4 _ rfl; have b6 := hmq.cq 6 _ rfl; have b7 := hmq.cq 7 _ rfl
          clear hmq
          go_simp
          try with_reducible rfl
        simp only [Act.put, List.setIfInBounds_toArray, List.set_cons_zero, List.set_cons_succ, List.getElem_toArray, List.getElem_cons_zero, List.getElem_cons_succ]
        refine wpAnyH_take (i := 7) (v := ?_) rfl (by kernel_rfl) (by kernel_rfl) (by kernel_rfl) (fun _ _ _ h => h) (Or.inl ⟨by rfl, ?_⟩) (by assumption) ?_
        rotate_left
        · intro wq hSw
          obtain ⟨mq, hmq, _, _⟩ := hSw
          have a4 := hmq.cp 4 _ rfl; have a6 := hmq.cp 6 _ rfl; have a7 := hmq.cp 7 _ rfl; have b4 := hmq.cq 4 _ rfl; have b6 := hmq.cq 6 _ rfl; have b7 := hmq.cq 7 _ rfl
          clear hmq
          go_simp
          try with_reducible rfl
        simp only [Act.put, List.setIfInBounds_toArray, List.set_cons_zero, List.set_cons_succ, List.getElem_toArray, List.getElem_cons_zero, List.getElem_cons_succ]
        refine wpAnyH_take (i := 8) (v := ?_) rfl (by kernel_rfl) (by kernel_rfl) (by kernel_rfl) (fun _ _ _ h => h) (Or.inl ⟨by rfl, ?_⟩) (by assumption) ?_
        rotate_left
        · intro wq hSw
          obtain ⟨mq, hmq, _, _⟩ := hSw
          have a4 := hmq.cp 4 _ rfl; have a6 := hmq.cp 6 _ rfl; have a7 := hmq.cp 7 _ rfl; have b4 := hmq.cq 4 _ rfl; have b6 := hmq.cq 6 _ rfl; have b7 := hmq.cq 7 _ rfl
          clear hmq
          go_simp
          try with_reducible rfl
        simp only [Act.put, List.setIfInBounds_toArray, List.set_cons_zero, List.set_cons_succ, List.getElem_toArray, List.getElem_cons_zero, List.getElem_cons_succ]
        refine wpAnyH_take (i := 9) (v := undef) rfl (by kernel_rfl) (by kernel_rfl) (by kernel_rfl) (fun _ _ _ h => h) (Or.inr ⟨by rfl, rfl⟩) (by assumption) ?_
        simp only [Act.put, List.setIfInBounds_toArray, List.set_cons_zero, List.set_cons_succ, List.getElem_toArray, List.getElem_cons_zero, List.getElem_cons_succ]
        refine wpAnyH_take (i := 10) (v := undef) rfl (by kernel_rfl) (by kernel_rfl) (by kernel_rfl) (fun _ _ _ h => h) (Or.inr ⟨by rfl, rfl⟩) (by assumption) ?_
        simp only [Act.put, List.setIfInBounds_toArray, List.set_cons_zero, List.set_cons_succ, List.getElem_toArray, List.getElem_cons_zero, List.getElem_cons_succ]
        refine wpAnyH_take (i := 11) (v := ?_) rfl (by kernel_rfl) (by kernel_rfl) (by kernel_rfl) (fun _ _ _ h => h) (Or.inl ⟨by rfl, ?_⟩) (by assumption) ?_
        rotate_left
        · intro wq hSw
          obtain ⟨mq, hmq, _, _⟩ := hSw
          have a4 := hmq.cp 4 _ rfl; have a6 := hmq.cp 6 _ rfl; have a7 := hmq.cp 7 _ rfl; have b4 := hmq.cq 4 _ rfl; have b6 := hmq.cq 6 _ rfl; have b7 := hmq.cq 7 _ rfl
          clear hmq
          go_simp
          try with_reducible rfl
        simp only [Act.put, List.setIfInBounds_toArray, List.set_cons_zero, List.set_cons_succ, List.getElem_toArray, List.getElem_cons_zero, List.getElem_cons_succ]
        refine wpAnyH_take (i := 12) (v := ?_) rfl (by kernel_rfl) (by kernel_rfl) (by kernel_rfl) (fun _ _ _ h => h) (Or.inl ⟨by rfl, ?_⟩) (by assumption) ?_
        rotate_left
        · intro wq hSw
          obtain ⟨mq, hmq, _, _⟩ := hSw
          have a4 := hmq.cp 4 _ rfl; have a6 := hmq.cp 6 _ rfl; have a7 := hmq.cp 7 _ rfl; have b4 := hmq.cq 4 _ rfl; have b6 := hmq.cq 6 _ rfl; have b7 := hmq.cq 7 _ rfl
          clear hmq
          go_simp
          try with_reducible rfl
        simp only [Act.put, List.setIfInBounds_toArray, List.set_cons_zero, List.set_cons_succ, List.getElem_toArray, List.getElem_cons_zero, List.getElem_cons_succ]
        refine wpAnyH_take (i := 13) (v := ?_) rfl (by kernel_rfl) (by kernel_rfl) (by kernel_rfl) (fun _ _ _ h => h) (Or.inl ⟨by rfl, ?_⟩) (by assumption) ?_
        rotate_left
        · intro wq hSw
          obtain ⟨mq, hmq, _, _⟩ := hSw
          have a4 := hmq.cp 4 _ rfl; have a6 := hmq.cp 6 _ rfl; have a7 := hmq.cp 7 _ rfl; have b4 := hmq.cq 4 _ rfl; have b6 := hmq.cq 6 _ rfl; have b7 := hmq.cq 7 _ rfl
          clear hmq
          go_simp
          try with_reducible rfl
        simp only [Act.put, List.setIfInBounds_toArray, List.set_cons_zero, List.set_cons_succ, List.getElem_toArray, List.getElem_cons_zero, List.getElem_cons_succ]
        refine wpAnyH_take (i := 14) (v := ?_) rfl (by kernel_rfl) (by kernel_rfl) (by kernel_rfl) (fun _ _ _ h => h) (Or.inl ⟨by rfl, ?_⟩) (by assumption) ?_
        rotate_left
        · intro wq hSw
          obtain ⟨mq, hmq, _, _⟩ := hSw
          have a4 := hmq.cp 4 _ rfl; have a6 := hmq.cp 6 _ rfl; have a7 := hmq.cp 7 _ rfl; have b4 := hmq.cq 4 _ rfl; have b6 := hmq.cq 6 _ rfl; have b7 := hmq.cq 7 _ rfl
          clear hmq
          go_simp
          try with_reducible rfl
        simp only [Act.put, List.setIfInBounds_toArray, List.set_cons_zero, List.set_cons_succ, List.getElem_toArray, List.getElem_cons_zero, List.getElem_cons_succ]
        refine wpAnyH_take (i := 15) (v := undef) rfl (by kernel_rfl) (by kernel_rfl) (by kernel_rfl) (fun _ _ _ h => h) (Or.inr ⟨by rfl, rfl⟩) (by assumption) ?_
        simp only [Act.put, List.setIfInBounds_toArray, List.set_cons_zero, List.set_cons_succ, List.getElem_toArray, List.getElem_cons_zero, List.getElem_cons_succ]
        refine wpAnyH_take (i := 16) (v := undef) rfl (by kernel_rfl) (by kernel_rfl) (by kernel_rfl) (fun _ _ _ h => h) (Or.inr ⟨by rfl, rfl⟩) (by assumption) ?_
        simp only [Act.put, List.setIfInBounds_toArray, List.set_cons_zero, List.set_cons_succ, List.getElem_toArray, List.getElem_cons_zero, List.getElem_cons_succ]
        refine wpAnyH_take (i := 17) (v := ?_) rfl (by kernel_rfl) (by kernel_rfl) (by kernel_rfl) (fun _ _ _ h => h) (Or.inl ⟨by rfl, ?_⟩) (by assumption) ?_
        rotate_left
        · intro wq hSw
          obtain ⟨mq, hmq, _, _⟩ := hSw
          have a4 := hmq.cp 4 _ rfl; have a6 := hmq.cp 6 _ rfl; have a7 := hmq.cp 7 _ rfl; have b4 := hmq.cq 4 _ rfl; have b6 := hmq.cq 6 _ rfl; have b7 := hmq.cq 7 _ rfl
          clear hmq
          go_simp
          try with_reducible rfl
        simp only [Act.put, List.setIfInBounds_toArray, List.set_cons_zero, List.set_cons_succ, List.getElem_toArray, List.getElem_cons_zero, List.getElem_cons_succ]
        refine wpAnyH_take (i := 18) (v := ?_) rfl (by kernel_rfl) (by kernel_rfl) (by kernel_rfl) (fun _ _ _ h => h) (Or.inl ⟨by rfl, ?_⟩) (by assumption) ?_
        rotate_left
        · intro wq hSw
          obtain ⟨mq, hmq, _, _⟩ := hSw
          have a4 := hmq.cp 4 _ rfl; have a6 := hmq.cp 6 _ rfl; have a7 := hmq.cp 7 _ rfl; have b4 := hmq.cq 4 _ rfl; have b6 := hmq.cq 6 _ rfl; have b7 := hmq.cq 7 _ rfl
          clear hmq
          go_simp
          try with_reducible rfl
        simp only [Act.put, List.setIfInBounds_toArray, List.set_cons_zero, List.set_cons_succ, List.getElem_toArray, List.getElem_cons_zero, List.getElem_cons_succ]
        refine wpAnyH_ready (rs := [19]) (by kernel_rfl) (by simp) ?_
        refine AllReadyH.cons rfl (fun K hK => ?_) AllReadyH.nil
        obtain ⟨mq, hmq, hn, ht⟩ := hHeld
        have hco := hmq.co 4 _ rfl
        have hfo := hmq.fo 4 (by decide)
        have HM := Lib.hid hmq
        have HN := Lib.hid hn
        have HTT := Lib.hid ht
        clear hmq hn ht
        go_simp
        refine hK.out _ _ ⟨_, HM.out.set4 _, HN.out, HTT.out⟩ ?_
        clear hK K hco hfo HM HN HTT
        intro hHeld
        refine wpAnyH_take (i := 20) (v := ?_) rfl (by kernel_rfl) (by kernel_rfl) (by kernel_rfl) (fun _ _ _ h => h) (Or.inl ⟨by rfl, ?_⟩) (by assumption) ?_
        rotate_left
        · intro wq hSw
          obtain ⟨mq, hmq, _, _⟩ := hSw
          have a4 := hmq.cp 4 _ rfl; have a6 := hmq.cp 6 _ rfl; have a7 := hmq.cp 7 _ rfl; have b4 := hmq.cq 4 _ rfl; have b6 := hmq.cq 6 _ rfl; have b7 := hmq.cq 7 _ rfl
          clear hmq
          go_simp
          try with_reducible rfl
        simp only [Act.put, List.setIfInBounds_toArray, List.set_cons_zero, List.set_cons_succ, List.getElem_toArray, List.getElem_cons_zero, List.getElem_cons_succ]
        refine wpAnyH_ready (rs := [21]) (by kernel_rfl) (by simp) ?_
        refine AllReadyH.cons rfl (fun K hK => ?_) AllReadyH.nil
        obtain ⟨mq, hmq, hn, ht⟩ := hHeld
        have hco := hmq.co 6 _ rfl
        have hfo := hmq.fo 6 (by decide)
        have HM := Lib.hid hmq
        have HN := Lib.hid hn
        have HTT := Lib.hid ht
        clear hmq hn ht
        go_simp
        refine hK.out _ _ ⟨_, HM.out.set6 _, HN.out, HTT.out⟩ ?_
        clear hK K hco hfo HM HN HTT
        intro hHeld
        refine wpAnyH_take (i := 22) (v := ?_) rfl (by kernel_rfl) (by kernel_rfl) (by kernel_rfl) (fun _ _ _ h => h) (Or.inl ⟨by rfl, ?_⟩) (by assumption) ?_
        rotate_left
        · intro wq hSw
          obtain ⟨mq, hmq, _, _⟩ := hSw
          have a4 := hmq.cp 4 _ rfl; have a6 := hmq.cp 6 _ rfl; have a7 := hmq.cp 7 _ rfl; have b4 := hmq.cq 4 _ rfl; have b6 := hmq.cq 6 _ rfl; have b7 := hmq.cq 7 _ rfl
          clear hmq
          go_simp
          try with_reducible rfl
        simp only [Act.put, List.setIfInBounds_toArray, List.set_cons_zero, List.set_cons_succ, List.getElem_toArray, List.getElem_cons_zero, List.getElem_cons_succ]
        refine wpAnyH_ready (rs := [23]) (by kernel_rfl) (by simp) ?_
        refine AllReadyH.cons rfl (fun K hK => ?_) AllReadyH.nil
        obtain ⟨mq, hmq, hn, ht⟩ := hHeld
        have hco := hmq.co 7 _ rfl
        have hfo := hmq.fo 7 (by decide)
        have HM := Lib.hid hmq
        have HN := Lib.hid hn
        have HTT := Lib.hid ht
        clear hmq hn ht
        go_simp
        refine hK.out _ _ ⟨_, HM.out.set7 _, HN.out, HTT.out⟩ ?_
        clear hK K hco hfo HM HN HTT
        intro hHeld
        have HZ0 := Lib.hid hHeld
        clear hHeld
        refine wpAnyH_done (by kernel_rfl) (normal_gen (M := MX p q A B c d w.heap.size w) HZ0.out (fun wz hHeld => ?_)) _
        clear HZ0
        have HZ := Lib.hid hHeld
        clear hHeld
        go_wp2
        all_goals (go_meet; exact HZ.out)
      · as_aux_lemma =>
        go_wp2_with fail
        refine wp_region_held_drew (S := MX p q A B c d w.heap.size w) (by kernel_rfl) (HH.out.later (Below.refl _ _).drew) ?_
        clear HH
        intro hHeld
        refine wpAnyH_take (i := 0) (v := ?_) rfl (by kernel_rfl) (by kernel_rfl) (by kernel_rfl) (fun _ _ _ h => h) (Or.inl ⟨by rfl, ?_⟩) (by assumption) ?_
        rotate_left
        · intro wq hSw
          obtain ⟨mq, hmq, _, _⟩ := hSw
          have a4 := hmq.cp 4 _ rfl; have a6 := hmq.cp 6 _ rfl; have a7 := hmq.cp 7 _ rfl; have b4 := hmq.cq 4 _ rfl; have b6 := hmq.cq 6 _ rfl; have b7 := hmq.cq 7 _ rfl
          clear hmq
          go_simp
          try with_reducible rfl
        simp only [Act.put, List.setIfInBounds_toArray, List.set_cons_zero, List.set_cons_succ, List.getElem_toArray, List.getElem_cons_zero]
        refine wpAnyH_take (i := 1) (v := ?_) rfl (by kernel_rfl) (by kernel_rfl) (by kernel_rfl) (fun _ _ _ h => h) (Or.inl ⟨by rfl, ?_⟩) (by assumption) ?_
        rotate_left
        · intro wq hSw
          obtain ⟨mq, hmq, _, _⟩ := hSw
          have a4 := hmq.cp 4 _ rfl; have a6 := hmq.cp 6 _ rfl; have a7 := hmq.cp 7 _ rfl; have b4 := hmq.cq 4 _ rfl; have b6 := hmq.cq 6 _ rfl; have b7 := hmq.cq 7 _ rfl
          clear hmq
          go_simp
          try with_reducible rfl
        simp only [Act.put, List.setIfInBounds_toArray, List.set_cons_zero, List.set_cons_succ, List.getElem_toArray, List.getElem_cons_zero, List.getElem_cons_succ]
        refine wpAnyH_take (i := 2) (v := ?_) rfl (by kernel_rfl) (by kernel_rfl) (by kernel_rfl) (fun _ _ _ h => h) (Or.inl ⟨by rfl, ?_⟩) (by assumption) ?_
        rotate_left
        · intro wq hSw
          obtain ⟨mq, hmq, _, _⟩ := hSw
          have a4 := hmq.cp 4 _ rfl; have a6 := hmq.cp 6 _ rfl; have a7 := hmq.cp 7 _ rfl; have b4 := hmq.cq 4 _ rfl; have b6 := hmq.cq 6 _ rfl; have b7 := hmq.cq 7 _ rfl
          clear hmq
          go_simp
          try with_reducible rfl
        simp only [Act.put, List.setIfInBounds_toArray, List.set_cons_zero, List.set_cons_succ, List.getElem_toArray, List.getElem_cons_zero, List.getElem_cons_succ]
        refine wpAnyH_take (i := 3) (v := undef) rfl (by kernel_rfl) (by kernel_rfl) (by kernel_rfl) (fun _ _ _ h => h) (Or.inr ⟨by rfl, rfl⟩) (by assumption) ?_
        simp only [Act.put, List.setIfInBounds_toArray, List.set_cons_zero, List.set_cons_succ, List.getElem_toArray, List.getElem_cons_zero, List.getElem_cons_succ]
        refine wpAnyH_take (i := 4) (v := undef) rfl (by kernel_rfl) (by kernel_rfl) (by kernel_rfl) (fun _ _ _ h => h) (Or.inr ⟨by rfl, rfl⟩) (by assumption) ?_
        simp only [Act.put, List.setIfInBounds_toArray, List.set_cons_zero, List.set_cons_succ, List.getElem_toArray, List.getElem_cons_zero, List.getElem_cons_succ]
        refine wpAnyH_take (i := 5) (v := ?_) rfl (by kernel_rfl) (by kernel_rfl) (by kernel_rfl) (fun _ _ _ h => h) (Or.inl ⟨by rfl, ?_⟩) (by assumption) ?_
        rotate_left
        · intro wq hSw
          obtain ⟨mq, hmq, _, _⟩ := hSw
          have a4 := hmq.cp 4 _ rfl; have a6 := hmq.cp 6 _ rfl; have a7 := hmq.cp 7 _ rfl; have b4 := hmq.cq 4 _ rfl; have b6 := hmq.cq 6 _ rfl; have b7 := hmq.cq 7 _ rfl
          clear hmq
          go_simp
          try with_reducible rfl
        simp only [Act.put, List.setIfInBounds_toArray, List.set_cons_zero, List.set_cons_succ, List.getElem_toArray, List.getElem_cons_zero, List.getElem_cons_succ]
        refine wpAnyH_take (i := 6) (v := ?_) rfl (by kernel_rfl) (by kernel_rfl) (by kernel_rfl) (fun _ _ _ h => h) (Or.inl ⟨by rfl, ?_⟩) (by assumption) ?_
        rotate_left
        · intro wq hSw
          obtain ⟨mq, hmq, _, _⟩ := hSw
          have a4 := hmq.cp 4 _ rfl; have a6 := hmq.cp 6 _ rfl; have a7 := hmq.cp 7 _ rfl; have b4 := hmq.cq 4 _ rfl; have b6 := hmq.cq 6 _ rfl; have b7 := hmq.cq 7 _ rfl
          clear hmq
          go_simp
          try with_reducible rfl
        simp only [Act.put, List.setIfInBounds_toArray, List.set_cons_zero, List.set_cons_succ, List.getElem_toArray, List.getElem_cons_zero, List.getElem_cons_succ]
        refine wpAnyH_take (i := 7) (v := ?_) rfl (by kernel_rfl) (by kernel_rfl) (by kernel_rfl) (fun _ _ _ h => h) (Or.inl ⟨by rfl, ?_⟩) (by assumption) ?_
        rotate_left
        · intro wq hSw
          obtain ⟨mq, hmq, _, _⟩ := hSw
          have a4 := hmq.cp 4 _ rfl; have a6 := hmq.cp 6 _ rfl; have a7 := hmq.cp 7 _ rfl; have b4 := hmq.cq 4 _ rfl; have b6 := hmq.cq 6 _ rfl; have b7 := hmq.cq 7 _ rfl
          clear hmq
          go_simp
          try with_reducible rfl
        simp only [Act.put, List.setIfInBounds_toArray, List.set_cons_zero, List.set_cons_succ, List.getElem_toArray, List.getElem_cons_zero, List.getElem_cons_succ]
        refine wpAnyH_take (i := 8) (v := ?_) rfl (by kernel_rfl) (by kernel_rfl) (by kernel_rfl) (fun _ _ _ h => h) (Or.inl ⟨by rfl, ?_⟩) (by assumption) ?_
        rotate_left
        · intro wq hSw
          obtain ⟨mq, hmq, _, _⟩ := hSw
          have a4 := hmq.cp 4 _ rfl; have a6 := hmq.cp 6 _ rfl; have a7 := hmq.cp 7 _ rfl; have b4 := hmq.cq 4 _ rfl; have b6 := hmq.cq 6 _ rfl; have b7 := hmq.cq 7 _ rfl
          clear hmq
          go_simp
          try with_reducible rfl
        simp only [Act.put, List.setIfInBounds_toArray, List.set_cons_zero, List.set_cons_succ, List.getElem_toArray, List.getElem_cons_zero, List.getElem_cons_succ]
        refine wpAnyH_take (i := 9) (v := ?_) rfl (by kernel_rfl) (by kernel_rfl) (by kernel_rfl) (fun _ _ _ h => h) (Or.inl ⟨by rfl, ?_⟩) (by assumption) ?_
        rotate_left
        · intro wq hSw
          obtain ⟨mq, hmq, _, _⟩ := hSw
          have a4 := hmq.cp 4 _ rfl; have a6 := hmq.cp 6 _ rfl; have a7 := hmq.cp 7 _ rfl; have b4 := hmq.cq 4 _ rfl; have b6 := hmq.cq 6 _ rfl; have b7 := hmq.cq 7 _ rfl
          clear hmq
          go_simp
          try with_reducible rfl
        simp only [Act.put, List.setIfInBounds_toArray, List.set_cons_zero, List.set_cons_succ, List.getElem_toArray, List.getElem_cons_zero, List.getElem_cons_succ]
        refine wpAnyH_take (i := 10) (v := ?_) rfl (by kernel_rfl) (by kernel_rfl) (by kernel_rfl) (fun _ _ _ h => h) (Or.inl ⟨by rfl, ?_⟩) (by assumption) ?_
        rotate_left
        · intro wq hSw
          obtain ⟨mq, hmq, _, _⟩ := hSw
          have a4 := hmq.cp 4 _ rfl; have a6 := hmq.cp 6 _ rfl; have a7 := hmq.cp 7 _ rfl; have b4 := hmq.cq 4 _ rfl; have b6 := hmq.cq 6 _ rfl; have b7 := hmq.cq 7 _ rfl
          clear hmq
          go_simp
          try with_reducible rfl
        simp only [Act.put, List.setIfInBounds_toArray, List.set_cons_zero, List.set_cons_succ, List.getElem_toArray, List.getElem_cons_zero, List.getElem_cons_succ]
        refine wpAnyH_take (i := 11) (v := ?_) rfl (by kernel_rfl) (by kernel_rfl) (by kernel_rfl) (fun _ _ _ h => h) (Or.inl ⟨by rfl, ?_⟩) (by assumption) ?_
        rotate_left
        · intro wq hSw
          obtain ⟨mq, hmq, _, _⟩ := hSw
          have a4 := hmq.cp 4 _ rfl; have a6 := hmq.cp 6 _ rfl; have a7 := hmq.cp 7 _ rfl; have b4 := hmq.cq 4 _ rfl; have b6 := hmq.cq 6 _ rfl; have b7 := hmq.cq 7 _ rfl
          clear hmq
          go_simp
          try with_reducible rfl
        simp only [Act.put, List.setIfInBounds_toArray, List.set_cons_zero, List.set_cons_succ, List.getElem_toArray, List.getElem_cons_zero, List.getElem_cons_succ]
        refine wpAnyH_take (i := 12) (v := ?_) rfl (by kernel_rfl) (by kernel_rfl) (by kernel_rfl) (fun _ _ _ h => h) (Or.inl ⟨by rfl, ?_⟩) (by assumption) ?_
        rotate_left
        · intro wq hSw
          obtain ⟨mq, hmq, _, _⟩ := hSw
          have a4 := hmq.cp 4 _ rfl; have a6 := hmq.cp 6 _ rfl; have a7 := hmq.cp 7 _ rfl; have b4 := hmq.cq 4 _ rfl; have b6 := hmq.cq 6 _ rfl; have b7 := hmq.cq 7 _ rfl
          clear hmq
          go_simp
          try with_reducible rfl
        simp only [Act.put, List.setIfInBounds_toArray, List.set_cons_zero, List.set_cons_succ, List.getElem_toArray, List.getElem_cons_zero, List.getElem_cons_succ]
        refine wpAnyH_take (i := 13) (v := ?_) rfl (by kernel_rfl) (by kernel_rfl) (by kernel_rfl) (fun _ _ _ h => h) (Or.inl ⟨by rfl, ?_⟩) (by assumption) ?_
        rotate_left
        · intro wq hSw
          obtain ⟨mq, hmq, _, _⟩ := hSw
          have a4 := hmq.cp 4 _ rfl; have a6 := hmq.cp 6 _ rfl; have a7 := hmq.cp 7 _ rfl; have b4 := hmq.cq 4 _ rfl; have b6 := hmq.cq 6 _ rfl; have b7 := hmq.cq 7 _ rfl
          clear hmq
          go_simp
          try with_reducible rfl
        simp only [Act.put, List.setIfInBounds_toArray, List.set_cons_zero, List.set_cons_succ, List.getElem_toArray, List.getElem_cons_zero, List.getElem_cons_succ]
        refine wpAnyH_take (i := 14) (v := ?_) rfl (by kernel_rfl) (by kernel_rfl) (by kernel_rfl) (fun _ _ _ h => h) (Or.inl ⟨by rfl, ?_⟩) (by assumption) ?_
        rotate_left
        · intro wq hSw
          obtain ⟨mq, hmq, _, _⟩ := hSw
          have a4 := hmq.cp 4 _ rfl; have a6 := hmq.cp 6 _ rfl; have a7 := hmq.cp 7 _ rfl; have b4 := hmq.cq 4 _ rfl; have b6 := hmq.cq 6 _ rfl; have b7 := hmq.cq 7 _ rfl
          clear hmq
          go_simp
          try with_reducible rfl
        simp only [Act.put, List.setIfInBounds_toArray, List.set_cons_zero, List.set_cons_succ, List.getElem_toArray, List.getElem_cons_zero, List.getElem_cons_succ]
        refine wpAnyH_take (i := 15) (v := ?_) rfl (by kernel_rfl) (by kernel_rfl) (by kernel_rfl) (fun _ _ _ h => h) (Or.inl ⟨by rfl, ?_⟩) (by assumption) ?_
        rotate_left
        · intro wq hSw
          obtain ⟨mq, hmq, _, _⟩ := hSw
          have a4 := hmq.cp 4 _ rfl; have a6 := hmq.cp 6 _ rfl; have a7 := hmq.cp 7 _ rfl; have b4 := hmq.cq 4 _ rfl; have b6 := hmq.cq 6 _ rfl; have b7 := hmq.cq 7 _ rfl
          clear hmq
          go_simp
          try with_reducible rfl
        simp only [Act.put, List.setIfInBounds_toArray, List.set_cons_zero, List.set_cons_succ, List.getElem_toArray, List.getElem_cons_zero, List.getElem_cons_succ]
        refine wpAnyH_take (i := 16) (v := ?_) rfl (by kernel_rfl) (by kernel_rfl) (by kernel_rfl) (fun _ _ _ h => h) (Or.inl ⟨by rfl, ?_⟩) (by assumption) ?_
        rotate_left
        · intro wq hSw
          obtain ⟨mq, hmq, _, _⟩ := hSw
          have a4 := hmq.cp 4 _ rfl; have a6 := hmq.cp 6 _ rfl; have a7 := hmq.cp 7 _ rfl; have b4 := hmq.cq 4 _ rfl; have b6 := hmq.cq 6 _ rfl; have b7 := hmq.cq 7 _ rfl
          clear hmq
          go_simp
          try with_reducible rfl
        simp only [Act.put, List.setIfInBounds_toArray, List.set_cons_zero, List.set_cons_succ, List.getElem_toArray, List.getElem_cons_zero, List.getElem_cons_succ]
        refine wpAnyH_take (i := 17) (v := ?_) rfl (by kernel_rfl) (by kernel_rfl) (by kernel_rfl) (fun _ _ _ h => h) (Or.inl ⟨by rfl, ?_⟩) (by assumption) ?_
        rotate_left
        · intro wq hSw
          obtain ⟨mq, hmq, _, _⟩ := hSw
          have a4 := hmq.cp 4 _ rfl; have a6 := hmq.cp 6 _ rfl; have a7 := hmq.cp 7 _ rfl; have b4 := hmq.cq 4 _ rfl; have b6 := hmq.cq 6 _ rfl; have b7 := hmq.cq 7 _ rfl
          clear hmq
          go_simp
          try with_reducible rfl
        simp only [Act.put, List.setIfInBounds_toArray, List.set_cons_zero, List.set_cons_succ, List.getElem_toArray, List.getElem_cons_zero, List.getElem_cons_succ]
        refine wpAnyH_take (i := 18) (v := ?_) rfl (by kernel_rfl) (by kernel_rfl) (by kernel_rfl) (fun _ _ _ h => h) (Or.inl ⟨by rfl, ?_⟩) (by assumption) ?_
        rotate_left
        · intro wq hSw
          obtain ⟨mq, hmq, _, _⟩ := hSw
          have a4 := hmq.cp 4 _ rfl; have a6 := hmq.cp 6 _ rfl; have a7 := hmq.cp 7 _ rfl; have b4 := hmq.cq 4 _ rfl; have b6 := hmq.cq 6 _ rfl; have b7 := hmq.cq 7 _ rfl
          clear hmq
          go_simp
          try with_reducible rfl
        simp only [Act.put, List.setIfInBounds_toArray, List.set_cons_zero, List.set_cons_succ, List.getElem_toArray, List.getElem_cons_zero, List.getElem_cons_succ]
        refine wpAnyH_ready (rs := [19]) (by kernel_rfl) (by simp) ?_
        refine AllReadyH.cons rfl (fun K hK => ?_) AllReadyH.nil
        obtain ⟨mq, hmq, hn, ht⟩ := hHeld
        have hco := hmq.co 4 _ rfl
        have hfo := hmq.fo 4 (by decide)
        have HM := Lib.hid hmq
        have HN := Lib.hid hn
        have HTT := Lib.hid ht
        clear hmq hn ht
        go_simp
        refine hK.out _ _ ⟨_, HM.out.set4 _, HN.out, HTT.out⟩ ?_
        clear hK K hco hfo HM HN HTT
        intro hHeld
        refine wpAnyH_take (i := 20) (v := ?_) rfl (by kernel_rfl) (by kernel_rfl) (by kernel_rfl) (fun _ _ _ h => h) (Or.inl ⟨by rfl, ?_⟩) (by assumption) ?_
        rotate_left
        · intro wq hSw
          obtain ⟨mq, hmq, _, _⟩ := hSw
          have a4 := hmq.cp 4 _ rfl; have a6 := hmq.cp 6 _ rfl; have a7 := hmq.cp 7 _ rfl; have b4 := hmq.cq 4 _ rfl; have b6 := hmq.cq 6 _ rfl; have b7 := hmq.cq 7 _ rfl
          clear hmq
          go_simp
          try with_reducible rfl
        simp only [Act.put, List.setIfInBounds_toArray, List.set_cons_zero, List.set_cons_succ, List.getElem_toArray, List.getElem_cons_zero, List.getElem_cons_succ]
        refine wpAnyH_ready (rs := [21]) (by kernel_rfl) (by simp) ?_
        refine AllReadyH.cons rfl (fun K hK => ?_) AllReadyH.nil
        obtain ⟨mq, hmq, hn, ht⟩ := hHeld
        have hco := hmq.co 6 _ rfl
        have hfo := hmq.fo 6 (by decide)
        have HM := Lib.hid hmq
        have HN := Lib.hid hn
        have HTT := Lib.hid ht
        clear hmq hn ht
        go_simp
        refine hK.out _ _ ⟨_, HM.out.set6 _, HN.out, HTT.out⟩ ?_
        clear hK K hco hfo HM HN HTT
        intro hHeld
        refine wpAnyH_take (i := 22) (v := ?_) rfl (by kernel_rfl) (by kernel_rfl) (by kernel_rfl) (fun _ _ _ h => h) (Or.inl ⟨by rfl, ?_⟩) (by assumption) ?_
        rotate_left
        · intro wq hSw
          obtain ⟨mq, hmq, _, _⟩ := hSw
          have a4 := hmq.cp 4 _ rfl; have a6 := hmq.cp 6 _ rfl; have a7 := hmq.cp 7 _ rfl; have b4 := hmq.cq 4 _ rfl; have b6 := hmq.cq 6 _ rfl; have b7 := hmq.cq 7 _ rfl
          clear hmq
          go_simp
          try with_reducible rfl
        simp only [Act.put, List.setIfInBounds_toArray, List.set_cons_zero, List.set_cons_succ, List.getElem_toArray, List.getElem_cons_zero, List.getElem_cons_succ]
        refine wpAnyH_ready (rs := [23]) (by kernel_rfl) (by simp) ?_
        refine AllReadyH.cons rfl (fun K hK => ?_) AllReadyH.nil
        obtain ⟨mq, hmq, hn, ht⟩ := hHeld
        have hco := hmq.co 7 _ rfl
        have hfo := hmq.fo 7 (by decide)
        have HM := Lib.hid hmq
        have HN := Lib.hid hn
        have HTT := Lib.hid ht
        clear hmq hn ht
        go_simp
        refine hK.out _ _ ⟨_, HM.out.set7 _, HN.out, HTT.out⟩ ?_
        clear hK K hco hfo HM HN HTT
        intro hHeld
        have HZ0 := Lib.hid hHeld
        clear hHeld
        refine wpAnyH_done (by kernel_rfl) (normal_gen (M := MX p q A B c d w.heap.size w) HZ0.out (fun wz hHeld => ?_)) _
        clear HZ0
        have HZ := Lib.hid hHeld
        clear hHeld
        go_wp2
        all_goals (go_meet; exact HZ.out)
      · as_aux_lemma =>
        go_wp2_with fail
        refine wp_region_held_drew (S := MX p q A B c d w.heap.size w) (by kernel_rfl) (HH.out.later (Below.refl _ _).drew) ?_
        clear HH
        intro hHeld
        refine wpAnyH_take (i := 0) (v := ?_) rfl (by kernel_rfl) (by kernel_rfl) (by kernel_rfl) (fun _ _ _ h => h) (Or.inl ⟨by rfl, ?_⟩) (by assumption) ?_
        rotate_left
        · intro wq hSw
          obtain ⟨mq, hmq, _, _⟩ := hSw
          have a4 := hmq.cp 4 _ rfl; have a6 := hmq.cp 6 _ rfl; have a7 := hmq.cp 7 _ rfl; have b4 := hmq.cq 4 _ rfl; have b6 := hmq.cq 6 _ rfl; have b7 := hmq.cq 7 _ rfl
          clear hmq
          go_simp
          try with_reducible rfl
        simp only [Act.put, List.setIfInBounds_toArray, List.set_cons_zero, List.set_cons_succ, List.getElem_toArray, List.getElem_cons_zero]
        refine wpAnyH_take (i := 1) (v := ?_) rfl (by kernel_rfl) (by kernel_rfl) (by kernel_rfl) (fun _ _ _ h => h) (Or.inl ⟨by rfl, ?_⟩) (by assumption) ?_
        rotate_left
        · intro wq hSw
          obtain ⟨mq, hmq, _, _⟩ := hSw
          have a4 := hmq.cp 4 _ rfl; have a6 := hmq.cp 6 _ rfl; have a7 := hmq.cp 7 _ rfl; have b4 := hmq.cq 4 _ rfl; have b6 := hmq.cq 6 _ rfl; have b7 := hmq.cq 7 _ rfl
          clear hmq
          go_simp
          try with_reducible rfl
        simp only [Act.put, List.setIfInBounds_toArray, List.set_cons_zero, List.set_cons_succ, List.getElem_toArray, List.getElem_cons_zero, List.getElem_cons_succ]
        refine wpAnyH_take (i := 2) (v := ?_) rfl (by kernel_rfl) (by kernel_rfl) (by kernel_rfl) (fun _ _ _ h => h) (Or.inl ⟨by rfl, ?_⟩) (by assumption) ?_
        rotate_left
        · intro wq hSw
          obtain ⟨mq, hmq, _, _⟩ := hSw
          have a4 := hmq.cp 4 _ rfl; have a6 := hmq.cp 6 _ rfl; have a7 := hmq.cp 7 _ rfl; have b4 := hmq.cq 4 _ rfl; have b6 := hmq.cq 6 _ rfl; have b7 := hmq.cq 7 _ rfl
          clear hmq
          go_simp
          try with_reducible rfl
        simp only [Act.put, List.setIfInBounds_toArray, List.set_cons_zero, List.set_cons_succ, List.getElem_toArray, List.getElem_cons_zero, List.getElem_cons_succ]
        refine wpAnyH_take (i := 3) (v := undef) rfl (by kernel_rfl) (by kernel_rfl) (by kernel_rfl) (fun _ _ _ h => h) (Or.inr ⟨by rfl, rfl⟩) (by assumption) ?_
        simp only [Act.put, List.setIfInBounds_toArray, List.set_cons_zero, List.set_cons_succ, List.getElem_toArray, List.getElem_cons_zero, List.getElem_cons_succ]
        refine wpAnyH_take (i := 4) (v := undef) rfl (by kernel_rfl) (by kernel_rfl) (by kernel_rfl) (fun _ _ _ h => h) (Or.inr ⟨by rfl, rfl⟩) (by assumption) ?_
        simp only [Act.put, List.setIfInBounds_toArray, List.set_cons_zero, List.set_cons_succ, List.getElem_toArray, List.getElem_cons_zero, List.getElem_cons_succ]
        refine wpAnyH_take (i := 5) (v := ?_) rfl (by kernel_rfl) (by kernel_rfl) (by kernel_rfl) (fun _ _ _ h => h) (Or.inl ⟨by rfl, ?_⟩) (by assumption) ?_
        rotate_left
        · intro wq hSw
          obtain ⟨mq, hmq, _, _⟩ := hSw
          have a4 := hmq.cp 4 _ rfl; have a6 := hmq.cp 6 _ rfl; have a7 := hmq.cp 7 _ rfl; have b4 := hmq.cq 4 _ rfl; have b6 := hmq.cq 6 _ rfl; have b7 := hmq.cq 7 _ rfl
          clear hmq
          go_simp
          try with_reducible rfl
        simp only [Act.put, List.setIfInBounds_toArray, List.set_cons_zero, List.set_cons_succ, List.getElem_toArray, List.getElem_cons_zero, List.getElem_cons_succ]
        refine wpAnyH_take (i := 6) (v := ?_) rfl (by kernel_rfl) (by kernel_rfl) (by kernel_rfl) (fun _ _ _ h => h) (Or.inl ⟨by rfl, ?_⟩) (by assumption) ?_
        rotate_left
        · intro wq hSw
          obtain ⟨mq, hmq, _, _⟩ := hSw
          have a4 := hmq.cp 4 _ rfl; have a6 := hmq.cp 6 _ rfl; have a7 := hmq.cp 7 _ rfl; have b4 := hmq.cq 4 _ rfl; have b6 := hmq.cq 6 _ rfl; have b7 := hmq.cq 7 _ rfl
          clear hmq
          go_simp
          try with_reducible rfl
        simp only [Act.put, List.setIfInBounds_toArray, List.set_cons_zero, List.set_cons_succ, List.getElem_toArray, List.getElem_cons_zero, List.getElem_cons_succ]
        refine wpAnyH_take (i := 7) (v := ?_) rfl (by kernel_rfl) (by kernel_rfl) (by kernel_rfl) (fun _ _ _ h => h) (Or.inl ⟨by rfl, ?_⟩) (by assumption) ?_
        rotate_left
        · intro wq hSw
          obtain ⟨mq, hmq, _, _⟩ := hSw
          have a4 := hmq.cp 4 _ rfl; have a6 := hmq.cp 6 _ rfl; have a7 := hmq.cp 7 _ rfl; have b4 := hmq.cq 4 _ rfl; have b6 := hmq.cq 6 _ rfl; have b7 := hmq.cq 7 _ rfl
          clear hmq
          go_simp
          try with_reducible rfl
        simp only [Act.put, List.setIfInBounds_toArray, List.set_cons_zero, List.set_cons_succ, List.getElem_toArray, List.getElem_cons_zero, List.getElem_cons_succ]
        refine wpAnyH_take (i := 8) (v := ?_) rfl (by kernel_rfl) (by kernel_rfl) (by kernel_rfl) (fun _ _ _ h => h) (Or.inl ⟨by rfl, ?_⟩) (by assumption) ?_
        rotate_left
        · intro wq hSw
          obtain ⟨mq, hmq, _, _⟩ := hSw
          have a4 := hmq.cp 4 _ rfl; have a6 := hmq.cp 6 _ rfl; have a7 := hmq.cp 7 _ rfl; have b4 := hmq.cq 4 _ rfl; have b6 := hmq.cq 6 _ rfl; have b7 := hmq.cq 7 _ rfl
          clear hmq
          go_simp
          try with_reducible rfl
        simp only [Act.put, List.setIfInBounds_toArray, List.set_cons_zero, List.set_cons_succ, List.getElem_toArray, List.getElem_cons_zero, List.getElem_cons_succ]
        refine wpAnyH_take (i := 9) (v := ?_) rfl (by kernel_rfl) (by kernel_rfl) (by kernel_rfl) (fun _ _ _ h => h) (Or.inl ⟨by rfl, ?_⟩) (by assumption) ?_
        rotate_left
        · intro wq hSw
          obtain ⟨mq, hmq, _, _⟩ := hSw
          have a4 := hmq.cp 4 _ rfl; have a6 := hmq.cp 6 _ rfl; have a7 := hmq.cp 7 _ rfl; have b4 := hmq.cq 4 _ rfl; have b6 := hmq.cq 6 _ rfl; have b7 := hmq.cq 7 _ rfl
          clear hmq
          go_simp
          try with_reducible rfl
        simp only [Act.put, List.setIfInBounds_toArray, List.set_cons_zero, List.set_cons_succ, List.getElem_toArray, List.getElem_cons_zero, List.getElem_cons_succ]
        refine wpAnyH_take (i := 10) (v := ?_) rfl (by kernel_rfl) (by kernel_rfl) (by kernel_rfl) (fun _ _ _ h => h) (Or.inl ⟨by rfl, ?_⟩) (by assumption) ?_
        rotate_left
        · intro wq hSw
          obtain ⟨mq, hmq, _, _⟩ := hSw
          have a4 := hmq.cp 4 _ rfl; have a6 := hmq.cp 6 _ rfl; have a7 := hmq.cp 7 _ rfl; have b4 := hmq.cq 4 _ rfl; have b6 := hmq.cq 6 _ rfl; have b7 := hmq.cq 7 _ rfl
          clear hmq
          go_simp
          try with_reducible rfl
        simp only [Act.put, List.setIfInBounds_toArray, List.set_cons_zero, List.set_cons_succ, List.getElem_toArray, List.getElem_cons_zero, List.getElem_cons_succ]
        refine wpAnyH_take (i := 11) (v := ?_) rfl (by kernel_rfl) (by kernel_rfl) (by kernel_rfl) (fun _ _ _ h => h) (Or.inl ⟨by rfl, ?_⟩) (by assumption) ?_
        rotate_left
        · intro wq hSw
          obtain ⟨mq, hmq, _, _⟩ := hSw
          have a4 := hmq.cp 4 _ rfl; have a6 := hmq.cp 6 _ rfl; have a7 := hmq.cp 7 _ rfl; have b4 := hmq.cq 4 _ rfl; have b6 := hmq.cq 6 _ rfl; have b7 := hmq.cq 7 _ rfl
          clear hmq
          go_simp
          try with_reducible rfl
        simp only [Act.put, List.setIfInBounds_toArray, List.set_cons_zero, List.set_cons_succ, List.getElem_toArray, List.getElem_cons_zero, List.getElem_cons_succ]
        refine wpAnyH_take (i := 12) (v := ?_) rfl (by kernel_rfl) (by kernel_rfl) (by kernel_rfl) (fun _ _ _ h => h) (Or.inl ⟨by rfl, ?_⟩) (by assumption) ?_
        rotate_left
        · intro wq hSw
          obtain ⟨mq, hmq, _, _⟩ := hSw
          have a4 := hmq.cp 4 _ rfl; have a6 := hmq.cp 6 _ rfl; have a7 := hmq.cp 7 _ rfl; have b4 := hmq.cq 4 _ rfl; have b6 := hmq.cq 6 _ rfl; have b7 := hmq.cq 7 _ rfl
          clear hmq
          go_simp
          try with_reducible rfl
        simp only [Act.put, List.setIfInBounds_toArray, List.set_cons_zero, List.set_cons_succ, List.getElem_toArray, List.getElem_cons_zero, List.getElem_cons_succ]
        refine wpAnyH_take (i := 13) (v := ?_) rfl (by kernel_rfl) (by kernel_rfl) (by kernel_rfl) (fun _ _ _ h => h) (Or.inl ⟨by rfl, ?_⟩) (by assumption) ?_
        rotate_left
        · intro wq hSw
          obtain ⟨mq, hmq, _, _⟩ := hSw
          have a4 := hmq.cp 4 _ rfl; have a6 := hmq.cp 6 _ rfl; have a7 := hmq.cp 7 _ rfl; have b4 := hmq.cq 4 _ rfl; have b6 := hmq.cq 6 _ rfl; have b7 := hmq.cq 7 _ rfl
          clear hmq
          go_simp
          try with_reducible rfl
        simp only [Act.put, List.setIfInBounds_toArray, List.set_cons_zero, List.set_cons_succ, List.getElem_toArray, List.getElem_cons_zero, List.getElem_cons_succ]
        refine wpAnyH_take (i := 14) (v := ?_) rfl (by kernel_rfl) (by kernel_rfl) (by kernel_rfl) (fun _ _ _ h => h) (Or.inl ⟨by rfl, ?_⟩) (by assumption) ?_
        rotate_left
        · intro wq hSw
          obtain ⟨mq, hmq, _, _⟩ := hSw
          have a4 := hmq.cp 4 _ rfl; have a6 := hmq.cp 6 _ rfl; have a7 := hmq.cp 7 _ rfl; have b4 := hmq.cq 4 _ rfl; have b6 := hmq.cq 6 _ rfl; have b7 := hmq.cq 7 _ rfl
          clear hmq
          go_simp
          try with_reducible rfl
        simp only [Act.put, List.setIfInBounds_toArray, List.set_cons_zero, List.set_cons_succ, List.getElem_toArray, List.getElem_cons_zero, List.getElem_cons_succ]
        refine wpAnyH_take (i := 15) (v := undef) rfl (by kernel_rfl) (by kernel_rfl) (by kernel_rfl) (fun _ _ _ h => h) (Or.inr ⟨by rfl, rfl⟩) (by assumption) ?_
        simp only [Act.put, List.setIfInBounds_toArray, List.set_cons_zero, List.set_cons_succ, List.getElem_toArray, List.getElem_cons_zero, List.getElem_cons_succ]
        refine wpAnyH_take (i := 16) (v := undef) rfl (by kernel_rfl) (by kernel_rfl) (by kernel_rfl) (fun _ _ _ h => h) (Or.inr ⟨by rfl, rfl⟩) (by assumption) ?_
        simp only [Act.put, List.setIfInBounds_toArray, List.set_cons_zero, List.set_cons_succ, List.getElem_toArray, List.getElem_cons_zero, List.getElem_cons_succ]
        refine wpAnyH_take (i := 17) (v := ?_) rfl (by kernel_rfl) (by kernel_rfl) (by kernel_rfl) (fun _ _ _ h => h) (Or.inl ⟨by rfl, ?_⟩) (by assumption) ?_
        rotate_left
        · intro wq hSw
          obtain ⟨mq, hmq, _, _⟩ := hSw
          have a4 := hmq.cp 4 _ rfl; have a6 := hmq.cp 6 _ rfl; have a7 := hmq.cp 7 _ rfl; have b4 := hmq.cq 4 _ rfl; have b6 := hmq.cq 6 _ rfl; have b7 := hmq.cq 7 _ rfl
          clear hmq
          go_simp
          try with_reducible rfl
        simp only [Act.put, List.setIfInBounds_toArray, List.set_cons_zero, List.set_cons_succ, List.getElem_toArray, List.getElem_cons_zero, List.getElem_cons_succ]
        refine wpAnyH_take (i := 18) (v := ?_) rfl (by kernel_rfl) (by kernel_rfl) (by kernel_rfl) (fun _ _ _ h => h) (Or.inl ⟨by rfl, ?_⟩) (by assumption) ?_
        rotate_left
        · intro wq hSw
          obtain ⟨mq, hmq, _, _⟩ := hSw
          have a4 := hmq.cp 4 _ rfl; have a6 := hmq.cp 6 _ rfl; have a7 := hmq.cp 7 _ rfl; have b4 := hmq.cq 4 _ rfl; have b6 := hmq.cq 6 _ rfl; have b7 := hmq.cq 7 _ rfl
          clear hmq
          go_simp
          try with_reducible rfl
        simp only [Act.put, List.setIfInBounds_toArray, List.set_cons_zero, List.set_cons_succ, List.getElem_toArray, List.getElem_cons_zero, List.getElem_cons_succ]
        refine wpAnyH_ready (rs := [19]) (by kernel_rfl) (by simp) ?_
        refine AllReadyH.cons rfl (fun K hK => ?_) AllReadyH.nil
        obtain ⟨mq, hmq, hn, ht⟩ := hHeld
        have hco := hmq.co 4 _ rfl
        have hfo := hmq.fo 4 (by decide)
        have HM := Lib.hid hmq
        have HN := Lib.hid hn
        have HTT := Lib.hid ht
        clear hmq hn ht
        go_simp
        refine hK.out _ _ ⟨_, HM.out.set4 _, HN.out, HTT.out⟩ ?_
        clear hK K hco hfo HM HN HTT
        intro hHeld
        refine wpAnyH_take (i := 20) (v := ?_) rfl (by kernel_rfl) (by kernel_rfl) (by kernel_rfl) (fun _ _ _ h => h) (Or.inl ⟨by rfl, ?_⟩) (by assumption) ?_
        rotate_left
        · intro wq hSw
          obtain ⟨mq, hmq, _, _⟩ := hSw
          have a4 := hmq.cp 4 _ rfl; have a6 := hmq.cp 6 _ rfl; have a7 := hmq.cp 7 _ rfl; have b4 := hmq.cq 4 _ rfl; have b6 := hmq.cq 6 _ rfl; have b7 := hmq.cq 7 _ rfl
          clear hmq
          go_simp
          try with_reducible rfl
        simp only [Act.put, List.setIfInBounds_toArray, List.set_cons_zero, List.set_cons_succ, List.getElem_toArray, List.getElem_cons_zero, List.getElem_cons_succ]
        refine wpAnyH_ready (rs := [21]) (by kernel_rfl) (by simp) ?_
        refine AllReadyH.cons rfl (fun K hK => ?_) AllReadyH.nil
        obtain ⟨mq, hmq, hn, ht⟩ := hHeld
        have hco := hmq.co 6 _ rfl
        have hfo := hmq.fo 6 (by decide)
        have HM := Lib.hid hmq
        have HN := Lib.hid hn
        have HTT := Lib.hid ht
        clear hmq hn ht
        go_simp
        refine hK.out _ _ ⟨_, HM.out.set6 _, HN.out, HTT.out⟩ ?_
        clear hK K hco hfo HM HN HTT
        intro hHeld
        refine wpAnyH_take (i := 22) (v := ?_) rfl (by kernel_rfl) (by kernel_rfl) (by kernel_rfl) (fun _ _ _ h => h) (Or.inl ⟨by rfl, ?_⟩) (by assumption) ?_
        rotate_left
        · intro wq hSw
          obtain ⟨mq, hmq, _, _⟩ := hSw
          have a4 := hmq.cp 4 _ rfl; have a6 := hmq.cp 6 _ rfl; have a7 := hmq.cp 7 _ rfl; have b4 := hmq.cq 4 _ rfl; have b6 := hmq.cq 6 _ rfl; have b7 := hmq.cq 7 _ rfl
          clear hmq
          go_simp
          try with_reducible rfl
        simp only [Act.put, List.setIfInBounds_toArray, List.set_cons_zero, List.set_cons_succ, List.getElem_toArray, List.getElem_cons_zero, List.getElem_cons_succ]
        refine wpAnyH_ready (rs := [23]) (by kernel_rfl) (by simp) ?_
        refine AllReadyH.cons rfl (fun K hK => ?_) AllReadyH.nil
        obtain ⟨mq, hmq, hn, ht⟩ := hHeld
        have hco := hmq.co 7 _ rfl
        have hfo := hmq.fo 7 (by decide)
        have HM := Lib.hid hmq
        have HN := Lib.hid hn
        have HTT := Lib.hid ht
        clear hmq hn ht
        go_simp
        refine hK.out _ _ ⟨_, HM.out.set7 _, HN.out, HTT.out⟩ ?_
        clear hK K hco hfo HM HN HTT
        intro hHeld
        have HZ0 := Lib.hid hHeld
        clear hHeld
        refine wpAnyH_done (by kernel_rfl) (normal_gen (M := MX p q A B c d w.heap.size w) HZ0.out (fun wz hHeld => ?_)) _
        clear HZ0
        have HZ := Lib.hid hHeld
        clear hHeld
        go_wp2
        all_goals (go_meet; exact HZ.out)
      · as_aux_lemma =>
        go_wp2_with fail
        refine wp_region_held_drew (S := MX p q A B c d w.heap.size w) (by kernel_rfl) (HH.out.later (Below.refl _ _).drew) ?_
        clear HH
        intro hHeld
        refine wpAnyH_take (i := 0) (v := ?_) rfl (by kernel_rfl) (by kernel_rfl) (by kernel_rfl) (fun _ _ _ h => h) (Or.inl ⟨by rfl, ?_⟩) (by assumption) ?_
        rotate_left
        · intro wq hSw
          obtain ⟨mq, hmq, _, _⟩ := hSw
          have a4 := hmq.cp 4 _ rfl; have a6 := hmq.cp 6 _ rfl; have a7 := hmq.cp 7 _ rfl; have b4 := hmq.cq 4 _ rfl; have b6 := hmq.cq 6 _ rfl; have b7 := hmq.cq 7 _ rfl
          clear hmq
          go_simp
          try with_reducible rfl
        simp only [Act.put, List.setIfInBounds_toArray, List.set_cons_zero, List.set_cons_succ, List.getElem_toArray, List.getElem_cons_zero]
        refine wpAnyH_take (i := 1) (v := ?_) rfl (by kernel_rfl) (by kernel_rfl) (by kernel_rfl) (fun _ _ _ h => h) (Or.inl ⟨by rfl, ?_⟩) (by assumption) ?_
        rotate_left
        · intro wq hSw
          obtain ⟨mq, hmq, _, _⟩ := hSw
          have a4 := hmq.cp 4 _ rfl; have a6 := hmq.cp 6 _ rfl; have a7 := hmq.cp 7 _ rfl; have b4 := hmq.cq 4 _ rfl; have b6 := hmq.cq 6 _ rfl; have b7 := hmq.cq 7 _ rfl
          clear hmq
          go_simp
          try with_reducible rfl
        simp only [Act.put, List.setIfInBounds_toArray, List.set_cons_zero, List.set_cons_succ, List.getElem_toArray, List.getElem_cons_zero, List.getElem_cons_succ]
        refine wpAnyH_take (i := 2) (v := ?_) rfl (by kernel_rfl) (by kernel_rfl) (by kernel_rfl) (fun _ _ _ h => h) (Or.inl ⟨by rfl, ?_⟩) (by assumption) ?_
        rotate_left
        · intro wq hSw
          obtain ⟨mq, hmq, _, _⟩ := hSw
          have a4 := hmq.cp 4 _ rfl; have a6 := hmq.cp 6 _ rfl; have a7 := hmq.cp 7 _ rfl; have b4 := hmq.cq 4 _ rfl; have b6 := hmq.cq 6 _ rfl; have b7 := hmq.cq 7 _ rfl
          clear hmq
          go_simp
          try with_reducible rfl
        simp only [Act.put, List.setIfInBounds_toArray, List.set_cons_zero, List.set_cons_succ, List.getElem_toArray, List.getElem_cons_zero, List.getElem_cons_succ]
        refine wpAnyH_take (i := 3) (v := undef) rfl (by kernel_rfl) (by kernel_rfl) (by kernel_rfl) (fun _ _ _ h => h) (Or.inr ⟨by rfl, rfl⟩) (by assumption) ?_
        simp only [Act.put, List.setIfInBounds_toArray, List.set_cons_zero, List.set_cons_succ, List.getElem_toArray, List.getElem_cons_zero, List.getElem_cons_succ]
        refine wpAnyH_take (i := 4) (v := undef) rfl (by kernel_rfl) (by kernel_rfl) (by kernel_rfl) (fun _ _ _ h => h) (Or.inr ⟨by rfl, rfl⟩) (by assumption) ?_
        simp only [Act.put, List.setIfInBounds_toArray, List.set_cons_zero, List.set_cons_succ, List.getElem_toArray, List.getElem_cons_zero, List.getElem_cons_succ]
        refine wpAnyH_take (i := 5) (v := ?_) rfl (by kernel_rfl) (by kernel_rfl) (by kernel_rfl) (fun _ _ _ h => h) (Or.inl ⟨by rfl, ?_⟩) (by assumption) ?_
        rotate_left
        · intro wq hSw
          obtain ⟨mq, hmq, _, _⟩ := hSw
          have a4 := hmq.cp 4 _ rfl; have a6 := hmq.cp 6 _ rfl; have a7 := hmq.cp 7 _ rfl; have b4 := hmq.cq 4 _ rfl; have b6 := hmq.cq 6 _ rfl; have b7 := hmq.cq 7 _ rfl
          clear hmq
          go_simp
          try with_reducible rfl
        simp only [Act.put, List.setIfInBounds_toArray, List.set_cons_zero, List.set_cons_succ, List.getElem_toArray, List.getElem_cons_zero, List.getElem_cons_succ]
        refine wpAnyH_take (i := 6) (v := ?_) rfl (by kernel_rfl) (by kernel_rfl) (by kernel_rfl) (fun _ _ _ h => h) (Or.inl ⟨by rfl, ?_⟩) (by assumption) ?_
        rotate_left
        · intro wq hSw
          obtain ⟨mq, hmq, _, _⟩ := hSw
          have a4 := hmq.cp 4 _ rfl; have a6 := hmq.cp 6 _ rfl; have a7 := hmq.cp 7 _ rfl; have b4 := hmq.cq 4 _ rfl; have b6 := hmq.cq 6 _ rfl; have b7 := hmq.cq 7 _ rfl
          clear hmq
          go_simp
          try with_reducible rfl
        simp only [Act.put, List.setIfInBounds_toArray, List.set_cons_zero, List.set_cons_succ, List.getElem_toArray, List.getElem_cons_zero, List.getElem_cons_succ]
        refine wpAnyH_take (i := 7) (v := ?_) rfl (by kernel_rfl) (by kernel_rfl) (by kernel_rfl) (fun _ _ _ h => h) (Or.inl ⟨by rfl, ?_⟩) (by assumption) ?_
        rotate_left
        · intro wq hSw
          obtain ⟨mq, hmq, _, _⟩ := hSw
          have a4 := hmq.cp 4 _ rfl; have a6 := hmq.cp 6 _ rfl; have a7 := hmq.cp 7 _ rfl; have b4 := hmq.cq 4 _ rfl; have b6 := hmq.cq 6 _ rfl; have b7 := hmq.cq 7 _ rfl
          clear hmq
          go_simp
          try with_reducible rfl
        simp only [Act.put, List.setIfInBounds_toArray, List.set_cons_zero, List.set_cons_succ, List.getElem_toArray, List.getElem_cons_zero, List.getElem_cons_succ]
        refine wpAnyH_take (i := 8) (v := ?_) rfl (by kernel_rfl) (by kernel_rfl) (by kernel_rfl) (fun _ _ _ h => h) (Or.inl ⟨by rfl, ?_⟩) (by assumption) ?_
        rotate_left
        · intro wq hSw
          obtain ⟨mq, hmq, _, _⟩ := hSw
          have a4 := hmq.cp 4 _ rfl; have a6 := hmq.cp 6 _ rfl; have a7 := hmq.cp 7 _ rfl; have b4 := hmq.cq 4 _ rfl; have b6 := hmq.cq 6 _ rfl; have b7 := hmq.cq 7 _ rfl
          clear hmq
          go_simp
          try with_reducible rfl
        simp only [Act.put, List.setIfInBounds_toArray, List.set_cons_zero, List.set_cons_succ, List.getElem_toArray, List.getElem_cons_zero, List.getElem_cons_succ]
        refine wpAnyH_take (i := 9) (v := undef) rfl (by kernel_rfl) (by kernel_rfl) (by kernel_rfl) (fun _ _ _ h => h) (Or.inr ⟨by rfl, rfl⟩) (by assumption) ?_
        simp only [Act.put, List.setIfInBounds_toArray, List.set_cons_zero, List.set_cons_succ, List.getElem_toArray, List.getElem_cons_zero, List.getElem_cons_succ]
        refine wpAnyH_take (i := 10) (v := undef) rfl (by kernel_rfl) (by kernel_rfl) (by kernel_rfl) (fun _ _ _ h => h) (Or.inr ⟨by rfl, rfl⟩) (by assumption) ?_
        simp only [Act.put, List.setIfInBounds_toArray, List.set_cons_zero, List.set_cons_succ, List.getElem_toArray, List.getElem_cons_zero, List.getElem_cons_succ]
        refine wpAnyH_take (i := 11) (v := ?_) rfl (by kernel_rfl) (by kernel_rfl) (by kernel_rfl) (fun _ _ _ h => h) (Or.inl ⟨by rfl, ?_⟩) (by assumption) ?_
        rotate_left
        · intro wq hSw
          obtain ⟨mq, hmq, _, _⟩ := hSw
          have a4 := hmq.cp 4 _ rfl; have a6 := hmq.cp 6 _ rfl; have a7 := hmq.cp 7 _ rfl; have b4 := hmq.cq 4 _ rfl; have b6 := hmq.cq 6 _ rfl; have b7 := hmq.cq 7 _ rfl
          clear hmq
          go_simp
          try with_reducible rfl
        simp only [Act.put, List.setIfInBounds_toArray, List.set_cons_zero, List.set_cons_succ, List.getElem_toArray, List.getElem_cons_zero, List.getElem_cons_succ]
        refine wpAnyH_take (i := 12) (v := ?_) rfl (by kernel_rfl) (by kernel_rfl) (by kernel_rfl) (fun _ _ _ h => h) (Or.inl ⟨by rfl, ?_⟩) (by assumption) ?_
        rotate_left
        · intro wq hSw
          obtain ⟨mq, hmq, _, _⟩ := hSw
          have a4 := hmq.cp 4 _ rfl; have a6 := hmq.cp 6 _ rfl; have a7 := hmq.cp 7 _ rfl; have b4 := hmq.cq 4 _ rfl; have b6 := hmq.cq 6 _ rfl; have b7 := hmq.cq 7 _ rfl
          clear hmq
          go_simp
          try with_reducible rfl
        simp only [Act.put, List.setIfInBounds_toArray, List.set_cons_zero, List.set_cons_succ, List.getElem_toArray, List.getElem_cons_zero, List.getElem_cons_succ]
        refine wpAnyH_take (i := 13) (v := ?_) rfl (by kernel_rfl) (by kernel_rfl) (by kernel_rfl) (fun _ _ _ h => h) (Or.inl ⟨by rfl, ?_⟩) (by assumption) ?_
        rotate_left
        · intro wq hSw
          obtain ⟨mq, hmq, _, _⟩ := hSw
          have a4 := hmq.cp 4 _ rfl; have a6 := hmq.cp 6 _ rfl; have a7 := hmq.cp 7 _ rfl; have b4 := hmq.cq 4 _ rfl; have b6 := hmq.cq 6 _ rfl; have b7 := hmq.cq 7 _ rfl
          clear hmq
          go_simp
          try with_reducible rfl
        simp only [Act.put, List.setIfInBounds_toArray, List.set_cons_zero, List.set_cons_succ, List.getElem_toArray, List.getElem_cons_zero, List.getElem_cons_succ]
        refine wpAnyH_take (i := 14) (v := ?_) rfl (by kernel_rfl) (by kernel_rfl) (by kernel_rfl) (fun _ _ _ h => h) (Or.inl ⟨by rfl, ?_⟩) (by assumption) ?_
        rotate_left
        · intro wq hSw
          obtain ⟨mq, hmq, _, _⟩ := hSw
          have a4 := hmq.cp 4 _ rfl; have a6 := hmq.cp 6 _ rfl; have a7 := hmq.cp 7 _ rfl; have b4 := hmq.cq 4 _ rfl; have b6 := hmq.cq 6 _ rfl; have b7 := hmq.cq 7 _ rfl
          clear hmq
          go_simp
          try with_reducible rfl
        simp only [Act.put, List.setIfInBounds_toArray, List.set_cons_zero, List.set_cons_succ, List.getElem_toArray, List.getElem_cons_zero, List.getElem_cons_succ]
        refine wpAnyH_take (i := 15) (v := ?_) rfl (by kernel_rfl) (by kernel_rfl) (by kernel_rfl) (fun _ _ _ h => h) (Or.inl ⟨by rfl, ?_⟩) (by assumption) ?_
        rotate_left
        · intro wq hSw
          obtain ⟨mq, hmq, _, _⟩ := hSw
          have a4 := hmq.cp 4 _ rfl; have a6 := hmq.cp 6 _ rfl; have a7 := hmq.cp 7 _ rfl; have b4 := hmq.cq 4 _ rfl; have b6 := hmq.cq 6 _ rfl; have b7 := hmq.cq 7 _ rfl
          clear hmq
          go_simp
          try with_reducible rfl
        simp only [Act.put, List.setIfInBounds_toArray, List.set_cons_zero, List.set_cons_succ, List.getElem_toArray, List.getElem_cons_zero, List.getElem_cons_succ]
        refine wpAnyH_take (i := 16) (v := ?_) rfl (by kernel_rfl) (by kernel_rfl) (by kernel_rfl) (fun _ _ _ h => h) (Or.inl ⟨by rfl, ?_⟩) (by assumption) ?_
        rotate_left
        · intro wq hSw
          obtain ⟨mq, hmq, _, _⟩ := hSw
          have a4 := hmq.cp 4 _ rfl; have a6 := hmq.cp 6 _ rfl; have a7 := hmq.cp 7 _ rfl; have b4 := hmq.cq 4 _ rfl; have b6 := hmq.cq 6 _ rfl; have b7 := hmq.cq 7 _ rfl
          clear hmq
          go_simp
          try with_reducible rfl
        simp only [Act.put, List.setIfInBounds_toArray, List.set_cons_zero, List.set_cons_succ, List.getElem_toArray, List.getElem_cons_zero, List.getElem_cons_succ]
        refine wpAnyH_take (i := 17) (v := ?_) rfl (by kernel_rfl) (by kernel_rfl) (by kernel_rfl) (fun _ _ _ h => h) (Or.inl ⟨by rfl, ?_⟩) (by assumption) ?_
        rotate_left
        · intro wq hSw
          obtain ⟨mq, hmq, _, _⟩ := hSw
          have a4 := hmq.cp 4 _ rfl; have a6 := hmq.cp 6 _ rfl; have a7 := hmq.cp 7 _ rfl; have b4 := hmq.cq 4 _ rfl; have b6 := hmq.cq 6 _ rfl; have b7 := hmq.cq 7 _ rfl
          clear hmq
          go_simp
          try with_reducible rfl
        simp only [Act.put, List.setIfInBounds_toArray, List.set_cons_zero, List.set_cons_succ, List.getElem_toArray, List.getElem_cons_zero, List.getElem_cons_succ]
        refine wpAnyH_take (i := 18) (v := ?_) rfl (by kernel_rfl) (by kernel_rfl) (by kernel_rfl) (fun _ _ _ h => h) (Or.inl ⟨by rfl, ?_⟩) (by assumption) ?_
        rotate_left
        · intro wq hSw
          obtain ⟨mq, hmq, _, _⟩ := hSw
          have a4 := hmq.cp 4 _ rfl; have a6 := hmq.cp 6 _ rfl; have a7 := hmq.cp 7 _ rfl; have b4 := hmq.cq 4 _ rfl; have b6 := hmq.cq 6 _ rfl; have b7 := hmq.cq 7 _ rfl
          clear hmq
          go_simp
          try with_reducible rfl
        simp only [Act.put, List.setIfInBounds_toArray, List.set_cons_zero, List.set_cons_succ, List.getElem_toArray, List.getElem_cons_zero, List.getElem_cons_succ]
        refine wpAnyH_ready (rs := [19]) (by kernel_rfl) (by simp) ?_
        refine AllReadyH.cons rfl (fun K hK => ?_) AllReadyH.nil
        obtain ⟨mq, hmq, hn, ht⟩ := hHeld
        have hco := hmq.co 4 _ rfl
        have hfo := hmq.fo 4 (by decide)
        have HM := Lib.hid hmq
        have HN := Lib.hid hn
        have HTT := Lib.hid ht
        clear hmq hn ht
        go_simp
        refine hK.out _ _ ⟨_, HM.out.set4 _, HN.out, HTT.out⟩ ?_
        clear hK K hco hfo HM HN HTT
        intro hHeld
        refine wpAnyH_take (i := 20) (v := ?_) rfl (by kernel_rfl) (by kernel_rfl) (by kernel_rfl) (fun _ _ _ h => h) (Or.inl ⟨by rfl, ?_⟩) (by assumption) ?_
        rotate_left
        · intro wq hSw
          obtain ⟨mq, hmq, _, _⟩ := hSw
          have a4 := hmq.cp 4 _ rfl; have a6 := hmq.cp 6 _ rfl; have a7 := hmq.cp 7 _ rfl; have b4 := hmq.cq 4 _ rfl; have b6 := hmq.cq 6 _ rfl; have b7 := hmq.cq 7 _ rfl
          clear hmq
          go_simp
          try with_reducible rfl
        simp only [Act.put, List.setIfInBounds_toArray, List.set_cons_zero, List.set_cons_succ, List.getElem_toArray, List.getElem_cons_zero, List.getElem_cons_succ]
        refine wpAnyH_ready (rs := [21]) (by kernel_rfl) (by simp) ?_
        refine AllReadyH.cons rfl (fun K hK => ?_) AllReadyH.nil
        obtain ⟨mq, hmq, hn, ht⟩ := hHeld
        have hco := hmq.co 6 _ rfl
        have hfo := hmq.fo 6 (by decide)
        have HM := Lib.hid hmq
        have HN := Lib.hid hn
        have HTT := Lib.hid ht
        clear hmq hn ht
        go_simp
        refine hK.out _ _ ⟨_, HM.out.set6 _, HN.out, HTT.out⟩ ?_
        clear hK K hco hfo HM HN HTT
        intro hHeld
        refine wpAnyH_take (i := 22) (v := ?_) rfl (by kernel_rfl) (by kernel_rfl) (by kernel_rfl) (fun _ _ _ h => h) (Or.inl ⟨by rfl, ?_⟩) (by assumption) ?_
        rotate_left
        · intro wq hSw
          obtain ⟨mq, hmq, _, _⟩ := hSw
          have a4 := hmq.cp 4 _ rfl; have a6 := hmq.cp 6 _ rfl; have a7 := hmq.cp 7 _ rfl; have b4 := hmq.cq 4 _ rfl; have b6 := hmq.cq 6 _ rfl; have b7 := hmq.cq 7 _ rfl
          clear hmq
          go_simp
          try with_reducible rfl
        simp only [Act.put, List.setIfInBounds_toArray, List.set_cons_zero, List.set_cons_succ, List.getElem_toArray, List.getElem_cons_zero, List.getElem_cons_succ]
        refine wpAnyH_ready (rs := [23]) (by kernel_rfl) (by simp) ?_
        refine AllReadyH.cons rfl (fun K hK => ?_) AllReadyH.nil
        obtain ⟨mq, hmq, hn, ht⟩ := hHeld
        have hco := hmq.co 7 _ rfl
        have hfo := hmq.fo 7 (by decide)
        have HM := Lib.hid hmq
        have HN := Lib.hid hn
        have HTT := Lib.hid ht
        clear hmq hn ht
        go_simp
        refine hK.out _ _ ⟨_, HM.out.set7 _, HN.out, HTT.out⟩ ?_
        clear hK K hco hfo HM HN HTT
        intro hHeld
        have HZ0 := Lib.hid hHeld
        clear hHeld
        refine wpAnyH_done (by kernel_rfl) (normal_gen (M := MX p q A B c d w.heap.size w) HZ0.out (fun wz hHeld => ?_)) _
        clear HZ0
        have HZ := Lib.hid hHeld
        clear hHeld
        go_wp2
        all_goals (go_meet; exact HZ.out)
      · as_aux_lemma =>
        go_wp2_with fail
        refine wp_region_held_drew (S := MX p q A B c d w.heap.size w) (by kernel_rfl) (HH.out.later (Below.refl _ _).drew) ?_
        clear HH
        intro hHeld
        refine wpAnyH_take (i := 0) (v := ?_) rfl (by kernel_rfl) (by kernel_rfl) (by kernel_rfl) (fun _ _ _ h => h) (Or.inl ⟨by rfl, ?_⟩) (by assumption) ?_
        rotate_left
        · intro wq hSw
          obtain ⟨mq, hmq, _, _⟩ := hSw
          have a4 := hmq.cp 4 _ rfl; have a6 := hmq.cp 6 _ rfl; have a7 := hmq.cp 7 _ rfl; have b4 := hmq.cq 4 _ rfl; have b6 := hmq.cq 6 _ rfl; have b7 := hmq.cq 7 _ rfl
          clear hmq
          go_simp
          try with_reducible rfl
        simp only [Act.put, List.setIfInBounds_toArray, List.set_cons_zero, List.set_cons_succ, List.getElem_toArray, List.getElem_cons_zero]
        refine wpAnyH_take (i := 1) (v := ?_) rfl (by kernel_rfl) (by kernel_rfl) (by kernel_rfl) (fun _ _ _ h => h) (Or.inl ⟨by rfl, ?_⟩) (by assumption) ?_
        rotate_left
        · intro wq hSw
          obtain ⟨mq, hmq, _, _⟩ := hSw
          have a4 := hmq.cp 4 _ rfl; have a6 := hmq.cp 6 _ rfl; have a7 := hmq.cp 7 _ rfl; have b4 := hmq.cq 4 _ rfl; have b6 := hmq.cq 6 _ rfl; have b7 := hmq.cq 7 _ rfl
          clear hmq
          go_simp
          try with_reducible rfl
        simp only [Act.put, List.setIfInBounds_toArray, List.set_cons_zero, List.set_cons_succ, List.getElem_toArray, List.getElem_cons_zero, List.getElem_cons_succ]
        refine wpAnyH_take (i := 2) (v := ?_) rfl (by kernel_rfl) (by kernel_rfl) (by kernel_rfl) (fun _ _ _ h => h) (Or.inl ⟨by rfl, ?_⟩) (by assumption) ?_
        rotate_left
        · intro wq hSw
          obtain ⟨mq, hmq, _, _⟩ := hSw
          have a4 := hmq.cp 4 _ rfl; have a6 := hmq.cp 6 _ rfl; have a7 := hmq.cp 7 _ rfl; have b4 := hmq.cq 4 _ rfl; have b6 := hmq.cq 6 _ rfl; have b7 := hmq.cq 7 _ rfl
          clear hmq
          go_simp
          try with_reducible rfl
        simp only [Act.put, List.setIfInBounds_toArray, List.set_cons_zero, List.set_cons_succ, List.getElem_toArray, List.getElem_cons_zero, List.getElem_cons_succ]
        refine wpAnyH_take (i := 3) (v := undef) rfl (by kernel_rfl) (by kernel_rfl) (by kernel_rfl) (fun _ _ _ h => h) (Or.inr ⟨by rfl, rfl⟩) (by assumption) ?_
        simp only [Act.put, List.setIfInBounds_toArray, List.set_cons_zero, List.set_cons_succ, List.getElem_toArray, List.getElem_cons_zero, List.getElem_cons_succ]
        refine wpAnyH_take (i := 4) (v := undef) rfl (by kernel_rfl) (by kernel_rfl) (by kernel_rfl) (fun _ _ _ h => h) (Or.inr ⟨by rfl, rfl⟩) (by assumption) ?_
        simp only [Act.put, List.setIfInBounds_toArray, List.set_cons_zero, List.set_cons_succ, List.getElem_toArray, List.getElem_cons_zero, List.getElem_cons_succ]
        refine wpAnyH_take (i := 5) (v := ?_) rfl (by kernel_rfl) (by kernel_rfl) (by kernel_rfl) (fun _ _ _ h => h) (Or.inl ⟨by rfl, ?_⟩) (by assumption) ?_
        rotate_left
        · intro wq hSw
          obtain ⟨mq, hmq, _, _⟩ := hSw
          have a4 := hmq.cp 4 _ rfl; have a6 := hmq.cp 6 _ rfl; have a7 := hmq.cp 7 _ rfl; have b4 := hmq.cq 4 _ rfl; have b6 := hmq.cq 6 _ rfl; have b7 := hmq.cq 7 _ rfl
          clear hmq
          go_simp
          try with_reducible rfl
        simp only [Act.put, List.setIfInBounds_toArray, List.set_cons_zero, List.set_cons_succ, List.getElem_toArray, List.getElem_cons_zero, List.getElem_cons_succ]
        refine wpAnyH_take (i := 6) (v := ?_) rfl (by kernel_rfl) (by kernel_rfl) (by kernel_rfl) (fun _ _ _ h => h) (Or.inl ⟨by rfl, ?_⟩) (by assumption) ?_
        rotate_left
        · intro wq hSw
          obtain ⟨mq, hmq, _, _⟩ := hSw
          have a4 := hmq.cp 4 _ rfl; have a6 := hmq.cp 6 _ rfl; have a7 := hmq.cp 7 _ rfl; have b4 := hmq.cq 4 _ rfl; have b6 := hmq.cq 6 _ rfl; have b7 := hmq.cq 7 _ rfl
          clear hmq
          go_simp
          try with_reducible rfl
        simp only [Act.put, List.setIfInBounds_toArray, List.set_cons_zero, List.set_cons_succ, List.getElem_toArray, List.getElem_cons_zero, List.getElem_cons_succ]
        refine wpAnyH_take (i := 7) (v := ?_) rfl (by kernel_rfl) (by kernel_rfl) (by kernel_rfl) (fun _ _ _ h => h) (Or.inl ⟨by rfl, ?_⟩) (by assumption) ?_
        rotate_left
        · intro wq hSw
          obtain ⟨mq, hmq, _, _⟩ := hSw
          have a4 := hmq.cp 4 _ rfl; have a6 := hmq.cp 6 _ rfl; have a7 := hmq.cp 7 _ rfl; have b4 := hmq.cq 4 _ rfl; have b6 := hmq.cq 6 _ rfl; have b7 := hmq.cq 7 _ rfl
          clear hmq
          go_simp
          try with_reducible rfl
        simp only [Act.put, List.setIfInBounds_toArray, List.set_cons_zero, List.set_cons_succ, List.getElem_toArray, List.getElem_cons_zero, List.getElem_cons_succ]
        refine wpAnyH_take (i := 8) (v := ?_) rfl (by kernel_rfl) (by kernel_rfl) (by kernel_rfl) (fun _ _ _ h => h) (Or.inl ⟨by rfl, ?_⟩) (by assumption) ?_
        rotate_left
        · intro wq hSw
          obtain ⟨mq, hmq, _, _⟩ := hSw
          have a4 := hmq.cp 4 _ rfl; have a6 := hmq.cp 6 _ rfl; have a7 := hmq.cp 7 _ rfl; have b4 := hmq.cq 4 _ rfl; have b6 := hmq.cq 6 _ rfl; have b7 := hmq.cq 7 _ rfl
          clear hmq
          go_simp
          try with_reducible rfl
        simp only [Act.put, List.setIfInBounds_toArray, List.set_cons_zero, List.set_cons_succ, List.getElem_toArray, List.getElem_cons_zero, List.getElem_cons_succ]
        refine wpAnyH_take (i := 9) (v := undef) rfl (by kernel_rfl) (by kernel_rfl) (by kernel_rfl) (fun _ _ _ h => h) (Or.inr ⟨by rfl, rfl⟩) (by assumption) ?_
        simp only [Act.put, List.setIfInBounds_toArray, List.set_cons_zero, List.set_cons_succ, List.getElem_toArray, List.getElem_cons_zero, List.getElem_cons_succ]
        refine wpAnyH_take (i := 10) (v := undef) rfl (by kernel_rfl) (by kernel_rfl) (by kernel_rfl) (fun _ _ _ h => h) (Or.inr ⟨by rfl, rfl⟩) (by assumption) ?_
        simp only [Act.put, List.setIfInBounds_toArray, List.set_cons_zero, List.set_cons_succ, List.getElem_toArray, List.getElem_cons_zero, List.getElem_cons_succ]
        refine wpAnyH_take (i := 11) (v := ?_) rfl (by kernel_rfl) (by kernel_rfl) (by kernel_rfl) (fun _ _ _ h => h) (Or.inl ⟨by rfl, ?_⟩) (by assumption) ?_
        rotate_left
        · intro wq hSw
          obtain ⟨mq, hmq, _, _⟩ := hSw
          have a4 := hmq.cp 4 _ rfl; have a6 := hmq.cp 6 _ rfl; have a7 := hmq.cp 7 _ rfl; have b4 := hmq.cq 4 _ rfl; have b6 := hmq.cq 6 _ rfl; have b7 := hmq.cq 7 _ rfl
          clear hmq
          go_simp
          try with_reducible rfl
        simp only [Act.put, List.setIfInBounds_toArray, List.set_cons_zero, List.set_cons_succ, List.getElem_toArray, List.getElem_cons_zero, List.getElem_cons_succ]
        refine wpAnyH_take (i := 12) (v := ?_) rfl (by kernel_rfl) (by kernel_rfl) (by kernel_rfl) (fun _ _ _ h => h) (Or.inl ⟨by rfl, ?_⟩) (by assumption) ?_
        rotate_left
        · intro wq hSw
          obtain ⟨mq, hmq, _, _⟩ := hSw
          have a4 := hmq.cp 4 _ rfl; have a6 := hmq.cp 6 _ rfl; have a7 := hmq.cp 7 _ rfl; have b4 := hmq.cq 4 _ rfl; have b6 := hmq.cq 6 _ rfl; have b7 := hmq.cq 7 _ rfl
          clear hmq
          go_simp
          try with_reducible rfl
        simp only [Act.put, List.setIfInBounds_toArray, List.set_cons_zero, List.set_cons_succ, List.getElem_toArray, List.getElem_cons_zero, List.getElem_cons_succ]
        refine wpAnyH_take (i := 13) (v := ?_) rfl (by kernel_rfl) (by kernel_rfl) (by kernel_rfl) (fun _ _ _ h => h) (Or.inl ⟨by rfl, ?_⟩) (by assumption) ?_
        rotate_left
        · intro wq hSw
          obtain ⟨mq, hmq, _, _⟩ := hSw
          have a4 := hmq.cp 4 _ rfl; have a6 := hmq.cp 6 _ rfl; have a7 := hmq.cp 7 _ rfl; have b4 := hmq.cq 4 _ rfl; have b6 := hmq.cq 6 _ rfl; have b7 := hmq.cq 7 _ rfl
          clear hmq
          go_simp
          try with_reducible rfl
        simp only [Act.put, List.setIfInBounds_toArray, List.set_cons_zero, List.set_cons_succ, List.getElem_toArray, List.getElem_cons_zero, List.getElem_cons_succ]
        refine wpAnyH_take (i := 14) (v := ?_) rfl (by kernel_rfl) (by kernel_rfl) (by kernel_rfl) (fun _ _ _ h => h) (Or.inl ⟨by rfl, ?_⟩) (by assumption) ?_
        rotate_left
        · intro wq hSw
          obtain ⟨mq, hmq, _, _⟩ := hSw
          have a4 := hmq.cp 4 _ rfl; have a6 := hmq.cp 6 _ rfl; have a7 := hmq.cp 7 _ rfl; have b4 := hmq.cq 4 _ rfl; have b6 := hmq.cq 6 _ rfl; have b7 := hmq.cq 7 _ rfl
          clear hmq
          go_simp
          try with_reducible rfl
        simp only [Act.put, List.setIfInBounds_toArray, List.set_cons_zero, List.set_cons_succ, List.getElem_toArray, List.getElem_cons_zero, List.getElem_cons_succ]
        refine wpAnyH_take (i := 15) (v := undef) rfl (by kernel_rfl) (by kernel_rfl) (by kernel_rfl) (fun _ _ _ h => h) (Or.inr ⟨by rfl, rfl⟩) (by assumption) ?_
        simp only [Act.put, List.setIfInBounds_toArray, List.set_cons_zero, List.set_cons_succ, List.getElem_toArray, List.getElem_cons_zero, List.getElem_cons_succ]
        refine wpAnyH_take (i := 16) (v := undef) rfl (by kernel_rfl) (by kernel_rfl) (by kernel_rfl) (fun _ _ _ h => h) (Or.inr ⟨by rfl, rfl⟩) (by assumption) ?_
        simp only [Act.put, List.setIfInBounds_toArray, List.set_cons_zero, List.set_cons_succ, List.getElem_toArray, List.getElem_cons_zero, List.getElem_cons_succ]
        refine wpAnyH_take (i := 17) (v := ?_) rfl (by kernel_rfl) (by kernel_rfl) (by kernel_rfl) (fun _ _ _ h => h) (Or.inl ⟨by rfl, ?_⟩) (by assumption) ?_
        rotate_left
        · intro wq hSw
          obtain ⟨mq, hmq, _, _⟩ := hSw
          have a4 := hmq.cp 4 _ rfl; have a6 := hmq.cp 6 _ rfl; have a7 := hmq.cp 7 _ rfl; have b4 := hmq.cq 4 _ rfl; have b6 := hmq.cq 6 _ rfl; have b7 := hmq.cq 7 _ rfl
          clear hmq
          go_simp
          try with_reducible rfl
        simp only [Act.put, List.setIfInBounds_toArray, List.set_cons_zero, List.set_cons_succ, List.getElem_toArray, List.getElem_cons_zero, List.getElem_cons_succ]
        refine wpAnyH_take (i := 18) (v := ?_) rfl (by kernel_rfl) (by kernel_rfl) (by kernel_rfl) (fun _ _ _ h => h) (Or.inl ⟨by rfl, ?_⟩) (by assumption) ?_
        rotate_left
        · intro wq hSw
          obtain ⟨mq, hmq, _, _⟩ := hSw
          have a4 := hmq.cp 4 _ rfl; have a6 := hmq.cp 6 _ rfl; have a7 := hmq.cp 7 _ rfl; have b4 := hmq.cq 4 _ rfl; have b6 := hmq.cq 6 _ rfl; have b7 := hmq.cq 7 _ rfl
          clear hmq
          go_simp
          try with_reducible rfl
        simp only [Act.put, List.setIfInBounds_toArray, List.set_cons_zero, List.set_cons_succ, List.getElem_toArray, List.getElem_cons_zero, List.getElem_cons_succ]
        refine wpAnyH_ready (rs := [19]) (by kernel_rfl) (by simp) ?_
        refine AllReadyH.cons rfl (fun K hK => ?_) AllReadyH.nil
        obtain ⟨mq, hmq, hn, ht⟩ := hHeld
        have hco := hmq.co 4 _ rfl
        have hfo := hmq.fo 4 (by decide)
        have HM := Lib.hid hmq
        have HN := Lib.hid hn
        have HTT := Lib.hid ht
        clear hmq hn ht
        go_simp
        refine hK.out _ _ ⟨_, HM.out.set4 _, HN.out, HTT.out⟩ ?_
        clear hK K hco hfo HM HN HTT
        intro hHeld
        refine wpAnyH_take (i := 20) (v := ?_) rfl (by kernel_rfl) (by kernel_rfl) (by kernel_rfl) (fun _ _ _ h => h) (Or.inl ⟨by rfl, ?_⟩) (by assumption) ?_
        rotate_left
        · intro wq hSw
          obtain ⟨mq, hmq, _, _⟩ := hSw
          have a4 := hmq.cp 4 _ rfl; have a6 := hmq.cp 6 _ rfl; have a7 := hmq.cp 7 _ rfl; have b4 := hmq.cq 4 _ rfl; have b6 := hmq.cq 6 _ rfl; have b7 := hmq.cq 7 _ rfl
          clear hmq
          go_simp
          try with_reducible rfl
        simp only [Act.put, List.setIfInBounds_toArray, List.set_cons_zero, List.set_cons_succ, List.getElem_toArray, List.getElem_cons_zero, List.getElem_cons_succ]
        refine wpAnyH_ready (rs := [21]) (by kernel_rfl) (by simp) ?_
        refine AllReadyH.cons rfl (fun K hK => ?_) AllReadyH.nil
        obtain ⟨mq, hmq, hn, ht⟩ := hHeld
        have hco := hmq.co 6 _ rfl
        have hfo := hmq.fo 6 (by decide)
        have HM := Lib.hid hmq
        have HN := Lib.hid hn
        have HTT := Lib.hid ht
        clear hmq hn ht
        go_simp
        refine hK.out _ _ ⟨_, HM.out.set6 _, HN.out, HTT.out⟩ ?_
        clear hK K hco hfo HM HN HTT
        intro hHeld
        refine wpAnyH_take (i := 22) (v := ?_) rfl (by kernel_rfl) (by kernel_rfl) (by kernel_rfl) (fun _ _ _ h => h) (Or.inl ⟨by rfl, ?_⟩) (by assumption) ?_
        rotate_left
        · intro wq hSw
          obtain ⟨mq, hmq, _, _⟩ := hSw
          have a4 := hmq.cp 4 _ rfl; have a6 := hmq.cp 6 _ rfl; have a7 := hmq.cp 7 _ rfl; have b4 := hmq.cq 4 _ rfl; have b6 := hmq.cq 6 _ rfl; have b7 := hmq.cq 7 _ rfl
          clear hmq
          go_simp
          try with_reducible rfl
        simp only [Act.put, List.setIfInBounds_toArray, List.set_cons_zero, List.set_cons_succ, List.getElem_toArray, List.getElem_cons_zero, List.getElem_cons_succ]
        refine wpAnyH_ready (rs := [23]) (by kernel_rfl) (by simp) ?_
        refine AllReadyH.cons rfl (fun K hK => ?_) AllReadyH.nil
        obtain ⟨mq, hmq, hn, ht⟩ := hHeld
        have hco := hmq.co 7 _ rfl
        have hfo := hmq.fo 7 (by decide)
        have HM := Lib.hid hmq
        have HN := Lib.hid hn
        have HTT := Lib.hid ht
        clear hmq hn ht
        go_simp
        refine hK.out _ _ ⟨_, HM.out.set7 _, HN.out, HTT.out⟩ ?_
        clear hK K hco hfo HM HN HTT
        intro hHeld
        have HZ0 := Lib.hid hHeld
        clear hHeld
        refine wpAnyH_done (by kernel_rfl) (normal_gen (M := MX p q A B c d w.heap.size w) HZ0.out (fun wz hHeld => ?_)) _
        clear HZ0
        have HZ := Lib.hid hHeld
        clear hHeld
        go_wp2
        all_goals (go_meet; exact HZ.out)
    case rest =>
      have hHeld := hcut
      clear hcut
      go_upto_region 4 with fail
      go_cut [62] (fun v wx => MX p q A B c d w.heap.size w wx)
      case first =>
        as_aux_lemma =>
        have HH := Lib.hid hHeld
        clear hHeld
        go_wp2_with fail
        refine wp_region_held_drew (S := MX p q A B c d w.heap.size w) (by kernel_rfl) (HH.out.later (Below.refl _ _).drew) ?_
        clear HH
        intro hHeld
        refine wpAnyH_take (i := 0) (v := ?_) rfl (by kernel_rfl) (by kernel_rfl) (by kernel_rfl) (fun _ _ _ h => h) (Or.inl ⟨by rfl, ?_⟩) (by assumption) ?_
        rotate_left
        · intro wq hSw
          obtain ⟨mq, hmq, _, _⟩ := hSw
          have a8 := hmq.cp 8 _ rfl; have a9 := hmq.cp 9 _ rfl; have a16 := hmq.cp 16 _ rfl; have b8 := hmq.cq 8 _ rfl; have b9 := hmq.cq 9 _ rfl; have b16 := hmq.cq 16 _ rfl
          clear hmq
          go_simp
          try with_reducible rfl
        simp only [Act.put, List.setIfInBounds_toArray, List.set_cons_zero, List.set_cons_succ, List.getElem_toArray, List.getElem_cons_zero]
        refine wpAnyH_take (i := 1) (v := ?_) rfl (by kernel_rfl) (by kernel_rfl) (by kernel_rfl) (fun _ _ _ h => h) (Or.inl ⟨by rfl, ?_⟩) (by assumption) ?_
        rotate_left
        · intro wq hSw
          obtain ⟨mq, hmq, _, _⟩ := hSw
          have a8 := hmq.cp 8 _ rfl; have a9 := hmq.cp 9 _ rfl; have a16 := hmq.cp 16 _ rfl; have b8 := hmq.cq 8 _ rfl; have b9 := hmq.cq 9 _ rfl; have b16 := hmq.cq 16 _ rfl
          clear hmq
          go_simp
          try with_reducible rfl
        simp only [Act.put, List.setIfInBounds_toArray, List.set_cons_zero, List.set_cons_succ, List.getElem_toArray, List.getElem_cons_zero, List.getElem_cons_succ]
        refine wpAnyH_take (i := 2) (v := ?_) rfl (by kernel_rfl) (by kernel_rfl) (by kernel_rfl) (fun _ _ _ h => h) (Or.inl ⟨by rfl, ?_⟩) (by assumption) ?_
        rotate_left
        · intro wq hSw
          obtain ⟨mq, hmq, _, _⟩ := hSw
          have a8 := hmq.cp 8 _ rfl; have a9 := hmq.cp 9 _ rfl; have a16 := hmq.cp 16 _ rfl; have b8 := hmq.cq 8 _ rfl; have b9 := hmq.cq 9 _ rfl; have b16 := hmq.cq 16 _ rfl
          clear hmq
          go_simp
          try with_reducible rfl
        simp only [Act.put, List.setIfInBounds_toArray, List.set_cons_zero, List.set_cons_succ, List.getElem_toArray, List.getElem_cons_zero, List.getElem_cons_succ]
        refine wpAnyH_take (i := 3) (v := ?_) rfl (by kernel_rfl) (by kernel_rfl) (by kernel_rfl) (fun _ _ _ h => h) (Or.inl ⟨by rfl, ?_⟩) (by assumption) ?_
        rotate_left
        · intro wq hSw
          obtain ⟨mq, hmq, _, _⟩ := hSw
          have a8 := hmq.cp 8 _ rfl; have a9 := hmq.cp 9 _ rfl; have a16 := hmq.cp 16 _ rfl; have b8 := hmq.cq 8 _ rfl; have b9 := hmq.cq 9 _ rfl; have b16 := hmq.cq 16 _ rfl
          clear hmq
          go_simp
          try with_reducible rfl
        simp only [Act.put, List.setIfInBounds_toArray, List.set_cons_zero, List.set_cons_succ, List.getElem_toArray, List.getElem_cons_zero, List.getElem_cons_succ]
        refine wpAnyH_take (i := 4) (v := ?_) rfl (by kernel_rfl) (by kernel_rfl) (by kernel_rfl) (fun _ _ _ h => h) (Or.inl ⟨by rfl, ?_⟩) (by assumption) ?_
        rotate_left
        · intro wq hSw
          obtain ⟨mq, hmq, _, _⟩ := hSw
          have a8 := hmq.cp 8 _ rfl; have a9 := hmq.cp 9 _ rfl; have a16 := hmq.cp 16 _ rfl; have b8 := hmq.cq 8 _ rfl; have b9 := hmq.cq 9 _ rfl; have b16 := hmq.cq 16 _ rfl
          clear hmq
          go_simp
          try with_reducible rfl
        simp only [Act.put, List.setIfInBounds_toArray, List.set_cons_zero, List.set_cons_succ, List.getElem_toArray, List.getElem_cons_zero, List.getElem_cons_succ]
        refine wpAnyH_take (i := 5) (v := ?_) rfl (by kernel_rfl) (by kernel_rfl) (by kernel_rfl) (fun _ _ _ h => h) (Or.inl ⟨by rfl, ?_⟩) (by assumption) ?_
        rotate_left
        · intro wq hSw
          obtain ⟨mq, hmq, _, _⟩ := hSw
          have a8 := hmq.cp 8 _ rfl; have a9 := hmq.cp 9 _ rfl; have a16 := hmq.cp 16 _ rfl; have b8 := hmq.cq 8 _ rfl; have b9 := hmq.cq 9 _ rfl; have b16 := hmq.cq 16 _ rfl
          clear hmq
          go_simp
          try with_reducible rfl
        simp only [Act.put, List.setIfInBounds_toArray, List.set_cons_zero, List.set_cons_succ, List.getElem_toArray, List.getElem_cons_zero, List.getElem_cons_succ]
        refine wpAnyH_take (i := 6) (v := ?_) rfl (by kernel_rfl) (by kernel_rfl) (by kernel_rfl) (fun _ _ _ h => h) (Or.inl ⟨by rfl, ?_⟩) (by assumption) ?_
        rotate_left
        · intro wq hSw
          obtain ⟨mq, hmq, _, _⟩ := hSw
          have a8 := hmq.cp 8 _ rfl; have a9 := hmq.cp 9 _ rfl; have a16 := hmq.cp 16 _ rfl; have b8 := hmq.cq 8 _ rfl; have b9 := hmq.cq 9 _ rfl; have b16 := hmq.cq 16 _ rfl
          clear hmq
          go_simp
          try with_reducible rfl
        simp only [Act.put, List.setIfInBounds_toArray, List.set_cons_zero, List.set_cons_succ, List.getElem_toArray, List.getElem_cons_zero, List.getElem_cons_succ]
        refine wpAnyH_take (i := 7) (v := ?_) rfl (by kernel_rfl) (by kernel_rfl) (by kernel_rfl) (fun _ _ _ h => h) (Or.inl ⟨by rfl, ?_⟩) (by assumption) ?_
        rotate_left
        · intro wq hSw
          obtain ⟨mq, hmq, _, _⟩ := hSw
          have a8 := hmq.cp 8 _ rfl; have a9 := hmq.cp 9 _ rfl; have a16 := hmq.cp 16 _ rfl; have b8 := hmq.cq 8 _ rfl; have b9 := hmq.cq 9 _ rfl; have b16 := hmq.cq 16 _ rfl
          clear hmq
          go_simp
          try with_reducible rfl
        simp only [Act.put, List.setIfInBounds_toArray, List.set_cons_zero, List.set_cons_succ, List.getElem_toArray, List.getElem_cons_zero, List.getElem_cons_succ]
        refine wpAnyH_take (i := 8) (v := ?_) rfl (by kernel_rfl) (by kernel_rfl) (by kernel_rfl) (fun _ _ _ h => h) (Or.inl ⟨by rfl, ?_⟩) (by assumption) ?_
        rotate_left
        · intro wq hSw
          obtain ⟨mq, hmq, _, _⟩ := hSw
          have a8 := hmq.cp 8 _ rfl; have a9 := hmq.cp 9 _ rfl; have a16 := hmq.cp 16 _ rfl; have b8 := hmq.cq 8 _ rfl; have b9 := hmq.cq 9 _ rfl; have b16 := hmq.cq 16 _ rfl
          clear hmq
          go_simp
          try with_reducible rfl
        simp only [Act.put, List.setIfInBounds_toArray, List.set_cons_zero, List.set_cons_succ, List.getElem_toArray, List.getElem_cons_zero, List.getElem_cons_succ]
        refine wpAnyH_take (i := 9) (v := ?_) rfl (by kernel_rfl) (by kernel_rfl) (by kernel_rfl) (fun _ _ _ h => h) (Or.inl ⟨by rfl, ?_⟩) (by assumption) ?_
        rotate_left
        · intro wq hSw
          obtain ⟨mq, hmq, _, _⟩ := hSw
          have a8 := hmq.cp 8 _ rfl; have a9 := hmq.cp 9 _ rfl; have a16 := hmq.cp 16 _ rfl; have b8 := hmq.cq 8 _ rfl; have b9 := hmq.cq 9 _ rfl; have b16 := hmq.cq 16 _ rfl
          clear hmq
          go_simp
          try with_reducible rfl
        simp only [Act.put, List.setIfInBounds_toArray, List.set_cons_zero, List.set_cons_succ, List.getElem_toArray, List.getElem_cons_zero, List.getElem_cons_succ]
        refine wpAnyH_take (i := 10) (v := ?_) rfl (by kernel_rfl) (by kernel_rfl) (by kernel_rfl) (fun _ _ _ h => h) (Or.inl ⟨by rfl, ?_⟩) (by assumption) ?_
        rotate_left
        · intro wq hSw
          obtain ⟨mq, hmq, _, _⟩ := hSw
          have a8 := hmq.cp 8 _ rfl; have a9 := hmq.cp 9 _ rfl; have a16 := hmq.cp 16 _ rfl; have b8 := hmq.cq 8 _ rfl; have b9 := hmq.cq 9 _ rfl; have b16 := hmq.cq 16 _ rfl
          clear hmq
          go_simp
          try with_reducible rfl
        simp only [Act.put, List.setIfInBounds_toArray, List.set_cons_zero, List.set_cons_succ, List.getElem_toArray, List.getElem_cons_zero, List.getElem_cons_succ]
        refine wpAnyH_take (i := 11) (v := ?_) rfl (by kernel_rfl) (by kernel_rfl) (by kernel_rfl) (fun _ _ _ h => h) (Or.inl ⟨by rfl, ?_⟩) (by assumption) ?_
        rotate_left
        · intro wq hSw
          obtain ⟨mq, hmq, _, _⟩ := hSw
          have a8 := hmq.cp 8 _ rfl; have a9 := hmq.cp 9 _ rfl; have a16 := hmq.cp 16 _ rfl; have b8 := hmq.cq 8 _ rfl; have b9 := hmq.cq 9 _ rfl; have b16 := hmq.cq 16 _ rfl
          clear hmq
          go_simp
          try with_reducible rfl
        simp only [Act.put, List.setIfInBounds_toArray, List.set_cons_zero, List.set_cons_succ, List.getElem_toArray, List.getElem_cons_zero, List.getElem_cons_succ]
        refine wpAnyH_take (i := 12) (v := ?_) rfl (by kernel_rfl) (by kernel_rfl) (by kernel_rfl) (fun _ _ _ h => h) (Or.inl ⟨by rfl, ?_⟩) (by assumption) ?_
        rotate_left
        · intro wq hSw
          obtain ⟨mq, hmq, _, _⟩ := hSw
          have a8 := hmq.cp 8 _ rfl; have a9 := hmq.cp 9 _ rfl; have a16 := hmq.cp 16 _ rfl; have b8 := hmq.cq 8 _ rfl; have b9 := hmq.cq 9 _ rfl; have b16 := hmq.cq 16 _ rfl
          clear hmq
          go_simp
          try with_reducible rfl
        simp only [Act.put, List.setIfInBounds_toArray, List.set_cons_zero, List.set_cons_succ, List.getElem_toArray, List.getElem_cons_zero, List.getElem_cons_succ]
        refine wpAnyH_take (i := 13) (v := ?_) rfl (by kernel_rfl) (by kernel_rfl) (by kernel_rfl) (fun _ _ _ h => h) (Or.inl ⟨by rfl, ?_⟩) (by assumption) ?_
        rotate_left
        · intro wq hSw
          obtain ⟨mq, hmq, _, _⟩ := hSw
          have a8 := hmq.cp 8 _ rfl; have a9 := hmq.cp 9 _ rfl; have a16 := hmq.cp 16 _ rfl; have b8 := hmq.cq 8 _ rfl; have b9 := hmq.cq 9 _ rfl; have b16 := hmq.cq 16 _ rfl
          clear hmq
          go_simp
          try with_reducible rfl
        simp only [Act.put, List.setIfInBounds_toArray, List.set_cons_zero, List.set_cons_succ, List.getElem_toArray, List.getElem_cons_zero, List.getElem_cons_succ]
        refine wpAnyH_take (i := 14) (v := ?_) rfl (by kernel_rfl) (by kernel_rfl) (by kernel_rfl) (fun _ _ _ h => h) (Or.inl ⟨by rfl, ?_⟩) (by assumption) ?_
        rotate_left
        · intro wq hSw
          obtain ⟨mq, hmq, _, _⟩ := hSw
          have a8 := hmq.cp 8 _ rfl; have a9 := hmq.cp 9 _ rfl; have a16 := hmq.cp 16 _ rfl; have b8 := hmq.cq 8 _ rfl; have b9 := hmq.cq 9 _ rfl; have b16 := hmq.cq 16 _ rfl
          clear hmq
          go_simp
          try with_reducible rfl
        simp only [Act.put, List.setIfInBounds_toArray, List.set_cons_zero, List.set_cons_succ, List.getElem_toArray, List.getElem_cons_zero, List.getElem_cons_succ]
        refine wpAnyH_take (i := 15) (v := ?_) rfl (by kernel_rfl) (by kernel_rfl) (by kernel_rfl) (fun _ _ _ h => h) (Or.inl ⟨by rfl, ?_⟩) (by assumption) ?_
        rotate_left
        · intro wq hSw
          obtain ⟨mq, hmq, _, _⟩ := hSw
          have a8 := hmq.cp 8 _ rfl; have a9 := hmq.cp 9 _ rfl; have a16 := hmq.cp 16 _ rfl; have b8 := hmq.cq 8 _ rfl; have b9 := hmq.cq 9 _ rfl; have b16 := hmq.cq 16 _ rfl
          clear hmq
          go_simp
          try with_reducible rfl
        simp only [Act.put, List.setIfInBounds_toArray, List.set_cons_zero, List.set_cons_succ, List.getElem_toArray, List.getElem_cons_zero, List.getElem_cons_succ]
        refine wpAnyH_ready (rs := [16]) (by kernel_rfl) (by simp) ?_
        refine AllReadyH.cons rfl (fun K hK => ?_) AllReadyH.nil
        obtain ⟨mq, hmq, hn, ht⟩ := hHeld
        have hco := hmq.co 8 _ rfl
        have hfo := hmq.fo 8 (by decide)
        have HM := Lib.hid hmq
        have HN := Lib.hid hn
        have HTT := Lib.hid ht
        clear hmq hn ht
        go_simp
        refine hK.out _ _ ⟨_, HM.out.set8 _, HN.out, HTT.out⟩ ?_
        clear hK K hco hfo HM HN HTT
        intro hHeld
        refine wpAnyH_take (i := 17) (v := ?_) rfl (by kernel_rfl) (by kernel_rfl) (by kernel_rfl) (fun _ _ _ h => h) (Or.inl ⟨by rfl, ?_⟩) (by assumption) ?_
        rotate_left
        · intro wq hSw
          obtain ⟨mq, hmq, _, _⟩ := hSw
          have a8 := hmq.cp 8 _ rfl; have a9 := hmq.cp 9 _ rfl; have a16 := hmq.cp 16 _ rfl; have b8 := hmq.cq 8 _ rfl; have b9 := hmq.cq 9 _ rfl; have b16 := hmq.cq 16 _ rfl
          clear hmq
          go_simp
          try with_reducible rfl
        simp only [Act.put, List.setIfInBounds_toArray, List.set_cons_zero, List.set_cons_succ, List.getElem_toArray, List.getElem_cons_zero, List.getElem_cons_succ]
        refine wpAnyH_ready (rs := [18]) (by kernel_rfl) (by simp) ?_
        refine AllReadyH.cons rfl (fun K hK => ?_) AllReadyH.nil
        obtain ⟨mq, hmq, hn, ht⟩ := hHeld
        have hco := hmq.co 9 _ rfl
        have hfo := hmq.fo 9 (by decide)
        have HM := Lib.hid hmq
        have HN := Lib.hid hn
        have HTT := Lib.hid ht
        clear hmq hn ht
        go_simp
        refine hK.out _ _ ⟨_, HM.out.set9 _, HN.out, HTT.out⟩ ?_
        clear hK K hco hfo HM HN HTT
        intro hHeld
        refine wpAnyH_take (i := 19) (v := ?_) rfl (by kernel_rfl) (by kernel_rfl) (by kernel_rfl) (fun _ _ _ h => h) (Or.inl ⟨by rfl, ?_⟩) (by assumption) ?_
        rotate_left
        · intro wq hSw
          obtain ⟨mq, hmq, _, _⟩ := hSw
          have a8 := hmq.cp 8 _ rfl; have a9 := hmq.cp 9 _ rfl; have a16 := hmq.cp 16 _ rfl; have b8 := hmq.cq 8 _ rfl; have b9 := hmq.cq 9 _ rfl; have b16 := hmq.cq 16 _ rfl
          clear hmq
          go_simp
          try with_reducible rfl
        simp only [Act.put, List.setIfInBounds_toArray, List.set_cons_zero, List.set_cons_succ, List.getElem_toArray, List.getElem_cons_zero, List.getElem_cons_succ]
        refine wpAnyH_ready (rs := [20]) (by kernel_rfl) (by simp) ?_
        refine AllReadyH.cons rfl (fun K hK => ?_) AllReadyH.nil
        obtain ⟨mq, hmq, hn, ht⟩ := hHeld
        have hco := hmq.co 16 _ rfl
        have hfo := hmq.fo 16 (by decide)
        have HM := Lib.hid hmq
        have HN := Lib.hid hn
        have HTT := Lib.hid ht
        clear hmq hn ht
        go_simp
        refine hK.out _ _ ⟨_, HM.out.set16 _, HN.out, HTT.out⟩ ?_
        clear hK K hco hfo HM HN HTT
        intro hHeld
        have HZ0 := Lib.hid hHeld
        clear hHeld
        refine wpAnyH_done (by kernel_rfl) (normal_gen (M := MX p q A B c d w.heap.size w) HZ0.out (fun wz hHeld => ?_)) _
        clear HZ0
        have HZ := Lib.hid hHeld
        clear hHeld
        go_wp2
        all_goals (go_meet; exact HZ.out)
      case rest =>
        have hHeld := hcut
        clear hcut
        go_upto_region 5 with fail
        go_cut [75] (fun v wx => MX p q A B c d w.heap.size w wx)
        case first =>
          as_aux_lemma =>
          have HH := Lib.hid hHeld
          clear hHeld
          go_wp2_with fail
          refine wp_region_held_drew (S := MX p q A B c d w.heap.size w) (by kernel_rfl) (HH.out.later (Below.refl _ _).drew) ?_
          clear HH
          intro hHeld
          refine wpAnyH_take (i := 0) (v := ?_) rfl (by kernel_rfl) (by kernel_rfl) (by kernel_rfl) (fun _ _ _ h => h) (Or.inl ⟨by rfl, ?_⟩) (by assumption) ?_
          rotate_left
          · intro wq hSw
            obtain ⟨mq, hmq, _, _⟩ := hSw
            have a10 := hmq.cp 10 _ rfl; have a11 := hmq.cp 11 _ rfl; have b10 := hmq.cq 10 _ rfl; have b11 := hmq.cq 11 _ rfl
            clear hmq
            go_simp
            try with_reducible rfl
          simp only [Act.put, List.setIfInBounds_toArray, List.set_cons_zero, List.set_cons_succ, List.getElem_toArray, List.getElem_cons_zero]
          refine wpAnyH_take (i := 1) (v := ?_) rfl (by kernel_rfl) (by kernel_rfl) (by kernel_rfl) (fun _ _ _ h => h) (Or.inl ⟨by rfl, ?_⟩) (by assumption) ?_
          rotate_left
          · intro wq hSw
            obtain ⟨mq, hmq, _, _⟩ := hSw
            have a10 := hmq.cp 10 _ rfl; have a11 := hmq.cp 11 _ rfl; have b10 := hmq.cq 10 _ rfl; have b11 := hmq.cq 11 _ rfl
            clear hmq
            go_simp
            try with_reducible rfl
          simp only [Act.put, List.setIfInBounds_toArray, List.set_cons_zero, List.set_cons_succ, List.getElem_toArray, List.getElem_cons_zero, List.getElem_cons_succ]
          refine wpAnyH_take (i := 2) (v := ?_) rfl (by kernel_rfl) (by kernel_rfl) (by kernel_rfl) (fun _ _ _ h => h) (Or.inl ⟨by rfl, ?_⟩) (by assumption) ?_
          rotate_left
          · intro wq hSw
            obtain ⟨mq, hmq, _, _⟩ := hSw
            have a10 := hmq.cp 10 _ rfl; have a11 := hmq.cp 11 _ rfl; have b10 := hmq.cq 10 _ rfl; have b11 := hmq.cq 11 _ rfl
            clear hmq
            go_simp
            try with_reducible rfl
          simp only [Act.put, List.setIfInBounds_toArray, List.set_cons_zero, List.set_cons_succ, List.getElem_toArray, List.getElem_cons_zero, List.getElem_cons_succ]
          refine wpAnyH_take (i := 3) (v := ?_) rfl (by kernel_rfl) (by kernel_rfl) (by kernel_rfl) (fun _ _ _ h => h) (Or.inl ⟨by rfl, ?_⟩) (by assumption) ?_
          rotate_left
          · intro wq hSw
            obtain ⟨mq, hmq, _, _⟩ := hSw
            have a10 := hmq.cp 10 _ rfl; have a11 := hmq.cp 11 _ rfl; have b10 := hmq.cq 10 _ rfl; have b11 := hmq.cq 11 _ rfl
            clear hmq
            go_simp
            try with_reducible rfl
          simp only [Act.put, List.setIfInBounds_toArray, List.set_cons_zero, List.set_cons_succ, List.getElem_toArray, List.getElem_cons_zero, List.getElem_cons_succ]
          refine wpAnyH_take (i := 4) (v := ?_) rfl (by kernel_rfl) (by kernel_rfl) (by kernel_rfl) (fun _ _ _ h => h) (Or.inl ⟨by rfl, ?_⟩) (by assumption) ?_
          rotate_left
          · intro wq hSw
            obtain ⟨mq, hmq, _, _⟩ := hSw
            have a10 := hmq.cp 10 _ rfl; have a11 := hmq.cp 11 _ rfl; have b10 := hmq.cq 10 _ rfl; have b11 := hmq.cq 11 _ rfl
            clear hmq
            go_simp
            try with_reducible rfl
          simp only [Act.put, List.setIfInBounds_toArray, List.set_cons_zero, List.set_cons_succ, List.getElem_toArray, List.getElem_cons_zero, List.getElem_cons_succ]
          refine wpAnyH_take (i := 5) (v := ?_) rfl (by kernel_rfl) (by kernel_rfl) (by kernel_rfl) (fun _ _ _ h => h) (Or.inl ⟨by rfl, ?_⟩) (by assumption) ?_
          rotate_left
          · intro wq hSw
            obtain ⟨mq, hmq, _, _⟩ := hSw
            have a10 := hmq.cp 10 _ rfl; have a11 := hmq.cp 11 _ rfl; have b10 := hmq.cq 10 _ rfl; have b11 := hmq.cq 11 _ rfl
            clear hmq
            go_simp
            try with_reducible rfl
          simp only [Act.put, List.setIfInBounds_toArray, List.set_cons_zero, List.set_cons_succ, List.getElem_toArray, List.getElem_cons_zero, List.getElem_cons_succ]
          refine wpAnyH_take (i := 6) (v := ?_) rfl (by kernel_rfl) (by kernel_rfl) (by kernel_rfl) (fun _ _ _ h => h) (Or.inl ⟨by rfl, ?_⟩) (by assumption) ?_
          rotate_left
          · intro wq hSw
            obtain ⟨mq, hmq, _, _⟩ := hSw
            have a10 := hmq.cp 10 _ rfl; have a11 := hmq.cp 11 _ rfl; have b10 := hmq.cq 10 _ rfl; have b11 := hmq.cq 11 _ rfl
            clear hmq
            go_simp
            try with_reducible rfl
          simp only [Act.put, List.setIfInBounds_toArray, List.set_cons_zero, List.set_cons_succ, List.getElem_toArray, List.getElem_cons_zero, List.getElem_cons_succ]
          refine wpAnyH_take (i := 7) (v := ?_) rfl (by kernel_rfl) (by kernel_rfl) (by kernel_rfl) (fun _ _ _ h => h) (Or.inl ⟨by rfl, ?_⟩) (by assumption) ?_
          rotate_left
          · intro wq hSw
            obtain ⟨mq, hmq, _, _⟩ := hSw
            have a10 := hmq.cp 10 _ rfl; have a11 := hmq.cp 11 _ rfl; have b10 := hmq.cq 10 _ rfl; have b11 := hmq.cq 11 _ rfl
            clear hmq
            go_simp
            try with_reducible rfl
          simp only [Act.put, List.setIfInBounds_toArray, List.set_cons_zero, List.set_cons_succ, List.getElem_toArray, List.getElem_cons_zero, List.getElem_cons_succ]
          refine wpAnyH_take (i := 8) (v := ?_) rfl (by kernel_rfl) (by kernel_rfl) (by kernel_rfl) (fun _ _ _ h => h) (Or.inl ⟨by rfl, ?_⟩) (by assumption) ?_
          rotate_left
          · intro wq hSw
            obtain ⟨mq, hmq, _, _⟩ := hSw
            have a10 := hmq.cp 10 _ rfl; have a11 := hmq.cp 11 _ rfl; have b10 := hmq.cq 10 _ rfl; have b11 := hmq.cq 11 _ rfl
            clear hmq
            go_simp
            try with_reducible rfl
          simp only [Act.put, List.setIfInBounds_toArray, List.set_cons_zero, List.set_cons_succ, List.getElem_toArray, List.getElem_cons_zero, List.getElem_cons_succ]
          refine wpAnyH_take (i := 9) (v := ?_) rfl (by kernel_rfl) (by kernel_rfl) (by kernel_rfl) (fun _ _ _ h => h) (Or.inl ⟨by rfl, ?_⟩) (by assumption) ?_
          rotate_left
          · intro wq hSw
            obtain ⟨mq, hmq, _, _⟩ := hSw
            have a10 := hmq.cp 10 _ rfl; have a11 := hmq.cp 11 _ rfl; have b10 := hmq.cq 10 _ rfl; have b11 := hmq.cq 11 _ rfl
            clear hmq
            go_simp
            try with_reducible rfl
          simp only [Act.put, List.setIfInBounds_toArray, List.set_cons_zero, List.set_cons_succ, List.getElem_toArray, List.getElem_cons_zero, List.getElem_cons_succ]
          refine wpAnyH_take (i := 10) (v := ?_) rfl (by kernel_rfl) (by kernel_rfl) (by kernel_rfl) (fun _ _ _ h => h) (Or.inl ⟨by rfl, ?_⟩) (by assumption) ?_
          rotate_left
          · intro wq hSw
            obtain ⟨mq, hmq, _, _⟩ := hSw
            have a10 := hmq.cp 10 _ rfl; have a11 := hmq.cp 11 _ rfl; have b10 := hmq.cq 10 _ rfl; have b11 := hmq.cq 11 _ rfl
            clear hmq
            go_simp
            try with_reducible rfl
          simp only [Act.put, List.setIfInBounds_toArray, List.set_cons_zero, List.set_cons_succ, List.getElem_toArray, List.getElem_cons_zero, List.getElem_cons_succ]
          refine wpAnyH_ready (rs := [11]) (by kernel_rfl) (by simp) ?_
          refine AllReadyH.cons rfl (fun K hK => ?_) AllReadyH.nil
          obtain ⟨mq, hmq, hn, ht⟩ := hHeld
          have hco := hmq.co 10 _ rfl
          have hfo := hmq.fo 10 (by decide)
          have HM := Lib.hid hmq
          have HN := Lib.hid hn
          have HTT := Lib.hid ht
          clear hmq hn ht
          go_simp
          refine hK.out _ _ ⟨_, HM.out.set10 _, HN.out, HTT.out⟩ ?_
          clear hK K hco hfo HM HN HTT
          intro hHeld
          refine wpAnyH_take (i := 12) (v := ?_) rfl (by kernel_rfl) (by kernel_rfl) (by kernel_rfl) (fun _ _ _ h => h) (Or.inl ⟨by rfl, ?_⟩) (by assumption) ?_
          rotate_left
          · intro wq hSw
            obtain ⟨mq, hmq, _, _⟩ := hSw
            have a10 := hmq.cp 10 _ rfl; have a11 := hmq.cp 11 _ rfl; have b10 := hmq.cq 10 _ rfl; have b11 := hmq.cq 11 _ rfl
            clear hmq
            go_simp
            try with_reducible rfl
          simp only [Act.put, List.setIfInBounds_toArray, List.set_cons_zero, List.set_cons_succ, List.getElem_toArray, List.getElem_cons_zero, List.getElem_cons_succ]
          refine wpAnyH_ready (rs := [13]) (by kernel_rfl) (by simp) ?_
          refine AllReadyH.cons rfl (fun K hK => ?_) AllReadyH.nil
          obtain ⟨mq, hmq, hn, ht⟩ := hHeld
          have hco := hmq.co 11 _ rfl
          have hfo := hmq.fo 11 (by decide)
          have HM := Lib.hid hmq
          have HN := Lib.hid hn
          have HTT := Lib.hid ht
          clear hmq hn ht
          go_simp
          refine hK.out _ _ ⟨_, HM.out.set11 _, HN.out, HTT.out⟩ ?_
          clear hK K hco hfo HM HN HTT
          intro hHeld
          have HZ0 := Lib.hid hHeld
          clear hHeld
          refine wpAnyH_done (by kernel_rfl) (normal_gen (M := MX p q A B c d w.heap.size w) HZ0.out (fun wz hHeld => ?_)) _
          clear HZ0
          have HZ := Lib.hid hHeld
          clear hHeld
          go_wp2
          all_goals (go_meet; exact HZ.out)
        case rest =>
          have hHeld := hcut
          clear hcut
          go_upto_region 6 with fail
          go_cut [80] (fun v wx => MX p q A B c d w.heap.size w wx)
          case first =>
            obtain ⟨m, hm, hn, ht⟩ := hHeld
            have HM := Lib.hid hm
            have HN := Lib.hid hn
            have HT := Lib.hid ht
            clear hm hn ht
            go_wp2_with (first | ((with_reducible show wpList _ _ _ (Oper.mk _ (Op.load 24 (.tmp 2)) _ _ _ _ :: _) _ _); refine wpList_load_g rfl 24 (.tmp 2) rfl w.heap.size 0 rfl (p.cs A c).toList _ HM.out.rp Try.underlying24 rfl (by kernel_rfl) ?_) | ((with_reducible show wpList _ _ _ (Oper.mk _ (Op.load 24 (.tmp 3)) _ _ _ _ :: _) _ _); refine wpList_load_g rfl 24 (.tmp 3) rfl (w.heap.size + 1) 0 rfl (q.cs B d).toList _ HM.out.rq Try.underlying24 rfl (by kernel_rfl) ?_))
            refine (longer_any p q A B c d _).mono ?_
            rintro e w1 ⟨⟨n, rfl⟩, hb1⟩
            have hm2 := HM.out.later hb1
            have o2 := hm2.co 2 _ rfl
            have q2 := hm2.fo 2 (by decide)
            have HM2 := Lib.hid hm2
            clear hm2 hb1
            go_wp2
            go_meet
            exact ⟨_, HM2.out.set2 n, HN.out, HT.out⟩
          case rest =>
            have hHeld := hcut
            clear hcut
            go_upto_region 7 with fail
            go_cut [84] (fun v wx => MT p q A B c d w.heap.size w 12 wx)
            case first =>
              obtain ⟨m, hm, hn, ht⟩ := hHeld
              have hrp := (hr.rd.below hm.bl).more hm.bl.size
              have a12 := hm.cp 12 _ rfl
              have HM := Lib.hid hm
              have HN := Lib.hid hn
              clear hm hn ht
              go_wp2_with fail
              refine (strClone_any p.types A c _ hrp (by omega)).mono ?_
              rintro e w1 ⟨A2, c2, rfl, ho, hb1⟩
              have hm2 := HM.out.later hb1
              have o12 := hm2.co 12 _ rfl
              have q12 := hm2.fo 12 (by decide)
              have HM2 := Lib.hid hm2
              have HO := Lib.hid ho
              clear hm2 hb1 ho a12
              go_wp2
              go_meet
              exact MT.cloned HM2.out HN.out HO.out HM.out.sz hr.ts hlp rfl
            case rest =>
              have hT := hcut
              clear hcut
              have b12 := (show _ from (by obtain ⟨m, A', c', h1, _⟩ := hT; exact h1.cq 12 _ rfl) : (_ : World).cell? ⟨w.heap.size + 1, 12, none⟩ = some (.slice B q.types.length d))
              have HT := Lib.hid hT
              clear hT
              go_wp2_with fail
              clear b12
              go_loopw [89] (fun i wr => ∃ k : Nat, k ≤ q.types.length ∧ i = .int .i64 k ∧ MT p q A B c d w.heap.size w (12 + k) wr) (fun i _ => q.types.length - (intOf i).toNat)
              case atStart => exact ⟨0, Nat.zero_le _, rfl, HT.out⟩
              case round =>
                obtain ⟨k, hk, rfl, hT⟩ := hrel
                clear HT
                by_cases hlt : k < q.types.length
                · have hrp := (hr.rd.below hT.bl).more hT.bl.size
                  have hrq := hq.rd.below hT.bl
                  obtain ⟨b, off, s, rfl, hbb, hp, hc⟩ := RdS_at hrq hlt
                  have hss := hq.ts s (List.mem_of_getElem? hp)
                  obtain ⟨m, A', c', h1, h2, h3, h4, h5⟩ := hT
                  have a12 := h1.cp 12 _ rfl
                  have HM := Lib.hid h1
                  have HN := Lib.hid h2
                  have HO := Lib.hid h3
                  have H4 := Lib.hid h4
                  clear h1 h2 h3 h4 hp hrq
                  go_wp2_with fail
                  refine (strCont_any p.types s A c _ hrp hr.len).mono ?_
                  rintro e w1 ⟨rfl, rfl⟩
                  generalize hasS p.types s = hs
                  cases hs
                  rotate_left
                  · go_wp2
                    go_roundw
                    case rel => exact ⟨k + 1, by omega, by go_num, m, A', c', HM.out, HN.out, HO.out, H4.out, by omega⟩
                    case measure => simp [intOf]; omega
                  · have o12 := HM.out.co 12 _ rfl
                    have hb1 : Below wr.heap.size wr (wr.alloc (.cells #[.string s] 9)) := (Below.refl _ _).alloc (Nat.le_refl _) _
                    have HB1 := Lib.hid hb1
                    have HOA := Lib.hid (HO.out.below hb1)
                    have HRD := Lib.hid (RdL.one (sz := 1) (enc := strCells) wr s #[.string s] 9 rfl _ rfl)
                    have HBY := Lib.hid (show (m.types.length + [s].length) * 16 ≤ 140737488355328 by simp; omega)
                    have HSZ := Lib.hid (show w.heap.size + 4 ≤ (wr.alloc (.cells #[.string s] 9)).heap.size by have := HM.out.sz; simp; omega)
                    clear hc a12 hb1
                    go_wp2_with (at_builtin; refine wp_append_l rfl (.tmp 99) (.tmp 101) rfl slS strLay (w.heap.size + 4) (xs := m.types) (ys := [s]) (B := wr.heap.size + 1) rfl rfl HOA.out rfl rfl HRD.out HBY.out HSZ.out ?_; intro A2 c2 w2 hown2 hg2 hbl2 hat; have hm2 := (HM.out.later HB1.out).below hbl2; have n12 := hm2.co 12 _ rfl; have q12 := hm2.fo 12 (by decide); have HM2 := Lib.hid hm2; have HO2 := Lib.hid hown2; clear o12 hm2 hown2 hg2 hbl2 hat HOA HRD HBY HSZ)
                    go_roundw
                    case rel => exact ⟨k + 1, by omega, by go_num, MT.push HM2.out HN.out HO2.out H4.out h5 hss (by simp)⟩
                    case measure => simp [intOf]; omega
                · have hcut := hT.mono (k' := 24) (by omega)
                  clear hT
                  obtain ⟨m, A', c', hm, hn, ho, hs, hk⟩ := hcut
                  have HM := Lib.hid hm
                  have HO := Lib.hid ho
                  clear hm ho
                  go_wp2_with (first | ((with_reducible show wpList _ _ _ (Oper.mk _ (Op.load 24 _) _ _ _ _ :: _) _ _); refine wpList_load_g rfl 24 (.tmp 5) rfl (w.heap.size + 1 + 1 + 1) 0 rfl (m.cs A' c').toList _ HM.out.ro Try.underlying24 rfl (by kernel_rfl) ?_) | ((with_reducible show wpList _ _ _ (Oper.mk _ (Op.store 24 _ _) _ _ _ _ :: _) _ _); refine wpList_store_box rfl 24 _ _ rfl _ _ rfl rfl HM.out.tr (by kernel_rfl) (by kernel_rfl) ?_; intro w2 hrg hth hg))
                  have hO2 := HO.out.kept hg (own_far HO.out (by omega))
                  refine ret_box 4 24 rfl (w.heap.size + 1 + 1) _ _ rfl hrg Try.underlying24 rfl (by kernel_rfl) rfl ⟨HM.out.bl.grown hg (by have := HM.out.sz; omega) (fun k hk => by cases hk; omega), m, A', c', rfl, ⟨hO2.rd strLay, by rw [hn]; exact hr.nm, by omega, hs⟩, hO2.len_cap, hk⟩
end Go.Proofs.Ytebpnlbpdhgacaa
