/- The plain law of BackMeans. -/
import Derived.Test.YtbpbdehnkkheiaaBkP
import Derived.Test.YtbpbdehnkkheiaaBkJ
namespace Go.Proofs.Ytbpbdehnkkheiaa
open Go.RowKit

theorem back_err (p : Prof) (xs : List Pair) (net : Int) (r : RawM) (step : Int) (h : (backS p xs net r step).2 ≠ 0) : (backS p xs net r step).1 = zeroEv ∧ ((backS p xs net r step).2 = 7 → meansB p r = false) := by
  unfold backS at h ⊢
  split
  · exact ⟨rfl, fun e => by simp at e⟩
  · rename_i h1
    rw [if_neg h1] at h
    split
    · rename_i h2
      exact ⟨rfl, fun _ => h2⟩
    · rename_i h2
      rw [if_neg h2] at h
      split
      · exact ⟨rfl, fun e => by simp at e⟩
      · rename_i h3
        rw [if_neg h3] at h
        split
        · exact ⟨rfl, fun e => by simp at e⟩
        · rename_i h4
          rw [if_neg h4] at h
          split
          · exact ⟨rfl, fun e => by simp at e⟩
          · rename_i h5
            rw [if_neg h5] at h
            simp at h
structure BackOkd (p : Prof) (xs : List Pair) (net : Int) (r : RawM) (step : Int) : Prop where
  args : argsBad p net r = false
  means : meansB p r = true
  full : fullB p r = false
  ok : foldOk xs net r = true
  right : rightE (foldE xs net r step) = true
  eq : backS p xs net r step = (foldE xs net r step, 0)
theorem back_ok (p : Prof) (xs : List Pair) (net : Int) (r : RawM) (step : Int) (h : (backS p xs net r step).2 = 0) : BackOkd p xs net r step := by
  have hh := h
  unfold backS at h
  cases h1 : argsBad p net r
  rotate_left
  · rw [h1] at h; simp at h
  cases h2 : meansB p r
  · rw [h1, h2] at h; simp at h
  cases h3 : fullB p r
  rotate_left
  · rw [h1, h2, h3] at h; simp at h
  cases h4 : (backFold xs net r step).2
  · rw [h1, h2, h3, h4] at h; simp at h
  cases h5 : rightE (backFold xs net r step).1
  · rw [h1, h2, h3, h4, h5] at h; simp at h
  refine ⟨h1, h2, h3, by rw [backFold_eq] at h4; exact h4, by rw [backFold_eq] at h5; exact h5, ?_⟩
  unfold backS
  rw [h1, h2, h3, h4, h5, backFold_eq]
  rfl
/-- The pairs of an event in a network. -/
def tgtF (net t : Int) (xs : List Pair) : List Pair := xs.filter (fun q => q.net == net && q.ev == t)
theorem tgt_step (net t : Int) (xs : List Pair) (k : Nat) (hk : k < xs.length) : tgtF net t (xs.take (k + 1)) = tgtF net t (xs.take k) ++ (if (xs[k].net == net && xs[k].ev == t) = true then [xs[k]] else []) := by
  unfold tgtF
  rw [List.take_succ_eq_append_getElem hk, List.filter_append]
  congr 1
  by_cases h : (xs[k].net == net && xs[k].ev == t) = true <;> simp [h]
theorem tgt_len (net t : Int) (xs : List Pair) (k : Nat) : (tgtF net t (xs.take k)).length ≤ xs.length := by
  unfold tgtF
  refine Nat.le_trans (List.length_filter_le _ _) ?_
  rw [List.length_take]
  omega
theorem back_target {xs : List Pair} {net : Int} {r : RawM} {step : Int} (ho : foldOk xs net r = true) (ht : 0 ≤ (foldE xs net r step).target) : tgtF net (foldE xs net r step).target xs ≠ [] := by
  have hT : hasT r.kind = true := by
    cases h : hasT r.kind
    · unfold foldE at ht
      simp [h] at ht
    · rfl
  have hk : (foldE xs net r step).target = (knownR xs net r.on).1 := by
    unfold foldE
    simp [hT]
  rw [hk] at ht ⊢
  unfold foldOk at ho
  rw [hT] at ho
  simp at ho
  have h1 := ho.1
  unfold knownR at h1 ht ⊢
  by_cases hon : r.on = -1
  · rw [if_pos hon] at ht
    simp at ht
  · rw [if_neg hon] at h1 ht ⊢
    simp only at h1 ht ⊢
    rcases hq : findF (fNL net r.on) xs with _ | q
    · rw [hq] at h1
      simp at h1
    · unfold findF at hq
      have hm := List.mem_of_find?_eq_some hq
      have hp := List.find?_some hq
      unfold fNL at hp
      simp only [Bool.and_eq_true, beq_iff_eq] at hp
      intro hn
      have : q ∈ tgtF net (evOf (some q)) xs := by
        unfold tgtF
        refine List.mem_filter.2 ⟨hm, ?_⟩
        simp [hp.1, evOf]
      rw [hn] at this
      simp at this
theorem args_acc {p : Prof} {net : Int} {r : RawM} (h : argsBad p net r = false) : profCheck p = 0 ∧ netI r.account = net := by
  unfold argsBad at h
  simp at h
  exact ⟨h.1, h.2.2.1⟩
theorem joinF (p q : Prof) : (joinP p q).edit = mxI p.edit q.edit ∧ (joinP p q).delete = mxI p.delete q.delete ∧ (joinP p q).thread = mxI p.thread q.thread ∧ (joinP p q).react = (p.react || q.react) ∧ (joinP p q).quote = (p.quote || q.quote) ∧
    (joinP p q).mention = (p.mention || q.mention) ∧ (joinP p q).size = mxI p.size q.size ∧ (joinP p q).files = mxI p.files q.files := ⟨rfl, rfl, rfl, rfl, rfl, rfl, rfl, rfl⟩
theorem mx_ge (a b : Int) : a ≤ mxI a b := by
  unfold mxI
  split <;> omega
theorem check_enums {p : Prof} (h : profCheck p = 0) : p.edit ≤ 2 ∧ 0 ≤ p.delete ∧ 0 ≤ p.thread := by
  have hr : profRight p = true := by
    unfold profCheck at h
    split at h
    · assumption
    · simp at h
  unfold profRight headB kindsB at hr
  simp [inR] at hr
  omega
theorem means_join {p q : Prof} {r : RawM} (hp : profCheck p = 0) (hm : profCheck (joinP p q) = 0) (h : meansB p r = true) : meansB (joinP p q) r = true := by
  obtain ⟨f1, f2, f3, f4, f5, f6, _, _⟩ := joinF p q
  have e1 := check_enums hp
  have e2 := check_enums hm
  have g1 := mx_ge p.edit q.edit
  have g2 := mx_ge p.delete q.delete
  have g3 := mx_ge p.thread q.thread
  rw [← f1] at g1
  rw [← f2] at g2
  rw [← f3] at g3
  unfold meansB at h ⊢
  split
  · rename_i hk
    rw [if_pos hk] at h
    unfold meansPost at h ⊢
    rw [f5, f6]
    simp at h ⊢
    refine ⟨?_, ?_, ?_⟩
    · rcases h.1 with h | h
      · exact .inl h
      · exact .inr (by omega)
    · rcases h.2.1 with h | h
      · exact .inl h
      · exact .inr (.inl h)
    · rcases h.2.2 with h | h
      · exact .inl h
      · exact .inr (.inl h)
  · rename_i h0
    rw [if_neg h0] at h
    split
    · rename_i hk
      rw [if_pos hk] at h
      simp at h ⊢
      omega
    · rename_i h1
      rw [if_neg h1] at h
      split
      · rename_i hk
        rw [if_pos hk] at h
        simp at h ⊢
        omega
      · rename_i h2
        rw [if_neg h2] at h
        split
        · rename_i hk
          rw [if_pos hk] at h
          rw [f4, h]
          rfl
        · rfl
theorem full_join {p q : Prof} {r : RawM} (h : fullB p r = false) : fullB (joinP p q) r = false := by
  obtain ⟨_, _, _, _, _, _, f7, f8⟩ := joinF p q
  have g1 := mx_ge p.size q.size
  have g2 := mx_ge p.files q.files
  rw [← f7] at g1
  rw [← f8] at g2
  unfold fullB at h ⊢
  cases hx : hasX r.kind
  · rfl
  · rw [hx] at h
    simp at h ⊢
    omega
/-- With the means of another profile as well. -/
theorem back_join {p q : Prof} {xs : List Pair} {net : Int} {r : RawM} {step : Int} (h : BackOkd p xs net r step) (hm : profCheck (joinP p q) = 0) : backS (joinP p q) xs net r step = backS p xs net r step := by
  have ha : argsBad (joinP p q) net r = false := by
    have := h.args
    unfold argsBad at this ⊢
    rw [hm]
    rw [(args_acc h.args).1] at this
    exact this
  unfold backS
  rw [ha, h.args, h.means, h.full, means_join (args_acc h.args).1 hm h.means, full_join h.full]
theorem back_join_bad {m : Prof} {xs : List Pair} {net : Int} {r : RawM} {step : Int} (hm : profCheck m ≠ 0) : backS m xs net r step = (zeroEv, 1) := by
  have ha : argsBad m net r = true := by
    unfold argsBad
    simp [hm]
  unfold backS
  rw [if_pos ha]
end Go.Proofs.Ytbpbdehnkkheiaa
