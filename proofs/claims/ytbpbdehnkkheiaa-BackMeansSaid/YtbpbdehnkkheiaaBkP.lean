/- The plain law of BackPairs: what Back gives depends on the network's own pairs and on the fields that the kind uses alone. -/
import Derived.Test.YtbpbdehnkkheiaaBkA
namespace Go.Proofs.Ytbpbdehnkkheiaa
open Go.RowKit

def foldE (xs : List Pair) (net : Int) (r : RawM) (step : Int) : EvM :=
  ⟨r.account, 0, [], r.kind, r.group, if hasT r.kind = true then (knownR xs net r.on).1 else -1, if hasQ r.kind = true then (knownR xs net r.quote).1 else -1, if hasW r.kind = true then r.who else -1, if hasN r.kind = true then r.n else 0,
    if hasX r.kind = true then r.text else ByteArray.empty, if hasX r.kind = true then r.files else [], step⟩
def foldOk (xs : List Pair) (net : Int) (r : RawM) : Bool := (!hasT r.kind || (knownR xs net r.on).2) && (!hasQ r.kind || (knownR xs net r.quote).2)
theorem backFold_eq (xs : List Pair) (net : Int) (r : RawM) (step : Int) : backFold xs net r step = (foldE xs net r step, foldOk xs net r) := by
  obtain ⟨a, b, k, c, d, e, f, g, h, i⟩ := r
  rcases kind_cases k with hk | hk | hk | hk | hk | hk | hk | hk | hk
  all_goals first | subst hk | skip
  · unfold backFold foldE foldOk
    simp only [usesL, if_pos, List.foldl_cons, List.foldl_nil, stepBT, stepBQ, stepBW, stepBN, stepBX, stepBF]
    simp [hasT, hasQ, hasW, hasN, hasX, backE0]
  · unfold backFold foldE foldOk
    rw [show usesL 1 = [sTarget, sText, sFiles] from rfl]
    simp only [List.foldl_cons, List.foldl_nil, stepBT, stepBQ, stepBW, stepBN, stepBX, stepBF]
    simp [hasT, hasQ, hasW, hasN, hasX, backE0]
  · unfold backFold foldE foldOk
    rw [show usesL 2 = [sTarget] from rfl]
    simp only [List.foldl_cons, List.foldl_nil, stepBT, stepBQ, stepBW, stepBN, stepBX, stepBF]
    simp [hasT, hasQ, hasW, hasN, hasX, backE0]
  · unfold backFold foldE foldOk
    rw [show usesL 3 = [sTarget, sN] from rfl]
    simp only [List.foldl_cons, List.foldl_nil, stepBT, stepBQ, stepBW, stepBN, stepBX, stepBF]
    simp [hasT, hasQ, hasW, hasN, hasX, backE0]
  · unfold backFold foldE foldOk
    rw [show usesL 4 = [sTarget, sN] from rfl]
    simp only [List.foldl_cons, List.foldl_nil, stepBT, stepBQ, stepBW, stepBN, stepBX, stepBF]
    simp [hasT, hasQ, hasW, hasN, hasX, backE0]
  · unfold backFold foldE foldOk
    rw [show usesL 5 = [sWho] from rfl]
    simp only [List.foldl_cons, List.foldl_nil, stepBT, stepBQ, stepBW, stepBN, stepBX, stepBF]
    simp [hasT, hasQ, hasW, hasN, hasX, backE0]
  · unfold backFold foldE foldOk
    rw [show usesL 7 = [sWho] from rfl]
    simp only [List.foldl_cons, List.foldl_nil, stepBT, stepBQ, stepBW, stepBN, stepBX, stepBF]
    simp [hasT, hasQ, hasW, hasN, hasX, backE0]
  · unfold backFold foldE foldOk
    rw [show usesL 9 = [sWho, sN] from rfl]
    simp only [List.foldl_cons, List.foldl_nil, stepBT, stepBQ, stepBW, stepBN, stepBX, stepBF]
    simp [hasT, hasQ, hasW, hasN, hasX, backE0]
  · obtain ⟨a0, a1, a2, a3, a4, a5, a7, a9⟩ := hk
    have hT : hasT k = false := by unfold hasT; simp; omega
    have hQ : hasQ k = false := by unfold hasQ; simp [a0]
    have hW : hasW k = false := by unfold hasW; simp [a0, a5, a7, a9]
    have hN : hasN k = false := by unfold hasN; simp [a3, a4, a9]
    have hX : hasX k = false := by unfold hasX; simp [a0, a1]
    have hu : usesL k = [] := by unfold usesL; simp [a0, a1, a2, a3, a4, a5, a7, a9]
    unfold backFold foldE foldOk
    simp [hT, hQ, hW, hN, hX, hu, backE0]
def ownP (net : Int) (xs : List Pair) : List Pair := xs.filter (fun p => p.net == net)
theorem find_own (net loc : Int) (xs : List Pair) : findF (fNL net loc) (ownP net xs) = findF (fNL net loc) xs := by
  unfold findF ownP
  rw [List.find?_filter]
  congr 1
  funext p
  unfold fNL
  by_cases h1 : p.net = net <;> by_cases h2 : p.loc = loc <;> simp [h1, h2]
theorem known_own (net loc : Int) (xs : List Pair) : knownR (ownP net xs) net loc = knownR xs net loc := by
  unfold knownR
  rw [find_own]
theorem back_own (p : Prof) (xs : List Pair) (net : Int) (r : RawM) (step : Int) : backS p (ownP net xs) net r step = backS p xs net r step := by
  unfold backS
  rw [backFold_eq, backFold_eq]
  unfold foldE foldOk
  rw [known_own, known_own]
/-- Other values of the fields that the kind does not use. -/
structure Alike (r o : RawM) : Prop where
  account : o.account = r.account
  kind : o.kind = r.kind
  group : o.group = r.group
  who : o.who = r.who
  on : r.kind ≤ 4 → o.on = r.on
  quote : r.kind = 0 → o.quote = r.quote
  n : hasN r.kind = true → o.n = r.n
  text : hasX r.kind = true → o.text = r.text ∧ o.files = r.files
theorem back_alike {r o : RawM} (h : Alike r o) (p : Prof) (xs : List Pair) (net : Int) (step : Int) : backS p xs net o step = backS p xs net r step := by
  have hA : argsBad p net o = argsBad p net r := by unfold argsBad; rw [h.account, h.kind]
  cases ha : argsBad p net r
  · have hM : meansB p o = meansB p r := by
      unfold meansB
      rw [h.kind]
      split
      · rename_i hk
        unfold meansPost
        rw [h.on (by omega), h.quote hk, h.who]
      · rfl
    have hF : fullB p o = fullB p r := by
      unfold fullB
      rw [h.kind]
      cases hx : hasX r.kind
      · rfl
      · rw [(h.text hx).1, (h.text hx).2]
    have hE : foldE xs net o step = foldE xs net r step := by
      unfold foldE
      rw [h.kind, h.account, h.group, h.who]
      congr 1
      · cases ht : hasT r.kind
        · rfl
        · rw [h.on (by unfold hasT at ht; simp at ht; omega)]
      · cases ht : hasQ r.kind
        · rfl
        · rw [h.quote (by unfold hasQ at ht; simpa using ht)]
      · cases ht : hasN r.kind
        · rfl
        · rw [h.n ht]
      · cases ht : hasX r.kind
        · rfl
        · rw [(h.text ht).1]
      · cases ht : hasX r.kind
        · rfl
        · rw [(h.text ht).2]
    have hO : foldOk xs net o = foldOk xs net r := by
      unfold foldOk
      rw [h.kind]
      congr 1
      · cases ht : hasT r.kind
        · rfl
        · rw [h.on (by unfold hasT at ht; simp at ht; omega)]
      · cases ht : hasQ r.kind
        · rfl
        · rw [h.quote (by unfold hasQ at ht; simpa using ht)]
    unfold backS
    rw [hA, hM, hF, backFold_eq, backFold_eq, hE, hO]
  · unfold backS
    rw [hA, ha]
    rfl
/-- Without the pairs of its target. -/
theorem back_drop (p : Prof) (xs : List Pair) (net : Int) (r : RawM) (step : Int) (h0 : (backS p xs net r step).2 = 0) (ht : 0 ≤ (backS p xs net r step).1.target) :
    backS p (dropF net (backS p xs net r step).1.target xs) net r step = (zeroEv, 4) ∨ backS p (dropF net (backS p xs net r step).1.target xs) net r step = (zeroEv, 2) ∨
      ((backS p (dropF net (backS p xs net r step).1.target xs) net r step).2 = 0 ∧ (backS p (dropF net (backS p xs net r step).1.target xs) net r step).1.target ≠ (backS p xs net r step).1.target) := by
  obtain ⟨t, hT⟩ : ∃ t, t = (backS p xs net r step).1.target := ⟨_, rfl⟩
  rw [← hT] at ht ⊢
  unfold backS at h0 hT
  cases ha : argsBad p net r
  rotate_left
  · rw [ha] at h0; simp at h0
  cases hm : meansB p r
  · rw [ha, hm] at h0; simp at h0
  cases hf : fullB p r
  rotate_left
  · rw [ha, hm, hf] at h0; simp at h0
  rw [ha, hm, hf, backFold_eq] at h0 hT
  cases ho : foldOk xs net r
  · rw [ho] at h0; simp at h0
  cases hr : rightE (foldE xs net r step)
  · rw [ho, hr] at h0; simp at h0
  rw [ho, hr] at hT
  simp only [Bool.false_eq_true, if_false, Bool.true_eq_false] at hT
  unfold backS
  rw [ha, hm, hf, backFold_eq]
  simp only [Bool.false_eq_true, if_false, Bool.true_eq_false]
  cases ho2 : foldOk (dropF net t xs) net r
  · left
    rfl
  cases hr2 : rightE (foldE (dropF net t xs) net r step)
  · right; left
    rfl
  right; right
  refine ⟨rfl, ?_⟩
  show (foldE (dropF net t xs) net r step).target ≠ t
  have hTT : hasT r.kind = true := by
    cases h : hasT r.kind
    · unfold foldE at hT
      rw [h] at hT
      simp at hT
      omega
    · rfl
  unfold foldE at hT ⊢
  simp only [hTT, if_true] at hT ⊢
  unfold foldOk at ho ho2
  rw [hTT] at ho ho2
  simp only [Bool.not_true, Bool.false_or, Bool.and_eq_true] at ho ho2
  have h1 := ho2.1
  unfold knownR at h1 hT ⊢
  by_cases hon : r.on = -1
  · rw [if_pos hon] at hT
    simp at hT
    omega
  · rw [if_neg hon] at h1 ⊢
    simp only at h1 ⊢
    rcases hq : findF (fNL net r.on) (dropF net t xs) with _ | q
    · rw [hq] at h1
      simp at h1
    · unfold findF at hq
      have hm := List.mem_of_find?_eq_some hq
      have hp := List.find?_some hq
      unfold dropF at hm
      have hn := (List.mem_filter.1 hm).2
      unfold fNL at hp
      simp only [Bool.and_eq_true, beq_iff_eq] at hp
      simp [hp.1] at hn
      exact hn
end Go.Proofs.Ytbpbdehnkkheiaa
