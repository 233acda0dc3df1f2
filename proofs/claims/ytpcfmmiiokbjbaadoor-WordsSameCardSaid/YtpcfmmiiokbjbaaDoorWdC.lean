/- Words of words, finding and digests in plain Lean. -/
import Derived.Test.YtpcfmmiiokbjbaaDoorWdB
import Derived.Lib.ItoaNum
namespace Go.Proofs.YtpcfmmiiokbjbaaDoor
open Go.Lib

/-- A word: letters and digits alone, small ones. -/
def WordOk (w : List UInt8) : Prop := w ≠ [] ∧ ∀ c ∈ w, partB c.toNat = true ∧ lowerB c = c
theorem lower_all : ∀ i : Fin 256, partB (UInt8.ofNat i.val).toNat = true → partB (lowerB (UInt8.ofNat i.val)).toNat = true ∧ lowerB (lowerB (UInt8.ofNat i.val)) = lowerB (UInt8.ofNat i.val) := by decide +kernel
theorem u8_all {p : UInt8 → Prop} (h : ∀ i : Fin 256, p (UInt8.ofNat i.val)) (c : UInt8) : p c := by
  have := h ⟨c.toNat, by have := c.toNat_lt; omega⟩
  simpa using this
theorem lower_part {c : UInt8} (h : partB c.toNat = true) : partB (lowerB c).toNat = true ∧ lowerB (lowerB c) = lowerB c :=
  u8_all (p := fun c => partB c.toNat = true → partB (lowerB c).toNat = true ∧ lowerB (lowerB c) = lowerB c) lower_all c h
theorem fold_ok : ∀ (l : List UInt8) (a : List (List UInt8) × List UInt8), (∀ w ∈ a.1, WordOk w) → (∀ c ∈ a.2, partB c.toNat = true ∧ lowerB c = c) → (∀ w ∈ wfin (l.foldl wstep a), WordOk w)
  | [], a, h1, h2 => by
    rw [List.foldl_nil, wfin]
    split
    · exact h1
    · rename_i hne
      intro w hw
      rcases List.mem_append.1 hw with hw | hw
      · exact h1 w hw
      · simp only [List.mem_singleton] at hw
        subst hw
        exact ⟨hne, h2⟩
  | c :: r, a, h1, h2 => by
    rw [List.foldl_cons]
    cases hc : partB c.toNat with
    | true =>
      rw [wstep, hc, if_pos rfl]
      refine fold_ok r _ h1 (fun d hd => ?_)
      simp only [List.mem_append, List.mem_singleton] at hd
      rcases hd with hd | rfl
      · exact h2 d hd
      · exact lower_part hc
    | false =>
      rw [wstep, hc, if_neg (by simp)]
      refine fold_ok r _ (fun w hw => ?_) (fun d hd => by simp at hd)
      simp only at hw
      split at hw
      · exact h1 w hw
      · rename_i hne
        rcases List.mem_append.1 hw with hw | hw
        · exact h1 w hw
        · simp only [List.mem_singleton] at hw
          subst hw
          exact ⟨hne, h2⟩
theorem words_ok (s : List UInt8) : ∀ w ∈ wordsF s, WordOk w := fold_ok s ([], []) (fun w h => by simp at h) (fun c h => by simp at h)
theorem lower_ascii : ∀ i : Fin 256, partB (lowerB (UInt8.ofNat i.val)).toNat = true → (UInt8.ofNat i.val).toNat < 128 := by decide +kernel
/-- The pieces have letters and digits alone. -/
theorem fields_ascii (l : List UInt8) : ∀ s ∈ goFieldsP noPart (bs l), ∀ b ∈ s.data.toList, b.toNat < 128 := fun s hs b hb => by
  have h1 : toLowerA s.data.toList ∈ wordsF l := by
    rw [← fields_words]
    exact List.mem_map_of_mem hs
  have h2 := (words_ok l _ h1).2 (lowerB b) (List.mem_map_of_mem hb)
  exact u8_all (p := fun c => partB (lowerB c).toNat = true → c.toNat < 128) lower_ascii b h2.1
theorem fold_word : ∀ (w : List UInt8) (o : List (List UInt8)) (now : List UInt8), (∀ c ∈ w, partB c.toNat = true ∧ lowerB c = c) → w.foldl wstep (o, now) = (o, now ++ w)
  | [], o, now, _ => by simp
  | c :: r, o, now, h => by
    have hc := h c (by simp)
    rw [List.foldl_cons, wstep, hc.1, if_pos rfl, hc.2, fold_word r _ _ (fun d hd => h d (by simp [hd]))]
    simp
theorem words_word {w : List UInt8} (h : WordOk w) : wordsF w = [w] := by
  rw [wordsF, fold_word w [] [] h.2, wfin, List.nil_append, if_neg h.1]
  rfl
theorem fold_join : ∀ (l : List (List UInt8)) (o : List (List UInt8)) (now : List UInt8), (∀ w ∈ l, WordOk w) → wfin ((l.flatMap fun w => 32 :: w).foldl wstep (o, now)) = wfin (o, now) ++ l
  | [], o, now, _ => by simp
  | w :: r, o, now, h => by
    have hw := h w (by simp)
    have h32 : wstep (o, now) 32 = (wfin (o, now), []) := by
      rw [wstep, show partB (32 : UInt8).toNat = false by decide, if_neg (by simp)]
      rfl
    rw [List.flatMap_cons, List.foldl_append, List.foldl_cons, h32, fold_word w _ _ hw.2, fold_join r _ _ (fun v hv => h v (by simp [hv]))]
    rw [List.nil_append, wfin, if_neg hw.1]
    simp
theorem words_join {l : List (List UInt8)} (h : ∀ w ∈ l, WordOk w) : wordsF (l.flatMap fun w => 32 :: w) = l := by
  rw [wordsF, fold_join l [] [] h]
  simp [wfin]
/-- A capital letter. -/
def upB (c : UInt8) : UInt8 := if decide (97 ≤ c.toNat) && decide (c.toNat ≤ 122) then c - 32 else c
theorem up_all : ∀ i : Fin 256, partB (upB (UInt8.ofNat i.val)).toNat = partB (UInt8.ofNat i.val).toNat ∧ (partB (UInt8.ofNat i.val).toNat = true → lowerB (upB (UInt8.ofNat i.val)) = lowerB (UInt8.ofNat i.val)) := by decide +kernel
theorem up_step (a : List (List UInt8) × List UInt8) (c : UInt8) : wstep a (upB c) = wstep a c := by
  have h := u8_all (p := fun c => partB (upB c).toNat = partB c.toNat ∧ (partB c.toNat = true → lowerB (upB c) = lowerB c)) up_all c
  unfold wstep
  rw [h.1]
  cases hc : partB c.toNat with
  | true => rw [h.2 hc]
  | false => rfl
theorem words_up (s : List UInt8) : wordsF (s.map upB) = wordsF s := by
  unfold wordsF
  rw [List.foldl_map]
  congr 2
  funext a c
  exact up_step a c

/-- Where something is so. -/
def idxs (p : List UInt8 → Bool) : Nat → List (List UInt8) → List Int
  | _, [] => []
  | i, t :: r => if p t then (i : Int) :: idxs p (i + 1) r else idxs p (i + 1) r
theorem idxs_snoc (p : List UInt8 → Bool) : ∀ (l : List (List UInt8)) (i : Nat) (t : List UInt8), idxs p i (l ++ [t]) = idxs p i l ++ (if p t then [((i + l.length : Nat) : Int)] else [])
  | [], i, t => by simp [idxs]
  | u :: r, i, t => by
    rw [List.cons_append, idxs, idxs]
    have e : i + (u :: r).length = i + 1 + r.length := by simp; omega
    rw [e]
    split
    · rw [idxs_snoc p r (i + 1) t]; rfl
    · exact idxs_snoc p r (i + 1) t
theorem idxs_ge (p : List UInt8 → Bool) : ∀ (l : List (List UInt8)) (i : Nat) (n : Int), n ∈ idxs p i l → (i : Int) ≤ n
  | [], i, n, h => by simp [idxs] at h
  | u :: r, i, n, h => by
    rw [idxs] at h
    split at h
    · rcases List.mem_cons.1 h with rfl | h
      · omega
      · have := idxs_ge p r (i + 1) n h; omega
    · have := idxs_ge p r (i + 1) n h; omega
theorem idxs_set {p : List UInt8 → Bool} (hp : p [] = false) : ∀ (l : List (List UInt8)) (i k : Nat), k < l.length → idxs p i (l.set k []) = (idxs p i l).filter fun n => n != ((i + k : Nat) : Int)
  | [], i, k, h => by simp at h
  | u :: r, i, 0, _ => by
    rw [List.set_cons_zero, idxs, hp, if_neg (by simp), idxs]
    have hr : (idxs p (i + 1) r).filter (fun n => n != ((i + 0 : Nat) : Int)) = idxs p (i + 1) r := by
      rw [List.filter_eq_self]
      intro n hn
      have := idxs_ge p r (i + 1) n hn
      simp
      omega
    split
    · rw [List.filter_cons, if_neg (by simp), hr]
    · exact hr.symm
  | u :: r, i, k + 1, h => by
    rw [List.set_cons_succ, idxs, idxs, idxs_set hp r (i + 1) k (by simpa using h)]
    have e : i + 1 + k = i + (k + 1) := by omega
    rw [e]
    split
    · rw [List.filter_cons, if_pos (by simp; omega)]
    · rfl
/-- The texts that have a word. -/
def findF (texts : List (List UInt8)) (word : List UInt8) : List Int := match wordsF word with
  | [w] => idxs (fun t => (wordsF t).contains w) 0 texts
  | _ => []
theorem find_set (texts : List (List UInt8)) (word : List UInt8) (k : Nat) (hk : k < texts.length) : findF (texts.set k []) word = (findF texts word).filter fun n => n != (k : Int) := by
  unfold findF
  split
  · rename_i w _
    have := idxs_set (p := fun t => (wordsF t).contains w) (by simp [wordsF, wfin]) texts 0 k hk
    rw [this]
    simp
  · simp

def digOne (i : Nat) (t : List UInt8) : List UInt8 := if t = [] then [] else Lib.itoa i ++ [58, 32] ++ lineF t 20 ++ [10]
def digL : Nat → List (List UInt8) → List UInt8
  | _, [] => []
  | i, t :: r => digOne i t ++ digL (i + 1) r
/-- The digest. -/
def digestF (texts : List (List UInt8)) : List UInt8 := digL 0 texts
theorem digL_app : ∀ (l m : List (List UInt8)) (i : Nat), digL i (l ++ m) = digL i l ++ digL (i + l.length) m
  | [], m, i => by simp [digL]
  | t :: r, m, i => by
    rw [List.cons_append, digL, digL, digL_app r m (i + 1), List.append_assoc]
    have e : i + (t :: r).length = i + 1 + r.length := by simp; omega
    rw [e]
theorem digL_none : ∀ (n i : Nat), digL i (List.replicate n []) = []
  | 0, i => rfl
  | n + 1, i => by rw [List.replicate_succ, digL, digL_none n (i + 1)]; simp [digOne]
/-- The digest lacks exactly its line. -/
theorem digest_set (texts : List (List UInt8)) (k : Nat) (hk : k < texts.length) : ∃ pre post, digestF texts = pre ++ digOne k texts[k] ++ post ∧ digestF (texts.set k []) = pre ++ post ∧
    digestF ((List.replicate texts.length []).set k texts[k]) = digOne k texts[k] := by
  have h1 : texts = texts.take k ++ texts[k] :: texts.drop (k + 1) := by rw [← List.drop_eq_getElem_cons hk, List.take_append_drop]
  have h2 : texts.set k [] = texts.take k ++ [] :: texts.drop (k + 1) := by
    rw [List.set_eq_take_append_cons_drop, if_pos hk]
  have h3 : (List.replicate texts.length ([] : List UInt8)).set k texts[k] = List.replicate k [] ++ texts[k] :: List.replicate (texts.length - (k + 1)) [] := by
    rw [List.set_eq_take_append_cons_drop, if_pos (by simpa using hk)]
    simp
    omega
  refine ⟨digL 0 (texts.take k), digL (k + 1) (texts.drop (k + 1)), ?_, ?_, ?_⟩
  · conv => lhs; rw [digestF, h1, digL_app, digL]
    simp [show min k texts.length = k by omega]
  · rw [digestF, h2, digL_app, digL]
    simp [digOne, show min k texts.length = k by omega]
  · rw [digestF, h3, digL_app, digL, digL_none, digL_none]
    simp
theorem digOne_nil (i : Nat) (t : List UInt8) : digOne i t = [] ↔ t = [] := by
  unfold digOne
  split
  · rename_i h; simp [h]
  · rename_i h; simp [h]
end Go.Proofs.YtpcfmmiiokbjbaaDoor
