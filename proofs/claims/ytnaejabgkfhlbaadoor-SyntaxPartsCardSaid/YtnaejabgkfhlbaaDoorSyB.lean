/- Plain laws of reading declarations: an error hangs on what stands up to it; what is read is right; what a right profile's text consists of is read as that profile. -/
import Derived.Test.YtnaejabgkfhlbaaDoorSyA
import Derived.Lib.ItoaNum
set_option linter.unusedSimpArgs false
set_option linter.unusedVariables false
namespace Go.Proofs.YtnaejabgkfhlbaaDoor
open Go.RowKit

/-- What is read hangs on what is read, and the token behind it. -/
def Pre {α : Type} (x : Rd α) : Prop := ∀ l, (∀ i e, x l = .error (i, e) → ∀ l', l'.take (i + 1) = l.take (i + 1) → x l' = .error (i, e)) ∧ ∀ a n, x l = .ok (a, n) → ∀ l', l'.take (n + 1) = l.take (n + 1) → x l' = .ok (a, n)
theorem head_take {α : Type} {l l' : List α} {n : Nat} (h : l'.take (n + 1) = l.take (n + 1)) : l'.head? = l.head? := by
  cases l <;> cases l' <;> simp at h ⊢
  exact h.1
theorem take_less {α : Type} {l l' : List α} {m n : Nat} (h : l'.take n = l.take n) (hm : m ≤ n) : l'.take m = l.take m := by
  have := congrArg (List.take m) h
  simpa [List.take_take, Nat.min_eq_left hm] using this
theorem pre_head {α : Type} {x : Rd α} (h : ∀ l l' : List Sh, l'.head? = l.head? → x l' = x l) : Pre x := fun l =>
  ⟨fun i e hx l' ht => (h l l' (head_take ht)).trans hx, fun a n hx l' ht => (h l l' (head_take ht)).trans hx⟩
theorem pre_ret {α : Type} (a : α) : Pre (opsX.ret a) := pre_head fun _ _ _ => rfl
theorem pre_bnd {α β : Type} {x : Rd α} {k : α → Rd β} (h : Pre x) (hk : ∀ a, Pre (k a)) : Pre (opsX.bnd x k) := by
  intro l
  show (∀ i e, bndX x k l = .error (i, e) → ∀ l', l'.take (i + 1) = l.take (i + 1) → bndX x k l' = .error (i, e)) ∧ ∀ a n, bndX x k l = .ok (a, n) → ∀ l', l'.take (n + 1) = l.take (n + 1) → bndX x k l' = .ok (a, n)
  cases hx : x l with
  | error q =>
    obtain ⟨j, e⟩ := q
    have e1 : bndX x k l = .error (j, e) := by unfold bndX; rw [hx]
    rw [e1]
    refine ⟨fun i e2 hi l' ht => ?_, fun a n hn => (by cases hn)⟩
    cases hi
    unfold bndX
    rw [(h l).1 _ _ hx l' ht]
  | ok q =>
    obtain ⟨a, n⟩ := q
    have e1 : bndX x k l = match k a (l.drop n) with
      | .error (j, e) => .error (n + j, e)
      | .ok (b, j) => .ok (b, n + j) := by unfold bndX; (rw [hx]) <;> rfl
    cases hy : k a (l.drop n) with
    | error q =>
      obtain ⟨j, e⟩ := q
      rw [hy] at e1
      simp only at e1
      rw [e1]
      refine ⟨fun i e2 hi l' ht => ?_, fun a n hn => (by cases hn)⟩
      cases hi
      have h1 := (h l).2 _ _ hx l' (take_less ht (by omega))
      have h2 := (hk a (l.drop n)).1 _ _ hy (l'.drop n) (by
        have := congrArg (List.drop n) ht
        rw [List.drop_take, List.drop_take] at this
        rwa [show n + j + 1 - n = j + 1 by omega] at this)
      unfold bndX
      rw [h1]
      simp only
      rw [h2]
    | ok q =>
      obtain ⟨b, j⟩ := q
      rw [hy] at e1
      simp only at e1
      rw [e1]
      refine ⟨fun i e2 hi => (by cases hi), fun a2 n2 hn l' ht => ?_⟩
      cases hn
      have h1 := (h l).2 _ _ hx l' (take_less ht (by omega))
      have h2 := (hk a (l.drop n)).2 _ _ hy (l'.drop n) (by
        have := congrArg (List.drop n) ht
        rw [List.drop_take, List.drop_take] at this
        rwa [show n + j + 1 - n = j + 1 by omega] at this)
      unfold bndX
      rw [h1]
      simp only
      rw [h2]
theorem pre_ite {α : Type} (c : Prop) [Decidable c] {x x' : Rd α} (h : Pre x) (h' : Pre x') : Pre (if c then x else x') := by
  split <;> assumption
theorem pre_skip (ws : List (List UInt8)) : Pre (opsX.skip ws) := pre_head fun l l' h => by show skipX ws l' = skipX ws l; unfold skipX; rw [h]
theorem pre_want (ws : List (List UInt8)) : Pre (opsX.want ws) := pre_head fun l l' h => by show wantX ws l' = wantX ws l; unfold wantX; rw [h]
theorem head_cases {l l' : List Sh} (h : l'.head? = l.head?) : (l = [] ∧ l' = []) ∨ ∃ s r r', l = s :: r ∧ l' = s :: r' := by
  cases l <;> cases l' <;> simp at h ⊢
  exact h
theorem pre_name : Pre opsX.name := pre_head fun l l' h => by
  rcases head_cases h with ⟨rfl, rfl⟩ | ⟨s, r, r', rfl, rfl⟩
  · rfl
  · cases s <;> rfl
theorem pre_num (n : Int) : Pre (opsX.num n) := pre_head fun l l' h => by
  rcases head_cases h with ⟨rfl, rfl⟩ | ⟨s, r, r', rfl, rfl⟩
  · rfl
  · cases s <;> rfl
theorem pre_stop : Pre opsX.stop := pre_head fun l l' h => by
  rcases head_cases h with ⟨rfl, rfl⟩ | ⟨s, r, r', rfl, rfl⟩
  · rfl
  · cases s <;> rfl
theorem pre_more : ∀ k, Pre (opsX.more k)
  | 0 => pre_head fun l l' h => by
    rcases head_cases h with ⟨rfl, rfl⟩ | ⟨s, r, r', rfl, rfl⟩
    · rfl
    · cases s <;> rfl
  | k + 1 => by
    intro l
    show (∀ i e, moreX (k + 1) l = .error (i, e) → ∀ l', l'.take (i + 1) = l.take (i + 1) → moreX (k + 1) l' = .error (i, e)) ∧ ∀ a n, moreX (k + 1) l = .ok (a, n) → ∀ l', l'.take (n + 1) = l.take (n + 1) → moreX (k + 1) l' = .ok (a, n)
    have key : ∀ s r, moreX (k + 1) (.word s :: r) = match moreX k r with
      | .error (j, e) => .error (j + 1, e)
      | .ok (t, n) => .ok (s :: t, n + 1) := fun s r => rfl
    cases l with
    | nil =>
      refine ⟨fun i e h => (by cases h), fun a n h l' ht => ?_⟩
      cases h
      cases l' with
      | nil => rfl
      | cons a l' => simp at ht
    | cons s r =>
      cases s with
      | word s =>
        rw [key]
        have ih := pre_more k r
        change (∀ i e, moreX k r = .error (i, e) → ∀ l', l'.take (i + 1) = r.take (i + 1) → moreX k l' = .error (i, e)) ∧ ∀ a n, moreX k r = .ok (a, n) → ∀ l', l'.take (n + 1) = r.take (n + 1) → moreX k l' = .ok (a, n) at ih
        cases hx : moreX k r with
        | error q =>
          obtain ⟨j, e⟩ := q
          refine ⟨fun i e2 h l' ht => ?_, fun a n h => (by cases h)⟩
          cases h
          cases l' with
          | nil => simp at ht
          | cons b l' =>
            simp at ht
            rw [ht.1, key, ih.1 _ _ hx l' ht.2]
        | ok q =>
          obtain ⟨t, n⟩ := q
          refine ⟨fun i e2 h => (by cases h), fun a n2 h l' ht => ?_⟩
          cases h
          cases l' with
          | nil => simp at ht
          | cons b l' =>
            simp at ht
            rw [ht.1, key, ih.2 _ _ hx l' ht.2]
      | num s n =>
        refine ⟨fun i e h => (by cases h), fun a m h l' ht => ?_⟩
        cases h
        cases l' with
        | nil => simp at ht
        | cons b l' => simp at ht; rw [ht]; rfl
      | sign =>
        refine ⟨fun i e h => (by cases h), fun a m h l' ht => ?_⟩
        cases h
        cases l' with
        | nil => simp at ht
        | cons b l' => simp at ht; rw [ht]; rfl
      | fin =>
        refine ⟨fun i e h => (by cases h), fun a m h l' ht => ?_⟩
        cases h
        cases l' with
        | nil => simp at ht
        | cons b l' => simp at ht; rw [ht]; rfl
theorem pre_part (w : List UInt8) (ws : List (List UInt8)) : Pre (partG opsX w ws) :=
  pre_bnd (pre_want _) fun _ => pre_bnd (pre_want _) fun i => pre_bnd (pre_want _) fun _ => pre_ret i
theorem pre_edit : Pre (editG opsX) :=
  pre_bnd (pre_want _) fun _ => pre_ite _ (pre_bnd (pre_skip _) fun _ => pre_ite _ (pre_bnd (pre_num _) fun _ => pre_ret _) (pre_ret _)) (pre_ret _)
theorem pre_files : Pre (filesG opsX) :=
  pre_bnd (pre_skip _) fun _ => pre_ite _ (pre_ret _) (pre_bnd (pre_num _) fun _ => pre_bnd (pre_want _) fun _ => pre_bnd (pre_num _) fun _ => pre_bnd (pre_want _) fun _ =>
    pre_bnd pre_name fun _ => pre_bnd (pre_more _) fun _ => pre_bnd (pre_want _) fun _ => pre_ret _)
theorem pre_keep : Pre (keepG opsX) :=
  pre_bnd (pre_skip _) fun _ => pre_ite _ (pre_bnd (pre_num _) fun _ => pre_bnd (pre_want _) fun _ => pre_ret _) (pre_ret _)
theorem pre_rest : Pre (restG opsX) :=
  pre_bnd (pre_part _ _) fun _ => pre_bnd (pre_part _ _) fun _ => pre_bnd (pre_part _ _) fun _ => pre_bnd (pre_want _) fun _ => pre_bnd (pre_want _) fun _ => pre_bnd (pre_skip _) fun _ => pre_bnd (pre_want _) fun _ =>
  pre_bnd (pre_want _) fun _ => pre_bnd (pre_num _) fun _ => pre_bnd (pre_want _) fun _ => pre_bnd (pre_num _) fun _ => pre_bnd (pre_want _) fun _ => pre_bnd (pre_num _) fun _ => pre_bnd (pre_want _) fun _ =>
  pre_bnd pre_keep fun _ => pre_ret _
theorem pre_parse : Pre (parseG opsX) :=
  pre_bnd (pre_want _) fun _ => pre_bnd pre_name fun _ => pre_bnd (pre_want _) fun _ => pre_bnd (pre_want _) fun _ => pre_bnd pre_edit fun _ => pre_bnd (pre_want _) fun _ =>
  pre_bnd (pre_part _ _) fun _ => pre_bnd (pre_part _ _) fun _ => pre_bnd (pre_part _ _) fun _ => pre_bnd (pre_part _ _) fun _ => pre_bnd (pre_part _ _) fun _ =>
  pre_bnd (pre_want _) fun _ => pre_bnd (pre_num _) fun _ => pre_bnd (pre_want _) fun _ => pre_bnd (pre_num _) fun _ => pre_bnd (pre_want _) fun _ =>
  pre_bnd pre_files fun _ => pre_bnd pre_rest fun _ => pre_bnd pre_stop fun _ => pre_ret _

/-- Words that are tokens are valid. -/
def GoodSh : Sh → Prop
  | .word s => wordL s = true
  | _ => True
def Gives {α : Type} (x : Rd α) (P : α → Prop) : Prop := ∀ l, (∀ s ∈ l, GoodSh s) → ∀ a n, x l = .ok (a, n) → P a
theorem gives_ret {α : Type} {P : α → Prop} {a : α} (h : P a) : Gives (opsX.ret a) P := fun l _ b n e => by cases e; exact h
theorem gives_bnd {α β : Type} {x : Rd α} {k : α → Rd β} {P : α → Prop} {Q : β → Prop} (h : Gives x P) (hk : ∀ a, P a → Gives (k a) Q) : Gives (opsX.bnd x k) Q := by
  intro l hl b n e
  change bndX x k l = _ at e
  unfold bndX at e
  cases hx : x l with
  | error q => rw [hx] at e; cases e
  | ok q =>
    obtain ⟨a, m⟩ := q
    rw [hx] at e
    simp only at e
    cases hy : k a (l.drop m) with
    | error q => rw [hy] at e; cases e
    | ok q =>
      obtain ⟨c, j⟩ := q
      rw [hy] at e
      cases e
      exact hk a (h l hl a m hx) _ (fun s hs => hl s (List.mem_of_mem_drop hs)) _ _ hy
theorem gives_ite {α : Type} {P : α → Prop} (c : Prop) [Decidable c] {x x' : Rd α} (h : c → Gives x P) (h' : ¬ c → Gives x' P) : Gives (if c then x else x') P := by
  split
  · exact h ‹_›
  · exact h' ‹_›
theorem findIdx_lt {α : Type} {p : α → Bool} {xs : List α} {i : Nat} (h : xs.findIdx? p = some i) : i < xs.length :=
  (List.findIdx?_eq_some_iff_getElem.1 h).1
theorem spot_lt {ws : List (List UInt8)} {s : Sh} {i : Nat} (h : spot ws s = some i) : i < ws.length := by
  cases s <;> simp only [spot] at h
  · exact findIdx_lt h
  · cases h
  · exact findIdx_lt h
  · cases h
theorem gives_want (ws : List (List UInt8)) : Gives (opsX.want ws) (fun a => 0 ≤ a ∧ a < ws.length) := by
  intro l _ a n e
  change wantX ws l = _ at e
  unfold wantX at e
  cases l with
  | nil => cases e
  | cons s l =>
    simp only [List.head?_cons, Option.bind_some] at e
    cases hs : spot ws s with
    | none => rw [hs] at e; cases e
    | some i => rw [hs] at e; cases e; have := spot_lt hs; omega
theorem gives_skip (ws : List (List UInt8)) : Gives (opsX.skip ws) (fun _ => True) := fun _ _ _ _ _ => trivial
theorem gives_stop : Gives opsX.stop (fun _ => True) := fun _ _ _ _ _ => trivial
theorem gives_name : Gives opsX.name (fun s => wordL s = true) := by
  intro l hl a n e
  change nameX l = _ at e
  unfold nameX at e
  split at e
  · cases e; exact hl (.word a) (by simp)
  · cases e
theorem gives_num (least : Int) : Gives (opsX.num least) (fun n => least ≤ n ∧ n ≤ 1073741824) := by
  intro l hl a n e
  change numX least l = _ at e
  unfold numX at e
  split at e
  · split at e
    · cases e
    · cases e; omega
  · cases e
theorem gives_more : ∀ k, Gives (opsX.more k) (fun ts => ts.length ≤ k ∧ ∀ s ∈ ts, wordL s = true)
  | 0 => by
    intro l hl a n e
    change moreX 0 l = _ at e
    unfold moreX at e
    split at e
    · cases e
    · cases e; simp
  | k + 1 => by
    intro l hl a n e
    change moreX (k + 1) l = _ at e
    unfold moreX at e
    split at e
    · rename_i s r
      cases hx : moreX k r with
      | error q => rw [hx] at e; cases e
      | ok q =>
        obtain ⟨t, m⟩ := q
        rw [hx] at e
        cases e
        have ih := gives_more k r (fun s hs => hl s (by simp [hs])) t m hx
        refine ⟨by simp; exact ih.1, fun x hx => ?_⟩
        rcases List.mem_cons.1 hx with rfl | hx
        · exact hl (.word x) (by simp)
        · exact ih.2 x hx
    · cases e; simp
theorem gives_part (w : List UInt8) (ws : List (List UInt8)) : Gives (partG opsX w ws) (fun a => 0 ≤ a ∧ a < ws.length) :=
  gives_bnd (gives_want _) fun _ _ => gives_bnd (gives_want _) fun i hi => gives_bnd (gives_want _) fun _ _ => gives_ret hi
theorem gives_edit : Gives (editG opsX) (fun e => (e.1 = 0 ∧ e.2 = 0) ∨ (e.1 = 2 ∧ 0 ≤ e.2 ∧ e.2 ≤ 1073741824)) :=
  gives_bnd (gives_want _) fun _ _ => gives_ite _ (fun _ => gives_bnd (gives_skip _) fun _ _ => gives_ite _ (fun _ => gives_bnd (gives_num _) fun n hn => gives_ret (by simp; omega)) (fun _ => gives_ret (by simp))) (fun _ => gives_ret (by simp))
def FilesR (f : Int × Int × List (List UInt8)) : Prop := (f.1 = 0 ∧ f.2.1 = 0 ∧ f.2.2 = []) ∨ (1 ≤ f.1 ∧ f.1 ≤ 1073741824 ∧ 0 ≤ f.2.1 ∧ f.2.1 ≤ 1073741824 ∧ 1 ≤ f.2.2.length ∧ f.2.2.length ≤ 20 ∧ ∀ s ∈ f.2.2, wordL s = true)
theorem gives_files : Gives (filesG opsX) FilesR :=
  gives_bnd (gives_skip _) fun _ _ => gives_ite _ (fun _ => gives_ret (.inl ⟨rfl, rfl, rfl⟩)) (fun _ => gives_bnd (gives_num _) fun _ h1 => gives_bnd (gives_want _) fun _ _ => gives_bnd (gives_num _) fun _ h2 => gives_bnd (gives_want _) fun _ _ =>
    gives_bnd gives_name fun _ h3 => gives_bnd (gives_more _) fun _ h4 => gives_bnd (gives_want _) fun _ _ => gives_ret (.inr ⟨h1.1, h1.2, h2.1, h2.2, by simp, by simp; omega, fun s hs => by
      rcases List.mem_cons.1 hs with rfl | hs
      · exact h3
      · exact h4.2 s hs⟩))
theorem gives_keep : Gives (keepG opsX) (fun n => 0 ≤ n ∧ n ≤ 1073741824) :=
  gives_bnd (gives_skip _) fun _ _ => gives_ite _ (fun _ => gives_bnd (gives_num _) fun _ h => gives_bnd (gives_want _) fun _ _ => gives_ret ⟨by omega, h.2⟩) (fun _ => gives_ret (by omega))
structure RestR (q : Rest) : Prop where
  join : 0 ≤ q.join ∧ q.join < 3
  history : 0 ≤ q.history ∧ q.history < 2
  remove : 0 ≤ q.remove ∧ q.remove < 2
  level : 0 ≤ q.level ∧ q.level < 5
  rate : 0 ≤ q.rate ∧ q.rate ≤ 1073741824
  down : 0 ≤ q.down ∧ q.down ≤ 1073741824
  window : 0 ≤ q.window ∧ q.window ≤ 1073741824
  keep : 0 ≤ q.keep ∧ q.keep ≤ 1073741824
theorem gives_rest : Gives (restG opsX) RestR :=
  gives_bnd (gives_part _ _) fun _ h1 => gives_bnd (gives_part _ _) fun _ h2 => gives_bnd (gives_part _ _) fun _ h3 => gives_bnd (gives_want _) fun _ _ => gives_bnd (gives_want _) fun _ h4 => gives_bnd (gives_skip _) fun _ _ => gives_bnd (gives_want _) fun _ _ =>
  gives_bnd (gives_want _) fun _ _ => gives_bnd (gives_num _) fun _ h5 => gives_bnd (gives_want _) fun _ _ => gives_bnd (gives_num _) fun _ h6 => gives_bnd (gives_want _) fun _ _ => gives_bnd (gives_num _) fun _ h7 => gives_bnd (gives_want _) fun _ _ =>
  gives_bnd gives_keep fun _ h8 => gives_ret ⟨h1, h2, h3, h4, h5, h6, h7, h8⟩
theorem right_of {name : List UInt8} {ew : Int × Int} {de re th qu me sz pa : Int} {f : Int × Int × List (List UInt8)} {q : Rest} (hn : wordL name = true) (he : (ew.1 = 0 ∧ ew.2 = 0) ∨ (ew.1 = 2 ∧ 0 ≤ ew.2 ∧ ew.2 ≤ 1073741824))
    (hd : 0 ≤ de ∧ de < 3) (ht : 0 ≤ th ∧ th < 3) (hs : 0 ≤ sz ∧ sz ≤ 1073741824) (hp : 0 ≤ pa ∧ pa ≤ 1073741824) (hf : FilesR f) (hq : RestR q) : profRight (profOf name ew de re th qu me sz pa f q) = true := by
  obtain ⟨q1, q2, q3, q4, q5, q6, q7, q8⟩ := hq
  have inr : ∀ n a b : Int, a ≤ n → n ≤ b → inR n a b = true := fun n a b h1 h2 => by simp [inR]; omega
  have hk : kindsB (profOf name ew de re th qu me sz pa f q) = true := by
    simp only [kindsB, profOf]
    rw [inr _ _ _ hd.1 (by omega), inr _ _ _ ht.1 (by omega), inr _ _ _ q1.1 (by omega), inr _ _ _ q2.1 (by omega), inr _ _ _ q3.1 (by omega), inr _ _ _ q4.1 (by omega)]
    rcases he with h | h <;> simp [h.1]
  have hff : 0 ≤ f.1 ∧ f.1 ≤ 1073741824 ∧ 0 ≤ f.2.1 ∧ f.2.1 ≤ 1073741824 := by
    rcases hf with ⟨h1, h2, _⟩ | ⟨h1, h2, h3, h4, _⟩
    · rw [h1, h2]; decide
    · exact ⟨by omega, h2, h3, h4⟩
  have hnum : numbersB (profOf name ew de re th qu me sz pa f q) = true := by
    simp only [numbersB, profOf, stepB]
    rw [inr ew.2 _ _ (by omega) (by omega), inr sz _ _ hs.1 hs.2, inr pa _ _ hp.1 hp.2, inr f.1 _ _ hff.1 hff.2.1, inr f.2.1 _ _ hff.2.2.1 hff.2.2.2, inr _ _ _ q5.1 q5.2, inr _ _ _ q6.1 q6.2, inr _ _ _ q7.1 q7.2, inr _ _ _ q8.1 q8.2]
    rfl
  have hnm : wordB (bs name) = true := by simpa [wordB, bs] using hn
  have hty : typesB (profOf name ew de re th qu me sz pa f q) = true := by
    obtain ⟨f1, f2, f3⟩ := f
    rcases hf with ⟨h1, h2, h3⟩ | ⟨h1, h2, h3, h4, h5, h6, h7⟩
    · simp only at h1 h2 h3
      subst h1 h2 h3
      rfl
    · simp only at h1 h2 h3 h4 h5 h6 h7
      have h0 : ¬ f1 = 0 := by omega
      have h8 : (f3.map bs).all wordB = true := by
        rw [List.all_eq_true]
        intro x hx
        obtain ⟨s, hs, rfl⟩ := List.mem_map.1 hx
        simpa [wordB, bs] using h7 s hs
      simp only [typesB, profOf, h0, if_false, h8, List.length_map, Bool.and_true, Bool.and_eq_true, decide_eq_true_eq]
      exact ⟨h5, h6⟩
  simp only [profRight, headB, hk, hnum, hty, Bool.true_and, Bool.and_true]
  show (wordB (bs name) && _) = true
  rw [hnm]
  rcases he with h | h
  · simp [profOf, h.1, h.2]
  · simp [profOf, h.1]
theorem gives_parse : Gives (parseG opsX) (fun p => profRight p = true) :=
  gives_bnd (gives_want _) fun _ _ => gives_bnd gives_name fun _ h1 => gives_bnd (gives_want _) fun _ _ => gives_bnd (gives_want _) fun _ _ => gives_bnd gives_edit fun _ h2 => gives_bnd (gives_want _) fun _ _ =>
  gives_bnd (gives_part _ _) fun _ h3 => gives_bnd (gives_part _ _) fun _ _ => gives_bnd (gives_part _ _) fun _ h4 => gives_bnd (gives_part _ _) fun _ _ => gives_bnd (gives_part _ _) fun _ _ =>
  gives_bnd (gives_want _) fun _ _ => gives_bnd (gives_num _) fun _ h5 => gives_bnd (gives_want _) fun _ _ => gives_bnd (gives_num _) fun _ h6 => gives_bnd (gives_want _) fun _ _ =>
  gives_bnd gives_files fun _ h7 => gives_bnd gives_rest fun _ h8 => gives_bnd gives_stop fun _ _ => gives_ret (right_of h1 h2 h3 h4 h5 h6 h7 h8)
end Go.Proofs.YtnaejabgkfhlbaaDoor
