/- Contracts and plain laws, joined: SyD, SyE, SyF, SyG, SyH. -/
import Derived.Test.YtnaejabgkfhlbaaDoorQam
import Derived.Test.YtnaejabgkfhlbaaDoorQaa
import Derived.Test.YtnaejabgkfhlbaaDoorQah
import Derived.Test.YtnaejabgkfhlbaaDoorQag
/- The canonical text of a profile in plain Lean (layer 12): its tokens, that they are read as the profile, and how long it is. -/
set_option linter.unusedSimpArgs false
set_option linter.unusedVariables false
namespace Go.Proofs.YtnaejabgkfhlbaaDoor
open Go.RowKit

def numS (n : Int) : Sh := .num (Lib.itoa n) n
def pick (ws : List (List UInt8)) (i : Int) : Sh := .word (ws.getD i.toNat [])
def oneI (b : Bool) : Int := if b then 1 else 0
def shPart (w : List UInt8) (s : Sh) : List Sh := [.word w] ++ ([s] ++ ([.sign] ++ []))
def shEdit (p : Prof) : List Sh := if 0 < p.within_ then [pick wNoYes 1] ++ ([.word kWithin] ++ ([numS p.within_] ++ [])) else [pick wNoYes (oneI (p.edit == 2))] ++ []
def shFiles (p : Prof) : List Sh := if 0 < p.files then [.word kFiles] ++ ([numS p.files] ++ ([.word kBytes] ++ ([numS p.bytes] ++ ([.word kTypes] ++ (p.types.map (fun s => .word s.data.toList) ++ ([.sign] ++ [])))))) else []
def shKeep (p : Prof) : List Sh := if 0 < p.keep then [.word kKeep] ++ ([numS p.keep] ++ ([.sign] ++ [])) else []
def shBatch (p : Prof) : List Sh := if p.batch then [.word kBatch] else []
def shRest (p : Prof) : List Sh := shPart kJoin (pick wJoins p.join) ++ (shPart kHistory (pick wHistory p.history) ++ (shPart kRemove (pick wRemove p.remove) ++ ([.word kReceipts] ++ ([pick wReceipts p.level] ++ (shBatch p ++ ([.sign] ++
  ([.word kRate] ++ ([numS p.rate] ++ ([.word kDown] ++ ([numS p.down] ++ ([.word kOf] ++ ([numS p.window] ++ ([.sign] ++ (shKeep p ++ []))))))))))))))
def shapesP (p : Prof) : List Sh := [.word kNetwork] ++ ([.word p.name.data.toList] ++ ([.sign] ++ ([.word kEdit] ++ (shEdit p ++ ([.sign] ++
  (shPart kDelete (pick wDeletes p.delete) ++ (shPart kReact (pick wNoYes (oneI p.react)) ++ (shPart kThread (pick wThreads p.thread) ++ (shPart kQuote (pick wNoYes (oneI p.quote)) ++ (shPart kMention (pick wNoYes (oneI p.mention)) ++
  ([.word kSize] ++ ([numS p.size] ++ ([.word kParts] ++ ([numS p.parts] ++ ([.sign] ++ (shFiles p ++ (shRest p ++ [])))))))))))))))))

/-- The tokens l are read as a, ahead of the tokens r. -/
def Reads {α : Type} (x : Rd α) (l : List Sh) (a : α) (r : List Sh) : Prop := x (l ++ r) = .ok (a, l.length)
theorem reads_ret {α : Type} (a : α) (r : List Sh) : Reads (opsX.ret a) [] a r := rfl
theorem reads_bnd {α β : Type} {x : Rd α} {k : α → Rd β} {l1 l2 : List Sh} {a : α} {b : β} {r : List Sh} (h : Reads x l1 a (l2 ++ r)) (hk : Reads (k a) l2 b r) : Reads (opsX.bnd x k) (l1 ++ l2) b r := by
  unfold Reads at *
  show bndX x k _ = _
  unfold bndX
  rw [List.append_assoc, h]
  simp only [List.drop_left, List.length_append]
  rw [hk]
theorem reads_bnd0 {α β : Type} {x : Rd α} {k : α → Rd β} {l2 : List Sh} {a : α} {b : β} {r : List Sh} (h : Reads x [] a (l2 ++ r)) (hk : Reads (k a) l2 b r) : Reads (opsX.bnd x k) l2 b r := reads_bnd h hk
theorem reads_pos {α : Type} {c : Prop} [Decidable c] {x y : Rd α} {l r : List Sh} {a : α} (hc : c) (h : Reads x l a r) : Reads (if c then x else y) l a r := by rw [if_pos hc]; exact h
theorem reads_neg {α : Type} {c : Prop} [Decidable c] {x y : Rd α} {l r : List Sh} {a : α} (hc : ¬ c) (h : Reads y l a r) : Reads (if c then x else y) l a r := by rw [if_neg hc]; exact h
theorem spot_one (w : List UInt8) : spot [w] (.word w) = some 0 := by simp [spot]
theorem reads_word (w : List UInt8) (r : List Sh) : Reads (opsX.want [w]) [.word w] 0 r := by
  show wantX [w] (.word w :: r) = _
  unfold wantX
  simp only [List.head?_cons, Option.bind_some, spot_one]
  rfl
theorem reads_semi (r : List Sh) : Reads (opsX.want [kSemi]) [.sign] 0 r := rfl
/-- Each of the words stands at one place alone. -/
def Once (ws : List (List UInt8)) : Prop := ∀ k < ws.length, spot ws (.word (ws.getD k [])) = some k
theorem reads_pick {ws : List (List UInt8)} (hw : Once ws) (i : Int) (r : List Sh) (h0 : 0 ≤ i) (h1 : i < ws.length) : Reads (opsX.want ws) [pick ws i] i r := by
  show wantX ws (pick ws i :: r) = _
  unfold wantX pick
  simp only [List.head?_cons, Option.bind_some, hw i.toNat (by omega)]
  rw [show ((i.toNat : Nat) : Int) = i by omega]
  rfl
theorem reads_part {ws : List (List UInt8)} (hw : Once ws) (w : List UInt8) (i : Int) (r : List Sh) (h0 : 0 ≤ i) (h1 : i < ws.length) : Reads (partG opsX w ws) (shPart w (pick ws i)) i r :=
  reads_bnd (reads_word w _) (reads_bnd (reads_pick hw i _ h0 h1) (reads_bnd (reads_semi _) (reads_ret i r)))
theorem reads_num (least n : Int) (r : List Sh) (h0 : least ≤ n) (h1 : n ≤ 1073741824) : Reads (opsX.num least) [numS n] n r := by
  show numX least (.num (Lib.itoa n) n :: r) = _
  unfold numX
  simp only
  rw [if_neg (by omega)]
  rfl
theorem reads_name (s : List UInt8) (r : List Sh) : Reads opsX.name [.word s] s r := rfl
theorem reads_skip (w : List UInt8) (r : List Sh) : Reads (opsX.skip [w]) [.word w] 0 r := by
  show skipX [w] (.word w :: r) = _
  unfold skipX
  simp only [List.head?_cons, Option.bind_some, spot_one]
  rfl
theorem reads_none (w : List UInt8) (r : List Sh) (h : r.head?.bind (spot [w]) = none) : Reads (opsX.skip [w]) [] (-1) r := by
  show skipX [w] r = _
  unfold skipX
  rw [h]
  rfl
theorem reads_more (r : List Sh) : ∀ (k : Nat) (ts : List (List UInt8)), ts.length ≤ k → Reads (opsX.more k) (ts.map .word) ts (.sign :: r)
  | 0, [], _ => rfl
  | 0, _ :: _, h => by simp at h
  | _ + 1, [], _ => rfl
  | k + 1, t :: ts, h => by
    have ih := reads_more r k ts (by simpa using h)
    show moreX (k + 1) (.word t :: (ts.map .word ++ .sign :: r)) = _
    change moreX k (ts.map .word ++ .sign :: r) = _ at ih
    unfold moreX
    simp only
    rw [ih]
    rfl
theorem once_noYes : Once wNoYes := by unfold Once; decide
theorem once_deletes : Once wDeletes := by unfold Once; decide
theorem once_threads : Once wThreads := by unfold Once; decide
theorem once_joins : Once wJoins := by unfold Once; decide
theorem once_history : Once wHistory := by unfold Once; decide
theorem once_remove : Once wRemove := by unfold Once; decide
theorem once_receipts : Once wReceipts := by unfold Once; decide
theorem oneI_lt (b : Bool) : 0 ≤ oneI b ∧ oneI b < 2 := by cases b <;> decide
theorem oneI_eq (b : Bool) : decide (oneI b = 1) = b := by cases b <;> rfl

/-- What a right profile is. -/
structure Rt (p : Prof) : Prop where
  edit : (p.edit = 0 ∧ p.within_ = 0) ∨ (p.edit = 2 ∧ 0 ≤ p.within_ ∧ p.within_ ≤ 1073741824)
  delete : 0 ≤ p.delete ∧ p.delete < 3
  thread : 0 ≤ p.thread ∧ p.thread < 3
  join : 0 ≤ p.join ∧ p.join < 3
  history : 0 ≤ p.history ∧ p.history < 2
  remove : 0 ≤ p.remove ∧ p.remove < 2
  level : 0 ≤ p.level ∧ p.level < 5
  size : 0 ≤ p.size ∧ p.size ≤ 1073741824
  parts : 0 ≤ p.parts ∧ p.parts ≤ 1073741824
  bytes : 0 ≤ p.bytes ∧ p.bytes ≤ 1073741824
  rate : 0 ≤ p.rate ∧ p.rate ≤ 1073741824
  down : 0 ≤ p.down ∧ p.down ≤ 1073741824
  window : 0 ≤ p.window ∧ p.window ≤ 1073741824
  keep : 0 ≤ p.keep ∧ p.keep ≤ 1073741824
  files : 0 ≤ p.files ∧ p.files ≤ 1073741824
  name : wordL p.name.data.toList = true
  types : (p.files = 0 ∧ p.bytes = 0 ∧ p.types = []) ∨ (1 ≤ p.files ∧ 1 ≤ p.types.length ∧ p.types.length ≤ 20 ∧ ∀ s ∈ p.types, wordL s.data.toList = true)
theorem rt_of {p : Prof} (h : profRight p = true) : Rt p := by
  simp only [profRight, headB, kindsB, numbersB, stepB, inR, Bool.and_eq_true, Bool.or_eq_true, decide_eq_true_eq, beq_iff_eq, Bool.not_eq_true', Bool.and_eq_false_iff, bne_eq_false_iff_eq, beq_eq_false_iff_ne] at h
  obtain ⟨⟨⟨h1, h2, h3, h4, h5, h6, h7⟩, ⟨n1, n2, n3, n4, n5, n6, n7, n8, n9⟩, hw, he⟩, ht⟩ := h
  refine ⟨?_, by omega, by omega, by omega, by omega, by omega, by omega, by omega, by omega, by omega, by omega, by omega, by omega, by omega, by omega, hw, ?_⟩
  · rcases h1 with h1 | h1
    · left
      rcases he with he | he
      · exact absurd h1 he
      · exact ⟨h1, he⟩
    · right; exact ⟨h1, n1⟩
  · unfold typesB at ht
    split at ht
    · left
      simp at ht
      exact ⟨by assumption, ht.1, ht.2⟩
    · right
      simp only [Bool.and_eq_true, decide_eq_true_eq, List.all_eq_true] at ht
      exact ⟨by omega, ht.1, ht.2.1, ht.2.2⟩
theorem of_rt {p : Prof} (h : Rt p) : profRight p = true := by
  simp only [profRight, headB, kindsB, numbersB, stepB, inR, Bool.and_eq_true, Bool.or_eq_true, decide_eq_true_eq, beq_iff_eq, Bool.not_eq_true', Bool.and_eq_false_iff, bne_eq_false_iff_eq, beq_eq_false_iff_ne]
  obtain ⟨a1, a2, a3, a4, a5, a6, a7, a8, a9, b1, b2, b3, b4, b5, b6, b7, b8⟩ := h
  refine ⟨⟨⟨by omega, by omega, by omega, by omega, by omega, by omega, by omega⟩, ⟨by omega, by omega, by omega, by omega, by omega, by omega, by omega, by omega, by omega⟩, b7, by omega⟩, ?_⟩
  unfold typesB
  rcases b8 with ⟨h1, h2, h3⟩ | ⟨h1, h2, h3, h4⟩
  · rw [if_pos h1, h2, h3]; rfl
  · rw [if_neg (by omega)]
    simp only [Bool.and_eq_true, decide_eq_true_eq, List.all_eq_true]
    exact ⟨h2, h3, h4⟩
theorem reads_edit {p : Prof} (h : Rt p) (r : List Sh) : Reads (editG opsX) (shEdit p) (p.edit, p.within_) (.sign :: r) := by
  unfold shEdit editG
  split
  · rename_i hw
    have he : p.edit = 2 := by rcases h.edit with h1 | h1 <;> omega
    rw [he]
    have hl : p.within_ ≤ 1073741824 := by rcases h.edit with h1 | h1 <;> omega
    exact reads_bnd (reads_pick once_noYes 1 _ (by decide) (by decide)) (reads_pos rfl (reads_bnd (reads_skip _ _) (reads_pos rfl (reads_bnd (reads_num 1 _ _ (by omega) hl) (reads_ret _ _)))))
  · rename_i hw
    rcases h.edit with h1 | h1
    · rw [h1.1, h1.2]
      exact reads_bnd (reads_pick once_noYes 0 _ (by decide) (by decide)) (reads_neg (by decide) (reads_ret _ _))
    · rw [h1.1, show p.within_ = 0 by omega]
      exact reads_bnd (reads_pick once_noYes 1 _ (by decide) (by decide)) (reads_pos rfl (reads_bnd0 (reads_none _ _ rfl) (reads_neg (by decide) (reads_ret _ _))))
theorem reads_files {p : Prof} (h : Rt p) (r : List Sh) (hr : ∃ q, r = .word kJoin :: q) : Reads (filesG opsX) (shFiles p) (p.files, p.bytes, p.types.map (fun s => s.data.toList)) r := by
  obtain ⟨q, rfl⟩ := hr
  unfold shFiles filesG
  rcases h.types with ⟨h1, h2, h3⟩ | ⟨h1, h2, h3, h4⟩
  · rw [if_neg (by omega), h1, h2, h3]
    exact reads_bnd0 (reads_none _ _ (by rfl)) (reads_pos (by decide) (reads_ret _ _))
  · rw [if_pos (by omega)]
    cases ht : p.types with
    | nil => rw [ht] at h2; simp at h2
    | cons t ts =>
      rw [ht] at h3
      have e : List.map (fun s : ByteArray => Sh.word s.data.toList) (t :: ts) ++ ([Sh.sign] ++ []) = [Sh.word t.data.toList] ++ ((ts.map (fun s => s.data.toList)).map .word ++ ([Sh.sign] ++ [])) := by simp
      rw [e]
      exact reads_bnd (reads_skip _ _) (reads_neg (by decide) (reads_bnd (reads_num 1 _ _ h1 h.files.2) (reads_bnd (reads_word _ _) (reads_bnd (reads_num 0 _ _ h.bytes.1 h.bytes.2) (reads_bnd (reads_word _ _)
        (reads_bnd (reads_name _ _) (reads_bnd (reads_more _ 19 (ts.map (fun s => s.data.toList)) (by simp at h3 ⊢; omega)) (reads_bnd (reads_semi _) (reads_ret _ _)))))))))
theorem reads_keep {p : Prof} (h : Rt p) (r : List Sh) (hr : ∃ q, r = .fin :: q) : Reads (keepG opsX) (shKeep p) p.keep r := by
  obtain ⟨q, rfl⟩ := hr
  unfold shKeep keepG
  split
  · exact reads_bnd (reads_skip _ _) (reads_pos rfl (reads_bnd (reads_num 1 _ _ (by omega) h.keep.2) (reads_bnd (reads_semi _) (reads_ret _ _))))
  · have := h.keep
    rw [show p.keep = 0 by omega]
    exact reads_bnd0 (reads_none _ _ (by rfl)) (reads_neg (by decide) (reads_ret _ _))
theorem reads_batch {p : Prof} (r : List Sh) : Reads (opsX.skip [kBatch]) (shBatch p) (if p.batch then 0 else -1) (.sign :: r) := by
  unfold shBatch
  cases p.batch
  · exact reads_none _ _ rfl
  · exact reads_skip _ _
def restOf (p : Prof) : Rest := ⟨p.join, p.history, p.remove, p.level, p.batch, p.rate, p.down, p.window, p.keep⟩
theorem reads_rest {p : Prof} (h : Rt p) (r : List Sh) (hr : ∃ q, r = .fin :: q) : Reads (restG opsX) (shRest p) (restOf p) r := by
  have hb : decide ((if p.batch then (0 : Int) else -1) = 0) = p.batch := by cases p.batch <;> rfl
  refine reads_bnd (reads_part once_joins _ _ _ h.join.1 h.join.2) (reads_bnd (reads_part once_history _ _ _ h.history.1 h.history.2) (reads_bnd (reads_part once_remove _ _ _ h.remove.1 h.remove.2) (reads_bnd (reads_word _ _)
    (reads_bnd (reads_pick once_receipts _ _ h.level.1 h.level.2) (reads_bnd (reads_batch _) (reads_bnd (reads_semi _) (reads_bnd (reads_word _ _) (reads_bnd (reads_num 0 _ _ h.rate.1 h.rate.2) (reads_bnd (reads_word _ _)
    (reads_bnd (reads_num 0 _ _ h.down.1 h.down.2) (reads_bnd (reads_word _ _) (reads_bnd (reads_num 0 _ _ h.window.1 h.window.2) (reads_bnd (reads_semi _) (reads_bnd (reads_keep h _ hr) ?_))))))))))))))
  rw [hb]
  exact reads_ret _ _
theorem types_bs (l : List ByteArray) : (l.map (fun s => s.data.toList)).map bs = l := by
  rw [List.map_map]
  exact List.map_id' l
theorem reads_parse {p : Prof} (h : Rt p) (q : List Sh) : Reads (parseG opsX) (shapesP p) p (.fin :: q) := by
  have e : profOf p.name.data.toList (p.edit, p.within_) p.delete (oneI p.react) p.thread (oneI p.quote) (oneI p.mention) p.size p.parts (p.files, p.bytes, p.types.map (fun s => s.data.toList)) (restOf p) = p := by
    unfold profOf restOf
    simp only [oneI_eq, types_bs]
    rfl
  refine reads_bnd (reads_word _ _) (reads_bnd (reads_name _ _) (reads_bnd (reads_semi _) (reads_bnd (reads_word _ _) (reads_bnd (reads_edit h _) (reads_bnd (reads_semi _)
    (reads_bnd (reads_part once_deletes _ _ _ h.delete.1 h.delete.2) (reads_bnd (reads_part once_noYes _ _ _ (oneI_lt _).1 (oneI_lt _).2) (reads_bnd (reads_part once_threads _ _ _ h.thread.1 h.thread.2)
    (reads_bnd (reads_part once_noYes _ _ _ (oneI_lt _).1 (oneI_lt _).2) (reads_bnd (reads_part once_noYes _ _ _ (oneI_lt _).1 (oneI_lt _).2) (reads_bnd (reads_word _ _) (reads_bnd (reads_num 0 _ _ h.size.1 h.size.2) (reads_bnd (reads_word _ _)
    (reads_bnd (reads_num 0 _ _ h.parts.1 h.parts.2) (reads_bnd (reads_semi _) (reads_bnd (reads_files h _ ⟨_, rfl⟩) (reads_bnd (reads_rest h _ ⟨_, rfl⟩) (reads_bnd0 (a := ()) rfl ?_))))))))))))))))))
  rw [e]
  exact reads_ret _ _

/-- Each piece of the text: a token, and the blank behind it. -/
def pieceE (s : Sh) : UInt8 := match s with
  | .sign => 10
  | _ => 32
def pieceF (s : Sh) : List UInt8 := s.text ++ [pieceE s]
/-- The canonical text. -/
def printF (p : Prof) : List UInt8 := (shapesP p).flatMap pieceF
def ShortTok (s : Sh) : Prop := GoodTok s ∧ s.text.length ≤ 20
theorem valF_snoc (l : List UInt8) (c : UInt8) : valF (l ++ [c]) = 10 * valF l + (c.toNat - 48) := by unfold valF; rw [List.foldl_append]; rfl
theorem valF_dd (u : Nat) : valF (Lib.decDigits u) = u := by
  induction u using Nat.strongRecOn with
  | _ u ih =>
    by_cases hu : u < 10
    · rw [dd_small hu]
      have := dig_nat hu
      simp only [valF, List.foldl_cons, List.foldl_nil, this]
      omega
    · rw [dd_big hu, valF_snoc, ih _ (by omega), dig_nat (by omega)]
      omega
theorem dd_all (u : Nat) : (Lib.decDigits u).all digitC = true := by
  rw [List.all_eq_true]
  intro c hc
  have := dd_dig u c hc
  unfold digitC digitI
  simp; omega
theorem dd_head : ∀ (u : Nat), 1 ≤ u → (Lib.decDigits u).head? ≠ some 48 := by
  intro u
  induction u using Nat.strongRecOn with
  | _ u ih =>
    intro h
    by_cases hu : u < 10
    · rw [dd_small hu]
      intro e
      simp only [List.head?_cons, Option.some.injEq] at e
      have h1 := dig_nat hu
      rw [e] at h1
      have h2 : (48 : UInt8).toNat = 48 := rfl
      omega
    · rw [dd_big hu]
      have h1 := ih (u / 10) (by omega) (by omega)
      have h2 := dd_ne (u / 10)
      cases hl : Lib.decDigits (u / 10) with
      | nil => exact absurd hl h2
      | cons c r => rw [hl] at h1; simpa using h1
theorem itoa_nat (n : Int) (h : 0 ≤ n) : Lib.itoa n = Lib.decDigits n.toNat := by rw [Lib.itoa, if_neg (by omega)]
theorem numF_itoa (n : Int) (h0 : 0 ≤ n) (h1 : n ≤ 1099511627776) : numF (Lib.itoa n) = some n := by
  rw [itoa_nat n h0]
  unfold numF
  rw [if_neg, valF_dd]
  · congr 1; omega
  · simp only [not_or]
    refine ⟨dd_ne _, by rw [dd_all]; decide, fun h => ?_, by rw [valF_dd]; omega⟩
    by_cases hz : n.toNat = 0
    · rw [hz, dd_small (by decide)] at h
      exact h.2 rfl
    · exact dd_head _ (by omega) h.1
theorem short_num (n : Int) (h0 : 0 ≤ n) (h1 : n ≤ 1073741824) : ShortTok (numS n) :=
  ⟨numF_itoa n h0 (by omega), itoa_20 n (by omega) (by omega)⟩
theorem short_word {s : List UInt8} (h : wordL s = true) : ShortTok (.word s) := by
  refine ⟨h, ?_⟩
  cases s with
  | nil => simp [wordL] at h
  | cons c r =>
    unfold wordL at h
    simp only [Bool.and_eq_true, decide_eq_true_eq] at h
    show (c :: r).length ≤ 20
    simp; omega
theorem short_sign : ShortTok .sign := ⟨trivial, by decide⟩
def AllS (l : List Sh) (n : Nat) : Prop := (∀ s ∈ l, ShortTok s) ∧ l.length ≤ n
theorem alls_nil : AllS [] 0 := ⟨by simp, by simp⟩
theorem alls_one {s : Sh} (h : ShortTok s) : AllS [s] 1 := ⟨by simpa using h, by simp⟩
theorem alls_app {a b : List Sh} {m n : Nat} (ha : AllS a m) (hb : AllS b n) : AllS (a ++ b) (m + n) := ⟨fun s hs => by
  rcases List.mem_append.1 hs with hs | hs
  · exact ha.1 s hs
  · exact hb.1 s hs, by rw [List.length_append]; have := ha.2; have := hb.2; omega⟩
theorem alls_mono {a : List Sh} {m n : Nat} (h : AllS a m) (hm : m ≤ n) : AllS a n := ⟨h.1, Nat.le_trans h.2 hm⟩
theorem short_pick {ws : List (List UInt8)} {i : Int} (hw : ws.all wordL = true) (h0 : 0 ≤ i) (h1 : i < ws.length) : ShortTok (pick ws i) := by
  refine short_word ?_
  have hl : i.toNat < ws.length := by omega
  rw [List.getD_eq_getElem?_getD, List.getElem?_eq_getElem hl]
  exact List.all_eq_true.1 hw _ (List.getElem_mem hl)
theorem alls_part {w : List UInt8} {s : Sh} (hw : wordL w = true) (h : ShortTok s) : AllS (shPart w s) 3 :=
  alls_app (alls_one (short_word hw)) (alls_app (alls_one h) (alls_app (alls_one short_sign) alls_nil))
theorem alls_edit {p : Prof} (h : Rt p) : AllS (shEdit p) 3 := by
  unfold shEdit
  split
  · have hl : p.within_ ≤ 1073741824 := by rcases h.edit with h1 | h1 <;> omega
    exact alls_app (alls_one (short_pick (by decide) (by decide) (by decide))) (alls_app (alls_one (short_word (by decide))) (alls_app (alls_one (short_num _ (by omega) hl)) alls_nil))
  · exact alls_mono (alls_app (alls_one (short_pick (by decide) (oneI_lt _).1 (oneI_lt _).2)) alls_nil) (by decide)
theorem alls_files {p : Prof} (h : Rt p) : AllS (shFiles p) 26 := by
  unfold shFiles
  split
  · rcases h.types with ⟨h1, _⟩ | ⟨h1, h2, h3, h4⟩
    · omega
    · have ht : AllS (p.types.map (fun s => Sh.word s.data.toList)) 20 := ⟨fun s hs => by
        obtain ⟨x, hx, rfl⟩ := List.mem_map.1 hs
        exact short_word (h4 x hx), by simpa using h3⟩
      exact alls_app (alls_one (short_word (by decide))) (alls_app (alls_one (short_num _ h.files.1 h.files.2)) (alls_app (alls_one (short_word (by decide))) (alls_app (alls_one (short_num _ h.bytes.1 h.bytes.2)) (alls_app (alls_one (short_word (by decide)))
        (alls_app ht (alls_app (alls_one short_sign) alls_nil))))))
  · exact alls_mono alls_nil (by decide)
theorem alls_keep {p : Prof} (h : Rt p) : AllS (shKeep p) 3 := by
  unfold shKeep
  split
  · exact alls_app (alls_one (short_word (by decide))) (alls_app (alls_one (short_num _ h.keep.1 h.keep.2)) (alls_app (alls_one short_sign) alls_nil))
  · exact alls_mono alls_nil (by decide)
theorem alls_batch (p : Prof) : AllS (shBatch p) 1 := by
  unfold shBatch
  split
  · exact alls_one (short_word (by decide))
  · exact alls_mono alls_nil (by decide)
theorem alls_rest {p : Prof} (h : Rt p) : AllS (shRest p) 23 :=
  alls_app (alls_part (by decide) (short_pick (ws := wJoins) (by decide) h.join.1 h.join.2)) (alls_app (alls_part (by decide) (short_pick (ws := wHistory) (by decide) h.history.1 h.history.2)) (alls_app (alls_part (by decide) (short_pick (ws := wRemove) (by decide) h.remove.1 h.remove.2))
  (alls_app (alls_one (short_word (by decide))) (alls_app (alls_one (short_pick (ws := wReceipts) (by decide) h.level.1 h.level.2)) (alls_app (alls_batch p) (alls_app (alls_one short_sign) (alls_app (alls_one (short_word (by decide))) (alls_app (alls_one (short_num _ h.rate.1 h.rate.2))
  (alls_app (alls_one (short_word (by decide))) (alls_app (alls_one (short_num _ h.down.1 h.down.2)) (alls_app (alls_one (short_word (by decide))) (alls_app (alls_one (short_num _ h.window.1 h.window.2)) (alls_app (alls_one short_sign) (alls_app (alls_keep h) alls_nil))))))))))))))
theorem alls_shapes {p : Prof} (h : Rt p) : AllS (shapesP p) 77 :=
  alls_app (alls_one (short_word (by decide))) (alls_app (alls_one (short_word h.name)) (alls_app (alls_one short_sign) (alls_app (alls_one (short_word (by decide))) (alls_app (alls_edit h) (alls_app (alls_one short_sign)
  (alls_app (alls_part (by decide) (short_pick (ws := wDeletes) (by decide) h.delete.1 h.delete.2)) (alls_app (alls_part (by decide) (short_pick (by decide) (oneI_lt _).1 (oneI_lt _).2)) (alls_app (alls_part (by decide) (short_pick (ws := wThreads) (by decide) h.thread.1 h.thread.2))
  (alls_app (alls_part (by decide) (short_pick (by decide) (oneI_lt _).1 (oneI_lt _).2)) (alls_app (alls_part (by decide) (short_pick (by decide) (oneI_lt _).1 (oneI_lt _).2)) (alls_app (alls_one (short_word (by decide))) (alls_app (alls_one (short_num _ h.size.1 h.size.2))
  (alls_app (alls_one (short_word (by decide))) (alls_app (alls_one (short_num _ h.parts.1 h.parts.2)) (alls_app (alls_one short_sign) (alls_app (alls_files h) (alls_app (alls_rest h) alls_nil)))))))))))))))))
theorem flat_short {l : List Sh} {n : Nat} (h : AllS l n) : (l.flatMap pieceF).length ≤ n * 21 := by
  obtain ⟨h1, h2⟩ := h
  have : (l.flatMap pieceF).length ≤ l.length * 21 := by
    clear h2
    induction l with
    | nil => simp
    | cons s l ih =>
      have := ih (fun x hx => h1 x (by simp [hx]))
      have h3 := (h1 s (by simp)).2
      simp only [List.flatMap_cons, List.length_append, List.length_cons, pieceF, List.length_nil]
      omega
  exact Nat.le_trans this (Nat.mul_le_mul_right 21 h2)
theorem print_len {p : Prof} (h : Rt p) : (printF p).length ≤ 1617 := flat_short (alls_shapes h)

/-- What Parse says of a string. -/
def parseL (s : List UInt8) : Prof × Int × Int := match lexL s with
  | .error (a, e) => (zeroProf, (a : Int), e)
  | .ok ts => parseT ts
theorem parse_print {p : Prof} (h : Rt p) : parseL (printF p) = (p, 0, 0) := by
  obtain ⟨ts, h1, h2⟩ := lex_pieces pieceE (fun s => by cases s <;> rfl) (shapesP p) 0 (fun s hs => ((alls_shapes h).1 s hs).1)
  have hl : lexL (printF p) = .ok ts := by
    unfold lexL
    have := print_len h
    rw [if_neg (by omega)]
    exact h1
  have h3 := reads_parse h []
  unfold Reads at h3
  unfold parseL
  rw [hl]
  simp only
  unfold parseT
  rw [h2, h3]
theorem parseJ_right {ts : List Tok} (hf : Fine ts) (hg : ∀ t ∈ ts, GoodSh t.sh) (h : (parseG opsJ ⟨ts, 0, 0⟩).2.err = 0) : profRight (parseG opsJ ⟨ts, 0, 0⟩).1 = true := by
  have h1 := sim_parse.2 ts 0 hf
  cases hx : parseG opsX (ts.map Tok.sh) with
  | error q =>
    obtain ⟨i, e⟩ := q
    rw [hx] at h1
    obtain ⟨t, _, h2, h3, _⟩ := h1
    exact absurd (h3.symm.trans h) h2
  | ok q =>
    obtain ⟨a, n⟩ := q
    rw [hx] at h1
    rw [h1.1]
    exact gives_parse _ (fun s hs => by
      obtain ⟨t, ht, rfl⟩ := List.mem_map.1 hs
      exact hg t ht) a n hx
theorem right_sizes {p : Prof} (h : profRight p = true) : p.name.size ≤ 20 ∧ p.types.length ≤ 20 ∧ ∀ s ∈ p.types, s.size ≤ 20 := by
  have hr := rt_of h
  have hw : ∀ s : ByteArray, wordL s.data.toList = true → s.size ≤ 20 := fun s hs => by
    have := (short_word hs).2
    change s.data.toList.length ≤ 20 at this
    rwa [Array.length_toList] at this
  refine ⟨hw _ hr.name, ?_, fun s hs => ?_⟩
  · rcases hr.types with ⟨_, _, h3⟩ | ⟨_, _, h3, _⟩
    · rw [h3]; decide
    · exact h3
  · rcases hr.types with ⟨_, _, h3⟩ | ⟨_, _, _, h4⟩
    · rw [h3] at hs; cases hs
    · exact hw s (h4 s hs)
end Go.Proofs.YtnaejabgkfhlbaaDoor
/- Contracts of package lex: blank, Number, next. -/
set_option linter.unusedSimpArgs false
set_option linter.unusedVariables false
namespace Go.Proofs.YtnaejabgkfhlbaaDoor
open Go.RowKit

def blankI (n : Int) : Bool := n == 32 || (n == 9 || n == 10)
theorem u8_eq (c k : UInt8) : ((c.toNat : Int) == (k.toNat : Int)) = (c == k) := by
  rw [Bool.eq_iff_iff, beq_iff_eq, beq_iff_eq]
  constructor
  · intro h; exact UInt8.toNat_inj.1 (by omega)
  · rintro rfl; rfl
theorem blankI_eq (c : UInt8) : blankI c.toNat = blankC c := by
  unfold blankI blankC
  rw [← u8_eq c 32, ← u8_eq c 9, ← u8_eq c 10]
  rfl
set_option maxHeartbeats 400000 in
theorem lexBlank_any (n : Int) (w : World) : Calls Tryd.prog 65 #[.int .u8 n] w fun e w' => e = .returned (.bool (blankI n)) ∧ w = w' := by
  unfold blankI
  by_cases h1 : n = 32
  · subst h1
    go_enter Tryd.func65, Tryd.ntmps65
    go_wp2
    go_ret
    exact ⟨rfl, rfl⟩
  · have d1 : (n == 32) = false := by simpa using h1
    by_cases h2 : n = 9
    · subst h2
      go_enter Tryd.func65, Tryd.ntmps65
      go_wp2
      go_ret
      exact ⟨rfl, rfl⟩
    · have d2 : (n == 9) = false := by simpa using h2
      rw [d1, d2]
      go_enter Tryd.func65, Tryd.ntmps65
      go_wp2
      go_ret
      exact ⟨rfl, rfl⟩
set_option maxHeartbeats 400000 in
theorem lexNext1_any (n : Int) (w : World) : Calls Tryd.prog 84 #[.int .u8 n] w fun e w' => e = .returned (.bool (wordI n)) ∧ w = w' := by
  unfold wordI
  cases h : letterI n
  · go_enter Tryd.func84, Tryd.ntmps84
    go_wp2_with (first | (go_at_call 78; refine (lexLetter_any _ _).mono ?_; rintro e w' ⟨rfl, rfl⟩) | (go_at_call 80; refine (lexDigit_any _ _).mono ?_; rintro e w' ⟨rfl, rfl⟩))
    go_ret
    exact ⟨by simp, rfl⟩
  · go_enter Tryd.func84, Tryd.ntmps84
    go_wp2_with (first | (go_at_call 78; refine (lexLetter_any _ _).mono ?_; rintro e w' ⟨rfl, rfl⟩) | (go_at_call 80; refine (lexDigit_any _ _).mono ?_; rintro e w' ⟨rfl, rfl⟩))
    go_ret
    exact ⟨by simp, rfl⟩
theorem enters_blank : ∀ (args : Array Value) (w : World), (callFunc 65 args).run Tryd.prog w = .ok (.enter 65 args) w := fun _ _ => by kernel_rfl
theorem enters_digit : ∀ (args : Array Value) (w : World), (callFunc 80 args).run Tryd.prog w = .ok (.enter 80 args) w := fun _ _ => by kernel_rfl
theorem enters_next1 : ∀ (args : Array Value) (w : World), (callFunc 84 args).run Tryd.prog w = .ok (.enter 84 args) w := fun _ _ => by kernel_rfl
theorem spanBlank (l : List UInt8) (w : World) (hs : l.length ≤ 9223372036854775807) :
    Calls Tryd.prog 64 #[.string (bs l), .func (.func 65) #[] #[]] w fun e w' => e = .returned (.int .i64 ((l.takeWhile blankC).length : Nat)) ∧ w = w' := by
  have h := lexSpan_any (bs l) 65 blankI w hs enters_blank lexBlank_any
  rw [bs_data, show (fun c : UInt8 => blankI c.toNat) = blankC from funext blankI_eq] at h
  exact h
theorem spanDigit (l : List UInt8) (w : World) (hs : l.length ≤ 9223372036854775807) :
    Calls Tryd.prog 64 #[.string (bs l), .func (.func 80) #[] #[]] w fun e w' => e = .returned (.int .i64 ((l.takeWhile digitC).length : Nat)) ∧ w = w' :=
  lexSpan_any (bs l) 80 digitI w hs enters_digit lexDigit_any
theorem spanWord (l : List UInt8) (w : World) (hs : l.length ≤ 9223372036854775807) :
    Calls Tryd.prog 64 #[.string (bs l), .func (.func 84) #[] #[]] w fun e w' => e = .returned (.int .i64 ((l.takeWhile wordC).length : Nat)) ∧ w = w' :=
  lexSpan_any (bs l) 84 wordI w hs enters_next1 lexNext1_any

theorem tw_len_all {p : UInt8 → Bool} (l : List UInt8) : (l.takeWhile p).length = l.length ↔ l.all p = true := by
  induction l with
  | nil => simp
  | cons a l ih =>
    rw [List.takeWhile_cons]
    cases h : p a
    · simp [h]
    · simp [h, ih]
theorem tw_le {p : UInt8 → Bool} (l : List UInt8) : (l.takeWhile p).length ≤ l.length := by
  have := tw_split (p := p) l
  conv => rhs; rw [this.1]
  simp
theorem val_take (l : List UInt8) (k : Nat) (h : k < l.length) : valF (l.take (k + 1)) = 10 * valF (l.take k) + (l[k].toNat - 48) := by
  rw [List.take_succ_eq_append_getElem h, valF_snoc]
theorem val_lt : ∀ (k : Nat) (l : List UInt8), l.length ≤ k → l.all digitC = true → valF l < 10 ^ k := by
  intro k
  induction k with
  | zero => intro l h _; have : l = [] := List.eq_nil_of_length_eq_zero (by omega); subst this; decide
  | succ k ih =>
    intro l h hd
    rcases List.eq_nil_or_concat l with rfl | ⟨r, c, rfl⟩
    · exact Nat.pos_of_ne_zero (by simp)
    · rw [List.concat_eq_append] at *
      rw [List.all_append] at hd
      simp only [Bool.and_eq_true, List.all_cons, List.all_nil, Bool.and_true] at hd
      have h1 := ih r (by simp at h; omega) hd.1
      have h2 : c.toNat - 48 ≤ 9 := by have := hd.2; simp [digitC, digitI] at this; omega
      rw [valF_snoc, Nat.pow_succ]
      omega
theorem val_ge : ∀ (r : List UInt8) (l : List UInt8), 10 ^ r.length * valF l ≤ valF (l ++ r)
  | [], l => by simp
  | c :: r, l => by
    have ih := val_ge r (l ++ [c])
    rw [List.append_assoc, valF_snoc] at ih
    refine Nat.le_trans ?_ ih
    rw [List.length_cons, Nat.pow_succ, Nat.mul_assoc]
    exact Nat.mul_le_mul_left _ (Nat.le_add_right _ _)
/-- A number with many digits is too great. -/
theorem val_long (l : List UInt8) (h : 13 < l.length) (hd : l.all digitC = true) (h0 : l.head? ≠ some 48) : 1099511627776 < valF l := by
  cases l with
  | nil => simp at h
  | cons c r =>
    have h1 := val_ge r [c]
    have h2 : valF [c] = c.toNat - 48 := by simp [valF]
    simp only [List.all_cons, Bool.and_eq_true] at hd
    have h3 := hd.1
    simp [digitC, digitI] at h3
    have h4 : c.toNat ≠ 48 := fun e => h0 (by
      have : c = 48 := UInt8.toNat_inj.1 e
      rw [this]; rfl)
    have h5 : 10 ^ 13 ≤ 10 ^ r.length := Nat.pow_le_pow_right (by decide) (by simp at h; omega)
    have h6 : 1 ≤ valF [c] := by omega
    have h7 : 10 ^ 13 * 1 ≤ 10 ^ r.length * valF [c] := Nat.mul_le_mul h5 h6
    have h8 : (10 : Nat) ^ 13 = 10000000000000 := by decide
    show _ < valF ([c] ++ r)
    omega
def numOut (l : List UInt8) : Value := match numF l with
  | some n => .tuple #[.int .i64 n, .bool true]
  | none => .tuple #[.int .i64 0, .bool false]
theorem numOut_none {l : List UInt8} (h : numF l = none) : numOut l = .tuple #[.int .i64 0, .bool false] := by unfold numOut; rw [h]
theorem numOut_some {l : List UInt8} {n : Int} (h : numF l = some n) : numOut l = .tuple #[.int .i64 n, .bool true] := by unfold numOut; rw [h]
set_option maxRecDepth 100000 in
set_option maxHeartbeats 1000000 in
theorem lexNumber_any (l : List UInt8) (w : World) (hs : l.length ≤ 1000000) : Calls Tryd.prog 85 #[.string (bs l)] w fun e w' => e = .returned (numOut l) ∧ w = w' := by
  have hz : (bs l).size = l.length := bs_size l
  have htl : (bs l).toList = l := bs_toList l
  have e48 : (⟨#[48]⟩ : ByteArray).toList = [48] := bs_toList [48]
  have e0 : (⟨#[]⟩ : ByteArray).toList = [] := bs_toList []
  have HTW := Lib.hid (spanDigit l w (by omega))
  have HLe := Lib.hid (tw_le (p := digitC) l)
  have HAll := Lib.hid (tw_len_all (p := digitC) l)
  cases l with
  | nil =>
    have HN := Lib.hid (numOut_none (l := []) rfl)
    go_enter Tryd.func85, Tryd.ntmps85
    go_wp2
    go_ret2
    exact ⟨by rw [HN.out]; rfl, rfl⟩
  | cons c r =>
    have hget : ∀ h, (bs (c :: r))[0]'h = c := fun h => rfl
    have ht0 : (c :: r : List UInt8).isEmpty = false := rfl
    generalize hl : c :: r = l at *
    have hpos : 0 < l.length := by rw [← hl]; simp
    cases ha : l.all digitC with
    | false =>
      have HN := Lib.hid (numOut_none (l := l) (by unfold numF; rw [if_pos (.inr (.inl ha))]))
      have hne : (((l.takeWhile digitC).length : Int) != (l.length : Int)) = true := by
        have := HAll.out
        rw [ha] at this
        simp at this ⊢
        omega
      generalize (l.takeWhile digitC).length = m at *
      clear ha hl HAll
      go_enter Tryd.func85, Tryd.ntmps85
      go_wp2_with fail
      refine HTW.out.mono ?_
      rintro e w' ⟨rfl, rfl⟩
      go_wp2_with fail
      go_ret2
      exact ⟨by rw [HN.out]; rfl, rfl⟩
    | true =>
      have hme : (l.takeWhile digitC).length = l.length := HAll.out.2 ha
      rw [hme] at HTW
      clear HAll HLe
      have hne : ((l.length : Int) != (l.length : Int)) = false := by simp
      by_cases h48 : c = 48 ∧ l ≠ [48]
      · have HN := Lib.hid (numOut_none (l := l) (by unfold numF; rw [if_pos (.inr (.inr (.inl ⟨by rw [← hl, h48.1]; rfl, h48.2⟩)))]))
        obtain ⟨rfl, h2⟩ := h48
        have hb : (l == [48]) = false := by simpa using h2
        clear ha hme hl h2
        go_enter Tryd.func85, Tryd.ntmps85
        go_wp2_with fail
        refine HTW.out.mono ?_
        rintro e w' ⟨rfl, rfl⟩
        go_wp2_with fail
        go_ret2
        exact ⟨by rw [HN.out]; rfl, rfl⟩
      · have hcase : (((c.toNat : Int) == 48) = false ∧ l.head? ≠ some 48) ∨ (((c.toNat : Int) == 48) = true ∧ (l == [48]) = true) := by
          by_cases hc : c = 48
          · right
            refine ⟨by rw [hc]; rfl, ?_⟩
            simpa using Classical.not_not.1 (fun h => h48 ⟨hc, h⟩)
          · left
            refine ⟨?_, by rw [← hl]; simpa using hc⟩
            have := u8_eq c 48
            rw [show (c == 48) = false by simpa using hc] at this
            exact this
        by_cases hlen : 13 < l.length
        · have hh : l.head? ≠ some 48 := by
            rcases hcase with h | h
            · exact h.2
            · have : l = [48] := by simpa using h.2
              rw [this] at hlen
              simp at hlen
          have HN := Lib.hid (numOut_none (l := l) (by unfold numF; rw [if_pos (.inr (.inr (.inr (val_long l hlen ha hh))))]))
          have hd1 : ((c.toNat : Int) == 48) = false := by
            rcases hcase with h | h
            · exact h.1
            · have : l = [48] := by simpa using h.2
              rw [this] at hlen
              simp at hlen
          have hd2 : (c == 48) = false := by rw [← u8_eq]; exact hd1
          clear ha hme hl h48 hcase hh
          go_enter Tryd.func85, Tryd.ntmps85
          go_wp2_with fail
          refine HTW.out.mono ?_
          rintro e w' ⟨rfl, rfl⟩
          go_wp2_with fail
          go_ret2
          exact ⟨by rw [HN.out]; rfl, rfl⟩
        · have hlb : valF l < 10 ^ 13 := Nat.lt_of_lt_of_le (val_lt l.length l (Nat.le_refl _) ha) (Nat.pow_le_pow_right (by decide) (by omega))
          have HB : Hid (∀ k, valF (l.take k) < 10000000000000) := Lib.hid (fun k => by
            have h1 := val_lt k (l.take k) (by simp; omega) (by
              rw [List.all_eq_true] at ha ⊢
              exact fun x hx => ha x (List.mem_of_mem_take hx))
            by_cases hk : k ≤ 13
            · exact Nat.lt_of_lt_of_le h1 (Nat.pow_le_pow_right (by decide) hk)
            · rw [List.take_of_length_le (by omega)]
              exact hlb)
          have HD := Lib.hid ha
          have HT := Lib.hid (val_take l)
          have HO : Hid (numOut l = if 1099511627776 < valF l then .tuple #[.int .i64 0, .bool false] else .tuple #[.int .i64 (valF l : Int), .bool true]) := Lib.hid (by
            have h3 : ¬ (l.head? = some 48 ∧ l ≠ [48]) := by
              rcases hcase with h | h
              · exact fun h2 => h.2 h2.1
              · exact fun h2 => h2.2 (by simpa using h.2)
            have h1 : l ≠ [] := by rw [← hl]; simp
            unfold numOut numF
            by_cases hv : 1099511627776 < valF l
            · rw [if_pos (.inr (.inr (.inr hv))), if_pos hv]
            · rw [if_neg (by simp only [not_or]; exact ⟨h1, by rw [ha]; decide, h3, hv⟩), if_neg hv])
          have hl13 : l.length ≤ 13 := by omega
          clear ha hme hl h48 hlen hlb
          rcases hcase with ⟨hd1, hd2⟩ | ⟨hd1, hd2⟩
          rotate_left
          · obtain rfl : l = [48] := by simpa using hd2
            clear hd2
            have hd3 : (c == 48) = true := by rw [← u8_eq]; exact hd1
            obtain rfl : c = 48 := by simpa using hd3
            have HN : Hid (numOut [48] = .tuple #[.int .i64 0, .bool true]) := Lib.hid rfl
            clear HO HB HD HT hd1 hd3 ht0
            go_enter Tryd.func85, Tryd.ntmps85
            go_wp2_with fail
            refine HTW.out.mono ?_
            rintro e w' ⟨rfl, rfl⟩
            go_wp2_with fail
            go_loop [4, 31] (fun n i => (n = .int .i64 0 ∧ i = .int .i64 0) ∨ (n = .int .i64 0 ∧ i = .int .i64 1)) (fun _ i => 1 - (intOf i).toNat)
            case atStart => exact .inl ⟨rfl, rfl⟩
            case round =>
              rcases hrel with ⟨rfl, rfl⟩ | ⟨rfl, rfl⟩
              · go_wp2_with fail
                go_round
                case rel => exact .inr ⟨by go_num, by go_num⟩
                case measure => simp [intOf]
              · go_wp2_with fail
                go_ret2
                exact ⟨by rw [HN.out]; rfl, rfl⟩
          · have hd3 : (c == 48) = false := by rw [← u8_eq]; exact hd1
            clear hd2
            go_enter Tryd.func85, Tryd.ntmps85
            go_wp2_with fail
            refine HTW.out.mono ?_
            rintro e w' ⟨rfl, rfl⟩
            clear HTW
            go_wp2_with fail
            clear hget hd1 hd3
            go_loop [4, 31] (fun n i => ∃ k : Nat, k ≤ l.length ∧ i = .int .i64 k ∧ n = .int .i64 (valF (l.take k) : Nat)) (fun _ i => l.length - (intOf i).toNat)
            case atStart => exact ⟨0, Nat.zero_le _, rfl, rfl⟩
            case round =>
              obtain ⟨k, hk, rfl, rfl⟩ := hrel
              have hb := HB.out k
              by_cases hlt : k < l.length
              · have hget : ∀ h, (bs l)[k]'h = l[k]'hlt := fun h => rfl
                have hdk := List.all_eq_true.1 HD.out l[k] (List.getElem_mem hlt)
                simp only [digitC, digitI, Bool.and_eq_true, decide_eq_true_eq] at hdk
                have HS := Lib.hid (HT.out k hlt)
                have h48 : (48 : Int) ≤ (l[k]'hlt).toNat := hdk.1
                have h57 : ((l[k]'hlt).toNat : Int) ≤ 57 := hdk.2
                clear hdk
                generalize l[k]'hlt = d at *
                generalize valF (l.take k) = v at *
                go_wp2_with fail
                go_round
                case rel => exact ⟨k + 1, by omega, by go_num, by rw [HS.out]; go_num⟩
                case measure => simp [intOf]; omega
              · have he : l.take k = l := List.take_of_length_le (by omega)
                rw [he] at hb ⊢
                have HO2 := Lib.hid HO.out
                clear he HO HT HB HD
                generalize valF l = v at *
                by_cases hv : 1099511627776 < v
                · have HN : Hid (numOut l = .tuple #[.int .i64 0, .bool false]) := Lib.hid (by rw [HO2.out, if_pos hv])
                  go_wp2_with fail
                  go_ret2
                  exact ⟨by rw [HN.out]; rfl, rfl⟩
                · have HN : Hid (numOut l = .tuple #[.int .i64 (v : Int), .bool true]) := Lib.hid (by rw [HO2.out, if_neg hv])
                  go_wp2_with fail
                  go_ret2
                  exact ⟨by rw [HN.out]; rfl, rfl⟩
def tokC (s : Sh) (pos : Int) : Array Value := #[.int .i64 s.kind, .string (bs s.text), .int .i64 s.n, .int .i64 pos]
abbrev zeroTok : Value := .agg #[.int .i64 0, .string ⟨#[]⟩, .int .i64 0, .int .i64 0]
def nextOut (l : List UInt8) : Value := match nextF l with
  | .ok s => .tuple #[.agg (tokC s 0), .int .i64 0]
  | .error e => .tuple #[zeroTok, .int .i64 e]
theorem nextOut_ok {l : List UInt8} {s : Sh} (h : nextF l = .ok s) : nextOut l = .tuple #[.agg (tokC s 0), .int .i64 0] := by unfold nextOut; rw [h]
theorem nextOut_err {l : List UInt8} {e : Int} (h : nextF l = .error e) : nextOut l = .tuple #[zeroTok, .int .i64 e] := by unfold nextOut; rw [h]
theorem tw_take {p : UInt8 → Bool} (l : List UInt8) : l.take (l.takeWhile p).length = l.takeWhile p := by
  have h := (tw_split (p := p) l).1
  generalize l.takeWhile p = t at *
  rw [h]
  simp
set_option maxRecDepth 100000 in
set_option maxHeartbeats 1000000 in
theorem lexNext_any (c : UInt8) (r : List UInt8) (w : World) (hs : (c :: r).length ≤ 1000000) :
    Calls Tryd.prog 66 #[.string (bs (c :: r))] w fun e w' => e = .returned (nextOut (c :: r)) ∧ Below w.heap.size w w' := by
  have hz : (bs (c :: r)).size = (c :: r).length := bs_size _
  have hget : ∀ h, (bs (c :: r))[0]'h = c := fun h => rfl
  have hpos : 0 < (c :: r).length := by simp
  have HSW := Lib.hid (fun w => spanWord (c :: r) w (by omega))
  have HSD := Lib.hid (fun w => spanDigit (c :: r) w (by omega))
  have HEq := Lib.hid (nextF_cons c r)
  have HB : Hid (∀ o, Below w.heap.size w (w.alloc o)) := Lib.hid (fun o => (Below.refl _ _).alloc (Nat.le_refl _) _)
  have htk1 := tw_take (p := wordC) (c :: r)
  have htk2 := tw_take (p := digitC) (c :: r)
  have hle1 := tw_le (p := wordC) (c :: r)
  have hle2 := tw_le (p := digitC) (c :: r)
  generalize c :: r = l at *
  cases hlc : letterC c with
  | true =>
    have hli : letterI c.toNat = true := hlc
    have ht := bs_take l (l.takeWhile wordC).length
    rw [htk1] at ht
    have hE := HEq.out
    rw [if_pos hlc] at hE
    generalize l.takeWhile wordC = t at *
    cases hw : wordL t with
    | true =>
      have hwb : wordB (bs t) = true := hw
      rw [if_pos hw] at hE
      have HN := Lib.hid (nextOut_ok hE)
      clear hE HEq hlc hw htk1 htk2 hle2 HSD
      go_enter Tryd.func66, Tryd.ntmps66
      go_wp2_with fail
      refine (lexLetter_any _ _).mono ?_
      rintro e w' ⟨rfl, rfl⟩
      rw [hli]
      go_wp2_with fail
      refine (HSW.out _).mono ?_
      rintro e w' ⟨rfl, rfl⟩
      go_wp2_with fail
      refine (lexWord_any _ _ (by rw [bs_size]; omega)).mono ?_
      rintro e w' ⟨rfl, rfl⟩
      rw [hwb]
      go_wp2_with fail
      exact bodyPost_ret (v := .tuple #[.agg #[.int .i64 0, .string (bs t), .int .i64 0, .int .i64 0], .int .i64 0]) (by simp [results, Tryd.results66, go_sem]) rfl ⟨by first | (rw [HN.out]; done) | (rw [HN.out]; rfl), HB.out _⟩
    | false =>
      have hwb : wordB (bs t) = false := hw
      rw [if_neg (by rw [hw]; decide)] at hE
      have HN := Lib.hid (nextOut_err hE)
      clear hE HEq hlc hw htk1 htk2 hle2 HSD
      go_enter Tryd.func66, Tryd.ntmps66
      go_wp2_with fail
      refine (lexLetter_any _ _).mono ?_
      rintro e w' ⟨rfl, rfl⟩
      rw [hli]
      go_wp2_with fail
      refine (HSW.out _).mono ?_
      rintro e w' ⟨rfl, rfl⟩
      go_wp2_with fail
      refine (lexWord_any _ _ (by rw [bs_size]; omega)).mono ?_
      rintro e w' ⟨rfl, rfl⟩
      rw [hwb]
      go_wp2_with fail
      exact bodyPost_ret (v := .tuple #[.agg #[.int .i64 0, .string ⟨#[]⟩, .int .i64 0, .int .i64 0], .int .i64 11]) (by simp [results, Tryd.results66, go_sem]) rfl ⟨by first | (rw [HN.out]; done) | (rw [HN.out]; rfl), HB.out _⟩
  | false =>
    have hli : letterI c.toNat = false := hlc
    have hE := HEq.out
    rw [if_neg (by rw [hlc]; decide)] at hE
    cases hdc : digitC c with
    | true =>
      have hdi : digitI c.toNat = true := hdc
      rw [if_pos hdc] at hE
      have ht := bs_take l (l.takeWhile digitC).length
      rw [htk2] at ht
      generalize l.takeWhile digitC = t at *
      cases hn : numF t with
      | some n =>
        rw [hn] at hE
        have HN := Lib.hid (nextOut_ok hE)
        have HO := Lib.hid (numOut_some hn)
        clear hE HEq hlc hdc hn htk1 htk2 hle1 HSW
        go_enter Tryd.func66, Tryd.ntmps66
        go_wp2_with fail
        refine (lexLetter_any _ _).mono ?_
        rintro e w' ⟨rfl, rfl⟩
        rw [hli]
        go_wp2_with fail
        refine (lexDigit_any _ _).mono ?_
        rintro e w' ⟨rfl, rfl⟩
        rw [hdi]
        go_wp2_with fail
        refine (HSD.out _).mono ?_
        rintro e w' ⟨rfl, rfl⟩
        go_wp2_with fail
        refine (lexNumber_any t _ (by omega)).mono ?_
        rintro e w' ⟨rfl, rfl⟩
        rw [HO.out]
        go_wp2_with fail
        exact bodyPost_ret (v := .tuple #[.agg #[.int .i64 1, .string (bs t), .int .i64 n, .int .i64 0], .int .i64 0]) (by simp [results, Tryd.results66, go_sem]) rfl ⟨by first | (rw [HN.out]; done) | (rw [HN.out]; rfl), HB.out _⟩
      | none =>
        rw [hn] at hE
        have HN := Lib.hid (nextOut_err hE)
        have HO := Lib.hid (numOut_none hn)
        clear hE HEq hlc hdc hn htk1 htk2 hle1 HSW
        go_enter Tryd.func66, Tryd.ntmps66
        go_wp2_with fail
        refine (lexLetter_any _ _).mono ?_
        rintro e w' ⟨rfl, rfl⟩
        rw [hli]
        go_wp2_with fail
        refine (lexDigit_any _ _).mono ?_
        rintro e w' ⟨rfl, rfl⟩
        rw [hdi]
        go_wp2_with fail
        refine (HSD.out _).mono ?_
        rintro e w' ⟨rfl, rfl⟩
        go_wp2_with fail
        refine (lexNumber_any t _ (by omega)).mono ?_
        rintro e w' ⟨rfl, rfl⟩
        rw [HO.out]
        go_wp2_with fail
        exact bodyPost_ret (v := .tuple #[.agg #[.int .i64 0, .string ⟨#[]⟩, .int .i64 0, .int .i64 0], .int .i64 3]) (by simp [results, Tryd.results66, go_sem]) rfl ⟨by first | (rw [HN.out]; done) | (rw [HN.out]; rfl), HB.out _⟩
    | false =>
      have hdi : digitI c.toNat = false := hdc
      rw [if_neg (by rw [hdc]; decide)] at hE
      by_cases h59 : c = 59
      · rw [if_pos h59] at hE
        have HN := Lib.hid (nextOut_ok hE)
        subst h59
        have hli : letterI 59 = false := rfl
        have hdi : digitI 59 = false := rfl
        clear hE HEq hlc hdc htk1 htk2 hle1 hle2 HSW HSD
        go_enter Tryd.func66, Tryd.ntmps66
        go_wp2_with fail
        refine (lexLetter_any _ _).mono ?_
        rintro e w' ⟨rfl, rfl⟩
        rw [hli]
        go_wp2_with fail
        refine (lexDigit_any _ _).mono ?_
        rintro e w' ⟨rfl, rfl⟩
        rw [hdi]
        go_wp2_with fail
        exact bodyPost_ret (v := .tuple #[.agg #[.int .i64 2, .string ⟨#[59]⟩, .int .i64 0, .int .i64 0], .int .i64 0]) (by simp [results, Tryd.results66, go_sem]) rfl ⟨by first | (rw [HN.out]; done) | (rw [HN.out]; rfl), HB.out _⟩
      · rw [if_neg h59] at hE
        have HN := Lib.hid (nextOut_err hE)
        have hd2 : (c == 59) = false := by simpa using h59
        have hd1 : ((c.toNat : Int) == 59) = false := by have := u8_eq c 59; rw [hd2] at this; exact this
        clear hE HEq hlc hdc htk1 htk2 hle1 hle2 HSW HSD h59
        go_enter Tryd.func66, Tryd.ntmps66
        go_wp2_with fail
        refine (lexLetter_any _ _).mono ?_
        rintro e w' ⟨rfl, rfl⟩
        rw [hli]
        go_wp2_with fail
        refine (lexDigit_any _ _).mono ?_
        rintro e w' ⟨rfl, rfl⟩
        rw [hdi]
        go_wp2_with fail
        exact bodyPost_ret (v := .tuple #[.agg #[.int .i64 0, .string ⟨#[]⟩, .int .i64 0, .int .i64 0], .int .i64 10]) (by simp [results, Tryd.results66, go_sem]) rfl ⟨by first | (rw [HN.out]; done) | (rw [HN.out]; rfl), HB.out _⟩
end Go.Proofs.YtnaejabgkfhlbaaDoor
/- Contract of lex.Lex. -/
set_option linter.unusedSimpArgs false
set_option linter.unusedVariables false
namespace Go.Proofs.YtnaejabgkfhlbaaDoor
open Go.RowKit

def tokE (t : Tok) : List Value := [.int .i64 t.sh.kind, .string (bs t.sh.text), .int .i64 t.sh.n, .int .i64 t.pos]
theorem slTok : SlTy Tryd.prog 36 41 4 40 := by
  obtain ⟨i, hi, h0, h1, h2⟩ := info_parts (show (Tryd.prog.info? 41).map (fun i => (i.zero, i.size, i.bytes)) = some (some (.agg #[.int .i64 0, .string ByteArray.empty, .int .i64 0, .int .i64 0]), 4, 40) by kernel_rfl)
  exact ⟨Tryd.underlying36, ⟨i, _, hi, h0, h1, h2, rfl⟩, by decide, by decide⟩
theorem tokLay : Lay 4 tokE := ⟨fun _ => rfl, fun x u hu => by simp only [tokE, List.mem_cons, List.not_mem_nil, or_false] at hu; rcases hu with rfl | rfl | rfl | rfl <;> rfl⟩
/-- What Lex leaves. -/
def LexOut (l : List UInt8) (w : World) (e : Ending) (w' : World) : Prop := Below w.heap.size w w' ∧ match lexL l with
  | .ok ts => ∃ A c, e = .returned (.tuple #[.slice A ts.length c, .int .i64 0, .int .i64 0]) ∧ OwnL w' w.heap.size 41 4 tokE A c ts
  | .error (a, x) => e = .returned (.tuple #[.slice none 0 0, .int .i64 a, .int .i64 x])
theorem LexOut.ok {l : List UInt8} {w w' : World} {e : Ending} {ts : List Tok} (h : lexL l = .ok ts) (hb : Below w.heap.size w w') (A : Option Addr) (c : Nat) (he : e = .returned (.tuple #[.slice A ts.length c, .int .i64 0, .int .i64 0])) (ho : OwnL w' w.heap.size 41 4 tokE A c ts) : LexOut l w e w' := by
  unfold LexOut
  rw [h]
  exact ⟨hb, A, c, he, ho⟩
theorem LexOut.err {l : List UInt8} {w w' : World} {e : Ending} {a : Nat} {x : Int} (h : lexL l = .error (a, x)) (hb : Below w.heap.size w w') (he : e = .returned (.tuple #[.slice none 0 0, .int .i64 a, .int .i64 x])) : LexOut l w e w' := by
  unfold LexOut
  rw [h]
  exact ⟨hb, he⟩
theorem tw_all {p : UInt8 → Bool} (l : List UInt8) : (l.takeWhile p).all p = true := by
  induction l with
  | nil => rfl
  | cons a l ih =>
    rw [List.takeWhile_cons]
    cases h : p a
    · rfl
    · simp [h, ih]
theorem lexS_span (l : List UInt8) (k : Nat) : lexS (l.drop k) k = lexS (l.drop (k + ((l.drop k).takeWhile blankC).length)) (k + ((l.drop k).takeWhile blankC).length) := by
  have h := (tw_split (p := blankC) (l.drop k)).1
  have ha := tw_all (p := blankC) (l.drop k)
  conv => lhs; rw [h]
  rw [lexS_blanks _ _ _ ha, List.drop_drop]
/-- Behind the blanks stands none. -/
theorem span_head (l : List UInt8) (k : Nat) (c : UInt8) (r : List UInt8) (h : l.drop (k + ((l.drop k).takeWhile blankC).length) = c :: r) : blankC c = false := by
  have h2 := (tw_split (p := blankC) (l.drop k)).2 c
  rw [List.drop_drop, h] at h2
  exact h2 rfl
set_option maxRecDepth 100000 in
set_option maxHeartbeats 2000000 in
theorem lexLex_any (l : List UInt8) (w : World) (hs : l.length ≤ 1000000) : Calls Tryd.prog 19 #[.string (bs l)] w (LexOut l w) := by
  have hz : (bs l).size = l.length := bs_size l
  go_enter Tryd.func19, Tryd.ntmps19
  by_cases hbig : 2000 < l.length
  · have HE : Hid (lexL l = .error (0, 6)) := Lib.hid (by unfold lexL; rw [if_pos hbig])
    go_wp2_with fail
    exact bodyPost_ret (v := .tuple #[.slice none 0 0, .int .i64 0, .int .i64 6]) (by simp [results, Tryd.results19, go_sem]) rfl (LexOut.err HE.out (Below.refl _ _) rfl)
  have HL : Hid (lexL l = lexS l 0) := Lib.hid (by unfold lexL; rw [if_neg hbig])
  have HB0 := Lib.hid (Below.refl w.heap.size w)
  have hd1 : decide ((2000 : Int) < l.length) = false := by simp; omega
  go_wp2_with fail
  go_loopw [5, 6] (fun o i wr => ∃ (k : Nat) (A : Option Addr) (c : Nat) (ts : List Tok), k ≤ l.length ∧ i = .int .i64 k ∧ o = .slice A ts.length c ∧ OwnL wr w.heap.size 41 4 tokE A c ts ∧ Below w.heap.size w wr ∧ lexS l 0 = addT ts (lexS (l.drop k) k) ∧ ts.length ≤ k) (fun _ i _ => l.length - (intOf i).toNat)
  case atStart => exact ⟨0, none, 0, [], Nat.zero_le _, rfl, rfl, OwnL.nil_, HB0.out, by rw [addT_nil]; rfl, Nat.le_refl _⟩
  case round =>
    obtain ⟨k, A, c, ts, hk, rfl, rfl, hown, hb, hlx, htl⟩ := hrel
    have HO := Lib.hid hown
    have HB := Lib.hid hb
    have hsp := lexS_span l k
    have hhd := span_head l k
    have hle := tw_le (p := blankC) (l.drop k)
    rw [List.length_drop] at hle
    rw [hsp] at hlx
    have HX := Lib.hid hlx
    have HH := Lib.hid hhd
    have HS := Lib.hid (fun w => spanBlank (l.drop k) w (by rw [List.length_drop]; omega))
    have hdr := bs_drop l k
    clear hown hb hsp hhd hlx
    generalize ((l.drop k).takeWhile blankC).length = nb at *
    obtain ⟨m, hm⟩ : ∃ m, m = k + nb := ⟨_, rfl⟩
    have hmi : (k : Int) + nb = m := by omega
    have hml : m ≤ l.length := by omega
    have hkm : k ≤ m := by omega
    rw [← hm] at HX HH
    go_wp2_with fail
    refine (HS.out _).mono ?_
    rintro e w' ⟨rfl, rfl⟩
    clear hdr HS
    have HM := Lib.hid hm
    clear hm hle
    by_cases hend : m = l.length
    · have HE : Hid (lexL l = .ok (ts ++ [⟨.fin, l.length⟩])) := Lib.hid (by rw [HL.out, HX.out, hend, List.drop_length, lexS_nil]; rfl)
      subst hend
      have hd2 : ((l.length : Int) == l.length) = true := by simp
      have hlen2 : ts.length ≤ 1000000 := by omega
      go_wp2_with (first
        | (at_builtin; refine wp_append_l rfl (.tmp 22) (.tmp 25) rfl slTok tokLay w.heap.size (xs := ts) (ys := [(⟨.fin, l.length⟩ : Tok)]) rfl rfl (HO.out.alloc _) rfl rfl (RdL.one wr (⟨.fin, l.length⟩ : Tok) _ _ rfl _ rfl) (by simp; omega) (by have := HB.out.size; simp; omega) ?_; intro A3 c3 w6 hown3 hg3 hb3 hat3; have HO3 := Lib.hid hown3; have HB3 := Lib.hid (((HB.out).alloc HB.out.size _).trans hb3); clear hown3 hg3 hb3 hat3)
        | fail)
      exact bodyPost_ret (v := .tuple #[.slice A3 (ts.length + 1) c3, .int .i64 0, .int .i64 0]) (by simp [results, Tryd.results19, go_sem]) rfl (LexOut.ok HE.out HB3.out A3 c3 (by simp) HO3.out)
    · have hlt : m < l.length := by omega
      have hd2 : ((m : Int) == l.length) = false := by simp; omega
      obtain ⟨d, r, hdr⟩ : ∃ d r, l.drop m = d :: r := by
        cases hq : l.drop m with
        | nil => have := congrArg List.length hq; simp at this; omega
        | cons d r => exact ⟨d, r, rfl⟩
      have hbd := HH.out d r hdr
      have hx := bs_drop l m
      have hlr : (d :: r).length ≤ 1000000 := by rw [← hdr, List.length_drop]; omega
      have hlr2 : m + (d :: r).length = l.length := by rw [← hdr, List.length_drop]; omega
      rw [hdr] at hx
      have HX2 : Hid (lexL l = addT ts (lexS (d :: r) m)) := Lib.hid (by rw [HL.out, HX.out, hdr])
      have HN := Lib.hid (fun w => lexNext_any d r w hlr)
      have HDR := Lib.hid hdr
      clear hdr HH HX HL hend
      go_wp2_with fail
      refine (HN.out _).mono ?_
      rintro e w' ⟨rfl, hbn⟩
      have HBn := Lib.hid (HB.out.trans (hbn.mono HB.out.size))
      have HOn := Lib.hid (HO.out.below hbn)
      clear hbn HO HB HN
      cases hn : nextF (d :: r) with
      | error x =>
        have HE : Hid (lexL l = .error (m, x)) := Lib.hid (by rw [HX2.out, lexS_err hbd hn]; rfl)
        have HP : Hid (nextOut (d :: r) = .tuple #[zeroTok, .int .i64 x]) := Lib.hid (nextOut_err hn)
        have hx0 : (x != 0) = true := by
          have : nextF (d :: r) = .error x := hn
          rw [nextF_cons] at this
          split at this
          · split at this <;> cases this
            rfl
          · split at this
            · split at this <;> cases this
              rfl
            · split at this <;> cases this
              rfl
        clear hn
        rw [HP.out]
        go_wp2_with fail
        exact bodyPost_ret (v := .tuple #[.slice none 0 0, .int .i64 m, .int .i64 x]) (by simp [results, Tryd.results19, go_sem]) rfl (LexOut.err HE.out (HBn.out.alloc HBn.out.size _) rfl)
      | ok sh =>
        have hsl : sh.text.length ≤ (d :: r).length := by
          have := congrArg List.length (nextF_ok hn).2.1
          rw [List.length_append] at this
          omega
        have hs1 : 1 ≤ sh.text.length := by
          obtain ⟨c0, r0, e0, _⟩ := good_head (nextF_ok hn).1
          rw [e0]; simp
        have HE : Hid (lexS l 0 = addT (ts ++ [⟨sh, m⟩]) (lexS (l.drop (m + sh.text.length)) (m + sh.text.length))) := Lib.hid (by
          have h1 := HX2.out
          unfold lexL at h1
          rw [if_neg hbig] at h1
          rw [h1, lexS_next hbd hn, addT_add, ← List.drop_drop, HDR.out])
        have HP : Hid (nextOut (d :: r) = .tuple #[.agg (tokC sh 0), .int .i64 0]) := Lib.hid (nextOut_ok hn)
        have hts : (bs sh.text).size = sh.text.length := bs_size _
        have HL : Hid (lexL l = lexS l 0) := Lib.hid (by unfold lexL; rw [if_neg hbig])
        clear hn
        rw [HP.out]
        unfold tokC
        go_wp2_with (first
          | (at_builtin; refine wp_append_l rfl (.tmp 40) (.tmp 42) rfl slTok tokLay w.heap.size (xs := ts) (ys := [(⟨sh, m⟩ : Tok)]) rfl rfl ((HOn.out.alloc _).alloc _) rfl rfl (RdL.one (w'.alloc (.cells #[.int .i64 sh.kind, .string (bs sh.text), .int .i64 sh.n, .int .i64 m] 41)) (⟨sh, m⟩ : Tok) #[.int .i64 sh.kind, .string (bs sh.text), .int .i64 sh.n, .int .i64 m] 41 rfl (w'.heap.size + 1) (by simp)) (by simp; omega) (by have := HBn.out.size; simp; omega) ?_; intro A3 c3 w6 hown3 hg3 hb3 hat3; have HO3 := Lib.hid hown3; have HB3 := Lib.hid (((HBn.out.alloc HBn.out.size _).alloc (by have := HBn.out.size; simp; omega) _).trans hb3); have c1 : w6.cell? ⟨w'.heap.size, 1, none⟩ = some (.string (bs sh.text)) := (by rw [World.cell?_of_block (hg3.block w'.heap.size (by simp; omega) (fun e => by have := HOn.out.blk _ e.symm; omega))]; simp); clear hown3 hg3 hb3 hat3)
          | fail)
        go_roundw
        case rel => exact ⟨m + sh.text.length, A3, c3, ts ++ [⟨sh, m⟩], by omega, by go_num, by simp, by simpa using HO3.out, HB3.out, HE.out, by simp; omega⟩
        case measure => simp [intOf]; omega
end Go.Proofs.YtnaejabgkfhlbaaDoor
/- Contracts of linguaref11: Blank, Number, token. -/
set_option linter.unusedSimpArgs false
set_option linter.unusedVariables false
namespace Go.Proofs.YtnaejabgkfhlbaaDoor
open Go.RowKit

set_option maxHeartbeats 400000 in
theorem rBlank_any (n : Int) (w : World) : Calls Tryd.prog 73 #[.int .u8 n] w fun e w' => e = .returned (.bool (blankI n)) ∧ w = w' := by
  unfold blankI
  by_cases h1 : n = 32
  · subst h1
    go_enter Tryd.func73, Tryd.ntmps73
    go_wp2
    go_ret
    exact ⟨rfl, rfl⟩
  · have d1 : (n == 32) = false := by simpa using h1
    by_cases h2 : n = 9
    · subst h2
      go_enter Tryd.func73, Tryd.ntmps73
      go_wp2
      go_ret
      exact ⟨rfl, rfl⟩
    · have d2 : (n == 9) = false := by simpa using h2
      by_cases h3 : n = 10
      · subst h3
        go_enter Tryd.func73, Tryd.ntmps73
        go_wp2
        go_ret
        exact ⟨rfl, rfl⟩
      · have d3 : (n == 10) = false := by simpa using h3
        rw [d1, d2, d3]
        go_enter Tryd.func73, Tryd.ntmps73
        go_wp2
        go_ret
        exact ⟨rfl, rfl⟩
theorem val_mono (l : List UInt8) (k : Nat) : valF (l.take k) ≤ valF l := by
  have h := val_ge (l.drop k) (l.take k)
  rw [List.take_append_drop] at h
  have : 1 ≤ 10 ^ (l.drop k).length := Nat.one_le_pow _ _ (by decide)
  calc valF (l.take k) = 1 * valF (l.take k) := (Nat.one_mul _).symm
    _ ≤ 10 ^ (l.drop k).length * valF (l.take k) := Nat.mul_le_mul_right _ this
    _ ≤ _ := h
set_option maxRecDepth 100000 in
set_option maxHeartbeats 1000000 in
theorem rNumber_any (l : List UInt8) (w : World) (hs : l.length ≤ 1000000) (hne : l ≠ []) (ha : l.all digitC = true) : Calls Tryd.prog 89 #[.string (bs l)] w fun e w' => e = .returned (numOut l) ∧ w = w' := by
  have hz : (bs l).size = l.length := bs_size l
  have hpos : 0 < l.length := by cases l with | nil => exact absurd rfl hne | cons c r => simp
  have HD := Lib.hid ha
  have HT := Lib.hid (val_take l)
  have HM := Lib.hid (val_mono l)
  have HNo : Hid (1099511627776 < valF l → numOut l = .tuple #[.int .i64 0, .bool false]) := Lib.hid (fun h => numOut_none (by unfold numF; rw [if_pos (.inr (.inr (.inr h)))]))
  have HEnd : Hid (¬ 1099511627776 < valF l → numOut l = if l.head? = some 48 ∧ l ≠ [48] then .tuple #[.int .i64 0, .bool false] else .tuple #[.int .i64 (valF l : Int), .bool true]) := Lib.hid (fun h => by
    by_cases h2 : l.head? = some 48 ∧ l ≠ [48]
    · rw [if_pos h2]
      exact numOut_none (by unfold numF; rw [if_pos (.inr (.inr (.inl h2)))])
    · rw [if_neg h2]
      exact numOut_some (by unfold numF; rw [if_neg (by simp only [not_or]; exact ⟨hne, by rw [ha]; decide, h2, h⟩)]))
  clear ha
  go_enter Tryd.func89, Tryd.ntmps89
  go_wp2_with fail
  go_loop [4, 5] (fun n i => ∃ k : Nat, k ≤ l.length ∧ i = .int .i64 k ∧ n = .int .i64 (valF (l.take k) : Nat) ∧ valF (l.take k) ≤ 10995116277769) (fun _ i => l.length - (intOf i).toNat)
  case atStart => exact ⟨0, Nat.zero_le _, rfl, rfl, by simp [valF]⟩
  case round =>
    obtain ⟨k, hk, rfl, rfl, hbd⟩ := hrel
    by_cases hlt : k < l.length
    · have hget : ∀ h, (bs l)[k]'h = l[k]'hlt := fun h => rfl
      have hdk := List.all_eq_true.1 HD.out l[k] (List.getElem_mem hlt)
      have HS := Lib.hid (HT.out k hlt)
      have hmk := HM.out k
      have hdi : digitI (l[k]'hlt).toNat = true := hdk
      simp only [digitC, digitI, Bool.and_eq_true, decide_eq_true_eq] at hdk
      have h48 : (48 : Int) ≤ (l[k]'hlt).toNat := hdk.1
      have h57 : ((l[k]'hlt).toNat : Int) ≤ 57 := hdk.2
      have HDI := Lib.hid hdi
      have HMK := Lib.hid hmk
      clear hdk hdi hmk
      generalize l[k]'hlt = d at *
      generalize valF (l.take k) = v at *
      go_wp2_with fail
      refine (rDigit_any _ _).mono ?_
      rintro e w' ⟨rfl, rfl⟩
      rw [HDI.out]
      by_cases hv : 1099511627776 < v
      · have HN := Lib.hid (HNo.out (by have := HMK.out; omega))
        go_wp2_with fail
        go_ret2
        exact ⟨by rw [HN.out]; rfl, rfl⟩
      · go_wp2_with fail
        go_round
        case rel => exact ⟨k + 1, by omega, by go_num, by rw [HS.out]; go_num, by rw [HS.out]; omega⟩
        case measure => simp [intOf]; omega
    · have he : l.take k = l := List.take_of_length_le (by omega)
      rw [he] at hbd ⊢
      have hb1 : decide ((l.length : Int) < 1) = false := by simp; omega
      clear he HM HT HD
      by_cases hv : 1099511627776 < valF l
      · have HN := Lib.hid (HNo.out hv)
        clear HNo HEnd
        generalize valF l = v at *
        by_cases h1 : 1 < l.length
        · have hd1 : decide ((1 : Int) < l.length) = true := by simp; omega
          obtain ⟨c, r, hl⟩ : ∃ c r, l = c :: r := by cases l with | nil => exact absurd rfl hne | cons c r => exact ⟨c, r, rfl⟩
          have hget : ∀ h, (bs l)[0]'h = c := fun h => by subst hl; rfl
          have HL := Lib.hid hl
          clear hl
          go_wp2_with fail
          all_goals go_ret2
          all_goals exact ⟨by rw [HN.out]; rfl, rfl⟩
        · have hd1 : decide ((1 : Int) < l.length) = false := by simp; omega
          go_wp2_with fail
          go_ret2
          exact ⟨by rw [HN.out]; rfl, rfl⟩
      · have hE := HEnd.out hv
        clear HNo HEnd
        by_cases h1 : 1 < l.length
        · have hd1 : decide ((1 : Int) < l.length) = true := by simp; omega
          obtain ⟨c, r, hl⟩ : ∃ c r, l = c :: r := by cases l with | nil => exact absurd rfl hne | cons c r => exact ⟨c, r, rfl⟩
          have hget : ∀ h, (bs l)[0]'h = c := fun h => by subst hl; rfl
          have HL := Lib.hid hl
          clear hl
          have hne48 : l ≠ [48] := fun e => by rw [e] at h1; simp at h1
          have hhd : l.head? = some c := by rw [HL.out]; rfl
          by_cases hc : c = 48
          · have HN : Hid (numOut l = .tuple #[.int .i64 0, .bool false]) := Lib.hid (by rw [hE, if_pos ⟨by rw [hhd, hc], hne48⟩])
            subst hc
            clear hE hne48 hhd
            generalize valF l = v at *
            go_wp2_with fail
            go_ret2
            exact ⟨by rw [HN.out]; rfl, rfl⟩
          · have HN : Hid (numOut l = .tuple #[.int .i64 (valF l : Int), .bool true]) := Lib.hid (by rw [hE, if_neg (fun h => hc (by rw [hhd] at h; simpa using h.1))])
            have hd2 : (c == 48) = false := by simpa using hc
            have hd3 : ((c.toNat : Int) == 48) = false := by have := u8_eq c 48; rw [hd2] at this; exact this
            clear hE hne48 hc hhd
            generalize valF l = v at *
            go_wp2_with fail
            go_ret2
            exact ⟨by rw [HN.out]; rfl, rfl⟩
        · have hd1 : decide ((1 : Int) < l.length) = false := by simp; omega
          have HN : Hid (numOut l = .tuple #[.int .i64 (valF l : Int), .bool true]) := Lib.hid (by
            rw [hE, if_neg]
            rintro ⟨h2, h3⟩
            cases l with
            | nil => exact hne rfl
            | cons c r =>
              have : r = [] := List.eq_nil_of_length_eq_zero (by simp only [List.length_cons] at h1; omega)
              subst this
              simp at h2
              exact h3 (by rw [h2]))
          clear hE
          generalize valF l = v at *
          go_wp2_with fail
          go_ret2
          exact ⟨by rw [HN.out]; rfl, rfl⟩
def nextOutA (l : List UInt8) (a : Int) : Value := match nextF l with
  | .ok s => .tuple #[.agg (tokC s a), .int .i64 0]
  | .error e => .tuple #[zeroTok, .int .i64 e]
theorem nextOutA_ok {l : List UInt8} {a : Int} {s : Sh} (h : nextF l = .ok s) : nextOutA l a = .tuple #[.agg (tokC s a), .int .i64 0] := by unfold nextOutA; rw [h]
theorem nextOutA_err {l : List UInt8} {a : Int} {e : Int} (h : nextF l = .error e) : nextOutA l a = .tuple #[zeroTok, .int .i64 e] := by unfold nextOutA; rw [h]
theorem wordL_len {t : List UInt8} {c : UInt8} (ha : t.all wordC = true) (hc : t.head? = some c) (hl : letterC c = true) : wordL t = decide (t.length ≤ 20) := by
  cases t with
  | nil => simp at hc
  | cons d r =>
    simp at hc
    subst hc
    change letterI d.toNat = true at hl
    show (letterI d.toNat && decide (r.length ≤ 19) && (d :: r).all wordC) = _
    rw [hl, ha]
    simp
theorem tw_step {p : UInt8 → Bool} {l q : List UInt8} {a m : Nat} (hq : l.drop a = q) (ham : a ≤ m) (hm : m < l.length) (h : (q.take (m - a)).all p = true) (hp : p l[m] = true) : (q.take (m + 1 - a)).all p = true := by
  have hj : m - a < q.length := by rw [← hq, List.length_drop]; omega
  rw [show m + 1 - a = (m - a) + 1 by omega, List.take_succ_eq_append_getElem hj, List.all_append, h]
  have e : q[m - a] = l[m] := by
    subst hq
    rw [List.getElem_drop]
    congr 1
    omega
  simp [e, hp]
theorem tw_exit {p : UInt8 → Bool} {l q : List UInt8} {a m : Nat} (hq : l.drop a = q) (ham : a ≤ m) (hm : m ≤ l.length) (h : (q.take (m - a)).all p = true) (hp : ∀ hlt : m < l.length, p (l[m]'hlt) = false) : (q.takeWhile p).length = m - a := by
  refine takeWhile_at p q (m - a) h (by rw [← hq, List.length_drop]; omega) fun c hc => ?_
  rw [← hq, List.getElem?_drop, show a + (m - a) = m by omega] at hc
  obtain ⟨hlt, rfl⟩ := List.getElem?_eq_some_iff.1 hc
  exact hp hlt
theorem tw_cut {p : UInt8 → Bool} {l q : List UInt8} {a m : Nat} (hq : l.drop a = q) (ham : a ≤ m) (h : (q.takeWhile p).length = m - a) : (bs l).extract a m = bs (q.takeWhile p) := by
  rw [bs_extract, ← tw_take, h, ← hq, List.drop_take]
set_option maxRecDepth 100000 in
set_option maxHeartbeats 2000000 in
theorem rToken_any (l : List UInt8) (a : Nat) (c : UInt8) (r : List UInt8) (hq : l.drop a = c :: r) (w : World) (hs : l.length ≤ 1000000) :
    Calls Tryd.prog 74 #[.string (bs l), .int .i64 a] w fun e w' => e = .returned (nextOutA (l.drop a) a) ∧ Below w.heap.size w w' := by
  have hz : (bs l).size = l.length := bs_size _
  have hal : a < l.length := by
    have := congrArg List.length hq
    rw [List.length_drop, List.length_cons] at this
    omega
  have hgc : ∀ h, (bs l)[a]'h = c := fun h => by
    show l[a]'hal = c
    have : (l.drop a)[0]? = some c := by rw [hq]; rfl
    rw [List.getElem?_drop, Nat.add_zero] at this
    exact (List.getElem?_eq_some_iff.1 this).2
  have HQ := Lib.hid hq
  have HEq := Lib.hid (nextF_cons c r)
  have HB : Hid (∀ o, Below w.heap.size w (w.alloc o)) := Lib.hid (fun o => (Below.refl _ _).alloc (Nat.le_refl _) _)
  clear hq
  cases hlc : letterC c with
  | true =>
    have hli : letterI c.toNat = true := hlc
    have HLC := Lib.hid hlc
    have H1 : Hid (((l.drop a).take (a + 1 - a)).all wordC = true) := Lib.hid (by
      rw [HQ.out, show a + 1 - a = 1 by omega]
      simp [(letter_not hlc).2])
    clear hlc
    go_enter Tryd.func74, Tryd.ntmps74
    go_wp2_with fail
    refine (rLetter_any _ _).mono ?_
    rintro e w' ⟨rfl, rfl⟩
    rw [hli]
    go_wp2_with fail
    clear hgc hli
    go_loop [6] (fun e => ∃ m : Nat, a + 1 ≤ m ∧ m ≤ l.length ∧ e = .int .i64 m ∧ ((l.drop a).take (m - a)).all wordC = true) (fun e => l.length - (intOf e).toNat)
    case atStart => exact ⟨a + 1, Nat.le_refl _, hal, by go_num, H1.out⟩
    case round =>
      obtain ⟨m, ham1, hml, rfl, hall⟩ := hrel
      have ham : a ≤ m := by omega
      have HA := Lib.hid hall
      clear hall H1
      by_cases hlt : m < l.length
      · have hget : ∀ h, (bs l)[m]'h = l[m]'hlt := fun h => rfl
        have HSt := Lib.hid (tw_step (p := wordC) rfl ham hlt HA.out)
        have HX := Lib.hid (tw_exit (p := wordC) (q := l.drop a) rfl ham hml HA.out)
        have HWd : Hid (wordC (l[m]'hlt) = (letterI (l[m]'hlt).toNat || digitI (l[m]'hlt).toNat)) := Lib.hid rfl
        generalize hd : l[m]'hlt = d at *
        have HD := Lib.hid hd
        clear hd
        cases h1 : letterI d.toNat with
        | true =>
          have HG := Lib.hid (HSt.out (by rw [HWd.out, h1]; rfl))
          clear HSt HX HWd
          go_wp2_with fail
          refine (rLetter_any _ _).mono ?_
          rintro e w' ⟨rfl, rfl⟩
          rw [h1]
          go_wp2_with fail
          go_round
          case rel => exact ⟨m + 1, by omega, by omega, by go_num, HG.out⟩
          case measure => simp [intOf]; omega
        | false =>
          cases h2 : digitI d.toNat with
          | true =>
            have HG := Lib.hid (HSt.out (by rw [HWd.out, h1, h2]; rfl))
            clear HSt HX HWd
            go_wp2_with fail
            refine (rLetter_any _ _).mono ?_
            rintro e w' ⟨rfl, rfl⟩
            rw [h1]
            go_wp2_with fail
            refine (rDigit_any _ _).mono ?_
            rintro e w' ⟨rfl, rfl⟩
            rw [h2]
            go_wp2_with fail
            go_round
            case rel => exact ⟨m + 1, by omega, by omega, by go_num, HG.out⟩
            case measure => simp [intOf]; omega
          | false =>
            have HG := Lib.hid (HX.out (fun hlt2 => by rw [HD.out, HWd.out, h1, h2]; rfl))
            clear HSt HX HWd
            have ht := Lib.hid (show ((l.drop a).takeWhile wordC).length = m - a from HG.out)
            have hsub : (m : Int) - a = ((l.drop a).takeWhile wordC).length := by have := ht.out; omega
            have hcut := tw_cut (p := wordC) rfl ham ht.out
            have HW := Lib.hid (wordL_len (t := (l.drop a).takeWhile wordC) (c := c) (tw_all _) (by rw [HQ.out, List.takeWhile_cons, (letter_not HLC.out).2]; rfl) HLC.out)
            have HE := HEq.out
            rw [if_pos HLC.out, ← HQ.out] at HE
            have HE := Lib.hid HE
            clear HEq
            generalize (l.drop a).takeWhile wordC = t at *
            by_cases h20 : 20 < t.length
            · have hd : decide ((20 : Int) < t.length) = true := by simp; omega
              have HN : Hid (nextOutA (l.drop a) a = .tuple #[zeroTok, .int .i64 11]) := Lib.hid (nextOutA_err (by rw [HE.out, if_neg (by rw [HW.out]; simp; omega)]))
              clear HE HW ht
              ((go_wp2_with fail); (refine (rLetter_any _ _).mono ?_); (rintro e w' ⟨rfl, rfl⟩); (rw [h1]); (go_wp2_with fail); (refine (rDigit_any _ _).mono ?_); (rintro e w' ⟨rfl, rfl⟩); (rw [h2]))
              go_wp2_with fail
              exact bodyPost_ret (v := .tuple #[.agg #[.int .i64 0, .string ⟨#[]⟩, .int .i64 0, .int .i64 0], .int .i64 11]) (by simp [results, Tryd.results74, go_sem]) rfl ⟨by first | (rw [HN.out]; done) | (rw [HN.out]; rfl), HB.out _⟩
            · have hd : decide ((20 : Int) < t.length) = false := by simp; omega
              have HN : Hid (nextOutA (l.drop a) a = .tuple #[.agg (tokC (.word t) a), .int .i64 0]) := Lib.hid (nextOutA_ok (by rw [HE.out, if_pos (by rw [HW.out]; simp; omega)]))
              clear HE HW ht
              ((go_wp2_with fail); (refine (rLetter_any _ _).mono ?_); (rintro e w' ⟨rfl, rfl⟩); (rw [h1]); (go_wp2_with fail); (refine (rDigit_any _ _).mono ?_); (rintro e w' ⟨rfl, rfl⟩); (rw [h2]))
              go_wp2_with fail
              exact bodyPost_ret (v := .tuple #[.agg #[.int .i64 0, .string (bs t), .int .i64 0, .int .i64 a], .int .i64 0]) (by simp [results, Tryd.results74, go_sem]) rfl ⟨by first | (rw [HN.out]; done) | (rw [HN.out]; rfl), HB.out _⟩
      · have HG := Lib.hid (tw_exit (p := wordC) (q := l.drop a) rfl ham hml HA.out (fun h => absurd h hlt))
        have ht := Lib.hid (show ((l.drop a).takeWhile wordC).length = m - a from HG.out)
        have hsub : (m : Int) - a = ((l.drop a).takeWhile wordC).length := by have := ht.out; omega
        have hcut := tw_cut (p := wordC) rfl ham ht.out
        have HW := Lib.hid (wordL_len (t := (l.drop a).takeWhile wordC) (c := c) (tw_all _) (by rw [HQ.out, List.takeWhile_cons, (letter_not HLC.out).2]; rfl) HLC.out)
        have HE := HEq.out
        rw [if_pos HLC.out, ← HQ.out] at HE
        have HE := Lib.hid HE
        clear HEq
        generalize (l.drop a).takeWhile wordC = t at *
        by_cases h20 : 20 < t.length
        · have hd : decide ((20 : Int) < t.length) = true := by simp; omega
          have HN : Hid (nextOutA (l.drop a) a = .tuple #[zeroTok, .int .i64 11]) := Lib.hid (nextOutA_err (by rw [HE.out, if_neg (by rw [HW.out]; simp; omega)]))
          clear HE HW ht
          skip
          go_wp2_with fail
          exact bodyPost_ret (v := .tuple #[.agg #[.int .i64 0, .string ⟨#[]⟩, .int .i64 0, .int .i64 0], .int .i64 11]) (by simp [results, Tryd.results74, go_sem]) rfl ⟨by first | (rw [HN.out]; done) | (rw [HN.out]; rfl), HB.out _⟩
        · have hd : decide ((20 : Int) < t.length) = false := by simp; omega
          have HN : Hid (nextOutA (l.drop a) a = .tuple #[.agg (tokC (.word t) a), .int .i64 0]) := Lib.hid (nextOutA_ok (by rw [HE.out, if_pos (by rw [HW.out]; simp; omega)]))
          clear HE HW ht
          skip
          go_wp2_with fail
          exact bodyPost_ret (v := .tuple #[.agg #[.int .i64 0, .string (bs t), .int .i64 0, .int .i64 a], .int .i64 0]) (by simp [results, Tryd.results74, go_sem]) rfl ⟨by first | (rw [HN.out]; done) | (rw [HN.out]; rfl), HB.out _⟩
  | false =>
    have hli : letterI c.toNat = false := hlc
    have hE := HEq.out
    rw [if_neg (by rw [hlc]; decide), ← HQ.out] at hE
    clear hlc HEq
    cases hdc : digitC c with
    | true =>
      have hdi : digitI c.toNat = true := hdc
      rw [if_pos hdc] at hE
      have HE := Lib.hid hE
      have HDC := Lib.hid hdc
      have H1 : Hid (((l.drop a).take (a + 1 - a)).all digitC = true) := Lib.hid (by
        rw [HQ.out, show a + 1 - a = 1 by omega]
        simp [hdc])
      clear hdc hE
      go_enter Tryd.func74, Tryd.ntmps74
      go_wp2_with fail
      refine (rLetter_any _ _).mono ?_
      rintro e w' ⟨rfl, rfl⟩
      rw [hli]
      go_wp2_with fail
      refine (rDigit_any _ _).mono ?_
      rintro e w' ⟨rfl, rfl⟩
      rw [hdi]
      go_wp2_with fail
      clear hgc hli hdi
      go_loop [6] (fun e => ∃ m : Nat, a + 1 ≤ m ∧ m ≤ l.length ∧ e = .int .i64 m ∧ ((l.drop a).take (m - a)).all digitC = true) (fun e => l.length - (intOf e).toNat)
      case atStart => exact ⟨a + 1, Nat.le_refl _, hal, by go_num, H1.out⟩
      case round =>
        obtain ⟨m, ham1, hml, rfl, hall⟩ := hrel
        have ham : a ≤ m := by omega
        have HA := Lib.hid hall
        clear hall H1
        by_cases hlt : m < l.length
        · have hget : ∀ h, (bs l)[m]'h = l[m]'hlt := fun h => rfl
          have HSt := Lib.hid (tw_step (p := digitC) rfl ham hlt HA.out)
          have HX := Lib.hid (tw_exit (p := digitC) (q := l.drop a) rfl ham hml HA.out)
          have HWd : Hid (digitC (l[m]'hlt) = digitI (l[m]'hlt).toNat) := Lib.hid rfl
          generalize hd : l[m]'hlt = d at *
          have HD := Lib.hid hd
          clear hd
          cases h2 : digitI d.toNat with
          | true =>
            have HG := Lib.hid (HSt.out (by rw [HWd.out, h2]))
            clear HSt HX HWd
            go_wp2_with fail
            refine (rDigit_any _ _).mono ?_
            rintro e w' ⟨rfl, rfl⟩
            rw [h2]
            go_wp2_with fail
            go_round
            case rel => exact ⟨m + 1, by omega, by omega, by go_num, HG.out⟩
            case measure => simp [intOf]; omega
          | false =>
            have HG := Lib.hid (HX.out (fun hlt2 => by rw [HD.out, HWd.out, h2]))
            clear HSt HX HWd
            have ht := Lib.hid (show ((l.drop a).takeWhile digitC).length = m - a from HG.out)
            have hcut := tw_cut (p := digitC) rfl ham ht.out
            have HT1 : Hid ((l.drop a).takeWhile digitC ≠ []) := Lib.hid (by rw [HQ.out, List.takeWhile_cons, HDC.out]; simp)
            have HT2 := Lib.hid (tw_all (p := digitC) (l.drop a))
            have htl := tw_le (p := digitC) (l.drop a)
            have hdl : (l.drop a).length ≤ 1000000 := by rw [List.length_drop]; omega
            generalize (l.drop a).takeWhile digitC = t at *
            have HNu := Lib.hid (fun w => rNumber_any t w (by omega) HT1.out HT2.out)
            clear ht htl hdl HT1 HT2
            cases hn : numF t with
            | some n =>
              have HO := Lib.hid (numOut_some hn)
              have HN : Hid (nextOutA (l.drop a) a = .tuple #[.agg (tokC (.num t n) a), .int .i64 0]) := Lib.hid (nextOutA_ok (by rw [HE.out, hn]))
              clear HE hn
              ((go_wp2_with fail); (refine (rDigit_any _ _).mono ?_); (rintro e w' ⟨rfl, rfl⟩); (rw [h2]))
              go_wp2_with fail
              refine (HNu.out _).mono ?_
              rintro e w' ⟨rfl, rfl⟩
              rw [HO.out]
              go_wp2_with fail
              exact bodyPost_ret (v := .tuple #[.agg #[.int .i64 1, .string (bs t), .int .i64 n, .int .i64 a], .int .i64 0]) (by simp [results, Tryd.results74, go_sem]) rfl ⟨by first | (rw [HN.out]; done) | (rw [HN.out]; rfl), HB.out _⟩
            | none =>
              have HO := Lib.hid (numOut_none hn)
              have HN : Hid (nextOutA (l.drop a) a = .tuple #[zeroTok, .int .i64 3]) := Lib.hid (nextOutA_err (by rw [HE.out, hn]))
              clear HE hn
              ((go_wp2_with fail); (refine (rDigit_any _ _).mono ?_); (rintro e w' ⟨rfl, rfl⟩); (rw [h2]))
              go_wp2_with fail
              refine (HNu.out _).mono ?_
              rintro e w' ⟨rfl, rfl⟩
              rw [HO.out]
              go_wp2_with fail
              exact bodyPost_ret (v := .tuple #[.agg #[.int .i64 0, .string ⟨#[]⟩, .int .i64 0, .int .i64 0], .int .i64 3]) (by simp [results, Tryd.results74, go_sem]) rfl ⟨by first | (rw [HN.out]; done) | (rw [HN.out]; rfl), HB.out _⟩
        · have HG := Lib.hid (tw_exit (p := digitC) (q := l.drop a) rfl ham hml HA.out (fun h => absurd h hlt))
          have ht := Lib.hid (show ((l.drop a).takeWhile digitC).length = m - a from HG.out)
          have hcut := tw_cut (p := digitC) rfl ham ht.out
          have HT1 : Hid ((l.drop a).takeWhile digitC ≠ []) := Lib.hid (by rw [HQ.out, List.takeWhile_cons, HDC.out]; simp)
          have HT2 := Lib.hid (tw_all (p := digitC) (l.drop a))
          have htl := tw_le (p := digitC) (l.drop a)
          have hdl : (l.drop a).length ≤ 1000000 := by rw [List.length_drop]; omega
          generalize (l.drop a).takeWhile digitC = t at *
          have HNu := Lib.hid (fun w => rNumber_any t w (by omega) HT1.out HT2.out)
          clear ht htl hdl HT1 HT2
          cases hn : numF t with
          | some n =>
            have HO := Lib.hid (numOut_some hn)
            have HN : Hid (nextOutA (l.drop a) a = .tuple #[.agg (tokC (.num t n) a), .int .i64 0]) := Lib.hid (nextOutA_ok (by rw [HE.out, hn]))
            clear HE hn
            skip
            go_wp2_with fail
            refine (HNu.out _).mono ?_
            rintro e w' ⟨rfl, rfl⟩
            rw [HO.out]
            go_wp2_with fail
            exact bodyPost_ret (v := .tuple #[.agg #[.int .i64 1, .string (bs t), .int .i64 n, .int .i64 a], .int .i64 0]) (by simp [results, Tryd.results74, go_sem]) rfl ⟨by first | (rw [HN.out]; done) | (rw [HN.out]; rfl), HB.out _⟩
          | none =>
            have HO := Lib.hid (numOut_none hn)
            have HN : Hid (nextOutA (l.drop a) a = .tuple #[zeroTok, .int .i64 3]) := Lib.hid (nextOutA_err (by rw [HE.out, hn]))
            clear HE hn
            skip
            go_wp2_with fail
            refine (HNu.out _).mono ?_
            rintro e w' ⟨rfl, rfl⟩
            rw [HO.out]
            go_wp2_with fail
            exact bodyPost_ret (v := .tuple #[.agg #[.int .i64 0, .string ⟨#[]⟩, .int .i64 0, .int .i64 0], .int .i64 3]) (by simp [results, Tryd.results74, go_sem]) rfl ⟨by first | (rw [HN.out]; done) | (rw [HN.out]; rfl), HB.out _⟩
    | false =>
      have hdi : digitI c.toNat = false := hdc
      rw [if_neg (by rw [hdc]; decide)] at hE
      clear hdc
      by_cases h59 : c = 59
      · have HN : Hid (nextOutA (l.drop a) a = .tuple #[.agg (tokC .sign a), .int .i64 0]) := Lib.hid (nextOutA_ok (by rw [hE, if_pos h59]))
        subst h59
        clear hE
        have hli : letterI 59 = false := rfl
        have hdi : digitI 59 = false := rfl
        go_enter Tryd.func74, Tryd.ntmps74
        go_wp2_with fail
        refine (rLetter_any _ _).mono ?_
        rintro e w' ⟨rfl, rfl⟩
        rw [hli]
        go_wp2_with fail
        refine (rDigit_any _ _).mono ?_
        rintro e w' ⟨rfl, rfl⟩
        rw [hdi]
        go_wp2_with fail
        exact bodyPost_ret (v := .tuple #[.agg #[.int .i64 2, .string ⟨#[59]⟩, .int .i64 0, .int .i64 a], .int .i64 0]) (by simp [results, Tryd.results74, go_sem]) rfl ⟨by first | (rw [HN.out]; done) | (rw [HN.out]; rfl), HB.out _⟩
      · have HN : Hid (nextOutA (l.drop a) a = .tuple #[zeroTok, .int .i64 10]) := Lib.hid (nextOutA_err (by rw [hE, if_neg h59]))
        have hd2 : (c == 59) = false := by simpa using h59
        have hd1 : ((c.toNat : Int) == 59) = false := by have := u8_eq c 59; rw [hd2] at this; exact this
        have hd3 : ((c.toNat : Int) != 59) = true := by rw [bne, hd1]; rfl
        have hd4 : (c != 59) = true := by rw [bne, hd2]; rfl
        clear hE h59
        go_enter Tryd.func74, Tryd.ntmps74
        go_wp2_with fail
        refine (rLetter_any _ _).mono ?_
        rintro e w' ⟨rfl, rfl⟩
        rw [hli]
        go_wp2_with fail
        refine (rDigit_any _ _).mono ?_
        rintro e w' ⟨rfl, rfl⟩
        rw [hdi]
        go_wp2_with fail
        exact bodyPost_ret (v := .tuple #[.agg #[.int .i64 0, .string ⟨#[]⟩, .int .i64 0, .int .i64 0], .int .i64 10]) (by simp [results, Tryd.results74, go_sem]) rfl ⟨by first | (rw [HN.out]; done) | (rw [HN.out]; rfl), HB.out _⟩
end Go.Proofs.YtnaejabgkfhlbaaDoor
/- Contract of linguaref11.Lex. -/
set_option linter.unusedSimpArgs false
set_option linter.unusedVariables false
namespace Go.Proofs.YtnaejabgkfhlbaaDoor
open Go.RowKit

set_option maxRecDepth 100000 in
set_option maxHeartbeats 2000000 in
theorem rLex_any (l : List UInt8) (w : World) (hs : l.length ≤ 1000000) : Calls Tryd.prog 36 #[.string (bs l)] w (LexOut l w) := by
  have hz : (bs l).size = l.length := bs_size l
  go_enter Tryd.func36, Tryd.ntmps36
  by_cases hbig : 2000 < l.length
  · have HE : Hid (lexL l = .error (0, 6)) := Lib.hid (by unfold lexL; rw [if_pos hbig])
    go_wp2_with fail
    exact bodyPost_ret (v := .tuple #[.slice none 0 0, .int .i64 0, .int .i64 6]) (by simp [results, Tryd.results36, go_sem]) rfl (LexOut.err HE.out (Below.refl _ _) rfl)
  have HL : Hid (lexL l = lexS l 0) := Lib.hid (by unfold lexL; rw [if_neg hbig])
  have HB0 := Lib.hid (Below.refl w.heap.size w)
  have hd1 : decide ((2000 : Int) < l.length) = false := by simp; omega
  go_wp2_with fail
  go_loopw [5, 6] (fun o i wr => ∃ (k : Nat) (A : Option Addr) (c : Nat) (ts : List Tok), k ≤ l.length ∧ i = .int .i64 k ∧ o = .slice A ts.length c ∧ OwnL wr w.heap.size 41 4 tokE A c ts ∧ Below w.heap.size w wr ∧ lexS l 0 = addT ts (lexS (l.drop k) k) ∧ ts.length ≤ k) (fun _ i _ => l.length - (intOf i).toNat)
  case atStart => exact ⟨0, none, 0, [], Nat.zero_le _, rfl, rfl, OwnL.nil_, HB0.out, by rw [addT_nil]; rfl, Nat.le_refl _⟩
  case round =>
    obtain ⟨m, A, c, ts, hml, rfl, rfl, hown, hb, hlx, htl⟩ := hrel
    have HO := Lib.hid hown
    have HB := Lib.hid hb
    have HX := Lib.hid hlx
    clear hown hb hlx
    by_cases hlt : m < l.length
    · obtain ⟨d, r, hdr⟩ : ∃ d r, l.drop m = d :: r := by
        cases hq : l.drop m with
        | nil => have := congrArg List.length hq; simp at this; omega
        | cons d r => exact ⟨d, r, rfl⟩
      have hgc : ∀ h, (bs l)[m]'h = d := fun h => by
        show l[m]'hlt = d
        have : (l.drop m)[0]? = some d := by rw [hdr]; rfl
        rw [List.getElem?_drop, Nat.add_zero] at this
        exact (List.getElem?_eq_some_iff.1 this).2
      have hlr2 : m + (d :: r).length = l.length := by rw [← hdr, List.length_drop]; omega
      have HX2 : Hid (lexS l 0 = addT ts (lexS (d :: r) m)) := Lib.hid (by rw [HX.out, hdr])
      have HN := Lib.hid (fun w => rToken_any l m d r hdr w hs)
      have HDR := Lib.hid hdr
      clear hdr HX
      have hbe := blankI_eq d
      cases hbd : blankC d with
      | true =>
        rw [hbd] at hbe
        have HBE := Lib.hid hbe
        have HE : Hid (lexS l 0 = addT ts (lexS (l.drop (m + 1)) (m + 1))) := Lib.hid (by rw [HX2.out, lexS_blank hbd, ← List.drop_drop, HDR.out]; rfl)
        clear hbd hbe HN HX2
        go_wp2_with fail
        refine (rBlank_any _ _).mono ?_
        rintro e w' ⟨rfl, rfl⟩
        rw [HBE.out]
        go_wp2_with fail
        go_roundw
        case rel => exact ⟨m + 1, A, c, ts, by omega, by go_num, rfl, HO.out, HB.out, HE.out, by omega⟩
        case measure => simp [intOf]; omega
      | false =>
        rw [hbd] at hbe
        have HBE := Lib.hid hbe
        clear hbe
        go_wp2_with fail
        refine (rBlank_any _ _).mono ?_
        rintro e w' ⟨rfl, rfl⟩
        rw [HBE.out]
        go_wp2_with fail
        refine (HN.out _).mono ?_
        rintro e w' ⟨rfl, hbn⟩
        have HBn := Lib.hid (HB.out.trans (hbn.mono HB.out.size))
        have HOn := Lib.hid (HO.out.below hbn)
        clear hbn HO HB HN
        cases hn : nextF (d :: r) with
        | error x =>
          have HE : Hid (lexL l = .error (m, x)) := Lib.hid (by rw [HL.out, HX2.out, lexS_err hbd hn]; rfl)
          have HP : Hid (nextOutA (l.drop m) m = .tuple #[zeroTok, .int .i64 x]) := Lib.hid (nextOutA_err (by rw [HDR.out, hn]))
          have hx0 : (x != 0) = true := by
            have : nextF (d :: r) = .error x := hn
            rw [nextF_cons] at this
            split at this
            · split at this <;> cases this
              rfl
            · split at this
              · split at this <;> cases this
                rfl
              · split at this <;> cases this
                rfl
          clear hn
          rw [HP.out]
          go_wp2_with fail
          exact bodyPost_ret (v := .tuple #[.slice none 0 0, .int .i64 m, .int .i64 x]) (by simp [results, Tryd.results36, go_sem]) rfl (LexOut.err HE.out (HBn.out.alloc HBn.out.size _) rfl)
        | ok sh =>
          have hsl : sh.text.length ≤ (d :: r).length := by
            have := congrArg List.length (nextF_ok hn).2.1
            rw [List.length_append] at this
            omega
          have hs1 : 1 ≤ sh.text.length := by
            obtain ⟨c0, r0, e0, _⟩ := good_head (nextF_ok hn).1
            rw [e0]; simp
          have HE : Hid (lexS l 0 = addT (ts ++ [⟨sh, m⟩]) (lexS (l.drop (m + sh.text.length)) (m + sh.text.length))) := Lib.hid (by
            rw [HX2.out, lexS_next hbd hn, addT_add, ← List.drop_drop, HDR.out])
          have HP : Hid (nextOutA (l.drop m) m = .tuple #[.agg (tokC sh m), .int .i64 0]) := Lib.hid (nextOutA_ok (by rw [HDR.out, hn]))
          have hts : (bs sh.text).size = sh.text.length := bs_size _
          clear hn
          rw [HP.out]
          unfold tokC
          go_wp2_with (first
            | (at_builtin; refine wp_append_l rfl (.tmp 32) (.tmp 34) rfl slTok tokLay w.heap.size (xs := ts) (ys := [(⟨sh, m⟩ : Tok)]) rfl rfl ((HOn.out.alloc _).alloc _) rfl rfl (RdL.one (w'.alloc (.cells #[.int .i64 sh.kind, .string (bs sh.text), .int .i64 sh.n, .int .i64 m] 41)) (⟨sh, m⟩ : Tok) #[.int .i64 sh.kind, .string (bs sh.text), .int .i64 sh.n, .int .i64 m] 41 rfl (w'.heap.size + 1) (by simp)) (by simp; omega) (by have := HBn.out.size; simp; omega) ?_; intro A3 c3 w6 hown3 hg3 hb3 hat3; have HO3 := Lib.hid hown3; have HB3 := Lib.hid (((HBn.out.alloc HBn.out.size _).alloc (by have := HBn.out.size; simp; omega) _).trans hb3); have c1 : w6.cell? ⟨w'.heap.size, 1, none⟩ = some (.string (bs sh.text)) := (by rw [World.cell?_of_block (hg3.block w'.heap.size (by simp; omega) (fun e => by have := HOn.out.blk _ e.symm; omega))]; simp); clear hown3 hg3 hb3 hat3)
            | fail)
          go_roundw
          case rel => exact ⟨m + sh.text.length, A3, c3, ts ++ [⟨sh, m⟩], by omega, by go_num, by simp, by simpa using HO3.out, HB3.out, HE.out, by simp; omega⟩
          case measure => simp [intOf]; omega
    · have hme : m = l.length := by omega
      have HE : Hid (lexL l = .ok (ts ++ [⟨.fin, l.length⟩])) := Lib.hid (by rw [HL.out, HX.out, hme, List.drop_length, lexS_nil]; rfl)
      subst hme
      have hlen2 : ts.length ≤ 1000000 := by omega
      go_wp2_with (first
        | (at_builtin; refine wp_append_l rfl (.tmp 41) (.tmp 45) rfl slTok tokLay w.heap.size (xs := ts) (ys := [(⟨.fin, l.length⟩ : Tok)]) rfl rfl (HO.out.alloc _) rfl rfl (RdL.one wr (⟨.fin, l.length⟩ : Tok) _ _ rfl _ rfl) (by simp; omega) (by have := HB.out.size; simp; omega) ?_; intro A3 c3 w6 hown3 hg3 hb3 hat3; have HO3 := Lib.hid hown3; have HB3 := Lib.hid (((HB.out).alloc HB.out.size _).trans hb3); clear hown3 hg3 hb3 hat3)
        | fail)
      exact bodyPost_ret (v := .tuple #[.slice A3 (ts.length + 1) c3, .int .i64 0, .int .i64 0]) (by simp [results, Tryd.results36, go_sem]) rfl (LexOut.ok HE.out HB3.out A3 c3 (by simp) HO3.out)
end Go.Proofs.YtnaejabgkfhlbaaDoor
