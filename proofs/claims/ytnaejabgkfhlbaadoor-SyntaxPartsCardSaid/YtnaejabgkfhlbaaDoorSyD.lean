/- The canonical text of a profile in plain Lean (layer 12): its tokens, that they are read as the profile, and how long it is. -/
import Derived.Test.YtnaejabgkfhlbaaDoorSyC
import Derived.Test.YtnaejabgkfhlbaaDoorWrN
set_option linter.unusedSimpArgs false
set_option linter.unusedVariables false
namespace Go.Proofs.YtnaejabgkfhlbaaDoor
open Go.RowKit

def numS (n : Int) : Sh := .num (Lib.itoa n) n
def pick (ws : List (List UInt8)) (i : Int) : Sh := .word (ws.getD i.toNat [])
def oneI (b : Bool) : Int := if b then 1 else 0
def shPart (w : List UInt8) (s : Sh) : List Sh := [.word w] ++ ([s] ++ ([.sign] ++ []))
def shEdit (p : Prof) : List Sh := if 0 < p.within_ then [pick wNoYes 1] ++ ([.word kWithin] ++ ([numS p.within_] ++ [])) else [pick wNoYes (oneI (p.edit == 2))] ++ []
def shFiles (p : Prof) : List Sh := if 0 < p.files then [.word kFiles] ++ ([numS p.files] ++ ([.word kBytes] ++ ([numS p.bytes] ++ ([.word kTypes] ++ (p.types.map (fun s => .word s.data.toList) ++ ([.sign] ++ [])))))) else []
def shKeep (p : Prof) : List Sh := if 0 < p.keep then [.word kKeep] ++ ([numS p.keep] ++ ([.sign] ++ [])) else []
def shBatch (p : Prof) : List Sh := if p.batch then [.word kBatch] else []
def shRest (p : Prof) : List Sh := shPart kJoin (pick wJoins p.join) ++ (shPart kHistory (pick wHistory p.history) ++ (shPart kRemove (pick wRemove p.remove) ++ ([.word kReceipts] ++ ([pick wReceipts p.level] ++ (shBatch p ++ ([.sign] ++
  ([.word kRate] ++ ([numS p.rate] ++ ([.word kDown] ++ ([numS p.down] ++ ([.word kOf] ++ ([numS p.window] ++ ([.sign] ++ (shKeep p ++ []))))))))))))))
def shapesP (p : Prof) : List Sh := [.word kNetwork] ++ ([.word p.name.data.toList] ++ ([.sign] ++ ([.word kEdit] ++ (shEdit p ++ ([.sign] ++
  (shPart kDelete (pick wDeletes p.delete) ++ (shPart kReact (pick wNoYes (oneI p.react)) ++ (shPart kThread (pick wThreads p.thread) ++ (shPart kQuote (pick wNoYes (oneI p.quote)) ++ (shPart kMention (pick wNoYes (oneI p.mention)) ++
  ([.word kSize] ++ ([numS p.size] ++ ([.word kParts] ++ ([numS p.parts] ++ ([.sign] ++ (shFiles p ++ (shRest p ++ [])))))))))))))))))

/-- The tokens l are read as a, ahead of the tokens r. -/
def Reads {α : Type} (x : Rd α) (l : List Sh) (a : α) (r : List Sh) : Prop := x (l ++ r) = .ok (a, l.length)
theorem reads_ret {α : Type} (a : α) (r : List Sh) : Reads (opsX.ret a) [] a r := rfl
theorem reads_bnd {α β : Type} {x : Rd α} {k : α → Rd β} {l1 l2 : List Sh} {a : α} {b : β} {r : List Sh} (h : Reads x l1 a (l2 ++ r)) (hk : Reads (k a) l2 b r) : Reads (opsX.bnd x k) (l1 ++ l2) b r := by
  unfold Reads at *
  show bndX x k _ = _
  unfold bndX
  rw [List.append_assoc, h]
  simp only [List.drop_left, List.length_append]
  rw [hk]
theorem reads_bnd0 {α β : Type} {x : Rd α} {k : α → Rd β} {l2 : List Sh} {a : α} {b : β} {r : List Sh} (h : Reads x [] a (l2 ++ r)) (hk : Reads (k a) l2 b r) : Reads (opsX.bnd x k) l2 b r := reads_bnd h hk
theorem reads_pos {α : Type} {c : Prop} [Decidable c] {x y : Rd α} {l r : List Sh} {a : α} (hc : c) (h : Reads x l a r) : Reads (if c then x else y) l a r := by rw [if_pos hc]; exact h
theorem reads_neg {α : Type} {c : Prop} [Decidable c] {x y : Rd α} {l r : List Sh} {a : α} (hc : ¬ c) (h : Reads y l a r) : Reads (if c then x else y) l a r := by rw [if_neg hc]; exact h
theorem spot_one (w : List UInt8) : spot [w] (.word w) = some 0 := by simp [spot]
theorem reads_word (w : List UInt8) (r : List Sh) : Reads (opsX.want [w]) [.word w] 0 r := by
  show wantX [w] (.word w :: r) = _
  unfold wantX
  simp only [List.head?_cons, Option.bind_some, spot_one]
  rfl
theorem reads_semi (r : List Sh) : Reads (opsX.want [kSemi]) [.sign] 0 r := rfl
/-- Each of the words stands at one place alone. -/
def Once (ws : List (List UInt8)) : Prop := ∀ k < ws.length, spot ws (.word (ws.getD k [])) = some k
theorem reads_pick {ws : List (List UInt8)} (hw : Once ws) (i : Int) (r : List Sh) (h0 : 0 ≤ i) (h1 : i < ws.length) : Reads (opsX.want ws) [pick ws i] i r := by
  show wantX ws (pick ws i :: r) = _
  unfold wantX pick
  simp only [List.head?_cons, Option.bind_some, hw i.toNat (by omega)]
  rw [show ((i.toNat : Nat) : Int) = i by omega]
  rfl
theorem reads_part {ws : List (List UInt8)} (hw : Once ws) (w : List UInt8) (i : Int) (r : List Sh) (h0 : 0 ≤ i) (h1 : i < ws.length) : Reads (partG opsX w ws) (shPart w (pick ws i)) i r :=
  reads_bnd (reads_word w _) (reads_bnd (reads_pick hw i _ h0 h1) (reads_bnd (reads_semi _) (reads_ret i r)))
theorem reads_num (least n : Int) (r : List Sh) (h0 : least ≤ n) (h1 : n ≤ 1073741824) : Reads (opsX.num least) [numS n] n r := by
  show numX least (.num (Lib.itoa n) n :: r) = _
  unfold numX
  simp only
  rw [if_neg (by omega)]
  rfl
theorem reads_name (s : List UInt8) (r : List Sh) : Reads opsX.name [.word s] s r := rfl
theorem reads_skip (w : List UInt8) (r : List Sh) : Reads (opsX.skip [w]) [.word w] 0 r := by
  show skipX [w] (.word w :: r) = _
  unfold skipX
  simp only [List.head?_cons, Option.bind_some, spot_one]
  rfl
theorem reads_none (w : List UInt8) (r : List Sh) (h : r.head?.bind (spot [w]) = none) : Reads (opsX.skip [w]) [] (-1) r := by
  show skipX [w] r = _
  unfold skipX
  rw [h]
  rfl
theorem reads_more (r : List Sh) : ∀ (k : Nat) (ts : List (List UInt8)), ts.length ≤ k → Reads (opsX.more k) (ts.map .word) ts (.sign :: r)
  | 0, [], _ => rfl
  | 0, _ :: _, h => by simp at h
  | _ + 1, [], _ => rfl
  | k + 1, t :: ts, h => by
    have ih := reads_more r k ts (by simpa using h)
    show moreX (k + 1) (.word t :: (ts.map .word ++ .sign :: r)) = _
    change moreX k (ts.map .word ++ .sign :: r) = _ at ih
    unfold moreX
    simp only
    rw [ih]
    rfl
theorem once_noYes : Once wNoYes := by unfold Once; decide
theorem once_deletes : Once wDeletes := by unfold Once; decide
theorem once_threads : Once wThreads := by unfold Once; decide
theorem once_joins : Once wJoins := by unfold Once; decide
theorem once_history : Once wHistory := by unfold Once; decide
theorem once_remove : Once wRemove := by unfold Once; decide
theorem once_receipts : Once wReceipts := by unfold Once; decide
theorem oneI_lt (b : Bool) : 0 ≤ oneI b ∧ oneI b < 2 := by cases b <;> decide
theorem oneI_eq (b : Bool) : decide (oneI b = 1) = b := by cases b <;> rfl

/-- What a right profile is. -/
structure Rt (p : Prof) : Prop where
  edit : (p.edit = 0 ∧ p.within_ = 0) ∨ (p.edit = 2 ∧ 0 ≤ p.within_ ∧ p.within_ ≤ 1073741824)
  delete : 0 ≤ p.delete ∧ p.delete < 3
  thread : 0 ≤ p.thread ∧ p.thread < 3
  join : 0 ≤ p.join ∧ p.join < 3
  history : 0 ≤ p.history ∧ p.history < 2
  remove : 0 ≤ p.remove ∧ p.remove < 2
  level : 0 ≤ p.level ∧ p.level < 5
  size : 0 ≤ p.size ∧ p.size ≤ 1073741824
  parts : 0 ≤ p.parts ∧ p.parts ≤ 1073741824
  bytes : 0 ≤ p.bytes ∧ p.bytes ≤ 1073741824
  rate : 0 ≤ p.rate ∧ p.rate ≤ 1073741824
  down : 0 ≤ p.down ∧ p.down ≤ 1073741824
  window : 0 ≤ p.window ∧ p.window ≤ 1073741824
  keep : 0 ≤ p.keep ∧ p.keep ≤ 1073741824
  files : 0 ≤ p.files ∧ p.files ≤ 1073741824
  name : wordL p.name.data.toList = true
  types : (p.files = 0 ∧ p.bytes = 0 ∧ p.types = []) ∨ (1 ≤ p.files ∧ 1 ≤ p.types.length ∧ p.types.length ≤ 20 ∧ ∀ s ∈ p.types, wordL s.data.toList = true)
theorem rt_of {p : Prof} (h : profRight p = true) : Rt p := by
  simp only [profRight, headB, kindsB, numbersB, stepB, inR, Bool.and_eq_true, Bool.or_eq_true, decide_eq_true_eq, beq_iff_eq, Bool.not_eq_true', Bool.and_eq_false_iff, bne_eq_false_iff_eq, beq_eq_false_iff_ne] at h
  obtain ⟨⟨⟨h1, h2, h3, h4, h5, h6, h7⟩, ⟨n1, n2, n3, n4, n5, n6, n7, n8, n9⟩, hw, he⟩, ht⟩ := h
  refine ⟨?_, by omega, by omega, by omega, by omega, by omega, by omega, by omega, by omega, by omega, by omega, by omega, by omega, by omega, by omega, hw, ?_⟩
  · rcases h1 with h1 | h1
    · left
      rcases he with he | he
      · exact absurd h1 he
      · exact ⟨h1, he⟩
    · right; exact ⟨h1, n1⟩
  · unfold typesB at ht
    split at ht
    · left
      simp at ht
      exact ⟨by assumption, ht.1, ht.2⟩
    · right
      simp only [Bool.and_eq_true, decide_eq_true_eq, List.all_eq_true] at ht
      exact ⟨by omega, ht.1, ht.2.1, ht.2.2⟩
theorem of_rt {p : Prof} (h : Rt p) : profRight p = true := by
  simp only [profRight, headB, kindsB, numbersB, stepB, inR, Bool.and_eq_true, Bool.or_eq_true, decide_eq_true_eq, beq_iff_eq, Bool.not_eq_true', Bool.and_eq_false_iff, bne_eq_false_iff_eq, beq_eq_false_iff_ne]
  obtain ⟨a1, a2, a3, a4, a5, a6, a7, a8, a9, b1, b2, b3, b4, b5, b6, b7, b8⟩ := h
  refine ⟨⟨⟨by omega, by omega, by omega, by omega, by omega, by omega, by omega⟩, ⟨by omega, by omega, by omega, by omega, by omega, by omega, by omega, by omega, by omega⟩, b7, by omega⟩, ?_⟩
  unfold typesB
  rcases b8 with ⟨h1, h2, h3⟩ | ⟨h1, h2, h3, h4⟩
  · rw [if_pos h1, h2, h3]; rfl
  · rw [if_neg (by omega)]
    simp only [Bool.and_eq_true, decide_eq_true_eq, List.all_eq_true]
    exact ⟨h2, h3, h4⟩
theorem reads_edit {p : Prof} (h : Rt p) (r : List Sh) : Reads (editG opsX) (shEdit p) (p.edit, p.within_) (.sign :: r) := by
  unfold shEdit editG
  split
  · rename_i hw
    have he : p.edit = 2 := by rcases h.edit with h1 | h1 <;> omega
    rw [he]
    have hl : p.within_ ≤ 1073741824 := by rcases h.edit with h1 | h1 <;> omega
    exact reads_bnd (reads_pick once_noYes 1 _ (by decide) (by decide)) (reads_pos rfl (reads_bnd (reads_skip _ _) (reads_pos rfl (reads_bnd (reads_num 1 _ _ (by omega) hl) (reads_ret _ _)))))
  · rename_i hw
    rcases h.edit with h1 | h1
    · rw [h1.1, h1.2]
      exact reads_bnd (reads_pick once_noYes 0 _ (by decide) (by decide)) (reads_neg (by decide) (reads_ret _ _))
    · rw [h1.1, show p.within_ = 0 by omega]
      exact reads_bnd (reads_pick once_noYes 1 _ (by decide) (by decide)) (reads_pos rfl (reads_bnd0 (reads_none _ _ rfl) (reads_neg (by decide) (reads_ret _ _))))
theorem reads_files {p : Prof} (h : Rt p) (r : List Sh) (hr : ∃ q, r = .word kJoin :: q) : Reads (filesG opsX) (shFiles p) (p.files, p.bytes, p.types.map (fun s => s.data.toList)) r := by
  obtain ⟨q, rfl⟩ := hr
  unfold shFiles filesG
  rcases h.types with ⟨h1, h2, h3⟩ | ⟨h1, h2, h3, h4⟩
  · rw [if_neg (by omega), h1, h2, h3]
    exact reads_bnd0 (reads_none _ _ (by rfl)) (reads_pos (by decide) (reads_ret _ _))
  · rw [if_pos (by omega)]
    cases ht : p.types with
    | nil => rw [ht] at h2; simp at h2
    | cons t ts =>
      rw [ht] at h3
      have e : List.map (fun s : ByteArray => Sh.word s.data.toList) (t :: ts) ++ ([Sh.sign] ++ []) = [Sh.word t.data.toList] ++ ((ts.map (fun s => s.data.toList)).map .word ++ ([Sh.sign] ++ [])) := by simp
      rw [e]
      exact reads_bnd (reads_skip _ _) (reads_neg (by decide) (reads_bnd (reads_num 1 _ _ h1 h.files.2) (reads_bnd (reads_word _ _) (reads_bnd (reads_num 0 _ _ h.bytes.1 h.bytes.2) (reads_bnd (reads_word _ _)
        (reads_bnd (reads_name _ _) (reads_bnd (reads_more _ 19 (ts.map (fun s => s.data.toList)) (by simp at h3 ⊢; omega)) (reads_bnd (reads_semi _) (reads_ret _ _)))))))))
theorem reads_keep {p : Prof} (h : Rt p) (r : List Sh) (hr : ∃ q, r = .fin :: q) : Reads (keepG opsX) (shKeep p) p.keep r := by
  obtain ⟨q, rfl⟩ := hr
  unfold shKeep keepG
  split
  · exact reads_bnd (reads_skip _ _) (reads_pos rfl (reads_bnd (reads_num 1 _ _ (by omega) h.keep.2) (reads_bnd (reads_semi _) (reads_ret _ _))))
  · have := h.keep
    rw [show p.keep = 0 by omega]
    exact reads_bnd0 (reads_none _ _ (by rfl)) (reads_neg (by decide) (reads_ret _ _))
theorem reads_batch {p : Prof} (r : List Sh) : Reads (opsX.skip [kBatch]) (shBatch p) (if p.batch then 0 else -1) (.sign :: r) := by
  unfold shBatch
  cases p.batch
  · exact reads_none _ _ rfl
  · exact reads_skip _ _
def restOf (p : Prof) : Rest := ⟨p.join, p.history, p.remove, p.level, p.batch, p.rate, p.down, p.window, p.keep⟩
theorem reads_rest {p : Prof} (h : Rt p) (r : List Sh) (hr : ∃ q, r = .fin :: q) : Reads (restG opsX) (shRest p) (restOf p) r := by
  have hb : decide ((if p.batch then (0 : Int) else -1) = 0) = p.batch := by cases p.batch <;> rfl
  refine reads_bnd (reads_part once_joins _ _ _ h.join.1 h.join.2) (reads_bnd (reads_part once_history _ _ _ h.history.1 h.history.2) (reads_bnd (reads_part once_remove _ _ _ h.remove.1 h.remove.2) (reads_bnd (reads_word _ _)
    (reads_bnd (reads_pick once_receipts _ _ h.level.1 h.level.2) (reads_bnd (reads_batch _) (reads_bnd (reads_semi _) (reads_bnd (reads_word _ _) (reads_bnd (reads_num 0 _ _ h.rate.1 h.rate.2) (reads_bnd (reads_word _ _)
    (reads_bnd (reads_num 0 _ _ h.down.1 h.down.2) (reads_bnd (reads_word _ _) (reads_bnd (reads_num 0 _ _ h.window.1 h.window.2) (reads_bnd (reads_semi _) (reads_bnd (reads_keep h _ hr) ?_))))))))))))))
  rw [hb]
  exact reads_ret _ _
theorem types_bs (l : List ByteArray) : (l.map (fun s => s.data.toList)).map bs = l := by
  rw [List.map_map]
  exact List.map_id' l
theorem reads_parse {p : Prof} (h : Rt p) (q : List Sh) : Reads (parseG opsX) (shapesP p) p (.fin :: q) := by
  have e : profOf p.name.data.toList (p.edit, p.within_) p.delete (oneI p.react) p.thread (oneI p.quote) (oneI p.mention) p.size p.parts (p.files, p.bytes, p.types.map (fun s => s.data.toList)) (restOf p) = p := by
    unfold profOf restOf
    simp only [oneI_eq, types_bs]
    rfl
  refine reads_bnd (reads_word _ _) (reads_bnd (reads_name _ _) (reads_bnd (reads_semi _) (reads_bnd (reads_word _ _) (reads_bnd (reads_edit h _) (reads_bnd (reads_semi _)
    (reads_bnd (reads_part once_deletes _ _ _ h.delete.1 h.delete.2) (reads_bnd (reads_part once_noYes _ _ _ (oneI_lt _).1 (oneI_lt _).2) (reads_bnd (reads_part once_threads _ _ _ h.thread.1 h.thread.2)
    (reads_bnd (reads_part once_noYes _ _ _ (oneI_lt _).1 (oneI_lt _).2) (reads_bnd (reads_part once_noYes _ _ _ (oneI_lt _).1 (oneI_lt _).2) (reads_bnd (reads_word _ _) (reads_bnd (reads_num 0 _ _ h.size.1 h.size.2) (reads_bnd (reads_word _ _)
    (reads_bnd (reads_num 0 _ _ h.parts.1 h.parts.2) (reads_bnd (reads_semi _) (reads_bnd (reads_files h _ ⟨_, rfl⟩) (reads_bnd (reads_rest h _ ⟨_, rfl⟩) (reads_bnd0 (a := ()) rfl ?_))))))))))))))))))
  rw [e]
  exact reads_ret _ _

/-- Each piece of the text: a token, and the blank behind it. -/
def pieceE (s : Sh) : UInt8 := match s with
  | .sign => 10
  | _ => 32
def pieceF (s : Sh) : List UInt8 := s.text ++ [pieceE s]
/-- The canonical text. -/
def printF (p : Prof) : List UInt8 := (shapesP p).flatMap pieceF
def ShortTok (s : Sh) : Prop := GoodTok s ∧ s.text.length ≤ 20
theorem valF_snoc (l : List UInt8) (c : UInt8) : valF (l ++ [c]) = 10 * valF l + (c.toNat - 48) := by unfold valF; rw [List.foldl_append]; rfl
theorem valF_dd (u : Nat) : valF (Lib.decDigits u) = u := by
  induction u using Nat.strongRecOn with
  | _ u ih =>
    by_cases hu : u < 10
    · rw [dd_small hu]
      have := dig_nat hu
      simp only [valF, List.foldl_cons, List.foldl_nil, this]
      omega
    · rw [dd_big hu, valF_snoc, ih _ (by omega), dig_nat (by omega)]
      omega
theorem dd_all (u : Nat) : (Lib.decDigits u).all digitC = true := by
  rw [List.all_eq_true]
  intro c hc
  have := dd_dig u c hc
  unfold digitC digitI
  simp; omega
theorem dd_head : ∀ (u : Nat), 1 ≤ u → (Lib.decDigits u).head? ≠ some 48 := by
  intro u
  induction u using Nat.strongRecOn with
  | _ u ih =>
    intro h
    by_cases hu : u < 10
    · rw [dd_small hu]
      intro e
      simp only [List.head?_cons, Option.some.injEq] at e
      have h1 := dig_nat hu
      rw [e] at h1
      have h2 : (48 : UInt8).toNat = 48 := rfl
      omega
    · rw [dd_big hu]
      have h1 := ih (u / 10) (by omega) (by omega)
      have h2 := dd_ne (u / 10)
      cases hl : Lib.decDigits (u / 10) with
      | nil => exact absurd hl h2
      | cons c r => rw [hl] at h1; simpa using h1
theorem itoa_nat (n : Int) (h : 0 ≤ n) : Lib.itoa n = Lib.decDigits n.toNat := by rw [Lib.itoa, if_neg (by omega)]
theorem numF_itoa (n : Int) (h0 : 0 ≤ n) (h1 : n ≤ 1099511627776) : numF (Lib.itoa n) = some n := by
  rw [itoa_nat n h0]
  unfold numF
  rw [if_neg, valF_dd]
  · congr 1; omega
  · simp only [not_or]
    refine ⟨dd_ne _, by rw [dd_all]; decide, fun h => ?_, by rw [valF_dd]; omega⟩
    by_cases hz : n.toNat = 0
    · rw [hz, dd_small (by decide)] at h
      exact h.2 rfl
    · exact dd_head _ (by omega) h.1
theorem short_num (n : Int) (h0 : 0 ≤ n) (h1 : n ≤ 1073741824) : ShortTok (numS n) :=
  ⟨numF_itoa n h0 (by omega), itoa_20 n (by omega) (by omega)⟩
theorem short_word {s : List UInt8} (h : wordL s = true) : ShortTok (.word s) := by
  refine ⟨h, ?_⟩
  cases s with
  | nil => simp [wordL] at h
  | cons c r =>
    unfold wordL at h
    simp only [Bool.and_eq_true, decide_eq_true_eq] at h
    show (c :: r).length ≤ 20
    simp; omega
theorem short_sign : ShortTok .sign := ⟨trivial, by decide⟩
def AllS (l : List Sh) (n : Nat) : Prop := (∀ s ∈ l, ShortTok s) ∧ l.length ≤ n
theorem alls_nil : AllS [] 0 := ⟨by simp, by simp⟩
theorem alls_one {s : Sh} (h : ShortTok s) : AllS [s] 1 := ⟨by simpa using h, by simp⟩
theorem alls_app {a b : List Sh} {m n : Nat} (ha : AllS a m) (hb : AllS b n) : AllS (a ++ b) (m + n) := ⟨fun s hs => by
  rcases List.mem_append.1 hs with hs | hs
  · exact ha.1 s hs
  · exact hb.1 s hs, by rw [List.length_append]; have := ha.2; have := hb.2; omega⟩
theorem alls_mono {a : List Sh} {m n : Nat} (h : AllS a m) (hm : m ≤ n) : AllS a n := ⟨h.1, Nat.le_trans h.2 hm⟩
theorem short_pick {ws : List (List UInt8)} {i : Int} (hw : ws.all wordL = true) (h0 : 0 ≤ i) (h1 : i < ws.length) : ShortTok (pick ws i) := by
  refine short_word ?_
  have hl : i.toNat < ws.length := by omega
  rw [List.getD_eq_getElem?_getD, List.getElem?_eq_getElem hl]
  exact List.all_eq_true.1 hw _ (List.getElem_mem hl)
theorem alls_part {w : List UInt8} {s : Sh} (hw : wordL w = true) (h : ShortTok s) : AllS (shPart w s) 3 :=
  alls_app (alls_one (short_word hw)) (alls_app (alls_one h) (alls_app (alls_one short_sign) alls_nil))
theorem alls_edit {p : Prof} (h : Rt p) : AllS (shEdit p) 3 := by
  unfold shEdit
  split
  · have hl : p.within_ ≤ 1073741824 := by rcases h.edit with h1 | h1 <;> omega
    exact alls_app (alls_one (short_pick (by decide) (by decide) (by decide))) (alls_app (alls_one (short_word (by decide))) (alls_app (alls_one (short_num _ (by omega) hl)) alls_nil))
  · exact alls_mono (alls_app (alls_one (short_pick (by decide) (oneI_lt _).1 (oneI_lt _).2)) alls_nil) (by decide)
theorem alls_files {p : Prof} (h : Rt p) : AllS (shFiles p) 26 := by
  unfold shFiles
  split
  · rcases h.types with ⟨h1, _⟩ | ⟨h1, h2, h3, h4⟩
    · omega
    · have ht : AllS (p.types.map (fun s => Sh.word s.data.toList)) 20 := ⟨fun s hs => by
        obtain ⟨x, hx, rfl⟩ := List.mem_map.1 hs
        exact short_word (h4 x hx), by simpa using h3⟩
      exact alls_app (alls_one (short_word (by decide))) (alls_app (alls_one (short_num _ h.files.1 h.files.2)) (alls_app (alls_one (short_word (by decide))) (alls_app (alls_one (short_num _ h.bytes.1 h.bytes.2)) (alls_app (alls_one (short_word (by decide)))
        (alls_app ht (alls_app (alls_one short_sign) alls_nil))))))
  · exact alls_mono alls_nil (by decide)
theorem alls_keep {p : Prof} (h : Rt p) : AllS (shKeep p) 3 := by
  unfold shKeep
  split
  · exact alls_app (alls_one (short_word (by decide))) (alls_app (alls_one (short_num _ h.keep.1 h.keep.2)) (alls_app (alls_one short_sign) alls_nil))
  · exact alls_mono alls_nil (by decide)
theorem alls_batch (p : Prof) : AllS (shBatch p) 1 := by
  unfold shBatch
  split
  · exact alls_one (short_word (by decide))
  · exact alls_mono alls_nil (by decide)
theorem alls_rest {p : Prof} (h : Rt p) : AllS (shRest p) 23 :=
  alls_app (alls_part (by decide) (short_pick (ws := wJoins) (by decide) h.join.1 h.join.2)) (alls_app (alls_part (by decide) (short_pick (ws := wHistory) (by decide) h.history.1 h.history.2)) (alls_app (alls_part (by decide) (short_pick (ws := wRemove) (by decide) h.remove.1 h.remove.2))
  (alls_app (alls_one (short_word (by decide))) (alls_app (alls_one (short_pick (ws := wReceipts) (by decide) h.level.1 h.level.2)) (alls_app (alls_batch p) (alls_app (alls_one short_sign) (alls_app (alls_one (short_word (by decide))) (alls_app (alls_one (short_num _ h.rate.1 h.rate.2))
  (alls_app (alls_one (short_word (by decide))) (alls_app (alls_one (short_num _ h.down.1 h.down.2)) (alls_app (alls_one (short_word (by decide))) (alls_app (alls_one (short_num _ h.window.1 h.window.2)) (alls_app (alls_one short_sign) (alls_app (alls_keep h) alls_nil))))))))))))))
theorem alls_shapes {p : Prof} (h : Rt p) : AllS (shapesP p) 77 :=
  alls_app (alls_one (short_word (by decide))) (alls_app (alls_one (short_word h.name)) (alls_app (alls_one short_sign) (alls_app (alls_one (short_word (by decide))) (alls_app (alls_edit h) (alls_app (alls_one short_sign)
  (alls_app (alls_part (by decide) (short_pick (ws := wDeletes) (by decide) h.delete.1 h.delete.2)) (alls_app (alls_part (by decide) (short_pick (by decide) (oneI_lt _).1 (oneI_lt _).2)) (alls_app (alls_part (by decide) (short_pick (ws := wThreads) (by decide) h.thread.1 h.thread.2))
  (alls_app (alls_part (by decide) (short_pick (by decide) (oneI_lt _).1 (oneI_lt _).2)) (alls_app (alls_part (by decide) (short_pick (by decide) (oneI_lt _).1 (oneI_lt _).2)) (alls_app (alls_one (short_word (by decide))) (alls_app (alls_one (short_num _ h.size.1 h.size.2))
  (alls_app (alls_one (short_word (by decide))) (alls_app (alls_one (short_num _ h.parts.1 h.parts.2)) (alls_app (alls_one short_sign) (alls_app (alls_files h) (alls_app (alls_rest h) alls_nil)))))))))))))))))
theorem flat_short {l : List Sh} {n : Nat} (h : AllS l n) : (l.flatMap pieceF).length ≤ n * 21 := by
  obtain ⟨h1, h2⟩ := h
  have : (l.flatMap pieceF).length ≤ l.length * 21 := by
    clear h2
    induction l with
    | nil => simp
    | cons s l ih =>
      have := ih (fun x hx => h1 x (by simp [hx]))
      have h3 := (h1 s (by simp)).2
      simp only [List.flatMap_cons, List.length_append, List.length_cons, pieceF, List.length_nil]
      omega
  exact Nat.le_trans this (Nat.mul_le_mul_right 21 h2)
theorem print_len {p : Prof} (h : Rt p) : (printF p).length ≤ 1617 := flat_short (alls_shapes h)

/-- What Parse says of a string. -/
def parseL (s : List UInt8) : Prof × Int × Int := match lexL s with
  | .error (a, e) => (zeroProf, (a : Int), e)
  | .ok ts => parseT ts
theorem parse_print {p : Prof} (h : Rt p) : parseL (printF p) = (p, 0, 0) := by
  obtain ⟨ts, h1, h2⟩ := lex_pieces pieceE (fun s => by cases s <;> rfl) (shapesP p) 0 (fun s hs => ((alls_shapes h).1 s hs).1)
  have hl : lexL (printF p) = .ok ts := by
    unfold lexL
    have := print_len h
    rw [if_neg (by omega)]
    exact h1
  have h3 := reads_parse h []
  unfold Reads at h3
  unfold parseL
  rw [hl]
  simp only
  unfold parseT
  rw [h2, h3]
theorem parseJ_right {ts : List Tok} (hf : Fine ts) (hg : ∀ t ∈ ts, GoodSh t.sh) (h : (parseG opsJ ⟨ts, 0, 0⟩).2.err = 0) : profRight (parseG opsJ ⟨ts, 0, 0⟩).1 = true := by
  have h1 := sim_parse.2 ts 0 hf
  cases hx : parseG opsX (ts.map Tok.sh) with
  | error q =>
    obtain ⟨i, e⟩ := q
    rw [hx] at h1
    obtain ⟨t, _, h2, h3, _⟩ := h1
    exact absurd (h3.symm.trans h) h2
  | ok q =>
    obtain ⟨a, n⟩ := q
    rw [hx] at h1
    rw [h1.1]
    exact gives_parse _ (fun s hs => by
      obtain ⟨t, ht, rfl⟩ := List.mem_map.1 hs
      exact hg t ht) a n hx
theorem right_sizes {p : Prof} (h : profRight p = true) : p.name.size ≤ 20 ∧ p.types.length ≤ 20 ∧ ∀ s ∈ p.types, s.size ≤ 20 := by
  have hr := rt_of h
  have hw : ∀ s : ByteArray, wordL s.data.toList = true → s.size ≤ 20 := fun s hs => by
    have := (short_word hs).2
    change s.data.toList.length ≤ 20 at this
    rwa [Array.length_toList] at this
  refine ⟨hw _ hr.name, ?_, fun s hs => ?_⟩
  · rcases hr.types with ⟨_, _, h3⟩ | ⟨_, _, h3, _⟩
    · rw [h3]; decide
    · exact h3
  · rcases hr.types with ⟨_, _, h3⟩ | ⟨_, _, _, h4⟩
    · rw [h3] at hs; cases hs
    · exact hw s (h4 s hs)
end Go.Proofs.YtnaejabgkfhlbaaDoor
