/- The grammar of declarations in plain Lean (layer 12): reading tokens, once with what stands there after an error, once by errors alone; both say the same. -/
import Derived.Test.YtnaejabgkfhlbaaDoorWyC
import Derived.Test.YtnaejabgkfhlbaaDoorStr
set_option linter.unusedSimpArgs false
set_option linter.unusedVariables false
namespace Go.Proofs.YtnaejabgkfhlbaaDoor
open Go.RowKit

/-- A token without its place. -/
inductive Sh where
  | word (s : List UInt8)
  | num (s : List UInt8) (n : Int)
  | sign
  | fin
def Sh.kind : Sh → Int
  | .word _ => 0
  | .num _ _ => 1
  | .sign => 2
  | .fin => 3
def Sh.text : Sh → List UInt8
  | .word s => s
  | .num s _ => s
  | .sign => [59]
  | .fin => []
def Sh.n : Sh → Int
  | .num _ n => n
  | _ => 0
structure Tok where
  sh : Sh
  pos : Nat
abbrev kNetwork : List UInt8 := [110, 101, 116, 119, 111, 114, 107]
abbrev kEdit : List UInt8 := [101, 100, 105, 116]
abbrev kNo : List UInt8 := [110, 111]
abbrev kYes : List UInt8 := [121, 101, 115]
abbrev kWithin : List UInt8 := [119, 105, 116, 104, 105, 110]
abbrev kDelete : List UInt8 := [100, 101, 108, 101, 116, 101]
abbrev kMark : List UInt8 := [109, 97, 114, 107]
abbrev kReact : List UInt8 := [114, 101, 97, 99, 116]
abbrev kThread : List UInt8 := [116, 104, 114, 101, 97, 100]
abbrev kNone : List UInt8 := [110, 111, 110, 101]
abbrev kFlat : List UInt8 := [102, 108, 97, 116]
abbrev kTree : List UInt8 := [116, 114, 101, 101]
abbrev kQuote : List UInt8 := [113, 117, 111, 116, 101]
abbrev kMention : List UInt8 := [109, 101, 110, 116, 105, 111, 110]
abbrev kSize : List UInt8 := [115, 105, 122, 101]
abbrev kParts : List UInt8 := [112, 97, 114, 116, 115]
abbrev kFiles : List UInt8 := [102, 105, 108, 101, 115]
abbrev kBytes : List UInt8 := [98, 121, 116, 101, 115]
abbrev kTypes : List UInt8 := [116, 121, 112, 101, 115]
abbrev kJoin : List UInt8 := [106, 111, 105, 110]
abbrev kInvite : List UInt8 := [105, 110, 118, 105, 116, 101]
abbrev kLink : List UInt8 := [108, 105, 110, 107]
abbrev kRole : List UInt8 := [114, 111, 108, 101]
abbrev kHistory : List UInt8 := [104, 105, 115, 116, 111, 114, 121]
abbrev kSince : List UInt8 := [115, 105, 110, 99, 101]
abbrev kAll : List UInt8 := [97, 108, 108]
abbrev kRemove : List UInt8 := [114, 101, 109, 111, 118, 101]
abbrev kNow : List UInt8 := [110, 111, 119]
abbrev kKey : List UInt8 := [107, 101, 121]
abbrev kReceipts : List UInt8 := [114, 101, 99, 101, 105, 112, 116, 115]
abbrev kSent : List UInt8 := [115, 101, 110, 116]
abbrev kHeld : List UInt8 := [104, 101, 108, 100]
abbrev kShown : List UInt8 := [115, 104, 111, 119, 110]
abbrev kRead : List UInt8 := [114, 101, 97, 100]
abbrev kBatch : List UInt8 := [98, 97, 116, 99, 104]
abbrev kRate : List UInt8 := [114, 97, 116, 101]
abbrev kDown : List UInt8 := [100, 111, 119, 110]
abbrev kOf : List UInt8 := [111, 102]
abbrev kKeep : List UInt8 := [107, 101, 101, 112]
abbrev kSemi : List UInt8 := [59]
abbrev wNoYes : List (List UInt8) := [kNo, kYes]
abbrev wDeletes : List (List UInt8) := [kNo, kMark, kYes]
abbrev wThreads : List (List UInt8) := [kNone, kFlat, kTree]
abbrev wJoins : List (List UInt8) := [kInvite, kLink, kRole]
abbrev wHistory : List (List UInt8) := [kSince, kAll]
abbrev wRemove : List (List UInt8) := [kNow, kKey]
abbrev wReceipts : List (List UInt8) := [kNone, kSent, kHeld, kShown, kRead]

/-- The place of a token among some words. -/
def spot (ws : List (List UInt8)) : Sh → Option Nat
  | .word t => ws.findIdx? (fun x => decide (t = x))
  | .sign => ws.findIdx? (fun x => decide ([59] = x))
  | _ => none

/-- What reads: the grammar is one and the same for both machines. -/
structure Ops (m : Type → Type) where
  ret : {α : Type} → α → m α
  bnd : {α β : Type} → m α → (α → m β) → m β
  skip : List (List UInt8) → m Int
  want : List (List UInt8) → m Int
  name : m (List UInt8)
  num : Int → m Int
  more : Nat → m (List (List UInt8))
  stop : m Unit

section
variable {m : Type → Type}
def partG (o : Ops m) (w : List UInt8) (ws : List (List UInt8)) : m Int :=
  o.bnd (o.want [w]) fun _ => o.bnd (o.want ws) fun i => o.bnd (o.want [kSemi]) fun _ => o.ret i
def editG (o : Ops m) : m (Int × Int) :=
  o.bnd (o.want wNoYes) fun i => if i = 1 then o.bnd (o.skip [kWithin]) fun k => if k = 0 then o.bnd (o.num 1) fun n => o.ret (2, n) else o.ret (2, 0) else o.ret (0, 0)
def filesG (o : Ops m) : m (Int × Int × List (List UInt8)) :=
  o.bnd (o.skip [kFiles]) fun k => if k < 0 then o.ret (0, 0, []) else
  o.bnd (o.num 1) fun f => o.bnd (o.want [kBytes]) fun _ => o.bnd (o.num 0) fun b => o.bnd (o.want [kTypes]) fun _ =>
  o.bnd o.name fun t => o.bnd (o.more 19) fun ts => o.bnd (o.want [kSemi]) fun _ => o.ret (f, b, t :: ts)
structure Rest where
  join : Int
  history : Int
  remove : Int
  level : Int
  batch : Bool
  rate : Int
  down : Int
  window : Int
  keep : Int
def keepG (o : Ops m) : m Int :=
  o.bnd (o.skip [kKeep]) fun k => if k = 0 then o.bnd (o.num 1) fun n => o.bnd (o.want [kSemi]) fun _ => o.ret n else o.ret 0
def restG (o : Ops m) : m Rest :=
  o.bnd (partG o kJoin wJoins) fun j => o.bnd (partG o kHistory wHistory) fun h => o.bnd (partG o kRemove wRemove) fun e =>
  o.bnd (o.want [kReceipts]) fun _ => o.bnd (o.want wReceipts) fun l => o.bnd (o.skip [kBatch]) fun b => o.bnd (o.want [kSemi]) fun _ =>
  o.bnd (o.want [kRate]) fun _ => o.bnd (o.num 0) fun r => o.bnd (o.want [kDown]) fun _ => o.bnd (o.num 0) fun d => o.bnd (o.want [kOf]) fun _ => o.bnd (o.num 0) fun w => o.bnd (o.want [kSemi]) fun _ =>
  o.bnd (keepG o) fun k => o.ret ⟨j, h, e, l, decide (b = 0), r, d, w, k⟩
def profOf (name : List UInt8) (ew : Int × Int) (delete : Int) (react : Int) (thread quote mention size parts : Int) (f : Int × Int × List (List UInt8)) (q : Rest) : Prof :=
  ⟨bs name, ew.1, ew.2, delete, decide (react = 1), thread, decide (quote = 1), decide (mention = 1), size, parts, f.1, f.2.1, f.2.2.map bs, q.join, q.history, q.remove, q.level, q.batch, q.rate, q.down, q.window, q.keep⟩
def parseG (o : Ops m) : m Prof :=
  o.bnd (o.want [kNetwork]) fun _ => o.bnd o.name fun name => o.bnd (o.want [kSemi]) fun _ => o.bnd (o.want [kEdit]) fun _ => o.bnd (editG o) fun ew => o.bnd (o.want [kSemi]) fun _ =>
  o.bnd (partG o kDelete wDeletes) fun de => o.bnd (partG o kReact wNoYes) fun re => o.bnd (partG o kThread wThreads) fun th => o.bnd (partG o kQuote wNoYes) fun qu => o.bnd (partG o kMention wNoYes) fun me =>
  o.bnd (o.want [kSize]) fun _ => o.bnd (o.num 0) fun sz => o.bnd (o.want [kParts]) fun _ => o.bnd (o.num 0) fun pa => o.bnd (o.want [kSemi]) fun _ =>
  o.bnd (filesG o) fun f => o.bnd (restG o) fun q => o.bnd o.stop fun _ => o.ret (profOf name ew de re th qu me sz pa f q)
end

/-- A reading: a value, and how many tokens are read; or at which token there is an error, and which. -/
abbrev Rd (α : Type) : Type := List Sh → Except (Nat × Int) (α × Nat)
def bndX {α β : Type} (x : Rd α) (k : α → Rd β) : Rd β := fun l => match x l with
  | .error e => .error e
  | .ok (a, n) => match k a (l.drop n) with
    | .error (j, e) => .error (n + j, e)
    | .ok (b, j) => .ok (b, n + j)
def skipX (ws : List (List UInt8)) : Rd Int := fun l => match l.head?.bind (spot ws) with
  | some i => .ok ((i : Int), 1)
  | none => .ok (-1, 0)
def wantX (ws : List (List UInt8)) : Rd Int := fun l => match l.head?.bind (spot ws) with
  | some i => .ok ((i : Int), 1)
  | none => .error (0, 12)
def nameX : Rd (List UInt8) := fun l => match l with
  | .word s :: _ => .ok (s, 1)
  | _ => .error (0, 12)
def numX (least : Int) : Rd Int := fun l => match l with
  | .num _ n :: _ => if n < least ∨ 1073741824 < n then .error (0, 3) else .ok (n, 1)
  | _ => .error (0, 12)
def moreX : Nat → Rd (List (List UInt8))
  | 0 => fun l => match l with
    | .word _ :: _ => .error (0, 6)
    | _ => .ok ([], 0)
  | k + 1 => fun l => match l with
    | .word s :: r => match moreX k r with
      | .error (j, e) => .error (j + 1, e)
      | .ok (t, n) => .ok (s :: t, n + 1)
    | _ => .ok ([], 0)
def stopX : Rd Unit := fun l => match l with
  | .fin :: _ => .ok ((), 0)
  | _ => .error (0, 12)
def opsX : Ops Rd where
  ret := fun a _ => .ok (a, 0)
  bnd := bndX
  skip := skipX
  want := wantX
  name := nameX
  num := numX
  more := moreX
  stop := stopX

/-- What a reader holds. -/
structure St where
  toks : List Tok
  pos : Int
  err : Int
abbrev Jd (α : Type) : Type := St → α × St
def failJ (e : Int) (r : St) : St := if r.err = 0 then (match r.toks with
  | t :: _ => ⟨r.toks, t.pos, e⟩
  | [] => r) else r
def skipJ (ws : List (List UInt8)) : Jd Int := fun r => if r.err = 0 then (match r.toks with
  | t :: l => (match spot ws t.sh with
    | some i => ((i : Int), ⟨l, r.pos, r.err⟩)
    | none => (-1, r))
  | [] => (-1, r)) else (-1, r)
def wantJ (ws : List (List UInt8)) : Jd Int := fun r => if (skipJ ws r).1 < 0 then (0, failJ 12 (skipJ ws r).2) else skipJ ws r
def nameJ : Jd (List UInt8) := fun r => if r.err = 0 then (match r.toks with
  | ⟨.word s, _⟩ :: l => (s, ⟨l, r.pos, r.err⟩)
  | _ => ([], failJ 12 r)) else ([], r)
def numJ (least : Int) : Jd Int := fun r => if r.err = 0 then (match r.toks with
  | ⟨.num _ n, _⟩ :: l => if n < least ∨ 1073741824 < n then (0, failJ 3 r) else (n, ⟨l, r.pos, r.err⟩)
  | _ => (0, failJ 12 r)) else (0, r)
def isWord : List Tok → Bool
  | ⟨.word _, _⟩ :: _ => true
  | _ => false
def moreJ : Nat → Jd (List (List UInt8))
  | 0 => fun r => if r.err = 0 ∧ isWord r.toks = true then ([], failJ 6 r) else ([], r)
  | k + 1 => fun r => if r.err = 0 ∧ isWord r.toks = true then ((nameJ r).1 :: (moreJ k (nameJ r).2).1, (moreJ k (nameJ r).2).2) else ([], r)
def stopJ : Jd Unit := fun r => ((), if r.err = 0 then (match r.toks with
  | ⟨.fin, _⟩ :: _ => r
  | _ => failJ 12 r) else r)
def opsJ : Ops Jd where
  ret := fun a r => (a, r)
  bnd := fun x k r => k (x r).1 (x r).2
  skip := skipJ
  want := wantJ
  name := nameJ
  num := numJ
  more := moreJ
  stop := stopJ

/-- The last token is the end. -/
def Fine (l : List Tok) : Prop := ∃ l0 t, l = l0 ++ [t] ∧ t.sh = .fin
theorem Fine.ne {l : List Tok} (h : Fine l) : l ≠ [] := by
  obtain ⟨l0, t, rfl, _⟩ := h; simp
theorem Fine.tail {t : Tok} {l : List Tok} (h : Fine (t :: l)) (hn : t.sh ≠ .fin) : Fine l := by
  obtain ⟨l0, u, e, hu⟩ := h
  cases l0 with
  | nil => simp at e; rw [e.1] at hn; exact absurd hu hn
  | cons x l0 => simp at e; exact ⟨l0, u, e.2, hu⟩
theorem spot_fin (ws : List (List UInt8)) {s : Sh} {i : Nat} (h : spot ws s = some i) : s ≠ .fin := by
  rintro rfl; simp [spot] at h

/-- What a reading by errors alone says of the machine that goes on. -/
def Post {α : Type} (j : Jd α) (l : List Tok) (pos : Int) : Except (Nat × Int) (α × Nat) → Prop
  | .ok (a, n) => j ⟨l, pos, 0⟩ = (a, ⟨l.drop n, pos, 0⟩) ∧ Fine (l.drop n)
  | .error (i, e) => ∃ t, l[i]? = some t ∧ e ≠ 0 ∧ (j ⟨l, pos, 0⟩).2.err = e ∧ (j ⟨l, pos, 0⟩).2.pos = t.pos
def Sim {α : Type} (j : Jd α) (x : Rd α) : Prop := (∀ r, r.err ≠ 0 → (j r).2 = r) ∧ ∀ l pos, Fine l → Post j l pos (x (l.map Tok.sh))
theorem sim_ret {α : Type} (a : α) : Sim (opsJ.ret a) (opsX.ret a) := ⟨fun _ _ => rfl, fun l pos h => ⟨rfl, h⟩⟩
theorem sim_bnd {α β : Type} {j : Jd α} {x : Rd α} {jk : α → Jd β} {xk : α → Rd β} (h : Sim j x) (hk : ∀ a, Sim (jk a) (xk a)) : Sim (opsJ.bnd j jk) (opsX.bnd x xk) := by
  refine ⟨fun r hr => ?_, fun l pos hl => ?_⟩
  · show (jk (j r).1 (j r).2).2 = r
    rw [h.1 r hr]
    exact (hk _).1 r hr
  · have h1 := h.2 l pos hl
    show Post (opsJ.bnd j jk) l pos (bndX x xk (l.map Tok.sh))
    unfold bndX
    cases hx : x (l.map Tok.sh) with
    | error e =>
      obtain ⟨i, e⟩ := e
      rw [hx] at h1
      obtain ⟨t, ht, h0, he, hp⟩ := h1
      refine ⟨t, ht, h0, ?_, ?_⟩
      · show (jk (j _).1 (j _).2).2.err = e
        rw [(hk _).1 _ (by rw [he]; exact h0)]; exact he
      · show (jk (j _).1 (j _).2).2.pos = t.pos
        rw [(hk _).1 _ (by rw [he]; exact h0)]; exact hp
    | ok p =>
      obtain ⟨a, n⟩ := p
      rw [hx] at h1
      obtain ⟨h2, h3⟩ := h1
      have h4 := (hk a).2 (l.drop n) pos h3
      rw [List.map_drop] at h4
      have e2 : opsJ.bnd j jk ⟨l, pos, 0⟩ = jk a ⟨l.drop n, pos, 0⟩ := by show jk (j _).1 (j _).2 = _; rw [h2]
      simp only
      cases hy : xk a ((l.map Tok.sh).drop n) with
      | error e =>
        obtain ⟨i, e⟩ := e
        rw [hy] at h4
        obtain ⟨t, ht, h5⟩ := h4
        exact ⟨t, by rw [← ht, List.getElem?_drop], by rw [e2]; exact h5⟩
      | ok q =>
        obtain ⟨b, k⟩ := q
        rw [hy] at h4
        obtain ⟨h5, h6⟩ := h4
        rw [List.drop_drop] at h5 h6
        exact ⟨by rw [e2]; exact h5, h6⟩
theorem sim_ite {α : Type} (c : Prop) [Decidable c] {j j' : Jd α} {x x' : Rd α} (h : Sim j x) (h' : Sim j' x') : Sim (if c then j else j') (if c then x else x') := by
  split <;> assumption
theorem sim_skip (ws : List (List UInt8)) : Sim (opsJ.skip ws) (opsX.skip ws) := by
  refine ⟨fun r hr => ?_, fun l pos hl => ?_⟩
  · show (skipJ ws r).2 = r
    unfold skipJ
    rw [if_neg hr]
  · cases l with
    | nil => exact absurd rfl hl.ne
    | cons t l =>
      show Post (skipJ ws) (t :: l) pos (skipX ws (t.sh :: l.map Tok.sh))
      unfold skipX
      simp only [List.head?_cons, Option.bind_some]
      cases hs : spot ws t.sh with
      | none => exact ⟨by simp [skipJ, hs], hl⟩
      | some i => exact ⟨by simp [skipJ, hs], hl.tail (spot_fin ws hs)⟩
theorem sim_want (ws : List (List UInt8)) : Sim (opsJ.want ws) (opsX.want ws) := by
  refine ⟨fun r hr => ?_, fun l pos hl => ?_⟩
  · show (wantJ ws r).2 = r
    unfold wantJ skipJ failJ
    simp [hr]
  · cases l with
    | nil => exact absurd rfl hl.ne
    | cons t l =>
      show Post (wantJ ws) (t :: l) pos (wantX ws (t.sh :: l.map Tok.sh))
      unfold wantX
      simp only [List.head?_cons, Option.bind_some]
      cases hs : spot ws t.sh with
      | none => exact ⟨t, rfl, by decide, by simp [wantJ, skipJ, failJ, hs], by simp [wantJ, skipJ, failJ, hs]⟩
      | some i =>
        have h0 : ¬ ((i : Int) < 0) := by omega
        exact ⟨by simp [wantJ, skipJ, hs, h0], hl.tail (spot_fin ws hs)⟩
theorem sim_name : Sim opsJ.name opsX.name := by
  refine ⟨fun r hr => ?_, fun l pos hl => ?_⟩
  · show (nameJ r).2 = r
    unfold nameJ
    rw [if_neg hr]
  · cases l with
    | nil => exact absurd rfl hl.ne
    | cons t l =>
      obtain ⟨sh, p⟩ := t
      cases sh with
      | word s => exact ⟨rfl, hl.tail (by simp)⟩
      | num s n => exact ⟨_, rfl, by decide, rfl, rfl⟩
      | sign => exact ⟨_, rfl, by decide, rfl, rfl⟩
      | fin => exact ⟨_, rfl, by decide, rfl, rfl⟩
theorem sim_num (least : Int) : Sim (opsJ.num least) (opsX.num least) := by
  refine ⟨fun r hr => ?_, fun l pos hl => ?_⟩
  · show (numJ least r).2 = r
    unfold numJ
    rw [if_neg hr]
  · cases l with
    | nil => exact absurd rfl hl.ne
    | cons t l =>
      obtain ⟨sh, p⟩ := t
      cases sh with
      | num s n =>
        show Post (numJ least) (⟨.num s n, p⟩ :: l) pos (numX least (.num s n :: l.map Tok.sh))
        unfold numX
        by_cases h : n < least ∨ 1073741824 < n
        · simp only [if_pos h]
          exact ⟨_, rfl, by decide, by simp [numJ, h, failJ], by simp [numJ, h, failJ]⟩
        · simp only [if_neg h]
          exact ⟨by simp only [numJ, if_true, if_neg h]; rfl, hl.tail (by simp)⟩
      | word s => exact ⟨_, rfl, by decide, rfl, rfl⟩
      | sign => exact ⟨_, rfl, by decide, rfl, rfl⟩
      | fin => exact ⟨_, rfl, by decide, rfl, rfl⟩
theorem sim_stop : Sim opsJ.stop opsX.stop := by
  refine ⟨fun r hr => ?_, fun l pos hl => ?_⟩
  · show (stopJ r).2 = r
    unfold stopJ
    simp [hr]
  · cases l with
    | nil => exact absurd rfl hl.ne
    | cons t l =>
      obtain ⟨sh, p⟩ := t
      cases sh with
      | fin => exact ⟨rfl, hl⟩
      | word s => exact ⟨_, rfl, by decide, rfl, rfl⟩
      | num s n => exact ⟨_, rfl, by decide, rfl, rfl⟩
      | sign => exact ⟨_, rfl, by decide, rfl, rfl⟩
theorem sim_more : ∀ k, Sim (opsJ.more k) (opsX.more k)
  | 0 => by
    refine ⟨fun r hr => ?_, fun l pos hl => ?_⟩
    · show (moreJ 0 r).2 = r
      unfold moreJ
      rw [if_neg (fun h => hr h.1)]
    · cases l with
      | nil => exact absurd rfl hl.ne
      | cons t l =>
        obtain ⟨sh, p⟩ := t
        cases sh with
        | word s => exact ⟨_, rfl, by decide, rfl, rfl⟩
        | fin => exact ⟨rfl, hl⟩
        | num s n => exact ⟨rfl, hl⟩
        | sign => exact ⟨rfl, hl⟩
  | k + 1 => by
    refine ⟨fun r hr => ?_, fun l pos hl => ?_⟩
    · show (moreJ (k + 1) r).2 = r
      unfold moreJ
      rw [if_neg (fun h => hr h.1)]
    · cases l with
      | nil => exact absurd rfl hl.ne
      | cons t l =>
        obtain ⟨sh, p⟩ := t
        cases sh with
        | word s =>
          have ih := (sim_more k).2 l pos (hl.tail (by simp))
          have e : moreJ (k + 1) ⟨⟨.word s, p⟩ :: l, pos, 0⟩ = (s :: (moreJ k ⟨l, pos, 0⟩).1, (moreJ k ⟨l, pos, 0⟩).2) := rfl
          show Post (moreJ (k + 1)) (⟨.word s, p⟩ :: l) pos (moreX (k + 1) (.word s :: l.map Tok.sh))
          change Post (moreJ k) l pos (moreX k (l.map Tok.sh)) at ih
          unfold moreX
          simp only
          cases hx : moreX k (l.map Tok.sh) with
          | error q =>
            obtain ⟨i, e2⟩ := q
            rw [hx] at ih
            obtain ⟨t, h1, h2, h3, h4⟩ := ih
            exact ⟨t, h1, h2, by rw [e]; exact h3, by rw [e]; exact h4⟩
          | ok q =>
            obtain ⟨a, n⟩ := q
            rw [hx] at ih
            exact ⟨by rw [e, ih.1]; rfl, ih.2⟩
        | fin => exact ⟨rfl, hl⟩
        | num s n => exact ⟨rfl, hl⟩
        | sign => exact ⟨rfl, hl⟩
theorem sim_part (w : List UInt8) (ws : List (List UInt8)) : Sim (partG opsJ w ws) (partG opsX w ws) :=
  sim_bnd (sim_want _) fun _ => sim_bnd (sim_want _) fun i => sim_bnd (sim_want _) fun _ => sim_ret i
theorem sim_edit : Sim (editG opsJ) (editG opsX) :=
  sim_bnd (sim_want _) fun _ => sim_ite _ (sim_bnd (sim_skip _) fun _ => sim_ite _ (sim_bnd (sim_num _) fun _ => sim_ret _) (sim_ret _)) (sim_ret _)
theorem sim_files : Sim (filesG opsJ) (filesG opsX) :=
  sim_bnd (sim_skip _) fun _ => sim_ite _ (sim_ret _) (sim_bnd (sim_num _) fun _ => sim_bnd (sim_want _) fun _ => sim_bnd (sim_num _) fun _ => sim_bnd (sim_want _) fun _ =>
    sim_bnd sim_name fun _ => sim_bnd (sim_more _) fun _ => sim_bnd (sim_want _) fun _ => sim_ret _)
theorem sim_keep : Sim (keepG opsJ) (keepG opsX) :=
  sim_bnd (sim_skip _) fun _ => sim_ite _ (sim_bnd (sim_num _) fun _ => sim_bnd (sim_want _) fun _ => sim_ret _) (sim_ret _)
theorem sim_rest : Sim (restG opsJ) (restG opsX) :=
  sim_bnd (sim_part _ _) fun _ => sim_bnd (sim_part _ _) fun _ => sim_bnd (sim_part _ _) fun _ => sim_bnd (sim_want _) fun _ => sim_bnd (sim_want _) fun _ => sim_bnd (sim_skip _) fun _ => sim_bnd (sim_want _) fun _ =>
  sim_bnd (sim_want _) fun _ => sim_bnd (sim_num _) fun _ => sim_bnd (sim_want _) fun _ => sim_bnd (sim_num _) fun _ => sim_bnd (sim_want _) fun _ => sim_bnd (sim_num _) fun _ => sim_bnd (sim_want _) fun _ =>
  sim_bnd sim_keep fun _ => sim_ret _
theorem sim_parse : Sim (parseG opsJ) (parseG opsX) :=
  sim_bnd (sim_want _) fun _ => sim_bnd sim_name fun _ => sim_bnd (sim_want _) fun _ => sim_bnd (sim_want _) fun _ => sim_bnd sim_edit fun _ => sim_bnd (sim_want _) fun _ =>
  sim_bnd (sim_part _ _) fun _ => sim_bnd (sim_part _ _) fun _ => sim_bnd (sim_part _ _) fun _ => sim_bnd (sim_part _ _) fun _ => sim_bnd (sim_part _ _) fun _ =>
  sim_bnd (sim_want _) fun _ => sim_bnd (sim_num _) fun _ => sim_bnd (sim_want _) fun _ => sim_bnd (sim_num _) fun _ => sim_bnd (sim_want _) fun _ =>
  sim_bnd sim_files fun _ => sim_bnd sim_rest fun _ => sim_bnd sim_stop fun _ => sim_ret _

abbrev zeroProf : Prof := ⟨ByteArray.empty, 0, 0, 0, false, 0, false, false, 0, 0, 0, 0, [], 0, 0, 0, 0, false, 0, 0, 0, 0⟩
/-- What Parse says of tokens. -/
def parseT (l : List Tok) : Prof × Int × Int := match parseG opsX (l.map Tok.sh) with
  | .ok (p, _) => (p, 0, 0)
  | .error (i, e) => (zeroProf, ((((l[i]?).map Tok.pos).getD 0 : Nat) : Int), e)
theorem parseT_J (l : List Tok) (h : Fine l) : parseT l = if (parseG opsJ ⟨l, 0, 0⟩).2.err = 0 then ((parseG opsJ ⟨l, 0, 0⟩).1, 0, 0) else (zeroProf, (parseG opsJ ⟨l, 0, 0⟩).2.pos, (parseG opsJ ⟨l, 0, 0⟩).2.err) := by
  have h1 := sim_parse.2 l 0 h
  unfold parseT
  cases hx : parseG opsX (l.map Tok.sh) with
  | error q =>
    obtain ⟨i, e⟩ := q
    rw [hx] at h1
    obtain ⟨t, ht, h0, he, hp⟩ := h1
    simp only
    rw [he, hp, if_neg h0, ht]
    rfl
  | ok q =>
    obtain ⟨a, n⟩ := q
    rw [hx] at h1
    simp only
    rw [h1.1]
    rfl
end Go.Proofs.YtnaejabgkfhlbaaDoor
