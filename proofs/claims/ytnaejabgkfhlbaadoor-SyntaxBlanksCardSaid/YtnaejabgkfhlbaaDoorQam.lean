/- Contracts and plain laws, joined: SyA, SyB, SyC. -/
import Derived.Test.YtnaejabgkfhlbaaDoorQak
import Derived.Test.YtnaejabgkfhlbaaDoorQad
import Derived.Lib.ItoaNum
/- The grammar of declarations in plain Lean (layer 12): reading tokens, once with what stands there after an error, once by errors alone; both say the same. -/
set_option linter.unusedSimpArgs false
set_option linter.unusedVariables false
namespace Go.Proofs.YtnaejabgkfhlbaaDoor
open Go.RowKit

/-- A token without its place. -/
inductive Sh where
  | word (s : List UInt8)
  | num (s : List UInt8) (n : Int)
  | sign
  | fin
def Sh.kind : Sh → Int
  | .word _ => 0
  | .num _ _ => 1
  | .sign => 2
  | .fin => 3
def Sh.text : Sh → List UInt8
  | .word s => s
  | .num s _ => s
  | .sign => [59]
  | .fin => []
def Sh.n : Sh → Int
  | .num _ n => n
  | _ => 0
structure Tok where
  sh : Sh
  pos : Nat
abbrev kNetwork : List UInt8 := [110, 101, 116, 119, 111, 114, 107]
abbrev kEdit : List UInt8 := [101, 100, 105, 116]
abbrev kNo : List UInt8 := [110, 111]
abbrev kYes : List UInt8 := [121, 101, 115]
abbrev kWithin : List UInt8 := [119, 105, 116, 104, 105, 110]
abbrev kDelete : List UInt8 := [100, 101, 108, 101, 116, 101]
abbrev kMark : List UInt8 := [109, 97, 114, 107]
abbrev kReact : List UInt8 := [114, 101, 97, 99, 116]
abbrev kThread : List UInt8 := [116, 104, 114, 101, 97, 100]
abbrev kNone : List UInt8 := [110, 111, 110, 101]
abbrev kFlat : List UInt8 := [102, 108, 97, 116]
abbrev kTree : List UInt8 := [116, 114, 101, 101]
abbrev kQuote : List UInt8 := [113, 117, 111, 116, 101]
abbrev kMention : List UInt8 := [109, 101, 110, 116, 105, 111, 110]
abbrev kSize : List UInt8 := [115, 105, 122, 101]
abbrev kParts : List UInt8 := [112, 97, 114, 116, 115]
abbrev kFiles : List UInt8 := [102, 105, 108, 101, 115]
abbrev kBytes : List UInt8 := [98, 121, 116, 101, 115]
abbrev kTypes : List UInt8 := [116, 121, 112, 101, 115]
abbrev kJoin : List UInt8 := [106, 111, 105, 110]
abbrev kInvite : List UInt8 := [105, 110, 118, 105, 116, 101]
abbrev kLink : List UInt8 := [108, 105, 110, 107]
abbrev kRole : List UInt8 := [114, 111, 108, 101]
abbrev kHistory : List UInt8 := [104, 105, 115, 116, 111, 114, 121]
abbrev kSince : List UInt8 := [115, 105, 110, 99, 101]
abbrev kAll : List UInt8 := [97, 108, 108]
abbrev kRemove : List UInt8 := [114, 101, 109, 111, 118, 101]
abbrev kNow : List UInt8 := [110, 111, 119]
abbrev kKey : List UInt8 := [107, 101, 121]
abbrev kReceipts : List UInt8 := [114, 101, 99, 101, 105, 112, 116, 115]
abbrev kSent : List UInt8 := [115, 101, 110, 116]
abbrev kHeld : List UInt8 := [104, 101, 108, 100]
abbrev kShown : List UInt8 := [115, 104, 111, 119, 110]
abbrev kRead : List UInt8 := [114, 101, 97, 100]
abbrev kBatch : List UInt8 := [98, 97, 116, 99, 104]
abbrev kRate : List UInt8 := [114, 97, 116, 101]
abbrev kDown : List UInt8 := [100, 111, 119, 110]
abbrev kOf : List UInt8 := [111, 102]
abbrev kKeep : List UInt8 := [107, 101, 101, 112]
abbrev kSemi : List UInt8 := [59]
abbrev wNoYes : List (List UInt8) := [kNo, kYes]
abbrev wDeletes : List (List UInt8) := [kNo, kMark, kYes]
abbrev wThreads : List (List UInt8) := [kNone, kFlat, kTree]
abbrev wJoins : List (List UInt8) := [kInvite, kLink, kRole]
abbrev wHistory : List (List UInt8) := [kSince, kAll]
abbrev wRemove : List (List UInt8) := [kNow, kKey]
abbrev wReceipts : List (List UInt8) := [kNone, kSent, kHeld, kShown, kRead]

/-- The place of a token among some words. -/
def spot (ws : List (List UInt8)) : Sh → Option Nat
  | .word t => ws.findIdx? (fun x => decide (t = x))
  | .sign => ws.findIdx? (fun x => decide ([59] = x))
  | _ => none

/-- What reads: the grammar is one and the same for both machines. -/
structure Ops (m : Type → Type) where
  ret : {α : Type} → α → m α
  bnd : {α β : Type} → m α → (α → m β) → m β
  skip : List (List UInt8) → m Int
  want : List (List UInt8) → m Int
  name : m (List UInt8)
  num : Int → m Int
  more : Nat → m (List (List UInt8))
  stop : m Unit

section
variable {m : Type → Type}
def partG (o : Ops m) (w : List UInt8) (ws : List (List UInt8)) : m Int :=
  o.bnd (o.want [w]) fun _ => o.bnd (o.want ws) fun i => o.bnd (o.want [kSemi]) fun _ => o.ret i
def editG (o : Ops m) : m (Int × Int) :=
  o.bnd (o.want wNoYes) fun i => if i = 1 then o.bnd (o.skip [kWithin]) fun k => if k = 0 then o.bnd (o.num 1) fun n => o.ret (2, n) else o.ret (2, 0) else o.ret (0, 0)
def filesG (o : Ops m) : m (Int × Int × List (List UInt8)) :=
  o.bnd (o.skip [kFiles]) fun k => if k < 0 then o.ret (0, 0, []) else
  o.bnd (o.num 1) fun f => o.bnd (o.want [kBytes]) fun _ => o.bnd (o.num 0) fun b => o.bnd (o.want [kTypes]) fun _ =>
  o.bnd o.name fun t => o.bnd (o.more 19) fun ts => o.bnd (o.want [kSemi]) fun _ => o.ret (f, b, t :: ts)
structure Rest where
  join : Int
  history : Int
  remove : Int
  level : Int
  batch : Bool
  rate : Int
  down : Int
  window : Int
  keep : Int
def keepG (o : Ops m) : m Int :=
  o.bnd (o.skip [kKeep]) fun k => if k = 0 then o.bnd (o.num 1) fun n => o.bnd (o.want [kSemi]) fun _ => o.ret n else o.ret 0
def restG (o : Ops m) : m Rest :=
  o.bnd (partG o kJoin wJoins) fun j => o.bnd (partG o kHistory wHistory) fun h => o.bnd (partG o kRemove wRemove) fun e =>
  o.bnd (o.want [kReceipts]) fun _ => o.bnd (o.want wReceipts) fun l => o.bnd (o.skip [kBatch]) fun b => o.bnd (o.want [kSemi]) fun _ =>
  o.bnd (o.want [kRate]) fun _ => o.bnd (o.num 0) fun r => o.bnd (o.want [kDown]) fun _ => o.bnd (o.num 0) fun d => o.bnd (o.want [kOf]) fun _ => o.bnd (o.num 0) fun w => o.bnd (o.want [kSemi]) fun _ =>
  o.bnd (keepG o) fun k => o.ret ⟨j, h, e, l, decide (b = 0), r, d, w, k⟩
def profOf (name : List UInt8) (ew : Int × Int) (delete : Int) (react : Int) (thread quote mention size parts : Int) (f : Int × Int × List (List UInt8)) (q : Rest) : Prof :=
  ⟨bs name, ew.1, ew.2, delete, decide (react = 1), thread, decide (quote = 1), decide (mention = 1), size, parts, f.1, f.2.1, f.2.2.map bs, q.join, q.history, q.remove, q.level, q.batch, q.rate, q.down, q.window, q.keep⟩
def parseG (o : Ops m) : m Prof :=
  o.bnd (o.want [kNetwork]) fun _ => o.bnd o.name fun name => o.bnd (o.want [kSemi]) fun _ => o.bnd (o.want [kEdit]) fun _ => o.bnd (editG o) fun ew => o.bnd (o.want [kSemi]) fun _ =>
  o.bnd (partG o kDelete wDeletes) fun de => o.bnd (partG o kReact wNoYes) fun re => o.bnd (partG o kThread wThreads) fun th => o.bnd (partG o kQuote wNoYes) fun qu => o.bnd (partG o kMention wNoYes) fun me =>
  o.bnd (o.want [kSize]) fun _ => o.bnd (o.num 0) fun sz => o.bnd (o.want [kParts]) fun _ => o.bnd (o.num 0) fun pa => o.bnd (o.want [kSemi]) fun _ =>
  o.bnd (filesG o) fun f => o.bnd (restG o) fun q => o.bnd o.stop fun _ => o.ret (profOf name ew de re th qu me sz pa f q)
end

/-- A reading: a value, and how many tokens are read; or at which token there is an error, and which. -/
abbrev Rd (α : Type) : Type := List Sh → Except (Nat × Int) (α × Nat)
def bndX {α β : Type} (x : Rd α) (k : α → Rd β) : Rd β := fun l => match x l with
  | .error e => .error e
  | .ok (a, n) => match k a (l.drop n) with
    | .error (j, e) => .error (n + j, e)
    | .ok (b, j) => .ok (b, n + j)
def skipX (ws : List (List UInt8)) : Rd Int := fun l => match l.head?.bind (spot ws) with
  | some i => .ok ((i : Int), 1)
  | none => .ok (-1, 0)
def wantX (ws : List (List UInt8)) : Rd Int := fun l => match l.head?.bind (spot ws) with
  | some i => .ok ((i : Int), 1)
  | none => .error (0, 12)
def nameX : Rd (List UInt8) := fun l => match l with
  | .word s :: _ => .ok (s, 1)
  | _ => .error (0, 12)
def numX (least : Int) : Rd Int := fun l => match l with
  | .num _ n :: _ => if n < least ∨ 1073741824 < n then .error (0, 3) else .ok (n, 1)
  | _ => .error (0, 12)
def moreX : Nat → Rd (List (List UInt8))
  | 0 => fun l => match l with
    | .word _ :: _ => .error (0, 6)
    | _ => .ok ([], 0)
  | k + 1 => fun l => match l with
    | .word s :: r => match moreX k r with
      | .error (j, e) => .error (j + 1, e)
      | .ok (t, n) => .ok (s :: t, n + 1)
    | _ => .ok ([], 0)
def stopX : Rd Unit := fun l => match l with
  | .fin :: _ => .ok ((), 0)
  | _ => .error (0, 12)
def opsX : Ops Rd where
  ret := fun a _ => .ok (a, 0)
  bnd := bndX
  skip := skipX
  want := wantX
  name := nameX
  num := numX
  more := moreX
  stop := stopX

/-- What a reader holds. -/
structure St where
  toks : List Tok
  pos : Int
  err : Int
abbrev Jd (α : Type) : Type := St → α × St
def failJ (e : Int) (r : St) : St := if r.err = 0 then (match r.toks with
  | t :: _ => ⟨r.toks, t.pos, e⟩
  | [] => r) else r
def skipJ (ws : List (List UInt8)) : Jd Int := fun r => if r.err = 0 then (match r.toks with
  | t :: l => (match spot ws t.sh with
    | some i => ((i : Int), ⟨l, r.pos, r.err⟩)
    | none => (-1, r))
  | [] => (-1, r)) else (-1, r)
def wantJ (ws : List (List UInt8)) : Jd Int := fun r => if (skipJ ws r).1 < 0 then (0, failJ 12 (skipJ ws r).2) else skipJ ws r
def nameJ : Jd (List UInt8) := fun r => if r.err = 0 then (match r.toks with
  | ⟨.word s, _⟩ :: l => (s, ⟨l, r.pos, r.err⟩)
  | _ => ([], failJ 12 r)) else ([], r)
def numJ (least : Int) : Jd Int := fun r => if r.err = 0 then (match r.toks with
  | ⟨.num _ n, _⟩ :: l => if n < least ∨ 1073741824 < n then (0, failJ 3 r) else (n, ⟨l, r.pos, r.err⟩)
  | _ => (0, failJ 12 r)) else (0, r)
def isWord : List Tok → Bool
  | ⟨.word _, _⟩ :: _ => true
  | _ => false
def moreJ : Nat → Jd (List (List UInt8))
  | 0 => fun r => if r.err = 0 ∧ isWord r.toks = true then ([], failJ 6 r) else ([], r)
  | k + 1 => fun r => if r.err = 0 ∧ isWord r.toks = true then ((nameJ r).1 :: (moreJ k (nameJ r).2).1, (moreJ k (nameJ r).2).2) else ([], r)
def stopJ : Jd Unit := fun r => ((), if r.err = 0 then (match r.toks with
  | ⟨.fin, _⟩ :: _ => r
  | _ => failJ 12 r) else r)
def opsJ : Ops Jd where
  ret := fun a r => (a, r)
  bnd := fun x k r => k (x r).1 (x r).2
  skip := skipJ
  want := wantJ
  name := nameJ
  num := numJ
  more := moreJ
  stop := stopJ

/-- The last token is the end. -/
def Fine (l : List Tok) : Prop := ∃ l0 t, l = l0 ++ [t] ∧ t.sh = .fin
theorem Fine.ne {l : List Tok} (h : Fine l) : l ≠ [] := by
  obtain ⟨l0, t, rfl, _⟩ := h; simp
theorem Fine.tail {t : Tok} {l : List Tok} (h : Fine (t :: l)) (hn : t.sh ≠ .fin) : Fine l := by
  obtain ⟨l0, u, e, hu⟩ := h
  cases l0 with
  | nil => simp at e; rw [e.1] at hn; exact absurd hu hn
  | cons x l0 => simp at e; exact ⟨l0, u, e.2, hu⟩
theorem spot_fin (ws : List (List UInt8)) {s : Sh} {i : Nat} (h : spot ws s = some i) : s ≠ .fin := by
  rintro rfl; simp [spot] at h

/-- What a reading by errors alone says of the machine that goes on. -/
def Post {α : Type} (j : Jd α) (l : List Tok) (pos : Int) : Except (Nat × Int) (α × Nat) → Prop
  | .ok (a, n) => j ⟨l, pos, 0⟩ = (a, ⟨l.drop n, pos, 0⟩) ∧ Fine (l.drop n)
  | .error (i, e) => ∃ t, l[i]? = some t ∧ e ≠ 0 ∧ (j ⟨l, pos, 0⟩).2.err = e ∧ (j ⟨l, pos, 0⟩).2.pos = t.pos
def Sim {α : Type} (j : Jd α) (x : Rd α) : Prop := (∀ r, r.err ≠ 0 → (j r).2 = r) ∧ ∀ l pos, Fine l → Post j l pos (x (l.map Tok.sh))
theorem sim_ret {α : Type} (a : α) : Sim (opsJ.ret a) (opsX.ret a) := ⟨fun _ _ => rfl, fun l pos h => ⟨rfl, h⟩⟩
theorem sim_bnd {α β : Type} {j : Jd α} {x : Rd α} {jk : α → Jd β} {xk : α → Rd β} (h : Sim j x) (hk : ∀ a, Sim (jk a) (xk a)) : Sim (opsJ.bnd j jk) (opsX.bnd x xk) := by
  refine ⟨fun r hr => ?_, fun l pos hl => ?_⟩
  · show (jk (j r).1 (j r).2).2 = r
    rw [h.1 r hr]
    exact (hk _).1 r hr
  · have h1 := h.2 l pos hl
    show Post (opsJ.bnd j jk) l pos (bndX x xk (l.map Tok.sh))
    unfold bndX
    cases hx : x (l.map Tok.sh) with
    | error e =>
      obtain ⟨i, e⟩ := e
      rw [hx] at h1
      obtain ⟨t, ht, h0, he, hp⟩ := h1
      refine ⟨t, ht, h0, ?_, ?_⟩
      · show (jk (j _).1 (j _).2).2.err = e
        rw [(hk _).1 _ (by rw [he]; exact h0)]; exact he
      · show (jk (j _).1 (j _).2).2.pos = t.pos
        rw [(hk _).1 _ (by rw [he]; exact h0)]; exact hp
    | ok p =>
      obtain ⟨a, n⟩ := p
      rw [hx] at h1
      obtain ⟨h2, h3⟩ := h1
      have h4 := (hk a).2 (l.drop n) pos h3
      rw [List.map_drop] at h4
      have e2 : opsJ.bnd j jk ⟨l, pos, 0⟩ = jk a ⟨l.drop n, pos, 0⟩ := by show jk (j _).1 (j _).2 = _; rw [h2]
      simp only
      cases hy : xk a ((l.map Tok.sh).drop n) with
      | error e =>
        obtain ⟨i, e⟩ := e
        rw [hy] at h4
        obtain ⟨t, ht, h5⟩ := h4
        exact ⟨t, by rw [← ht, List.getElem?_drop], by rw [e2]; exact h5⟩
      | ok q =>
        obtain ⟨b, k⟩ := q
        rw [hy] at h4
        obtain ⟨h5, h6⟩ := h4
        rw [List.drop_drop] at h5 h6
        exact ⟨by rw [e2]; exact h5, h6⟩
theorem sim_ite {α : Type} (c : Prop) [Decidable c] {j j' : Jd α} {x x' : Rd α} (h : Sim j x) (h' : Sim j' x') : Sim (if c then j else j') (if c then x else x') := by
  split <;> assumption
theorem sim_skip (ws : List (List UInt8)) : Sim (opsJ.skip ws) (opsX.skip ws) := by
  refine ⟨fun r hr => ?_, fun l pos hl => ?_⟩
  · show (skipJ ws r).2 = r
    unfold skipJ
    rw [if_neg hr]
  · cases l with
    | nil => exact absurd rfl hl.ne
    | cons t l =>
      show Post (skipJ ws) (t :: l) pos (skipX ws (t.sh :: l.map Tok.sh))
      unfold skipX
      simp only [List.head?_cons, Option.bind_some]
      cases hs : spot ws t.sh with
      | none => exact ⟨by simp [skipJ, hs], hl⟩
      | some i => exact ⟨by simp [skipJ, hs], hl.tail (spot_fin ws hs)⟩
theorem sim_want (ws : List (List UInt8)) : Sim (opsJ.want ws) (opsX.want ws) := by
  refine ⟨fun r hr => ?_, fun l pos hl => ?_⟩
  · show (wantJ ws r).2 = r
    unfold wantJ skipJ failJ
    simp [hr]
  · cases l with
    | nil => exact absurd rfl hl.ne
    | cons t l =>
      show Post (wantJ ws) (t :: l) pos (wantX ws (t.sh :: l.map Tok.sh))
      unfold wantX
      simp only [List.head?_cons, Option.bind_some]
      cases hs : spot ws t.sh with
      | none => exact ⟨t, rfl, by decide, by simp [wantJ, skipJ, failJ, hs], by simp [wantJ, skipJ, failJ, hs]⟩
      | some i =>
        have h0 : ¬ ((i : Int) < 0) := by omega
        exact ⟨by simp [wantJ, skipJ, hs, h0], hl.tail (spot_fin ws hs)⟩
theorem sim_name : Sim opsJ.name opsX.name := by
  refine ⟨fun r hr => ?_, fun l pos hl => ?_⟩
  · show (nameJ r).2 = r
    unfold nameJ
    rw [if_neg hr]
  · cases l with
    | nil => exact absurd rfl hl.ne
    | cons t l =>
      obtain ⟨sh, p⟩ := t
      cases sh with
      | word s => exact ⟨rfl, hl.tail (by simp)⟩
      | num s n => exact ⟨_, rfl, by decide, rfl, rfl⟩
      | sign => exact ⟨_, rfl, by decide, rfl, rfl⟩
      | fin => exact ⟨_, rfl, by decide, rfl, rfl⟩
theorem sim_num (least : Int) : Sim (opsJ.num least) (opsX.num least) := by
  refine ⟨fun r hr => ?_, fun l pos hl => ?_⟩
  · show (numJ least r).2 = r
    unfold numJ
    rw [if_neg hr]
  · cases l with
    | nil => exact absurd rfl hl.ne
    | cons t l =>
      obtain ⟨sh, p⟩ := t
      cases sh with
      | num s n =>
        show Post (numJ least) (⟨.num s n, p⟩ :: l) pos (numX least (.num s n :: l.map Tok.sh))
        unfold numX
        by_cases h : n < least ∨ 1073741824 < n
        · simp only [if_pos h]
          exact ⟨_, rfl, by decide, by simp [numJ, h, failJ], by simp [numJ, h, failJ]⟩
        · simp only [if_neg h]
          exact ⟨by simp only [numJ, if_true, if_neg h]; rfl, hl.tail (by simp)⟩
      | word s => exact ⟨_, rfl, by decide, rfl, rfl⟩
      | sign => exact ⟨_, rfl, by decide, rfl, rfl⟩
      | fin => exact ⟨_, rfl, by decide, rfl, rfl⟩
theorem sim_stop : Sim opsJ.stop opsX.stop := by
  refine ⟨fun r hr => ?_, fun l pos hl => ?_⟩
  · show (stopJ r).2 = r
    unfold stopJ
    simp [hr]
  · cases l with
    | nil => exact absurd rfl hl.ne
    | cons t l =>
      obtain ⟨sh, p⟩ := t
      cases sh with
      | fin => exact ⟨rfl, hl⟩
      | word s => exact ⟨_, rfl, by decide, rfl, rfl⟩
      | num s n => exact ⟨_, rfl, by decide, rfl, rfl⟩
      | sign => exact ⟨_, rfl, by decide, rfl, rfl⟩
theorem sim_more : ∀ k, Sim (opsJ.more k) (opsX.more k)
  | 0 => by
    refine ⟨fun r hr => ?_, fun l pos hl => ?_⟩
    · show (moreJ 0 r).2 = r
      unfold moreJ
      rw [if_neg (fun h => hr h.1)]
    · cases l with
      | nil => exact absurd rfl hl.ne
      | cons t l =>
        obtain ⟨sh, p⟩ := t
        cases sh with
        | word s => exact ⟨_, rfl, by decide, rfl, rfl⟩
        | fin => exact ⟨rfl, hl⟩
        | num s n => exact ⟨rfl, hl⟩
        | sign => exact ⟨rfl, hl⟩
  | k + 1 => by
    refine ⟨fun r hr => ?_, fun l pos hl => ?_⟩
    · show (moreJ (k + 1) r).2 = r
      unfold moreJ
      rw [if_neg (fun h => hr h.1)]
    · cases l with
      | nil => exact absurd rfl hl.ne
      | cons t l =>
        obtain ⟨sh, p⟩ := t
        cases sh with
        | word s =>
          have ih := (sim_more k).2 l pos (hl.tail (by simp))
          have e : moreJ (k + 1) ⟨⟨.word s, p⟩ :: l, pos, 0⟩ = (s :: (moreJ k ⟨l, pos, 0⟩).1, (moreJ k ⟨l, pos, 0⟩).2) := rfl
          show Post (moreJ (k + 1)) (⟨.word s, p⟩ :: l) pos (moreX (k + 1) (.word s :: l.map Tok.sh))
          change Post (moreJ k) l pos (moreX k (l.map Tok.sh)) at ih
          unfold moreX
          simp only
          cases hx : moreX k (l.map Tok.sh) with
          | error q =>
            obtain ⟨i, e2⟩ := q
            rw [hx] at ih
            obtain ⟨t, h1, h2, h3, h4⟩ := ih
            exact ⟨t, h1, h2, by rw [e]; exact h3, by rw [e]; exact h4⟩
          | ok q =>
            obtain ⟨a, n⟩ := q
            rw [hx] at ih
            exact ⟨by rw [e, ih.1]; rfl, ih.2⟩
        | fin => exact ⟨rfl, hl⟩
        | num s n => exact ⟨rfl, hl⟩
        | sign => exact ⟨rfl, hl⟩
theorem sim_part (w : List UInt8) (ws : List (List UInt8)) : Sim (partG opsJ w ws) (partG opsX w ws) :=
  sim_bnd (sim_want _) fun _ => sim_bnd (sim_want _) fun i => sim_bnd (sim_want _) fun _ => sim_ret i
theorem sim_edit : Sim (editG opsJ) (editG opsX) :=
  sim_bnd (sim_want _) fun _ => sim_ite _ (sim_bnd (sim_skip _) fun _ => sim_ite _ (sim_bnd (sim_num _) fun _ => sim_ret _) (sim_ret _)) (sim_ret _)
theorem sim_files : Sim (filesG opsJ) (filesG opsX) :=
  sim_bnd (sim_skip _) fun _ => sim_ite _ (sim_ret _) (sim_bnd (sim_num _) fun _ => sim_bnd (sim_want _) fun _ => sim_bnd (sim_num _) fun _ => sim_bnd (sim_want _) fun _ =>
    sim_bnd sim_name fun _ => sim_bnd (sim_more _) fun _ => sim_bnd (sim_want _) fun _ => sim_ret _)
theorem sim_keep : Sim (keepG opsJ) (keepG opsX) :=
  sim_bnd (sim_skip _) fun _ => sim_ite _ (sim_bnd (sim_num _) fun _ => sim_bnd (sim_want _) fun _ => sim_ret _) (sim_ret _)
theorem sim_rest : Sim (restG opsJ) (restG opsX) :=
  sim_bnd (sim_part _ _) fun _ => sim_bnd (sim_part _ _) fun _ => sim_bnd (sim_part _ _) fun _ => sim_bnd (sim_want _) fun _ => sim_bnd (sim_want _) fun _ => sim_bnd (sim_skip _) fun _ => sim_bnd (sim_want _) fun _ =>
  sim_bnd (sim_want _) fun _ => sim_bnd (sim_num _) fun _ => sim_bnd (sim_want _) fun _ => sim_bnd (sim_num _) fun _ => sim_bnd (sim_want _) fun _ => sim_bnd (sim_num _) fun _ => sim_bnd (sim_want _) fun _ =>
  sim_bnd sim_keep fun _ => sim_ret _
theorem sim_parse : Sim (parseG opsJ) (parseG opsX) :=
  sim_bnd (sim_want _) fun _ => sim_bnd sim_name fun _ => sim_bnd (sim_want _) fun _ => sim_bnd (sim_want _) fun _ => sim_bnd sim_edit fun _ => sim_bnd (sim_want _) fun _ =>
  sim_bnd (sim_part _ _) fun _ => sim_bnd (sim_part _ _) fun _ => sim_bnd (sim_part _ _) fun _ => sim_bnd (sim_part _ _) fun _ => sim_bnd (sim_part _ _) fun _ =>
  sim_bnd (sim_want _) fun _ => sim_bnd (sim_num _) fun _ => sim_bnd (sim_want _) fun _ => sim_bnd (sim_num _) fun _ => sim_bnd (sim_want _) fun _ =>
  sim_bnd sim_files fun _ => sim_bnd sim_rest fun _ => sim_bnd sim_stop fun _ => sim_ret _

abbrev zeroProf : Prof := ⟨ByteArray.empty, 0, 0, 0, false, 0, false, false, 0, 0, 0, 0, [], 0, 0, 0, 0, false, 0, 0, 0, 0⟩
/-- What Parse says of tokens. -/
def parseT (l : List Tok) : Prof × Int × Int := match parseG opsX (l.map Tok.sh) with
  | .ok (p, _) => (p, 0, 0)
  | .error (i, e) => (zeroProf, ((((l[i]?).map Tok.pos).getD 0 : Nat) : Int), e)
theorem parseT_J (l : List Tok) (h : Fine l) : parseT l = if (parseG opsJ ⟨l, 0, 0⟩).2.err = 0 then ((parseG opsJ ⟨l, 0, 0⟩).1, 0, 0) else (zeroProf, (parseG opsJ ⟨l, 0, 0⟩).2.pos, (parseG opsJ ⟨l, 0, 0⟩).2.err) := by
  have h1 := sim_parse.2 l 0 h
  unfold parseT
  cases hx : parseG opsX (l.map Tok.sh) with
  | error q =>
    obtain ⟨i, e⟩ := q
    rw [hx] at h1
    obtain ⟨t, ht, h0, he, hp⟩ := h1
    simp only
    rw [he, hp, if_neg h0, ht]
    rfl
  | ok q =>
    obtain ⟨a, n⟩ := q
    rw [hx] at h1
    simp only
    rw [h1.1]
    rfl
end Go.Proofs.YtnaejabgkfhlbaaDoor
/- Plain laws of reading declarations: an error hangs on what stands up to it; what is read is right; what a right profile's text consists of is read as that profile. -/
set_option linter.unusedSimpArgs false
set_option linter.unusedVariables false
namespace Go.Proofs.YtnaejabgkfhlbaaDoor
open Go.RowKit

/-- What is read hangs on what is read, and the token behind it. -/
def Pre {α : Type} (x : Rd α) : Prop := ∀ l, (∀ i e, x l = .error (i, e) → ∀ l', l'.take (i + 1) = l.take (i + 1) → x l' = .error (i, e)) ∧ ∀ a n, x l = .ok (a, n) → ∀ l', l'.take (n + 1) = l.take (n + 1) → x l' = .ok (a, n)
theorem head_take {α : Type} {l l' : List α} {n : Nat} (h : l'.take (n + 1) = l.take (n + 1)) : l'.head? = l.head? := by
  cases l <;> cases l' <;> simp at h ⊢
  exact h.1
theorem take_less {α : Type} {l l' : List α} {m n : Nat} (h : l'.take n = l.take n) (hm : m ≤ n) : l'.take m = l.take m := by
  have := congrArg (List.take m) h
  simpa [List.take_take, Nat.min_eq_left hm] using this
theorem pre_head {α : Type} {x : Rd α} (h : ∀ l l' : List Sh, l'.head? = l.head? → x l' = x l) : Pre x := fun l =>
  ⟨fun i e hx l' ht => (h l l' (head_take ht)).trans hx, fun a n hx l' ht => (h l l' (head_take ht)).trans hx⟩
theorem pre_ret {α : Type} (a : α) : Pre (opsX.ret a) := pre_head fun _ _ _ => rfl
theorem pre_bnd {α β : Type} {x : Rd α} {k : α → Rd β} (h : Pre x) (hk : ∀ a, Pre (k a)) : Pre (opsX.bnd x k) := by
  intro l
  show (∀ i e, bndX x k l = .error (i, e) → ∀ l', l'.take (i + 1) = l.take (i + 1) → bndX x k l' = .error (i, e)) ∧ ∀ a n, bndX x k l = .ok (a, n) → ∀ l', l'.take (n + 1) = l.take (n + 1) → bndX x k l' = .ok (a, n)
  cases hx : x l with
  | error q =>
    obtain ⟨j, e⟩ := q
    have e1 : bndX x k l = .error (j, e) := by unfold bndX; rw [hx]
    rw [e1]
    refine ⟨fun i e2 hi l' ht => ?_, fun a n hn => (by cases hn)⟩
    cases hi
    unfold bndX
    rw [(h l).1 _ _ hx l' ht]
  | ok q =>
    obtain ⟨a, n⟩ := q
    have e1 : bndX x k l = match k a (l.drop n) with
      | .error (j, e) => .error (n + j, e)
      | .ok (b, j) => .ok (b, n + j) := by unfold bndX; (rw [hx]) <;> rfl
    cases hy : k a (l.drop n) with
    | error q =>
      obtain ⟨j, e⟩ := q
      rw [hy] at e1
      simp only at e1
      rw [e1]
      refine ⟨fun i e2 hi l' ht => ?_, fun a n hn => (by cases hn)⟩
      cases hi
      have h1 := (h l).2 _ _ hx l' (take_less ht (by omega))
      have h2 := (hk a (l.drop n)).1 _ _ hy (l'.drop n) (by
        have := congrArg (List.drop n) ht
        rw [List.drop_take, List.drop_take] at this
        rwa [show n + j + 1 - n = j + 1 by omega] at this)
      unfold bndX
      rw [h1]
      simp only
      rw [h2]
    | ok q =>
      obtain ⟨b, j⟩ := q
      rw [hy] at e1
      simp only at e1
      rw [e1]
      refine ⟨fun i e2 hi => (by cases hi), fun a2 n2 hn l' ht => ?_⟩
      cases hn
      have h1 := (h l).2 _ _ hx l' (take_less ht (by omega))
      have h2 := (hk a (l.drop n)).2 _ _ hy (l'.drop n) (by
        have := congrArg (List.drop n) ht
        rw [List.drop_take, List.drop_take] at this
        rwa [show n + j + 1 - n = j + 1 by omega] at this)
      unfold bndX
      rw [h1]
      simp only
      rw [h2]
theorem pre_ite {α : Type} (c : Prop) [Decidable c] {x x' : Rd α} (h : Pre x) (h' : Pre x') : Pre (if c then x else x') := by
  split <;> assumption
theorem pre_skip (ws : List (List UInt8)) : Pre (opsX.skip ws) := pre_head fun l l' h => by show skipX ws l' = skipX ws l; unfold skipX; rw [h]
theorem pre_want (ws : List (List UInt8)) : Pre (opsX.want ws) := pre_head fun l l' h => by show wantX ws l' = wantX ws l; unfold wantX; rw [h]
theorem head_cases {l l' : List Sh} (h : l'.head? = l.head?) : (l = [] ∧ l' = []) ∨ ∃ s r r', l = s :: r ∧ l' = s :: r' := by
  cases l <;> cases l' <;> simp at h ⊢
  exact h
theorem pre_name : Pre opsX.name := pre_head fun l l' h => by
  rcases head_cases h with ⟨rfl, rfl⟩ | ⟨s, r, r', rfl, rfl⟩
  · rfl
  · cases s <;> rfl
theorem pre_num (n : Int) : Pre (opsX.num n) := pre_head fun l l' h => by
  rcases head_cases h with ⟨rfl, rfl⟩ | ⟨s, r, r', rfl, rfl⟩
  · rfl
  · cases s <;> rfl
theorem pre_stop : Pre opsX.stop := pre_head fun l l' h => by
  rcases head_cases h with ⟨rfl, rfl⟩ | ⟨s, r, r', rfl, rfl⟩
  · rfl
  · cases s <;> rfl
theorem pre_more : ∀ k, Pre (opsX.more k)
  | 0 => pre_head fun l l' h => by
    rcases head_cases h with ⟨rfl, rfl⟩ | ⟨s, r, r', rfl, rfl⟩
    · rfl
    · cases s <;> rfl
  | k + 1 => by
    intro l
    show (∀ i e, moreX (k + 1) l = .error (i, e) → ∀ l', l'.take (i + 1) = l.take (i + 1) → moreX (k + 1) l' = .error (i, e)) ∧ ∀ a n, moreX (k + 1) l = .ok (a, n) → ∀ l', l'.take (n + 1) = l.take (n + 1) → moreX (k + 1) l' = .ok (a, n)
    have key : ∀ s r, moreX (k + 1) (.word s :: r) = match moreX k r with
      | .error (j, e) => .error (j + 1, e)
      | .ok (t, n) => .ok (s :: t, n + 1) := fun s r => rfl
    cases l with
    | nil =>
      refine ⟨fun i e h => (by cases h), fun a n h l' ht => ?_⟩
      cases h
      cases l' with
      | nil => rfl
      | cons a l' => simp at ht
    | cons s r =>
      cases s with
      | word s =>
        rw [key]
        have ih := pre_more k r
        change (∀ i e, moreX k r = .error (i, e) → ∀ l', l'.take (i + 1) = r.take (i + 1) → moreX k l' = .error (i, e)) ∧ ∀ a n, moreX k r = .ok (a, n) → ∀ l', l'.take (n + 1) = r.take (n + 1) → moreX k l' = .ok (a, n) at ih
        cases hx : moreX k r with
        | error q =>
          obtain ⟨j, e⟩ := q
          refine ⟨fun i e2 h l' ht => ?_, fun a n h => (by cases h)⟩
          cases h
          cases l' with
          | nil => simp at ht
          | cons b l' =>
            simp at ht
            rw [ht.1, key, ih.1 _ _ hx l' ht.2]
        | ok q =>
          obtain ⟨t, n⟩ := q
          refine ⟨fun i e2 h => (by cases h), fun a n2 h l' ht => ?_⟩
          cases h
          cases l' with
          | nil => simp at ht
          | cons b l' =>
            simp at ht
            rw [ht.1, key, ih.2 _ _ hx l' ht.2]
      | num s n =>
        refine ⟨fun i e h => (by cases h), fun a m h l' ht => ?_⟩
        cases h
        cases l' with
        | nil => simp at ht
        | cons b l' => simp at ht; rw [ht]; rfl
      | sign =>
        refine ⟨fun i e h => (by cases h), fun a m h l' ht => ?_⟩
        cases h
        cases l' with
        | nil => simp at ht
        | cons b l' => simp at ht; rw [ht]; rfl
      | fin =>
        refine ⟨fun i e h => (by cases h), fun a m h l' ht => ?_⟩
        cases h
        cases l' with
        | nil => simp at ht
        | cons b l' => simp at ht; rw [ht]; rfl
theorem pre_part (w : List UInt8) (ws : List (List UInt8)) : Pre (partG opsX w ws) :=
  pre_bnd (pre_want _) fun _ => pre_bnd (pre_want _) fun i => pre_bnd (pre_want _) fun _ => pre_ret i
theorem pre_edit : Pre (editG opsX) :=
  pre_bnd (pre_want _) fun _ => pre_ite _ (pre_bnd (pre_skip _) fun _ => pre_ite _ (pre_bnd (pre_num _) fun _ => pre_ret _) (pre_ret _)) (pre_ret _)
theorem pre_files : Pre (filesG opsX) :=
  pre_bnd (pre_skip _) fun _ => pre_ite _ (pre_ret _) (pre_bnd (pre_num _) fun _ => pre_bnd (pre_want _) fun _ => pre_bnd (pre_num _) fun _ => pre_bnd (pre_want _) fun _ =>
    pre_bnd pre_name fun _ => pre_bnd (pre_more _) fun _ => pre_bnd (pre_want _) fun _ => pre_ret _)
theorem pre_keep : Pre (keepG opsX) :=
  pre_bnd (pre_skip _) fun _ => pre_ite _ (pre_bnd (pre_num _) fun _ => pre_bnd (pre_want _) fun _ => pre_ret _) (pre_ret _)
theorem pre_rest : Pre (restG opsX) :=
  pre_bnd (pre_part _ _) fun _ => pre_bnd (pre_part _ _) fun _ => pre_bnd (pre_part _ _) fun _ => pre_bnd (pre_want _) fun _ => pre_bnd (pre_want _) fun _ => pre_bnd (pre_skip _) fun _ => pre_bnd (pre_want _) fun _ =>
  pre_bnd (pre_want _) fun _ => pre_bnd (pre_num _) fun _ => pre_bnd (pre_want _) fun _ => pre_bnd (pre_num _) fun _ => pre_bnd (pre_want _) fun _ => pre_bnd (pre_num _) fun _ => pre_bnd (pre_want _) fun _ =>
  pre_bnd pre_keep fun _ => pre_ret _
theorem pre_parse : Pre (parseG opsX) :=
  pre_bnd (pre_want _) fun _ => pre_bnd pre_name fun _ => pre_bnd (pre_want _) fun _ => pre_bnd (pre_want _) fun _ => pre_bnd pre_edit fun _ => pre_bnd (pre_want _) fun _ =>
  pre_bnd (pre_part _ _) fun _ => pre_bnd (pre_part _ _) fun _ => pre_bnd (pre_part _ _) fun _ => pre_bnd (pre_part _ _) fun _ => pre_bnd (pre_part _ _) fun _ =>
  pre_bnd (pre_want _) fun _ => pre_bnd (pre_num _) fun _ => pre_bnd (pre_want _) fun _ => pre_bnd (pre_num _) fun _ => pre_bnd (pre_want _) fun _ =>
  pre_bnd pre_files fun _ => pre_bnd pre_rest fun _ => pre_bnd pre_stop fun _ => pre_ret _

/-- Words that are tokens are valid. -/
def GoodSh : Sh → Prop
  | .word s => wordL s = true
  | _ => True
def Gives {α : Type} (x : Rd α) (P : α → Prop) : Prop := ∀ l, (∀ s ∈ l, GoodSh s) → ∀ a n, x l = .ok (a, n) → P a
theorem gives_ret {α : Type} {P : α → Prop} {a : α} (h : P a) : Gives (opsX.ret a) P := fun l _ b n e => by cases e; exact h
theorem gives_bnd {α β : Type} {x : Rd α} {k : α → Rd β} {P : α → Prop} {Q : β → Prop} (h : Gives x P) (hk : ∀ a, P a → Gives (k a) Q) : Gives (opsX.bnd x k) Q := by
  intro l hl b n e
  change bndX x k l = _ at e
  unfold bndX at e
  cases hx : x l with
  | error q => rw [hx] at e; cases e
  | ok q =>
    obtain ⟨a, m⟩ := q
    rw [hx] at e
    simp only at e
    cases hy : k a (l.drop m) with
    | error q => rw [hy] at e; cases e
    | ok q =>
      obtain ⟨c, j⟩ := q
      rw [hy] at e
      cases e
      exact hk a (h l hl a m hx) _ (fun s hs => hl s (List.mem_of_mem_drop hs)) _ _ hy
theorem gives_ite {α : Type} {P : α → Prop} (c : Prop) [Decidable c] {x x' : Rd α} (h : c → Gives x P) (h' : ¬ c → Gives x' P) : Gives (if c then x else x') P := by
  split
  · exact h ‹_›
  · exact h' ‹_›
theorem findIdx_lt {α : Type} {p : α → Bool} {xs : List α} {i : Nat} (h : xs.findIdx? p = some i) : i < xs.length :=
  (List.findIdx?_eq_some_iff_getElem.1 h).1
theorem spot_lt {ws : List (List UInt8)} {s : Sh} {i : Nat} (h : spot ws s = some i) : i < ws.length := by
  cases s <;> simp only [spot] at h
  · exact findIdx_lt h
  · cases h
  · exact findIdx_lt h
  · cases h
theorem gives_want (ws : List (List UInt8)) : Gives (opsX.want ws) (fun a => 0 ≤ a ∧ a < ws.length) := by
  intro l _ a n e
  change wantX ws l = _ at e
  unfold wantX at e
  cases l with
  | nil => cases e
  | cons s l =>
    simp only [List.head?_cons, Option.bind_some] at e
    cases hs : spot ws s with
    | none => rw [hs] at e; cases e
    | some i => rw [hs] at e; cases e; have := spot_lt hs; omega
theorem gives_skip (ws : List (List UInt8)) : Gives (opsX.skip ws) (fun _ => True) := fun _ _ _ _ _ => trivial
theorem gives_stop : Gives opsX.stop (fun _ => True) := fun _ _ _ _ _ => trivial
theorem gives_name : Gives opsX.name (fun s => wordL s = true) := by
  intro l hl a n e
  change nameX l = _ at e
  unfold nameX at e
  split at e
  · cases e; exact hl (.word a) (by simp)
  · cases e
theorem gives_num (least : Int) : Gives (opsX.num least) (fun n => least ≤ n ∧ n ≤ 1073741824) := by
  intro l hl a n e
  change numX least l = _ at e
  unfold numX at e
  split at e
  · split at e
    · cases e
    · cases e; omega
  · cases e
theorem gives_more : ∀ k, Gives (opsX.more k) (fun ts => ts.length ≤ k ∧ ∀ s ∈ ts, wordL s = true)
  | 0 => by
    intro l hl a n e
    change moreX 0 l = _ at e
    unfold moreX at e
    split at e
    · cases e
    · cases e; simp
  | k + 1 => by
    intro l hl a n e
    change moreX (k + 1) l = _ at e
    unfold moreX at e
    split at e
    · rename_i s r
      cases hx : moreX k r with
      | error q => rw [hx] at e; cases e
      | ok q =>
        obtain ⟨t, m⟩ := q
        rw [hx] at e
        cases e
        have ih := gives_more k r (fun s hs => hl s (by simp [hs])) t m hx
        refine ⟨by simp; exact ih.1, fun x hx => ?_⟩
        rcases List.mem_cons.1 hx with rfl | hx
        · exact hl (.word x) (by simp)
        · exact ih.2 x hx
    · cases e; simp
theorem gives_part (w : List UInt8) (ws : List (List UInt8)) : Gives (partG opsX w ws) (fun a => 0 ≤ a ∧ a < ws.length) :=
  gives_bnd (gives_want _) fun _ _ => gives_bnd (gives_want _) fun i hi => gives_bnd (gives_want _) fun _ _ => gives_ret hi
theorem gives_edit : Gives (editG opsX) (fun e => (e.1 = 0 ∧ e.2 = 0) ∨ (e.1 = 2 ∧ 0 ≤ e.2 ∧ e.2 ≤ 1073741824)) :=
  gives_bnd (gives_want _) fun _ _ => gives_ite _ (fun _ => gives_bnd (gives_skip _) fun _ _ => gives_ite _ (fun _ => gives_bnd (gives_num _) fun n hn => gives_ret (by simp; omega)) (fun _ => gives_ret (by simp))) (fun _ => gives_ret (by simp))
def FilesR (f : Int × Int × List (List UInt8)) : Prop := (f.1 = 0 ∧ f.2.1 = 0 ∧ f.2.2 = []) ∨ (1 ≤ f.1 ∧ f.1 ≤ 1073741824 ∧ 0 ≤ f.2.1 ∧ f.2.1 ≤ 1073741824 ∧ 1 ≤ f.2.2.length ∧ f.2.2.length ≤ 20 ∧ ∀ s ∈ f.2.2, wordL s = true)
theorem gives_files : Gives (filesG opsX) FilesR :=
  gives_bnd (gives_skip _) fun _ _ => gives_ite _ (fun _ => gives_ret (.inl ⟨rfl, rfl, rfl⟩)) (fun _ => gives_bnd (gives_num _) fun _ h1 => gives_bnd (gives_want _) fun _ _ => gives_bnd (gives_num _) fun _ h2 => gives_bnd (gives_want _) fun _ _ =>
    gives_bnd gives_name fun _ h3 => gives_bnd (gives_more _) fun _ h4 => gives_bnd (gives_want _) fun _ _ => gives_ret (.inr ⟨h1.1, h1.2, h2.1, h2.2, by simp, by simp; omega, fun s hs => by
      rcases List.mem_cons.1 hs with rfl | hs
      · exact h3
      · exact h4.2 s hs⟩))
theorem gives_keep : Gives (keepG opsX) (fun n => 0 ≤ n ∧ n ≤ 1073741824) :=
  gives_bnd (gives_skip _) fun _ _ => gives_ite _ (fun _ => gives_bnd (gives_num _) fun _ h => gives_bnd (gives_want _) fun _ _ => gives_ret ⟨by omega, h.2⟩) (fun _ => gives_ret (by omega))
structure RestR (q : Rest) : Prop where
  join : 0 ≤ q.join ∧ q.join < 3
  history : 0 ≤ q.history ∧ q.history < 2
  remove : 0 ≤ q.remove ∧ q.remove < 2
  level : 0 ≤ q.level ∧ q.level < 5
  rate : 0 ≤ q.rate ∧ q.rate ≤ 1073741824
  down : 0 ≤ q.down ∧ q.down ≤ 1073741824
  window : 0 ≤ q.window ∧ q.window ≤ 1073741824
  keep : 0 ≤ q.keep ∧ q.keep ≤ 1073741824
theorem gives_rest : Gives (restG opsX) RestR :=
  gives_bnd (gives_part _ _) fun _ h1 => gives_bnd (gives_part _ _) fun _ h2 => gives_bnd (gives_part _ _) fun _ h3 => gives_bnd (gives_want _) fun _ _ => gives_bnd (gives_want _) fun _ h4 => gives_bnd (gives_skip _) fun _ _ => gives_bnd (gives_want _) fun _ _ =>
  gives_bnd (gives_want _) fun _ _ => gives_bnd (gives_num _) fun _ h5 => gives_bnd (gives_want _) fun _ _ => gives_bnd (gives_num _) fun _ h6 => gives_bnd (gives_want _) fun _ _ => gives_bnd (gives_num _) fun _ h7 => gives_bnd (gives_want _) fun _ _ =>
  gives_bnd gives_keep fun _ h8 => gives_ret ⟨h1, h2, h3, h4, h5, h6, h7, h8⟩
theorem right_of {name : List UInt8} {ew : Int × Int} {de re th qu me sz pa : Int} {f : Int × Int × List (List UInt8)} {q : Rest} (hn : wordL name = true) (he : (ew.1 = 0 ∧ ew.2 = 0) ∨ (ew.1 = 2 ∧ 0 ≤ ew.2 ∧ ew.2 ≤ 1073741824))
    (hd : 0 ≤ de ∧ de < 3) (ht : 0 ≤ th ∧ th < 3) (hs : 0 ≤ sz ∧ sz ≤ 1073741824) (hp : 0 ≤ pa ∧ pa ≤ 1073741824) (hf : FilesR f) (hq : RestR q) : profRight (profOf name ew de re th qu me sz pa f q) = true := by
  obtain ⟨q1, q2, q3, q4, q5, q6, q7, q8⟩ := hq
  have inr : ∀ n a b : Int, a ≤ n → n ≤ b → inR n a b = true := fun n a b h1 h2 => by simp [inR]; omega
  have hk : kindsB (profOf name ew de re th qu me sz pa f q) = true := by
    simp only [kindsB, profOf]
    rw [inr _ _ _ hd.1 (by omega), inr _ _ _ ht.1 (by omega), inr _ _ _ q1.1 (by omega), inr _ _ _ q2.1 (by omega), inr _ _ _ q3.1 (by omega), inr _ _ _ q4.1 (by omega)]
    rcases he with h | h <;> simp [h.1]
  have hff : 0 ≤ f.1 ∧ f.1 ≤ 1073741824 ∧ 0 ≤ f.2.1 ∧ f.2.1 ≤ 1073741824 := by
    rcases hf with ⟨h1, h2, _⟩ | ⟨h1, h2, h3, h4, _⟩
    · rw [h1, h2]; decide
    · exact ⟨by omega, h2, h3, h4⟩
  have hnum : numbersB (profOf name ew de re th qu me sz pa f q) = true := by
    simp only [numbersB, profOf, stepB]
    rw [inr ew.2 _ _ (by omega) (by omega), inr sz _ _ hs.1 hs.2, inr pa _ _ hp.1 hp.2, inr f.1 _ _ hff.1 hff.2.1, inr f.2.1 _ _ hff.2.2.1 hff.2.2.2, inr _ _ _ q5.1 q5.2, inr _ _ _ q6.1 q6.2, inr _ _ _ q7.1 q7.2, inr _ _ _ q8.1 q8.2]
    rfl
  have hnm : wordB (bs name) = true := by simpa [wordB, bs] using hn
  have hty : typesB (profOf name ew de re th qu me sz pa f q) = true := by
    obtain ⟨f1, f2, f3⟩ := f
    rcases hf with ⟨h1, h2, h3⟩ | ⟨h1, h2, h3, h4, h5, h6, h7⟩
    · simp only at h1 h2 h3
      subst h1 h2 h3
      rfl
    · simp only at h1 h2 h3 h4 h5 h6 h7
      have h0 : ¬ f1 = 0 := by omega
      have h8 : (f3.map bs).all wordB = true := by
        rw [List.all_eq_true]
        intro x hx
        obtain ⟨s, hs, rfl⟩ := List.mem_map.1 hx
        simpa [wordB, bs] using h7 s hs
      simp only [typesB, profOf, h0, if_false, h8, List.length_map, Bool.and_true, Bool.and_eq_true, decide_eq_true_eq]
      exact ⟨h5, h6⟩
  simp only [profRight, headB, hk, hnum, hty, Bool.true_and, Bool.and_true]
  show (wordB (bs name) && _) = true
  rw [hnm]
  rcases he with h | h
  · simp [profOf, h.1, h.2]
  · simp [profOf, h.1]
theorem gives_parse : Gives (parseG opsX) (fun p => profRight p = true) :=
  gives_bnd (gives_want _) fun _ _ => gives_bnd gives_name fun _ h1 => gives_bnd (gives_want _) fun _ _ => gives_bnd (gives_want _) fun _ _ => gives_bnd gives_edit fun _ h2 => gives_bnd (gives_want _) fun _ _ =>
  gives_bnd (gives_part _ _) fun _ h3 => gives_bnd (gives_part _ _) fun _ _ => gives_bnd (gives_part _ _) fun _ h4 => gives_bnd (gives_part _ _) fun _ _ => gives_bnd (gives_part _ _) fun _ _ =>
  gives_bnd (gives_want _) fun _ _ => gives_bnd (gives_num _) fun _ h5 => gives_bnd (gives_want _) fun _ _ => gives_bnd (gives_num _) fun _ h6 => gives_bnd (gives_want _) fun _ _ =>
  gives_bnd gives_files fun _ h7 => gives_bnd gives_rest fun _ h8 => gives_bnd gives_stop fun _ _ => gives_ret (right_of h1 h2 h3 h4 h5 h6 h7 h8)
end Go.Proofs.YtnaejabgkfhlbaaDoor
/- Tokens of a string in plain Lean (layer 11), and what cutting, blanks and other ends do to them. -/
set_option linter.unusedSimpArgs false
set_option linter.unusedVariables false
namespace Go.Proofs.YtnaejabgkfhlbaaDoor
open Go.RowKit

def blankC (c : UInt8) : Bool := c == 32 || (c == 9 || c == 10)
def letterC (c : UInt8) : Bool := letterI c.toNat
def digitC (c : UInt8) : Bool := digitI c.toNat
def valF (l : List UInt8) : Nat := l.foldl (fun n c => 10 * n + (c.toNat - 48)) 0
/-- The value of a valid number. -/
def numF (l : List UInt8) : Option Int := if l = [] ∨ l.all digitC = false ∨ (l.head? = some 48 ∧ l ≠ [48]) ∨ 1099511627776 < valF l then none else some (valF l : Int)
def nextF : List UInt8 → Except Int Sh
  | [] => .error 10
  | c :: r => if letterC c then (if wordL ((c :: r).takeWhile wordC) then .ok (.word ((c :: r).takeWhile wordC)) else .error 11) else
    if digitC c then (match numF ((c :: r).takeWhile digitC) with
      | some n => .ok (.num ((c :: r).takeWhile digitC) n)
      | none => .error 3) else
    if c = 59 then .ok .sign else .error 10
theorem nextF_cons (c : UInt8) (r : List UInt8) : nextF (c :: r) = if letterC c then (if wordL ((c :: r).takeWhile wordC) then .ok (.word ((c :: r).takeWhile wordC)) else .error 11) else
    if digitC c then (match numF ((c :: r).takeWhile digitC) with
      | some n => .ok (.num ((c :: r).takeWhile digitC) n)
      | none => .error 3) else
    if c = 59 then .ok .sign else .error 10 := rfl
abbrev LexR := Except (Nat × Int) (List Tok)
def addT (out : List Tok) : LexR → LexR
  | .error e => .error e
  | .ok ts => .ok (out ++ ts)
def lexG : Nat → List UInt8 → Nat → LexR
  | 0, _, at_ => .ok [⟨.fin, at_⟩]
  | f + 1, l, at_ => match l with
    | [] => .ok [⟨.fin, at_⟩]
    | c :: r => if blankC c then lexG f r (at_ + 1) else match nextF (c :: r) with
      | .error e => .error (at_, e)
      | .ok sh => addT [⟨sh, at_⟩] (lexG f ((c :: r).drop sh.text.length) (at_ + sh.text.length))
def lexS (l : List UInt8) (at_ : Nat) : LexR := lexG l.length l at_
/-- What Lex says. -/
def lexL (s : List UInt8) : LexR := if 2000 < s.length then .error (0, 6) else lexS s 0

theorem addT_nil (r : LexR) : addT [] r = r := by cases r <;> rfl
theorem addT_add (a b : List Tok) (r : LexR) : addT a (addT b r) = addT (a ++ b) r := by cases r <;> simp [addT]

/-- A token that is none of the ends. -/
def GoodTok : Sh → Prop
  | .word s => wordL s = true
  | .num s n => numF s = some n
  | .sign => True
  | .fin => False
def Stops (sh : Sh) (q : List UInt8) : Prop := match sh with
  | .word _ => ∀ c, q.head? = some c → wordC c = false
  | .num _ _ => ∀ c, q.head? = some c → digitC c = false
  | _ => True
theorem tw_split {p : UInt8 → Bool} (l : List UInt8) : l = l.takeWhile p ++ l.drop (l.takeWhile p).length ∧ ∀ c, (l.drop (l.takeWhile p).length).head? = some c → p c = false := by
  induction l with
  | nil => simp
  | cons a l ih =>
    rw [List.takeWhile_cons]
    cases h : p a
    · simp [h]
    · simp only [if_true, List.length_cons, List.drop_succ_cons, List.cons_append]
      exact ⟨congrArg _ ih.1, ih.2⟩
theorem tw_of {p : UInt8 → Bool} (t q : List UInt8) (ht : t.all p = true) (hq : ∀ c, q.head? = some c → p c = false) : (t ++ q).takeWhile p = t := by
  induction t with
  | nil =>
    cases q with
    | nil => rfl
    | cons c q => simp [hq c rfl]
  | cons a t ih =>
    simp only [List.all_cons, Bool.and_eq_true] at ht
    rw [List.cons_append, List.takeWhile_cons, ht.1]
    simp only [if_true]
    rw [ih ht.2]
theorem wordL_all {s : List UInt8} (h : wordL s = true) : s.all wordC = true ∧ ∃ c r, s = c :: r ∧ letterC c = true := by
  cases s with
  | nil => simp [wordL] at h
  | cons c r =>
    unfold wordL at h
    simp only [Bool.and_eq_true] at h
    exact ⟨h.2, c, r, rfl, h.1.1⟩
theorem numF_inv {s : List UInt8} {n : Int} (h : numF s = some n) : s.all digitC = true ∧ (∃ c r, s = c :: r ∧ digitC c = true) ∧ n = (valF s : Int) ∧ valF s ≤ 1099511627776 ∧ ¬ (s.head? = some 48 ∧ s ≠ [48]) := by
  unfold numF at h
  split at h
  · cases h
  · rename_i hn
    simp only [not_or] at hn
    obtain ⟨h1, h2, h3, h4⟩ := hn
    have h2 : s.all digitC = true := by simpa using h2
    refine ⟨h2, ?_, by cases h; rfl, by omega, h3⟩
    cases s with
    | nil => exact absurd rfl h1
    | cons c r => exact ⟨c, r, rfl, by simp at h2; exact h2.1⟩
theorem letter_not {c : UInt8} (h : letterC c = true) : blankC c = false ∧ wordC c = true := by
  unfold letterC letterI at h
  simp at h
  constructor
  · unfold blankC
    have : ∀ k : UInt8, k.toNat < 97 → (c == k) = false := fun k hk => by
      rw [beq_eq_false_iff_ne]; rintro rfl; omega
    rw [this 32 (by decide), this 9 (by decide), this 10 (by decide)]
    rfl
  · unfold wordC wordI letterI
    simp; left; exact h
theorem digit_not {c : UInt8} (h : digitC c = true) : blankC c = false ∧ letterC c = false ∧ wordC c = true := by
  unfold digitC digitI at h
  simp at h
  refine ⟨?_, ?_, ?_⟩
  · unfold blankC
    have : ∀ k : UInt8, k.toNat < 48 → (c == k) = false := fun k hk => by
      rw [beq_eq_false_iff_ne]; rintro rfl; omega
    rw [this 32 (by decide), this 9 (by decide), this 10 (by decide)]
    rfl
  · unfold letterC letterI
    simp; omega
  · unfold wordC wordI digitI
    simp; right; exact h
theorem blank_not {c : UInt8} (h : blankC c = true) : wordC c = false ∧ digitC c = false := by
  unfold blankC at h
  simp at h
  rcases h with rfl | rfl | rfl <;> decide
theorem nextF_ok {l : List UInt8} {sh : Sh} (h : nextF l = .ok sh) : GoodTok sh ∧ l = sh.text ++ l.drop sh.text.length ∧ Stops sh (l.drop sh.text.length) := by
  cases l with
  | nil => cases h
  | cons c r =>
    rw [nextF_cons] at h
    split at h
    · split at h
      · cases h
        have := tw_split (p := wordC) (c :: r)
        exact ⟨by assumption, this.1, this.2⟩
      · cases h
    · split at h
      · split at h
        · rename_i n hn
          cases h
          have := tw_split (p := digitC) (c :: r)
          exact ⟨hn, this.1, this.2⟩
        · cases h
      · split at h
        · rename_i hc
          cases h
          subst hc
          exact ⟨trivial, rfl, trivial⟩
        · cases h
theorem good_head {sh : Sh} (h : GoodTok sh) : ∃ c r, sh.text = c :: r ∧ blankC c = false := by
  cases sh with
  | word s => obtain ⟨_, c, r, rfl, hc⟩ := wordL_all h; exact ⟨c, r, rfl, (letter_not hc).1⟩
  | num s n => obtain ⟨_, ⟨c, r, rfl, hc⟩, _⟩ := numF_inv h; exact ⟨c, r, rfl, (digit_not hc).1⟩
  | sign => exact ⟨59, [], rfl, by decide⟩
  | fin => exact h.elim
theorem nextF_of {sh : Sh} {q : List UInt8} (h : GoodTok sh) (hs : Stops sh q) : nextF (sh.text ++ q) = .ok sh := by
  cases sh with
  | word s =>
    obtain ⟨ha, c, r, rfl, hc⟩ := wordL_all h
    have e := tw_of (p := wordC) (c :: r) q ha hs
    show nextF (c :: (r ++ q)) = _
    rw [nextF_cons, if_pos hc]
    change (c :: (r ++ q)).takeWhile wordC = _ at e
    change wordL (c :: r) = true at h
    rw [e, if_pos h]
  | num s n =>
    obtain ⟨ha, ⟨c, r, rfl, hc⟩, _⟩ := numF_inv h
    have e := tw_of (p := digitC) (c :: r) q ha hs
    have hl := (digit_not hc).2.1
    show nextF (c :: (r ++ q)) = _
    rw [nextF_cons]
    change (c :: (r ++ q)).takeWhile digitC = _ at e
    rw [if_neg (by rw [hl]; decide), if_pos hc, e]
    change numF (c :: r) = some n at h
    rw [h]
  | sign => rfl
  | fin => exact h.elim
theorem stops_blank {sh : Sh} {c : UInt8} {q : List UInt8} (h : blankC c = true) : Stops sh (c :: q) := by
  cases sh with
  | word s => intro d hd; simp at hd; subst hd; exact (blank_not h).1
  | num s n => intro d hd; simp at hd; subst hd; exact (blank_not h).2
  | sign => trivial
  | fin => trivial
theorem stops_nil (sh : Sh) : Stops sh [] := by
  cases sh with
  | word s => intro d hd; simp at hd
  | num s n => intro d hd; simp at hd
  | sign => trivial
  | fin => trivial
theorem stops_head {sh : Sh} {q q' : List UInt8} (h : Stops sh q) (e : q'.head? = none ∨ q'.head? = q.head?) : Stops sh q' := by
  rcases e with e | e
  · have : q' = [] := by cases q' <;> simp at e ⊢
    rw [this]; exact stops_nil sh
  · cases sh with
    | word s => intro c hc; exact h c (by rw [← e]; exact hc)
    | num s n => intro c hc; exact h c (by rw [← e]; exact hc)
    | sign => trivial
    | fin => trivial
theorem lexG_any : ∀ (f g : Nat) (l : List UInt8) (a : Nat), l.length ≤ f → l.length ≤ g → lexG f l a = lexG g l a
  | f, g, [], a, _, _ => by cases f <;> cases g <;> rfl
  | 0, _, _ :: _, _, h, _ => by simp at h
  | _ + 1, 0, _ :: _, _, _, h => by simp at h
  | f + 1, g + 1, c :: r, a, hf, hg => by
    have hr : r.length ≤ f := by simpa using hf
    have hr2 : r.length ≤ g := by simpa using hg
    unfold lexG
    simp only
    split
    · exact lexG_any f g r _ hr hr2
    · cases hn : nextF (c :: r) with
      | error e => rfl
      | ok sh =>
        obtain ⟨d, t, e, _⟩ := good_head (nextF_ok hn).1
        have hlen : ((c :: r).drop sh.text.length).length ≤ r.length := by rw [e]; simp
        simp only
        rw [lexG_any f g _ _ (by omega) (by omega)]
theorem lexG_more (f : Nat) (l : List UInt8) (a : Nat) (h : l.length ≤ f) : lexG f l a = lexG l.length l a := lexG_any _ _ _ _ h (Nat.le_refl _)
theorem lexS_nil (a : Nat) : lexS [] a = .ok [⟨.fin, a⟩] := rfl
theorem lexS_blank {c : UInt8} {r : List UInt8} {a : Nat} (h : blankC c = true) : lexS (c :: r) a = lexS r (a + 1) := by
  show lexG (r.length + 1) (c :: r) a = _
  unfold lexG
  simp only [h, if_true]
  rfl
theorem lexS_blanks : ∀ (b r : List UInt8) (a : Nat), b.all blankC = true → lexS (b ++ r) a = lexS r (a + b.length)
  | [], _, _, _ => rfl
  | c :: b, r, a, h => by
    simp only [List.all_cons, Bool.and_eq_true] at h
    rw [List.cons_append, lexS_blank h.1, lexS_blanks b r (a + 1) h.2, List.length_cons]
    congr 1
    omega
theorem lexS_err {c : UInt8} {r : List UInt8} {a : Nat} {e : Int} (h : blankC c = false) (hn : nextF (c :: r) = .error e) : lexS (c :: r) a = .error (a, e) := by
  show lexG (r.length + 1) (c :: r) a = _
  unfold lexG
  simp only [h, hn]
  rfl
theorem lexS_next {c : UInt8} {r : List UInt8} {a : Nat} {sh : Sh} (h : blankC c = false) (hn : nextF (c :: r) = .ok sh) : lexS (c :: r) a = addT [⟨sh, a⟩] (lexS ((c :: r).drop sh.text.length) (a + sh.text.length)) := by
  show lexG (r.length + 1) (c :: r) a = _
  obtain ⟨d, t, e, _⟩ := good_head (nextF_ok hn).1
  have hlen : ((c :: r).drop sh.text.length).length ≤ r.length := by rw [e]; simp
  unfold lexG
  simp only [h, hn]
  rw [lexG_more _ _ _ hlen]
  rfl
theorem lexS_tok {sh : Sh} {q : List UInt8} {a : Nat} (h : GoodTok sh) (hs : Stops sh q) : lexS (sh.text ++ q) a = addT [⟨sh, a⟩] (lexS q (a + sh.text.length)) := by
  have hn := nextF_of h hs
  obtain ⟨d, t, e, hb⟩ := good_head h
  rw [e, List.cons_append] at hn ⊢
  rw [lexS_next hb hn]
  congr 2
  · rw [e]; simp
  · rw [e]
/-- Going over the tokens of a string that has them. -/
theorem lex_ind {M : List UInt8 → Nat → List Tok → Prop} (h0 : ∀ a, M [] a [⟨.fin, a⟩]) (h1 : ∀ c r a ts, blankC c = true → lexS r (a + 1) = .ok ts → M r (a + 1) ts → M (c :: r) a ts)
    (h2 : ∀ sh q a ts, GoodTok sh → Stops sh q → lexS q (a + sh.text.length) = .ok ts → M q (a + sh.text.length) ts → M (sh.text ++ q) a (⟨sh, a⟩ :: ts)) : ∀ (l : List UInt8) (a : Nat) (ts : List Tok), lexS l a = .ok ts → M l a ts := by
  intro l
  generalize hk : l.length = k
  induction k using Nat.strongRecOn generalizing l with
  | _ k ih =>
    intro a ts h
    cases l with
    | nil => cases h; exact h0 a
    | cons c r =>
      cases hb : blankC c with
      | true =>
        rw [lexS_blank hb] at h
        exact h1 c r a ts hb h (ih r.length (by rw [← hk]; simp) r rfl _ _ h)
      | false =>
        cases hn : nextF (c :: r) with
        | error e => rw [lexS_err hb hn] at h; cases h
        | ok sh =>
          rw [lexS_next hb hn] at h
          obtain ⟨hg, hsp, hst⟩ := nextF_ok hn
          obtain ⟨d, t, e, _⟩ := good_head hg
          generalize hq : (c :: r).drop sh.text.length = q at *
          cases hx : lexS q (a + sh.text.length) with
          | error x => rw [hx] at h; cases h
          | ok us =>
            rw [hx] at h
            cases h
            rw [hsp]
            refine h2 sh q a us hg hst hx (ih q.length ?_ q rfl _ _ hx)
            rw [← hk, hsp, e]
            simp
            omega
theorem lex_fine {l : List UInt8} {a : Nat} {ts : List Tok} (h : lexS l a = .ok ts) : Fine ts ∧ (∀ t ∈ ts, GoodSh t.sh) ∧ (∀ t ∈ ts, a ≤ t.pos ∧ t.pos + t.sh.text.length ≤ a + l.length) := by
  refine lex_ind (M := fun l a ts => Fine ts ∧ (∀ t ∈ ts, GoodSh t.sh) ∧ (∀ t ∈ ts, a ≤ t.pos ∧ t.pos + t.sh.text.length ≤ a + l.length)) ?_ ?_ ?_ l a ts h
  · intro a
    exact ⟨⟨[], _, rfl, rfl⟩, by simp [GoodSh], by simp [Sh.text]⟩
  · rintro c r a ts _ _ ⟨h1, h2, h3⟩
    refine ⟨h1, h2, fun t ht => ?_⟩
    have := h3 t ht
    simp only [List.length_cons]
    omega
  · rintro sh q a ts hg _ _ ⟨⟨l0, u, rfl, hu⟩, h2, h3⟩
    refine ⟨⟨⟨sh, a⟩ :: l0, u, rfl, hu⟩, fun t ht => ?_, fun t ht => ?_⟩
    · rcases List.mem_cons.1 ht with rfl | ht
      · cases sh with
        | word s => exact hg
        | num s n => trivial
        | sign => trivial
        | fin => trivial
      · exact h2 t ht
    · rw [List.length_append]
      rcases List.mem_cons.1 ht with rfl | ht
      · simp only
        omega
      · have := h3 t ht
        omega
/-- Places grow; the end stands at the end. -/
theorem lex_grow {l : List UInt8} {a : Nat} {ts : List Tok} (h : lexS l a = .ok ts) : (∀ (i j : Nat) (t u : Tok), i < j → ts[i]? = some t → ts[j]? = some u → t.pos < u.pos) ∧ ∀ t ∈ ts, (t.sh = .fin ↔ t.pos = a + l.length) := by
  refine lex_ind (M := fun l a ts => (∀ (i j : Nat) (t u : Tok), i < j → ts[i]? = some t → ts[j]? = some u → t.pos < u.pos) ∧ ∀ t ∈ ts, (t.sh = .fin ↔ t.pos = a + l.length)) ?_ ?_ ?_ l a ts h
  · intro a
    refine ⟨fun i j t u hij hi hj => ?_, by simp⟩
    have := (List.getElem?_eq_some_iff.1 hj).1
    simp at this
    omega
  · rintro c r a ts _ _ ⟨h1, h2⟩
    refine ⟨h1, fun t ht => ?_⟩
    rw [h2 t ht, List.length_cons]
    constructor <;> intro <;> omega
  · rintro sh q a ts hg _ hx ⟨h1, h2⟩
    obtain ⟨c, r, e, _⟩ := good_head hg
    have hlen : 0 < sh.text.length := by rw [e]; simp
    refine ⟨fun i j t u hij hi hj => ?_, fun t ht => ?_⟩
    · cases j with
      | zero => omega
      | succ j =>
        simp at hj
        cases i with
        | zero =>
          simp at hi
          subst hi
          have := (lex_fine hx).2.2 u (List.mem_of_getElem? hj)
          simp only
          omega
        | succ i =>
          simp at hi
          exact h1 i j t u (by omega) hi hj
    · rcases List.mem_cons.1 ht with rfl | ht
      · simp only [List.length_append]
        constructor
        · intro e2; rw [e2] at hg; exact hg.elim
        · intro e2; omega
      · rw [h2 t ht, List.length_append]
        constructor <;> intro <;> omega
theorem take_take_len {sh : Sh} {q : List UInt8} (n : Nat) : (sh.text ++ q).take (sh.text.length + n) = sh.text ++ q.take n := by
  rw [List.take_append]
  rw [List.take_of_length_le (by omega)]
  congr 2
  omega
theorem head_of_take (q : List UInt8) (n : Nat) : (q.take n).head? = none ∨ (q.take n).head? = q.head? := by
  cases n with
  | zero => left; simp
  | succ n => cases q <;> simp
/-- A string that is cut ahead of a token has the tokens ahead of it. -/
theorem lex_cut {l : List UInt8} {a : Nat} {ts : List Tok} (h : lexS l a = .ok ts) : ∀ i t, ts[i]? = some t → lexS (l.take (t.pos - a)) a = .ok (ts.take i ++ [⟨.fin, t.pos⟩]) := by
  refine lex_ind (M := fun l a ts => ∀ i t, ts[i]? = some t → lexS (l.take (t.pos - a)) a = .ok (ts.take i ++ [⟨.fin, t.pos⟩])) ?_ ?_ ?_ l a ts h
  · intro a i t hi
    have h1 := (List.getElem?_eq_some_iff.1 hi).1
    simp at h1
    subst h1
    simp at hi
    subst hi
    simp
    rfl
  · intro c r a ts hb hx ih i t hi
    have h1 := ((lex_fine hx).2.2 t (List.mem_of_getElem? hi)).1
    have h2 := ih i t hi
    rw [show t.pos - a = (t.pos - (a + 1)) + 1 by omega, List.take_succ_cons, lexS_blank hb]
    exact h2
  · intro sh q a ts hg hs hx ih i t hi
    cases i with
    | zero =>
      simp at hi
      subst hi
      simp
      rfl
    | succ i =>
      simp at hi
      have h1 := ((lex_fine hx).2.2 t (List.mem_of_getElem? hi)).1
      have h2 := ih i t hi
      rw [show t.pos - a = sh.text.length + (t.pos - (a + sh.text.length)) by omega, take_take_len, lexS_tok hg (stops_head hs (head_of_take _ _)), h2]
      rfl
/-- A string that is cut behind a token, with something else behind it that begins with a blank. -/
theorem lex_then {l : List UInt8} {a : Nat} {ts : List Tok} (h : lexS l a = .ok ts) : ∀ i t (c : UInt8) (m : List UInt8), ts[i]? = some t → t.sh ≠ .fin → blankC c = true →
    lexS (l.take (t.pos - a + t.sh.text.length) ++ c :: m) a = addT (ts.take (i + 1)) (lexS (c :: m) (t.pos + t.sh.text.length)) := by
  refine lex_ind (M := fun l a ts => ∀ i t (c : UInt8) (m : List UInt8), ts[i]? = some t → t.sh ≠ .fin → blankC c = true →
    lexS (l.take (t.pos - a + t.sh.text.length) ++ c :: m) a = addT (ts.take (i + 1)) (lexS (c :: m) (t.pos + t.sh.text.length))) ?_ ?_ ?_ l a ts h
  · intro a i t c m hi hf
    have h1 := (List.getElem?_eq_some_iff.1 hi).1
    simp at h1
    subst h1
    simp at hi
    subst hi
    exact absurd rfl hf
  · intro d r a ts hb hx ih i t c m hi hf hc
    have h1 := ((lex_fine hx).2.2 t (List.mem_of_getElem? hi)).1
    have h2 := ih i t c m hi hf hc
    rw [show t.pos - a + t.sh.text.length = (t.pos - (a + 1) + t.sh.text.length) + 1 by omega, List.take_succ_cons, List.cons_append, lexS_blank hb]
    exact h2
  · intro sh q a ts hg hs hx ih i t c m hi hf hc
    cases i with
    | zero =>
      simp at hi
      subst hi
      simp only [Nat.sub_self, Nat.zero_add]
      have := take_take_len (sh := sh) (q := q) 0
      rw [Nat.add_zero, List.take_zero, List.append_nil] at this
      rw [this, lexS_tok hg (stops_blank hc)]
      rfl
    | succ i =>
      simp at hi
      have h1 := ((lex_fine hx).2.2 t (List.mem_of_getElem? hi)).1
      have h2 := ih i t c m hi hf hc
      rw [show t.pos - a + t.sh.text.length = sh.text.length + (t.pos - (a + sh.text.length) + t.sh.text.length) by omega, take_take_len, List.append_assoc, lexS_tok hg, h2, addT_add]
      · rfl
      · refine stops_head (q := q ++ (c :: m)) ?_ ?_
        · cases q with
          | nil => exact stops_blank hc
          | cons d q => exact stops_head hs (.inr rfl)
        · right
          cases q with
          | nil => simp
          | cons d q =>
            cases hk : t.pos - (a + sh.text.length) + t.sh.text.length with
            | zero =>
              exfalso
              -- the token has a text, and q is not empty ahead of it
              have h3 := (lex_fine hx).2.1 t (List.mem_of_getElem? hi)
              have h0 : t.sh.text = [] := List.eq_nil_of_length_eq_zero (by omega)
              have hgood : ∀ (l : List UInt8) (a : Nat) (ts : List Tok), lexS l a = .ok ts → ∀ t ∈ ts, t.sh = .fin ∨ GoodTok t.sh := fun l a ts h => by
                refine lex_ind (M := fun l a ts => ∀ t ∈ ts, t.sh = .fin ∨ GoodTok t.sh) ?_ ?_ ?_ l a ts h
                · intro a t ht; simp at ht; subst ht; exact .inl rfl
                · intro c r a ts _ _ ih; exact ih
                · intro sh q a ts hg _ _ ih t ht
                  rcases List.mem_cons.1 ht with rfl | ht
                  · exact .inr hg
                  · exact ih t ht
              rcases hgood _ _ _ hx t (List.mem_of_getElem? hi) with e | e
              · exact hf e
              · obtain ⟨x, y, e2, _⟩ := good_head e
                rw [h0] at e2
                cases e2
            | succ k => simp
/-- Tokens with blanks ahead of each (the last one is the end). -/
theorem lex_blanks : ∀ (ps : List (List UInt8 × Sh)) (b : List UInt8) (a : Nat), (∀ p ∈ ps, GoodTok p.2 ∧ p.1 ≠ [] ∧ p.1.all blankC = true) → b ≠ [] → b.all blankC = true →
    ∃ ts, lexS (ps.flatMap (fun p => p.1 ++ p.2.text) ++ b) a = .ok ts ∧ ts.map Tok.sh = ps.map Prod.snd ++ [.fin] ∧
      (∀ i p, ps[i]? = some p → ∃ t, ts[i]? = some t ∧ t.pos = a + ((ps.take i).flatMap (fun p => p.1 ++ p.2.text)).length + p.1.length) ∧ ∃ t, ts[ps.length]? = some t ∧ t.pos = a + (ps.flatMap (fun p => p.1 ++ p.2.text)).length + b.length := by
  intro ps
  induction ps with
  | nil =>
    intro b a _ _ hb
    refine ⟨[⟨.fin, a + b.length⟩], ?_, rfl, fun i p h => by simp at h, ⟨_, rfl, by simp⟩⟩
    have := lexS_blanks b [] a hb
    rw [List.append_nil] at this
    simp only [List.flatMap_nil, List.nil_append]
    rw [this]
    rfl
  | cons p ps ih =>
    intro b a hp hb0 hb
    obtain ⟨hg, hn, hbl⟩ := hp p (by simp)
    obtain ⟨ts, h1, h2, h3, h4⟩ := ih b (a + p.1.length + p.2.text.length) (fun q hq => hp q (by simp [hq])) hb0 hb
    refine ⟨⟨p.2, a + p.1.length⟩ :: ts, ?_, by simp [h2], fun i q hq => ?_, ?_⟩
    · rw [List.flatMap_cons, List.append_assoc, List.append_assoc, lexS_blanks _ _ _ hbl, lexS_tok hg, h1]
      · rfl
      · have key : ∃ c r, ps.flatMap (fun p => p.1 ++ p.2.text) ++ b = c :: r ∧ blankC c = true := by
          cases ps with
          | nil =>
            cases b with
            | nil => exact absurd rfl hb0
            | cons c b => simp only [List.all_cons, Bool.and_eq_true] at hb; exact ⟨c, b, rfl, hb.1⟩
          | cons q ps =>
            obtain ⟨_, hn2, hbl2⟩ := hp q (by simp)
            obtain ⟨q1, q2⟩ := q
            cases q1 with
            | nil => exact absurd rfl hn2
            | cons c r => simp only [List.all_cons, Bool.and_eq_true] at hbl2; exact ⟨c, _, by simp; rfl, hbl2.1⟩
        obtain ⟨c, r, e, hc⟩ := key
        rw [e]
        exact stops_blank hc
    · cases i with
      | zero =>
        simp at hq
        subst hq
        exact ⟨_, rfl, by simp⟩
      | succ i =>
        simp at hq
        obtain ⟨t, ht, hp2⟩ := h3 i q hq
        exact ⟨t, by simpa using ht, by rw [hp2]; simp; omega⟩
    · obtain ⟨t, ht, hp2⟩ := h4
      exact ⟨t, by simpa using ht, by rw [hp2]; simp; omega⟩
/-- Tokens with one blank behind each. -/
theorem lex_pieces (f : Sh → UInt8) (hf : ∀ s, blankC (f s) = true) : ∀ (shs : List Sh) (a : Nat), (∀ s ∈ shs, GoodTok s) → ∃ ts, lexS (shs.flatMap (fun s => s.text ++ [f s])) a = .ok ts ∧ ts.map Tok.sh = shs ++ [.fin]
  | [], a, _ => ⟨_, rfl, rfl⟩
  | s :: r, a, h => by
    obtain ⟨ts, h1, h2⟩ := lex_pieces f hf r (a + s.text.length + 1) (fun x hx => h x (by simp [hx]))
    refine ⟨⟨s, a⟩ :: ts, ?_, by simp [h2]⟩
    rw [List.flatMap_cons, List.append_assoc, List.cons_append, List.nil_append, lexS_tok (h s (by simp)) (stops_blank (hf s)), lexS_blank (hf s), h1]
    rfl
theorem lex_count {l : List UInt8} {a : Nat} {ts : List Tok} (h : lexS l a = .ok ts) : ts.length ≤ l.length + 1 := by
  refine lex_ind (M := fun l a ts => ts.length ≤ l.length + 1) ?_ ?_ ?_ l a ts h
  · intro a; simp
  · intro c r a ts _ _ ih; simp only [List.length_cons]; omega
  · intro sh q a ts hg _ _ ih
    obtain ⟨d, t, e, _⟩ := good_head hg
    simp only [List.length_cons, List.length_append, e]
    omega
theorem lexL_ok {l : List UInt8} {ts : List Tok} (h : lexL l = .ok ts) : l.length ≤ 2000 ∧ lexS l 0 = .ok ts := by
  unfold lexL at h
  split at h
  · cases h
  · exact ⟨by omega, h⟩
theorem nextF_ne {l : List UInt8} {e : Int} (h : nextF l = .error e) : e ≠ 0 := by
  cases l with
  | nil => cases h; decide
  | cons c r =>
    rw [nextF_cons] at h
    split at h
    · split at h
      · cases h
      · cases h; decide
    · split at h
      · split at h
        · cases h
        · cases h; decide
      · split at h
        · cases h
        · cases h; decide
theorem lexG_err : ∀ (f : Nat) (l : List UInt8) (a : Nat) (q : Nat × Int), l.length ≤ f → lexG f l a = .error q → q.2 ≠ 0 ∧ q.1 ≤ a + l.length
  | 0, l, a, q, _, h => by cases h
  | f + 1, [], a, q, _, h => by cases h
  | f + 1, c :: r, a, q, hl, h => by
    have hr : r.length ≤ f := by simpa using hl
    unfold lexG at h
    simp only at h
    split at h
    · have := lexG_err f r (a + 1) q hr h
      exact ⟨this.1, by simp only [List.length_cons]; omega⟩
    · cases hn : nextF (c :: r) with
      | error e =>
        rw [hn] at h
        cases h
        exact ⟨nextF_ne hn, by simp⟩
      | ok sh =>
        rw [hn] at h
        simp only at h
        obtain ⟨hg, hsp, _⟩ := nextF_ok hn
        obtain ⟨d, t, e, _⟩ := good_head hg
        have hlen := congrArg List.length hsp
        rw [List.length_append] at hlen
        have h1 : 1 ≤ sh.text.length := by rw [e]; simp
        cases hx : lexG f ((c :: r).drop sh.text.length) (a + sh.text.length) with
        | ok ts => rw [hx] at h; cases h
        | error q2 =>
          rw [hx] at h
          cases h
          have hl2 : ((c :: r).drop sh.text.length).length ≤ f := by simp only [List.length_cons] at hlen; omega
          have := lexG_err f _ _ q hl2 hx
          exact ⟨this.1, by omega⟩
theorem lexL_err {l : List UInt8} {a : Nat} {x : Int} (h : lexL l = .error (a, x)) : x ≠ 0 ∧ a ≤ l.length := by
  unfold lexL at h
  split at h
  · cases h; exact ⟨by decide, by omega⟩
  · have := lexG_err l.length l 0 (a, x) (Nat.le_refl _) h
    exact ⟨this.1, by simpa using this.2⟩
end Go.Proofs.YtnaejabgkfhlbaaDoor
