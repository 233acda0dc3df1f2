/- Events of a conversation (layer 14) in plain Lean. -/
import Derived.Test.YtbpbdehnkkheiaaMem
namespace Go.Proofs.Ytbpbdehnkkheiaa
open Go.RowKit

structure EvM where
  author : Int
  seq : Int
  causes : List Int
  kind : Int
  group : Int
  target : Int
  quote : Int
  who : Int
  n : Int
  text : ByteArray
  files : List Int
  step : Int

def belowB (n e : Int) : Bool := decide (0 ≤ n) && decide (n < e)
def maybeB (n e : Int) : Bool := (n == -1) || belowB n e
def netI (a : Int) : Int := if belowB a 2000 = true then a % 12 else -1
def hasT (k : Int) : Bool := decide (0 ≤ k) && decide (k ≤ 4)
def hasQ (k : Int) : Bool := k == 0
def hasW (k : Int) : Bool := (k == 0) || ((k == 5) || ((k == 7) || (k == 9)))
def hasN (k : Int) : Bool := (k == 3) || ((k == 4) || (k == 9))
def hasX (k : Int) : Bool := (k == 0) || (k == 1)
def sTarget : ByteArray := ⟨#[84, 97, 114, 103, 101, 116]⟩
def sQuote : ByteArray := ⟨#[81, 117, 111, 116, 101]⟩
def sWho : ByteArray := ⟨#[87, 104, 111]⟩
def sN : ByteArray := ⟨#[78]⟩
def sText : ByteArray := ⟨#[84, 101, 120, 116]⟩
def sFiles : ByteArray := ⟨#[70, 105, 108, 101, 115]⟩
/-- The fields that a kind uses. -/
def usesL (k : Int) : List ByteArray :=
  if k = 0 then [sTarget, sQuote, sWho, sText, sFiles] else if k = 1 then [sTarget, sText, sFiles] else if k = 2 then [sTarget] else if k = 3 then [sTarget, sN] else if k = 4 then [sTarget, sN]
  else if k = 5 then [sWho] else if k = 7 then [sWho] else if k = 9 then [sWho, sN] else []
def spareE (e : EvM) : EvM :=
  { e with target := if hasT e.kind = true then e.target else -1, quote := if hasQ e.kind = true then e.quote else -1, who := if hasW e.kind = true then e.who else -1, n := if hasN e.kind = true then e.n else 0, text := if hasX e.kind = true then e.text else ByteArray.empty, files := if hasX e.kind = true then e.files else [] }
def fieldsB (e : EvM) : Bool :=
  if e.kind = 0 then maybeB e.target 100000 && (maybeB e.quote 100000 && maybeB e.who 2000)
  else if e.kind = 1 ∨ e.kind = 2 then belowB e.target 100000
  else if e.kind = 3 ∨ e.kind = 4 then belowB e.target 100000 && (decide (1 ≤ e.n) && decide (e.n ≤ 100))
  else if e.kind = 5 ∨ e.kind = 7 then belowB e.who 2000
  else if e.kind = 9 then belowB e.who 2000 && belowB e.n 16
  else (e.kind == 6) || (e.kind == 8)
def filesGo (pre : List Int) : List Int → Bool
  | [] => true
  | n :: r => belowB n 1073741825 && (!decide (n ∈ pre) && filesGo (pre ++ [n]) r)
def filesB (l : List Int) : Bool := filesGo [] l && decide (l.length ≤ 4)
def causesGo : Option Int → List Int → Bool
  | _, [] => true
  | none, c :: r => belowB c 100000 && causesGo (some c) r
  | some p, c :: r => belowB c 100000 && (decide (p < c) && causesGo (some c) r)
def causesB (l : List Int) : Bool := causesGo none l
def sameE (a b : EvM) : Bool :=
  (a.author == b.author) && ((a.seq == b.seq) && ((a.kind == b.kind) && ((a.group == b.group) && ((a.target == b.target) && ((a.quote == b.quote) && ((a.who == b.who) && ((a.n == b.n) && ((a.step == b.step) && (decide (a.text = b.text) && (decide (a.causes = b.causes) && decide (a.files = b.files)))))))))))
theorem sameE_iff (a b : EvM) : sameE a b = true ↔ a = b := by
  constructor
  · intro h
    simp only [sameE, Bool.and_eq_true, beq_iff_eq, decide_eq_true_eq] at h
    obtain ⟨h1, h2, h3, h4, h5, h6, h7, h8, h9, h10, h11, h12⟩ := h
    cases a
    cases b
    simp only at h1 h2 h3 h4 h5 h6 h7 h8 h9 h10 h11 h12
    subst h1 h2 h3 h4 h5 h6 h7 h8 h9 h10 h11 h12
    rfl
  · rintro rfl
    simp [sameE]
def headE (e : EvM) : Bool := belowB e.author 2000 && (belowB e.seq 100000 && (belowB e.group 500 && belowB e.step 1073741825))
def rightE (e : EvM) : Bool := causesB e.causes && (headE e && (decide (e.causes.length ≤ 8) && (fieldsB e && (decide (e.text.size ≤ 4000) && (filesB e.files && sameE e (spareE e))))))
end Go.Proofs.Ytbpbdehnkkheiaa
