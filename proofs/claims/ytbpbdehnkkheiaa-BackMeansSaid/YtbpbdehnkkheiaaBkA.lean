/- What an account has done, and what comes back (layer 23), in plain Lean; small contracts of package back. -/
import Derived.Test.YtbpbdehnkkheiaaEvF
import Derived.Test.YtbpbdehnkkheiaaTgG
import Derived.Test.YtbpbdehnkkheiaaWyL
namespace Go.Proofs.Ytbpbdehnkkheiaa
open Go.RowKit

structure RawM where
  account : Int
  seq : Int
  kind : Int
  group : Int
  on : Int
  quote : Int
  who : Int
  n : Int
  text : ByteArray
  files : List Int
abbrev RawM.cs (r : RawM) (fA : Option Addr) (fc : Nat) : Array Value :=
  #[.int .i64 r.account, .int .i64 r.seq, .int .i64 r.kind, .int .i64 r.group, .int .i64 r.on, .int .i64 r.quote, .int .i64 r.who, .int .i64 r.n, .string r.text, .slice fA r.files.length fc]
abbrev RawM.v (r : RawM) (fA : Option Addr) (fc : Nat) : Value := .agg (r.cs fA fc)
structure RawOk (w : World) (B : Nat) (fA : Option Addr) (fc : Nat) (r : RawM) : Prop where
  fi : RdI w B fA r.files
  fl : r.files.length ≤ 9223372036854775807
  tx : r.text.size ≤ 9223372036854775807
theorem RawOk.now {w w' : World} {fA : Option Addr} {fc : Nat} {r : RawM} (h : RawOk w w.heap.size fA fc r) (hb : Below w.heap.size w w') : RawOk w' w'.heap.size fA fc r := ⟨h.fi.now hb, h.fl, h.tx⟩

def meansPost (p : Prof) (r : RawM) : Bool := ((r.on == -1) || !(p.thread == 0)) && (((r.quote == -1) || p.quote) && ((r.who == -1) || p.mention))
def meansB (p : Prof) (r : RawM) : Bool :=
  if r.kind = 0 then meansPost p r else if r.kind = 1 then p.edit == 2 else if r.kind = 2 then !(p.delete == 0) else if r.kind = 3 ∨ r.kind = 4 then p.react else true
def knownR (xs : List Pair) (net loc : Int) : Int × Bool := if loc = -1 then (-1, true) else (evOf (findF (fNL net loc) xs), (findF (fNL net loc) xs).isSome)
def backStep (xs : List Pair) (net : Int) (r : RawM) (o : EvM × Bool) (s : ByteArray) : EvM × Bool :=
  if s = sTarget then ({ o.1 with target := (knownR xs net r.on).1 }, o.2 && (knownR xs net r.on).2) else if s = sQuote then ({ o.1 with quote := (knownR xs net r.quote).1 }, o.2 && (knownR xs net r.quote).2)
  else if s = sWho then ({ o.1 with who := r.who }, o.2) else if s = sN then ({ o.1 with n := r.n }, o.2) else if s = sText then ({ o.1 with text := r.text }, o.2) else if s = sFiles then ({ o.1 with files := r.files }, o.2) else o
def backE0 (r : RawM) (step : Int) : EvM := ⟨r.account, 0, [], r.kind, r.group, -1, -1, -1, 0, ByteArray.empty, [], step⟩
def backFold (xs : List Pair) (net : Int) (r : RawM) (step : Int) : EvM × Bool := (usesL r.kind).foldl (backStep xs net r) (backE0 r step, true)
def zeroEv : EvM := ⟨0, 0, [], 0, 0, 0, 0, 0, 0, ByteArray.empty, [], 0⟩
def argsBad (p : Prof) (net : Int) (r : RawM) : Bool := !(profCheck p == 0) || (decide (netI r.account < 0) || (!(netI r.account == net) || (decide (r.kind < 0) || decide (10 ≤ r.kind))))
def fullB (p : Prof) (r : RawM) : Bool := hasX r.kind && (decide (p.size < r.text.size) || decide (p.files < r.files.length))
def backS (p : Prof) (xs : List Pair) (net : Int) (r : RawM) (step : Int) : EvM × Int :=
  if argsBad p net r = true then (zeroEv, 1) else if meansB p r = false then (zeroEv, 7) else if fullB p r = true then (zeroEv, 6)
  else if (backFold xs net r step).2 = false then (zeroEv, 4) else if rightE (backFold xs net r step).1 = false then (zeroEv, 2) else ((backFold xs net r step).1, 0)

theorem stepBT (xs : List Pair) (net : Int) (r : RawM) (o : EvM × Bool) : backStep xs net r o sTarget = ({ o.1 with target := (knownR xs net r.on).1 }, o.2 && (knownR xs net r.on).2) := by
  unfold backStep
  rw [if_pos rfl]
theorem stepBQ (xs : List Pair) (net : Int) (r : RawM) (o : EvM × Bool) : backStep xs net r o sQuote = ({ o.1 with quote := (knownR xs net r.quote).1 }, o.2 && (knownR xs net r.quote).2) := by
  unfold backStep
  rw [if_neg (by decide), if_pos rfl]
theorem stepBW (xs : List Pair) (net : Int) (r : RawM) (o : EvM × Bool) : backStep xs net r o sWho = ({ o.1 with who := r.who }, o.2) := by
  unfold backStep
  rw [if_neg (by decide), if_neg (by decide), if_pos rfl]
theorem stepBN (xs : List Pair) (net : Int) (r : RawM) (o : EvM × Bool) : backStep xs net r o sN = ({ o.1 with n := r.n }, o.2) := by
  unfold backStep
  rw [if_neg (by decide), if_neg (by decide), if_neg (by decide), if_pos rfl]
theorem stepBX (xs : List Pair) (net : Int) (r : RawM) (o : EvM × Bool) : backStep xs net r o sText = ({ o.1 with text := r.text }, o.2) := by
  unfold backStep
  rw [if_neg (by decide), if_neg (by decide), if_neg (by decide), if_neg (by decide), if_pos rfl]
theorem stepBF (xs : List Pair) (net : Int) (r : RawM) (o : EvM × Bool) : backStep xs net r o sFiles = ({ o.1 with files := r.files }, o.2) := by
  unfold backStep
  rw [if_neg (by decide), if_neg (by decide), if_neg (by decide), if_neg (by decide), if_neg (by decide), if_pos rfl]

theorem bKnown_any (xs : List Pair) (A : Option Addr) (n c : Nat) (net loc : Int) (w : World) (hn : n = xs.length) (hr : RdP w w.heap.size A xs) (hm : xs.length ≤ 9223372036854775807) :
    Calls Try.prog 20 #[.slice A n c, .int .i64 net, .int .i64 loc] w fun e w' => e = .returned (.tuple #[.int .i64 (knownR xs net loc).1, .bool (knownR xs net loc).2]) ∧ Below w.heap.size w w' := by
  subst hn
  by_cases hl : loc = -1
  · have hk : knownR xs net loc = (-1, true) := by unfold knownR; rw [if_pos hl]
    have hb : (loc == -1) = true := by simpa using hl
    rw [hk]
    clear hk hl
    go_enter Try.func20, Try.ntmps20
    go_wp2
    go_ret2
    exact ⟨rfl, Below.refl _ _⟩
  · have hk : knownR xs net loc = (evOf (findF (fNL net loc) xs), (findF (fNL net loc) xs).isSome) := by unfold knownR; rw [if_neg hl]
    have hb : (loc == -1) = false := by simpa using hl
    have HF := Lib.hid (pfind_any xs A c net loc w hr hm)
    rw [hk]
    clear hk hl hr hm
    go_enter Try.func20, Try.ntmps20
    go_wp2_with (go_at_call 37; refine HF.out.mono ?_; rintro e w1 ⟨rfl, hb1⟩)
    go_ret2
    exact ⟨rfl, hb1⟩
end Go.Proofs.Ytbpbdehnkkheiaa
