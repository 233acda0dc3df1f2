/- Contracts of lingualaw01: write and equal. -/
import Derived.Test.YtoibgenhbpppdaaDoorWrH
namespace Go.Proofs.YtoibgenhbpppdaaDoor
open Go.RowKit

/-- The encoding of a value. -/
def VM.enc (v : VM) : List UInt8 :=
  if v.knd = 0 then encI (numV v.n) else if v.knd = 1 then encI v.n else if v.knd = 2 then encT v.s else if v.knd = 3 then encL encI v.l else encL encT v.t
/-- A value is of a size that can be written. -/
structure VM.Fits (v : VM) : Prop where
  s : v.s.length ≤ 1000000
  l : v.l.length ≤ 1000000
  t : v.t.length ≤ 1000000
  tt : tot v.t ≤ 1000000000
theorem OwnL.len_max {T : Type} {sz : Nat} {enc : T → List Value} {w : World} {base : Nat} {e : TypeId} {A : Option Addr} {c : Nat} {xs : List T} (h : OwnL w base e sz enc A c xs) : xs.length ≤ 9223372036854775807 := by
  rcases h.2 with ⟨hv, hn⟩ | ⟨g, cap, cur, hv, _, _, hn, hc, _⟩
  · omega
  · simp only [maxLen] at hc
    omega
/-- What 'equal' does. -/
def VM.eq (v : VM) (s : RS) : Bool × RS :=
  if v.knd = 0 then ((rNum 59 0 s).1 == numV v.n, (rNum 59 0 s).2)
  else if v.knd = 1 then ((rNum 59 (-9223372036854775808) s).1 == v.n, (rNum 59 (-9223372036854775808) s).2)
  else if v.knd = 2 then ((rText s).1 == v.s, (rText s).2)
  else if v.knd = 3 then ((rItems (rNum 59 (-9223372036854775808)) s).1 == v.l, (rItems (rNum 59 (-9223372036854775808)) s).2)
  else ((rItems rText s).1 == v.t, (rItems rText s).2)
end Go.Proofs.YtoibgenhbpppdaaDoor
