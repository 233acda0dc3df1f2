/- Contracts of lingualaw01: small. -/
import Derived.Test.YtoibgenhbpppdaaDoorWrJ
namespace Go.Proofs.YtoibgenhbpppdaaDoor
open Go.RowKit

theorem num_c {B : Nat} (n : Int) (l : ByteArray) (hn : InInt n) (h : bs (encN n) = l) (w : World) (hV : Vs B w) :
    Calls Tryd.prog 21 #[.int .i64 n] w fun e w' => e = .returned (.string l) ∧ Below w.heap.size w w' := h ▸ wNum_any n w hV hn
theorem int_c {B : Nat} (n : Int) (l : ByteArray) (hn : InInt n) (h : bs (encI n) = l) (w : World) (hV : Vs B w) :
    Calls Tryd.prog 27 #[.int .i64 n] w fun e w' => e = .returned (.string l) ∧ Below w.heap.size w w' := h ▸ wInt_any n w hV hn
theorem text_c {B : Nat} (s : ByteArray) (l : ByteArray) (hs : s.size ≤ 1000000) (h : bs (encT s.data.toList) = l) (w : World) (hV : Vs B w) :
    Calls Tryd.prog 22 #[.string s] w fun e w' => e = .returned (.string l) ∧ Below w.heap.size w w' := h ▸ wText_any s.data.toList w hV (by
      have : s.data.toList.length = s.size := by rw [Array.length_toList]; rfl
      omega)
theorem RdL.block {T : Type} {sz : Nat} {enc : T → List Value} (L : Lay sz enc) (w : World) (xs : List T) (cs : Array Value) (t : TypeId) (h : cs.toList = xs.flatMap enc) (b : Nat) (hb : b = w.heap.size) :
    RdL sz enc (w.alloc (.cells cs t)) (w.alloc (.cells cs t)).heap.size (some ⟨b, 0, none⟩) xs := by
  subst hb
  intro k x hx
  refine ⟨_, _, rfl, by simp, fun j v hj => ?_⟩
  have hg := flat_get L xs k j x v hx hj
  rw [← h] at hg
  unfold World.cell?
  simp only [heap_alloc_new]
  simpa using hg
theorem num007 : rNum 59 0 ⟨[48, 48, 55, 59], false⟩ = (0, .fail) := by
  have h1 : Lib.indexByte ([48, 48, 55, 59] : List UInt8) 59 = 3 := by decide
  have h2 : Lib.atoiAll [48, 48, 55] = .ok 7 := by decide
  have h3 : Lib.itoa 7 = [55] := by simp [Lib.itoa, Lib.decDigits]
  simp [rNum, h1, h2, h3]
end Go.Proofs.YtoibgenhbpppdaaDoor
