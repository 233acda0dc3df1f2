/- Contracts of package wire: the writers. -/
import Derived.Test.YtoibgenhbpppdaaDoorStr
import Derived.Test.YtoibgenhbpppdaaDoorTurn
import Derived.Test.YtoibgenhbpppdaaDoorShelf
import Derived.Test.YtoibgenhbpppdaaDoorChecked
import Derived.Lib.AppendIntMem
import Derived.Lib.ItoaLen
namespace Go.Proofs.YtoibgenhbpppdaaDoor
open Go.RowKit

/-- What the library's variables hold, and hold whatever is done from block B on. -/
def Facts (w : World) : Prop :=
  Lib.TabIs Tryd.prog w "internal/strconv.uint64pow10" .u64 Lib.pow10Tab ∧
  (∃ tp p, w.var? Tryd.prog "strconv.ErrSyntax" = some #[.iface tp p]) ∧ (∃ tp p, w.var? Tryd.prog "strconv.ErrRange" = some #[.iface tp p])
def Vs (B : Nat) (w : World) : Prop := B ≤ w.heap.size ∧ ∀ w', Below B w w' → Facts w'
theorem Vs.le {B : Nat} {w : World} (h : Vs B w) : B ≤ w.heap.size := h.1
theorem Vs.here {B : Nat} {w : World} (h : Vs B w) : Facts w := h.2 w (Below.refl _ _)
theorem Vs.on {B : Nat} {w w' : World} (h : Vs B w) (hb : Below B w w') : Vs B w' := ⟨Nat.le_trans h.1 hb.size, fun x hx => h.2 x (hb.trans hx)⟩
theorem Vs.now {B : Nat} {w w' : World} (h : Vs B w) (hb : Below w.heap.size w w') : Vs B w' := h.on (hb.mono h.1)

/-- An int. -/
def InInt (n : Int) : Prop := -9223372036854775808 ≤ n ∧ n ≤ 9223372036854775807

theorem itoa_any {B : Nat} (n : Int) (w : World) (hV : Vs B w) (hn : InInt n) :
    Calls Tryd.prog 28 #[.int .i64 n] w fun e w' => e = .returned (.string (bs (Lib.itoa n))) ∧ Below w.heap.size w w' :=
  (Tryd.strconv_Itoa n hn.1 hn.2 w hV.here.1).mono fun e w' ⟨he, k, os, hw⟩ => ⟨he, hw ▸ Lib.below_grow _ w (Nat.le_refl _) k os⟩

def encI (n : Int) : List UInt8 := Lib.itoa n ++ [59]
def encN (n : Int) : List UInt8 := if n < 0 then [] else encI n
def encT (l : List UInt8) : List UInt8 := Lib.itoa l.length ++ [58] ++ l ++ [44]
def encL {α : Type} (one : α → List UInt8) (l : List α) : List UInt8 := Lib.itoa l.length ++ [91] ++ l.flatMap one ++ [93]

theorem encI_len (n : Int) (hn : InInt n) : (encI n).length ≤ 22 := by
  have := Lib.itoa_length_le n hn.1 hn.2
  simp [encI]; omega
theorem encT_len (l : List UInt8) (hl : InInt l.length) : (encT l).length ≤ 23 + l.length := by
  have := Lib.itoa_length_le l.length hl.1 hl.2
  simp [encT]; omega

theorem wInt_any {B : Nat} (n : Int) (w : World) (hV : Vs B w) (hn : InInt n) :
    Calls Tryd.prog 27 #[.int .i64 n] w fun e w' => e = .returned (.string (bs (encI n))) ∧ Below w.heap.size w w' := by
  have hlen := Lib.itoa_length_le n hn.1 hn.2
  go_enter Tryd.func27, Tryd.ntmps27
  go_wp2_with fail
  refine (itoa_any n _ hV hn).mono ?_
  rintro e w1 ⟨rfl, hb1⟩
  go_wp2_with (first
      | ((with_reducible show wpList _ _ _ (Oper.mk _ (Op.binOp .add 9 _ _ _) _ _ _ _ :: _) _ _); refine wp_cat rfl rfl Tryd.underlying9 rfl rfl (by first | omega | (simp; done) | (simp; omega)) ?_)
      | fail)
  go_ret
  exact ⟨rfl, hb1⟩

theorem wNum_any {B : Nat} (n : Int) (w : World) (hV : Vs B w) (hn : InInt n) :
    Calls Tryd.prog 21 #[.int .i64 n] w fun e w' => e = .returned (.string (bs (encN n))) ∧ Below w.heap.size w w' := by
  go_enter Tryd.func21, Tryd.ntmps21
  by_cases h : n < 0
  · go_wp2_with fail
    go_ret
    exact ⟨by show Ending.returned (.string ⟨#[]⟩) = _; rw [encN, if_pos (by omega)]; rfl, Below.refl _ _⟩
  · go_wp2_with fail
    refine (wInt_any n _ hV hn).mono ?_
    rintro e w1 ⟨rfl, hb1⟩
    go_wp2_with fail
    go_ret
    exact ⟨by show Ending.returned (.string (bs (encI n))) = _; rw [encN, if_neg (by omega)], hb1⟩

theorem wText_any {B : Nat} (l : List UInt8) (w : World) (hV : Vs B w) (hl : l.length ≤ 1000000000000) :
    Calls Tryd.prog 22 #[.string (bs l)] w fun e w' => e = .returned (.string (bs (encT l))) ∧ Below w.heap.size w w' := by
  have hl' : InInt l.length := ⟨by omega, by omega⟩
  have hlen := Lib.itoa_length_le l.length hl'.1 hl'.2
  go_enter Tryd.func22, Tryd.ntmps22
  go_wp2_with fail
  refine (itoa_any l.length _ hV hl').mono ?_
  rintro e w1 ⟨rfl, hb1⟩
  go_wp2_with (first
      | ((with_reducible show wpList _ _ _ (Oper.mk _ (Op.binOp .add 9 _ _ _) _ _ _ _ :: _) _ _); refine wp_cat rfl rfl Tryd.underlying9 rfl rfl (by first | omega | (simp; done) | (simp; omega)) ?_)
      | fail)
  go_ret
  exact ⟨ret_str (by simp [encT]), hb1⟩

end Go.Proofs.YtoibgenhbpppdaaDoor
