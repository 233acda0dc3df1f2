/- Contracts and plain laws, joined: WrD. -/
import Derived.Test.YtoicnokidlkjfaaDoorQak
import Derived.Laws.IdiomStrings
/- Contracts of linguaref01: the writers. -/
namespace Go.Proofs.YtoicnokidlkjfaaDoor
open Go.RowKit

theorem digits_small {u : Nat} (h : u < 10) : Lib.decDigits u = [UInt8.ofNat (48 + u)] := by rw [Lib.decDigits, dif_pos h]
theorem digits_big {u : Nat} (h : ¬ u < 10) : Lib.decDigits u = Lib.decDigits (u / 10) ++ [UInt8.ofNat (48 + u % 10)] := by rw [Lib.decDigits, dif_neg h]
theorem digits_itoa (m : Nat) : Lib.itoa m = Lib.decDigits m := Lib.itoa_nonneg m
end Go.Proofs.YtoicnokidlkjfaaDoor
