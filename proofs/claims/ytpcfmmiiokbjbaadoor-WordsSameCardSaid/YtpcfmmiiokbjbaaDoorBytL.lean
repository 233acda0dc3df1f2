/- Byte slices that a call makes by append, nil at first: as lists; their strings; over any program. -/
import Derived.Test.YtpcfmmiiokbjbaaDoorMem
import Derived.Test.YtpcfmmiiokbjbaaDoorStr
import Derived.Laws.IdiomStrings
namespace Go.Proofs.YtpcfmmiiokbjbaaDoor
open Go.RowKit

def byteE (c : UInt8) : List Value := [.int .u8 c.toNat]
theorem byteLay : Lay 1 byteE := ⟨fun _ => rfl, fun x u hu => by simp only [byteE, List.mem_singleton] at hu; subst hu; rfl⟩
theorem rd_byte {w : World} {A : Option Addr} {l : List UInt8} {B k : Nat} (h : RdL 1 byteE w B A l) (hk : k < l.length) : ∃ b off, A = some ⟨b, off, none⟩ ∧ w.cell? ⟨b, off + k, none⟩ = some (.int .u8 l[k].toNat) := by
  obtain ⟨b, off, e, hb, hc⟩ := h.at_ hk
  exact ⟨b, off, e, by simpa using hc 0 _ rfl⟩
/-- string(l) of a slice that is not empty. -/
theorem wp_string_l {P : Program} {w : World} {e : TypeId} {l : List UInt8} {B : Nat} {A : Option Addr} {ops : Array Oper} {rest : List Oper} {o : Oper} {a : Act} {Q : Exit → Act → World → Prop} (hgd : o.guard = none) (x : Operand) (src dst : TypeId)
    (ho : o.op = .convert src dst x) (hs : P.underlying src = some (.slice e)) (he : P.underlying e = some (.int .u8)) (hd : P.underlying dst = some .string)
    {n c : Nat} (hx : a.eval x = .slice A n c) (hn : n = l.length) (hne : l ≠ []) (h : RdL 1 byteE w B A l)
    (hK : wpList P ops Q rest (a.put o.dst (.string (bs l))) w) : wpList P ops Q (o :: rest) a w := by
  subst hn
  have hpos : 0 < l.length := by cases l with
    | nil => exact absurd rfl hne
    | cons _ _ => simp
  obtain ⟨b, off, rfl, _⟩ := rd_byte h hpos
  refine wpList_plain hgd fun K hK' => ?_
  have hrun := run_convert_bytes_back (P := P) w src dst e ⟨b, off, none⟩ c l hs he hd (fun j hj => by
    obtain ⟨b', off', e1, h1⟩ := rd_byte h hj
    injection e1 with e1
    injection e1 with e2 e3 _
    subst e2 e3
    have h2 : (⟨b, off, none⟩ : Addr).add j = ⟨b, off + j, none⟩ := by unfold Addr.add; split <;> simp_all
    rw [h2]
    exact h1)
  unfold Oper.wp
  simp [execOp, ho, hx, hrun, Result.andThen]
  exact hK' _ _ hK
end Go.Proofs.YtpcfmmiiokbjbaaDoor
