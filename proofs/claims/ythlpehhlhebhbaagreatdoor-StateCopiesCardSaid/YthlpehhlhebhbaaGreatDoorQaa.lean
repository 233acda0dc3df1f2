/- Contracts and plain laws, joined: WrN. -/
import Derived.Lib.AtoiAll
import Derived.Lib.ItoaNum
import Derived.Lib.Bytealg
/- Decimal forms in plain Lean: they are read back. -/
set_option linter.unusedSimpArgs false
set_option linter.unusedVariables false
namespace Go.Proofs.YthlpehhlhebhbaaGreatDoor
open Go.Lib
theorem dd_small {u:Nat} (h:u<10):decDigits u=[UInt8.ofNat (48+u)]:=by rw [decDigits,dif_pos h]
theorem dd_big {u:Nat} (h:¬ u<10):decDigits u=decDigits (u / 10)++[UInt8.ofNat (48+u % 10)]:=by rw [decDigits,dif_neg h]
theorem dig_nat {d:Nat} (h:d<10):(UInt8.ofNat (48+d)).toNat=48+d:=by
 simp [UInt8.toNat_ofNat];omega
theorem parse_step (acc d:Nat) (r:List UInt8) (hd:d<10) (h:acc * 10+d≤9223372036854775808):parseUint10 acc (UInt8.ofNat (48+d)::r)=parseUint10 (acc * 10+d) r:=by
 have e:=dig_nat hd
 rw [parseUint10,e,if_pos (by omega),if_neg (by omega),if_neg (by omega)]
 congr 1
 omega
theorem parse_dd:∀ (u acc:Nat) (r:List UInt8),acc * 10 ^ (decDigits u).length+u≤9223372036854775808→parseUint10 acc (decDigits u++r)=parseUint10 (acc * 10 ^ (decDigits u).length+u) r:=by
 intro u
 induction u using Nat.strongRecOn with
 | _ u ih =>
  intro acc r h
  by_cases hu:u<10
  ·rw [dd_small hu] at h ⊢
   simp only [List.length_cons,List.length_nil,Nat.zero_add,Nat.pow_one] at h ⊢
   exact parse_step acc u r hu h
  ·rw [dd_big hu] at h ⊢
   simp only [List.length_append,List.length_cons,List.length_nil,Nat.zero_add,Nat.pow_succ] at h ⊢
   rw [← Nat.mul_assoc] at h ⊢
   generalize hX:acc * 10 ^ (decDigits (u / 10)).length=X at *
   rw [List.append_assoc,ih (u / 10) (by omega) acc _ (by rw [hX];omega),hX]
   show parseUint10 (X+u / 10) (UInt8.ofNat (48+u % 10)::r)=_
   rw [parse_step _ _ _ (by omega) (by omega)]
   congr 1
   omega
theorem dd_ne (u:Nat):decDigits u≠[]:=by
 by_cases h:u<10
 ·rw [dd_small h];simp
 ·rw [dd_big h];simp
theorem dd_dig:∀ (u:Nat) (c:UInt8),c∈decDigits u→48≤c.toNat∧c.toNat≤57:=by
 intro u
 induction u using Nat.strongRecOn with
 | _ u ih =>
  intro c hc
  by_cases hu:u<10
  ·rw [dd_small hu,List.mem_singleton] at hc
   subst hc
   rw [dig_nat hu];omega
  ·rw [dd_big hu,List.mem_append,List.mem_singleton] at hc
   rcases hc with hc | rfl
   ·exact ih _ (by omega) c hc
   ·rw [dig_nat (by omega)];omega
theorem dd_len:∀ (k u:Nat),u<10 ^ (k+1)→(decDigits u).length≤k+1
 | 0,u,h=>by rw [dd_small (by simpa using h)];simp
 | k+1,u,h=>by
  by_cases hu:u<10
  ·rw [dd_small hu];simp
  ·rw [dd_big hu]
   have:=dd_len k (u / 10) (by rw [Nat.pow_succ] at h;omega)
   simp;omega
theorem parse_mag (u:Nat) (h:u≤9223372036854775808):parseMag (decDigits u)=.ok u:=by
 unfold parseMag
 rw [if_neg (dd_ne u)]
 have:=parse_dd u 0 [] (by omega)
 rw [List.append_nil] at this
 rw [this,Nat.zero_mul,Nat.zero_add,parseUint10]
theorem itoa_back (n:Int) (h0:-9223372036854775808≤n) (h1:n≤9223372036854775807):atoiAll (itoa n)=.ok n:=by
 by_cases hn:n<0
 ·have e:itoa n=45::decDigits n.natAbs:=by rw [itoa,if_pos hn]
  rw [e]
  simp only [atoiAll]
  rw [if_pos (.inr (by decide)),parse_mag _ (by omega)]
  simp only
  rw [if_neg (fun h=>h.1 (by decide)),if_neg (by omega),if_pos (by decide)]
  congr 1
  omega
 ·have e:itoa n=decDigits n.toNat:=by rw [itoa,if_neg hn]
  rw [e]
  have hp:=parse_mag n.toNat (by omega)
  have hne:=dd_ne n.toNat
  have hd:=dd_dig n.toNat
  generalize decDigits n.toNat=l at *
  cases l with
  | nil=>exact absurd rfl hne
  | cons c r =>
   have hc:=hd c (by simp)
   simp only [atoiAll]
   rw [if_neg (by omega),hp]
   simp only
   rw [if_neg (by omega),if_neg (by omega),if_neg (by omega)]
   congr 1
   omega
theorem itoa_chars (n:Int) (c:UInt8) (h:c∈itoa n):c.toNat=45∨(48≤c.toNat∧c.toNat≤57):=by
 unfold itoa at h
 split at h
 ·rcases List.mem_cons.1 h with rfl | h
  ·exact .inl rfl
  ·exact .inr (dd_dig _ c h)
 ·exact .inr (dd_dig _ c h)
theorem itoa_20 (n:Int) (h0:-9223372036854775808≤n) (h1:n≤9223372036854775807):(itoa n).length≤20:=by
 unfold itoa
 split
 ·have:=dd_len 18 n.natAbs (by omega)
  simp;omega
 ·have:=dd_len 18 n.toNat (by omega)
  omega
theorem index_at (l r:List UInt8) (e:UInt8) (h:e ∉ l):indexByte (l++e::r) e=l.length:=by
 induction l with
 | nil=>simp [indexByte]
 | cons c l ih =>
  simp only [List.mem_cons,not_or] at h
  have h1:=ih h.2
  rw [List.cons_append,indexByte,h1]
  have hc:(c==e)=false:=by simp;exact fun he=>h.1 he.symm
  rw [hc]
  simp
end Go.Proofs.YthlpehhlhebhbaaGreatDoor
