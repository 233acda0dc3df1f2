/- Contracts and plain laws, joined: ErS. -/
import Derived.Test.YtjmkodkechahdaaGreatDoorChecked
import Derived.Test.YtjmkodkechahdaaGreatDoorQaf
/- Contract of erase.steps: calls one after the other, up to the first error. -/
set_option linter.unusedSimpArgs false
set_option linter.unusedVariables false
namespace Go.Proofs.YtjmkodkechahdaaGreatDoor
open Go.RowKit

/-- A function value. -/
structure FV where
  n : Nat
  bnd : Array Value
  cap : Array Value
def FV.v (f : FV) : Value := .func (.func f.n) f.bnd f.cap
def fvE (f : FV) : List Value := [.func (.func f.n) f.bnd f.cap]
theorem rd_fv {w : World} {A : Option Addr} {xs : List FV} {k : Nat} {f : FV} (h : RdL 1 fvE w w.heap.size A xs) (hk : xs[k]? = some f) : ∃ b off, A = some ⟨b, off, none⟩ ∧ b < w.heap.size ∧ w.cell? ⟨b, off + k, none⟩ = some (.func (.func f.n) f.bnd f.cap) := by
  obtain ⟨b, off, e, hb, hc⟩ := h k f hk
  exact ⟨b, off, e, hb, by simpa using hc 0 _ rfl⟩
set_option maxRecDepth 100000 in
set_option maxHeartbeats 2000000 in
theorem steps_any (fs : List FV) (A : Option Addr) (c : Nat) (w : World) (I : Nat → World → Prop) (Z : Int → World → Prop) (hlen : fs.length ≤ 100) (hent : ∀ f ∈ fs, ∀ args w, (callFunc f.n args).run Tryz.prog w = .ok (.enter f.n args) w) (hrd : ∀ i w, I i w → RdL 1 fvE w w.heap.size A fs)
    (hstep : ∀ i f w, fs[i]? = some f → I i w → Calls Tryz.prog f.n (f.bnd ++ f.cap) w fun e w' => ∃ c : Int, e = .returned (.int .i64 c) ∧ (c = 0 → I (i + 1) w') ∧ (c ≠ 0 → Z c w')) (h0 : I 0 w) :
    Calls Tryz.prog 48 #[.slice A fs.length c] w fun e w' => ∃ c : Int, e = .returned (.int .i64 c) ∧ (c = 0 → I fs.length w') ∧ (c ≠ 0 → Z c w') := by
  have HRd := Lib.hid hrd
  have HSt := Lib.hid hstep
  have H0 := Lib.hid h0
  clear hrd hstep h0
  go_enter Tryz.func48, Tryz.ntmps48
  go_wp2_with fail
  go_loopw [8] (fun v wr => ∃ k : Nat, k ≤ fs.length ∧ v = .int .i64 k ∧ Hid (I k wr)) (fun v _ => fs.length - (intOf v).toNat)
  case atStart => exact ⟨0, Nat.zero_le _, rfl, H0⟩
  case round =>
    obtain ⟨k, hk, rfl, HI⟩ := hrel
    by_cases hlt : k < fs.length
    · obtain ⟨f, hf⟩ : ∃ f, fs[k]? = some f := ⟨_, List.getElem?_eq_getElem hlt⟩
      obtain ⟨b, off, rfl, hb, hc⟩ := rd_fv (HRd.out k wr HI.out) hf
      have HC := Lib.hid (HSt.out k f wr hf HI.out)
      have d1 : decide ((k : Int) < (fs.length : Int)) = true := by simp; omega
      have HE := Lib.hid (hent f (List.mem_of_getElem? hf))
      clear hf hent
      go_wp2_with fail
      rw [HE.out, Oper.upon_enter]
      refine HC.out.mono ?_
      rintro e w2 ⟨x, rfl, h1, h2⟩
      have H1 := Lib.hid h1
      have H2 := Lib.hid h2
      clear h1 h2 hc HC HI
      by_cases hx : x = 0
      · have HN := Lib.hid (H1.out hx)
        subst hx
        clear H1 H2
        go_wp2_with fail
        go_roundw
        case rel => exact ⟨k + 1, by omega, by go_num, HN⟩
        case measure => simp [intOf]; omega
      · have hx2 : (x != 0) = true := by simpa using hx
        go_wp2_with fail
        go_ret
        exact ⟨x, rfl, fun h => absurd h hx, H2.out⟩
    · obtain rfl : k = fs.length := by omega
      have d1 : decide ((fs.length : Int) < (fs.length : Int)) = false := by simp
      go_wp2_with fail
      go_ret
      exact ⟨0, rfl, fun _ => HI.out, fun h => absurd rfl h⟩
end Go.Proofs.YtjmkodkechahdaaGreatDoor
