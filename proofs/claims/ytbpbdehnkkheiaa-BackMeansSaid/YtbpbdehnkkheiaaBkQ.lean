/- What is handed in anew in the walk of BackPairs: alike where the kind looks. -/
import Derived.Test.YtbpbdehnkkheiaaBkE
import Derived.Test.YtbpbdehnkkheiaaBkP
namespace Go.Proofs.Ytbpbdehnkkheiaa
open Go.RowKit

theorem rd_same {r ra rb rc rd : RawM} {n : Int} {hN z0 z4 : Bool} (h1 : ({ r with seq := n } : RawM) = ra) (h2 : (if hN = true then ra else { ra with n := n }) = rb) (h3 : (if z0 = true then { rb with quote := n } else rb) = rc) (h4 : (if z4 = true then { rc with on := n } else rc) = rd) :
    rd.files = r.files ∧ rd.text = r.text := by
  subst h1 h2 h3 h4
  cases hN <;> cases z0 <;> cases z4 <;> exact ⟨rfl, rfl⟩
theorem alike_of {r ra rb rc rd o : RawM} {n : Int} {hN z0 z4 hX : Bool} (h1 : ({ r with seq := n } : RawM) = ra) (h2 : (if hN = true then ra else { ra with n := n }) = rb) (h3 : (if z0 = true then { rb with quote := n } else rb) = rc) (h4 : (if z4 = true then { rc with on := n } else rc) = rd)
    (h5 : o = (if hX = true then rd else { rd with text := zstr (min (max n 0) 5000).toNat, files := [n, n] })) (eN : hasN r.kind = hN) (e0 : (r.kind != 0) = z0) (e4 : decide (4 < r.kind) = z4) (eX : hasX r.kind = hX) : Alike r o := by
  subst h1 h2 h3 h4 h5
  cases hN <;> cases z0 <;> cases z4 <;> cases hX <;>
    exact ⟨rfl, rfl, rfl, rfl, fun h => by first | rfl | (simp at e4; omega), fun h => by first | rfl | (simp at e0; omega), fun h => by first | rfl | (rw [eN] at h; cases h), fun h => by first | exact ⟨rfl, rfl⟩ | (rw [eX] at h; cases h)⟩
theorem raw_other {r ra rb rc rd o : RawM} {n : Int} {hN z0 z4 hX : Bool} {fA gA : Option Addr} {fc gc : Nat} {wx : World} (h1 : ({ r with seq := n } : RawM) = ra) (h2 : (if hN = true then ra else { ra with n := n }) = rb) (h3 : (if z0 = true then { rb with quote := n } else rb) = rc) (h4 : (if z4 = true then { rc with on := n } else rc) = rd)
    (h5 : o = (if hX = true then rd else { rd with text := zstr (min (max n 0) 5000).toNat, files := [n, n] })) (hc : (o.files = rd.files ∧ gA = fA ∧ gc = fc) ∨ (o.files = [n, n] ∧ 2 ≤ gc ∧ RdI wx wx.heap.size gA [n, n])) (hr : RawOk wx wx.heap.size fA fc r) (hrc : r.files.length ≤ fc) :
    RawOk wx wx.heap.size gA gc o ∧ o.files.length ≤ gc := by
  obtain ⟨hf, ht⟩ := rd_same h1 h2 h3 h4
  have htx : o.text.size ≤ 9223372036854775807 := by
    rw [h5]
    cases hX
    · show (zstr _).size ≤ _
      rw [zstr_size]
      omega
    · show rd.text.size ≤ _
      rw [ht]
      exact hr.tx
  rcases hc with ⟨e, rfl, rfl⟩ | ⟨e, h, hrd⟩
  · rw [hf] at e
    exact ⟨⟨by rw [e]; exact hr.fi, by rw [e]; exact hr.fl, htx⟩, by rw [e]; exact hrc⟩
  · exact ⟨⟨by rw [e]; exact hrd, by rw [e]; simp, htx⟩, by rw [e]; exact h⟩
/-- What Back gives is an event that can be read. -/
theorem back_evOk {w wx : World} {B : Nat} {fA : Option Addr} {fc : Nat} {r : RawM} (hr : RawOk w B fA fc r) (p : Prof) (xs : List Pair) (net step : Int) {gA : Option Addr} (h : RdI wx wx.heap.size gA (backS p xs net r step).1.files) : EvOk wx wx.heap.size none gA (backS p xs net r step).1 := by
  have hz : ∀ {b : EvM}, b = zeroEv → b.causes = [] ∧ b.files.length ≤ 9223372036854775807 ∧ b.text.size ≤ 9223372036854775807 := by
    rintro b rfl
    exact ⟨rfl, by decide, by decide⟩
  have hb : (backS p xs net r step).1.causes = [] ∧ (backS p xs net r step).1.files.length ≤ 9223372036854775807 ∧ (backS p xs net r step).1.text.size ≤ 9223372036854775807 := by
    unfold backS
    split
    · exact hz rfl
    split
    · exact hz rfl
    split
    · exact hz rfl
    split
    · exact hz rfl
    split
    · exact hz rfl
    rw [backFold_eq]
    refine ⟨rfl, ?_, ?_⟩
    · show (if hasX r.kind = true then r.files else []).length ≤ _
      split
      · exact hr.fl
      · simp
    · show (if hasX r.kind = true then r.text else ByteArray.empty).size ≤ _
      split
      · exact hr.tx
      · decide
  exact ⟨by rw [hb.1]; exact RdL.nil_, h, by rw [hb.1]; simp, hb.2.1, hb.2.2⟩
end Go.Proofs.Ytbpbdehnkkheiaa
