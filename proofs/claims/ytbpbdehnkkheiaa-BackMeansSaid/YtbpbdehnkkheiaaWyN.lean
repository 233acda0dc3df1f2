/- Contracts of rank, longer and AtMost, and of the library's Clone of strings. -/
import Derived.Test.YtbpbdehnkkheiaaWyL
namespace Go.Proofs.Ytbpbdehnkkheiaa
open Go.RowKit

def rankI (h : Int) : Int := if h = 0 then 0 else if h = 1 then 1 else if h = 4 then 2 else if h = 2 then 3 else if h = 3 then 4 else 5
def SomeInt (w : World) (e : Ending) (w' : World) : Prop := (∃ n, e = .returned (.int .i64 n)) ∧ Below w.heap.size w w'
set_option maxRecDepth 100000 in
set_option maxHeartbeats 1000000 in
theorem longer_any (p q : Prof) (A B : Option Addr) (c d : Nat) (w : World) : Calls Try.prog 31 #[p.v A c, q.v B d] w (SomeInt w) := by
  have HB := Lib.hid (((Below.refl w.heap.size w).alloc (Nat.le_refl _) (.cells (p.cs A c) 24)).alloc (by simp) (.cells (q.cs B d) 24))
  go_enter Try.func31, Try.ntmps31
  go_wp2
  all_goals go_ret
  all_goals exact ⟨⟨_, rfl⟩, HB.out⟩

theorem slS : SlTy Try.prog 22 9 1 16 := by
  obtain ⟨i, hi, h0, h1, h2⟩ := info_parts (show (Try.prog.info? 9).map (fun i => (i.zero, i.size, i.bytes)) = some (some (.string ByteArray.empty), 1, 16) by kernel_rfl)
  exact ⟨Try.underlying22, ⟨i, _, hi, h0, h1, h2, rfl⟩, by decide, by decide⟩
abbrev OwnS (w : World) (base : Nat) := OwnL w base 9 1 strCells
set_option maxHeartbeats 400000 in
theorem strClone_any (xs : List ByteArray) (A : Option Addr) (c : Nat) (w : World) (hr : RdS w w.heap.size A xs) (hm : xs.length ≤ 1000000) :
    Calls Try.prog 32 #[.slice A xs.length c] w fun e w' => ∃ A' c', e = .returned (.slice A' xs.length c') ∧ OwnS w' w.heap.size A' c' xs ∧ Below w.heap.size w w' := by
  have hm2 : xs.length ≤ 9223372036854775807 := by omega
  rcases A with _ | a
  · have hx : xs = [] := by
      rcases xs with _ | ⟨x, r⟩
      · rfl
      · obtain ⟨b, off, h0, _⟩ := hr 0 x rfl
        cases h0
    subst hx
    have h0 := fun w => Lib.run_eql_slice_nil (P := Try.prog) w 22 9 none 0 c 0 0 Try.underlying22
    go_enter Try.func32, Try.ntmps32
    go_wp2
    go_ret
    exact ⟨none, 0, rfl, OwnL.nil_, Below.refl _ _⟩
  · have h0 := fun w => Lib.run_eql_slice_nil (P := Try.prog) w 22 9 (some a) xs.length c 0 0 Try.underlying22
    have b1 : (([] : List ByteArray).length + xs.length) * 16 ≤ 140737488355328 := by simp; omega
    have b2 : w.heap.size ≤ (w.alloc (.cells #[] 9)).heap.size := by simp
    have b3 : Below w.heap.size w (w.alloc (.cells #[] 9)) := (Below.refl _ _).alloc (Nat.le_refl _) _
    have B1 := Lib.hid b1
    have B2 := Lib.hid b2
    clear b1 b2
    go_enter Try.func32, Try.ntmps32
    go_wp2_with (first | (at_builtin; refine wp_append_l rfl (.tmp 5) (.tmp 6) rfl slS strLay w.heap.size (xs := []) (ys := xs) (B := w.heap.size) rfl rfl (OwnL.empty w 9 w.heap.size (Nat.le_refl _) _ rfl) rfl rfl (hr.below b3) B1.out B2.out ?_; intro A2 c2 w2 hown hg hbl hat))
    go_ret
    exact ⟨A2, c2, rfl, hown, b3.trans hbl⟩

def lessB (p q : Prof) : Bool := decide (p.edit ≤ q.edit) && (decide (p.delete ≤ q.delete) && (decide (p.thread ≤ q.thread) && (decide (p.size ≤ q.size) && (decide (p.parts ≤ q.parts) && (decide (p.files ≤ q.files) && (decide (p.bytes ≤ q.bytes) && decide (p.level ≤ q.level)))))))
def flagsB (p q : Prof) : Bool := (!p.react || q.react) && ((!p.quote || q.quote) && (!p.mention || q.mention))
def timesB (p q : Prof) : Bool := (p.edit == 0) || ((q.within_ == 0) || ((p.within_ != 0) && decide (p.within_ ≤ q.within_)))
def lacks (q : Prof) (s : ByteArray) : Bool := !hasS q.types s
def atMostB (p q : Prof) : Bool := lessB p q && (flagsB p q && (timesB p q && !p.types.any (lacks q)))
end Go.Proofs.Ytbpbdehnkkheiaa
