/- Contracts of Same, Few, and the laws' own profiles. -/
import Derived.Test.YtbpbdehnkkheiaaWyK
import Derived.Test.YtbpbdehnkkheiaaBox
namespace Go.Proofs.Ytbpbdehnkkheiaa
open Go.RowKit

theorem same_miss {xs ys : List (Int × Int)} {k : Nat} {x y : Int × Int} (hx : xs[k]? = some x) (hy : ys[k]? = some y) (h : ¬ x = y) : decide (xs = ys) = false := by
  rw [decide_eq_false_iff_not]
  rintro rfl
  rw [hx] at hy
  injection hy with hy
  exact h hy

def pngS : ByteArray := ⟨#[112, 110, 103]⟩
def zeroP : Prof := { name := ByteArray.empty, edit := 0, within_ := 0, delete := 0, react := false, thread := 0, quote := false, mention := false, size := 0, parts := 0, files := 0, bytes := 0, types := [], join := 0, history := 0, remove := 0, level := 0, batch := false, rate := 0, down := 0, window := 0, keep := 0 }
def mailP : Prof := { zeroP with name := ⟨#[109, 97, 105, 108]⟩, thread := 2, quote := true, size := 900, parts := 1, files := 2, bytes := 5000, types := [pngS], rate := 1 }
def roomP : Prof := { zeroP with name := ⟨#[114, 111, 111, 109]⟩, edit := 2, delete := 2, react := true, thread := 2, quote := true, mention := true, size := 4000, parts := 3, files := 4, bytes := 5000, types := [pngS], rate := 1 }
def thirdP : Prof := { roomP with delete := 0 }
def MadeP (p : Prof) (w : World) (e : Ending) (w' : World) : Prop := Below w.heap.size w w' ∧ ∃ A, e = .returned (p.v A 1) ∧ RdS w' w'.heap.size A p.types
theorem strLay : Lay 1 strCells := ⟨fun _ => rfl, fun x u hu => by simp only [strCells, List.mem_cons, List.not_mem_nil, or_false] at hu; subst hu; rfl⟩

theorem RdL.at_block {T : Type} {sz : Nat} {enc : T → List Value} {w w' : World} {B B' g o : Nat} {xs : List T} (h : RdL sz enc w B (some ⟨g, o, none⟩) xs) (hk : ∀ j, w'.cell? ⟨g, j, none⟩ = w.cell? ⟨g, j, none⟩) (hB : g < B') : RdL sz enc w' B' (some ⟨g, o, none⟩) xs := fun k x hx => by
  obtain ⟨b, off, e, _, hc⟩ := h k x hx
  injection e with e
  injection e with e1 e2
  subst e1 e2
  exact ⟨_, _, rfl, hB, fun j v hv => (hk _).trans (hc j v hv)⟩
def FewOut (p : Prof) (w : World) (e : Ending) (w' : World) : Prop := (∃ b, e = .returned (.bool b) ∧ (b = true → p.types.length ≤ 12)) ∧ Below w.heap.size w w'
set_option maxRecDepth 100000 in
set_option maxHeartbeats 1000000 in
/-- Few says something. -/
theorem few_any (p : Prof) (A : Option Addr) (c : Nat) (w : World) (hr : ProfOk w w.heap.size A p) : Calls Try.prog 6 #[p.v A c] w (FewOut p w) := by
  obtain ⟨hrd, hnm, hlen, hts⟩ := hr
  have HTS := Lib.hid hts
  clear hts
  have hb0 : Below w.heap.size w (w.alloc (.cells (p.cs A c) 24)) := (Below.refl _ _).alloc (Nat.le_refl _) _
  have HB := Lib.hid hb0
  have hrd0 := hrd.now hb0
  clear hb0
  go_enter Try.func6, Try.ntmps6
  go_wp2
  go_loopw [3] (fun i wr => ∃ k : Nat, k ≤ p.types.length ∧ k ≤ 13 ∧ i = .int .i64 k ∧ wr = (w.alloc (.cells (p.cs A c) 24))) (fun i _ => p.types.length - (intOf i).toNat)
  case atStart => exact ⟨0, Nat.zero_le _, Nat.zero_le _, rfl, rfl⟩
  case round =>
    obtain ⟨k, hk, hk2, rfl, rfl⟩ := hrel
    by_cases hlt : k < p.types.length
    · by_cases hlt2 : k < 13
      · obtain ⟨b, off, s, rfl, hbb, hp, hc⟩ := RdS_at hrd0 hlt
        have HP := Lib.hid hp
        have hsz := HTS.out s (List.mem_of_getElem? hp)
        clear hp
        by_cases hs : 60 < s.size
        · go_wp2
          go_ret
          exact ⟨⟨_, rfl, fun h => by cases h⟩, HB.out⟩
        · go_wp2
          go_roundw
          case rel => exact ⟨k + 1, by omega, by omega, by go_num, by first | trivial | rfl⟩
          case measure => simp [intOf]; omega
      · go_wp2
        all_goals go_ret
        all_goals exact ⟨⟨_, rfl, fun h => by first | omega | (simp at h; done) | (simp at h; omega)⟩, HB.out⟩
    · by_cases hl : p.types.length ≤ 12
      all_goals by_cases hn : p.name.size ≤ 60
      all_goals go_wp2
      all_goals go_ret
      all_goals exact ⟨⟨_, rfl, fun h => by first | omega | (simp at h; done) | (simp at h; omega)⟩, HB.out⟩
end Go.Proofs.Ytbpbdehnkkheiaa
