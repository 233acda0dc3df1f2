/- What Print says: lemmas and macros. -/
import Derived.Test.YtnaejabgkfhlbaaDoorSyU
import Derived.Test.YtnaejabgkfhlbaaDoorWyF
set_option linter.unusedSimpArgs false
set_option linter.unusedVariables false
namespace Go.Proofs.YtnaejabgkfhlbaaDoor
open Go.RowKit

/-- What Print says. -/
def PrintOut (P : Prof) (w : World) (e : Ending) (w' : World) : Prop := e = .returned (.tuple #[.string (bs (if profRight P then printF P else [])), .int .i64 (if profRight P then 0 else 1)]) ∧ Below w.heap.size w w'
theorem itoa_len (n : Int) (h0 : 0 ≤ n) (h1 : n ≤ 1073741824) : (Lib.itoa n).length ≤ 20 := (short_num n h0 h1).2
theorem yesW_len (b : Bool) : (yesW b).length ≤ 20 := by cases b <;> decide
theorem nat_of {n : Int} (h : 0 ≤ n) : ∃ k : Nat, n = k := ⟨n.toNat, by omega⟩
theorem getD_at {ws : List (List UInt8)} {k : Nat} (h : k < ws.length) : ws.getD k [] = ws[k] := by rw [List.getD_eq_getElem?_getD, List.getElem?_eq_getElem h]; rfl
theorem words_20 (ws : List (List UInt8)) (h : ws.all (fun s => decide (s.length ≤ 20)) = true) (k : Nat) : (ws.getD k []).length ≤ 20 := by
  rw [List.getD_eq_getElem?_getD]
  cases e : ws[k]? with
  | none => simp
  | some s =>
    have := List.all_eq_true.1 h s (List.mem_of_getElem? e)
    simpa using this
theorem tab_cell {w : World} {b : Nat} {ws : List (List UInt8)} (h : RdL 1 strE w w.heap.size (some ⟨b, 0, none⟩) ws) {k : Nat} (hk : k < ws.length) : w.cell? ⟨b, k, none⟩ = some (.string (bs (ws.getD k []))) := by
  obtain ⟨b2, off, e, _, h2⟩ := rdS_cell h hk
  injection e with e
  injection e with e1 e2
  subst e1 e2
  rw [getD_at hk]
  rw [Nat.zero_add] at h2
  exact h2
-- pl CONTRACT | k : a line is written: HPk
-- pc j | k | v : the profile's cell j in the world of HPk
-- tabLine TABLE | WORD | j | d | WORDS | k | k0 : a line of a word and of one of a table's words (d: the number, hd its bound; HI j: the cell)
-- yesLine j | WORD | BOOL | k | k0 : a line of a word and yes or no
-- numCall i | n | k | k0 | RANGE : operation i: strconv.Itoa(n)
theorem own_lit (w : World) (ws : List (List UInt8)) (cs : Array Value) (n : Nat) (hn : n = w.heap.size) (hl : ws.length ≤ 1000) (h : cs.toList = ws.flatMap strE) : OwnL (w.alloc (.cells cs 9)) w.heap.size 9 1 strE (some ⟨n, 0, none⟩) ws.length ws := by
  subst hn
  have hs : cs.size = ws.length * 1 := by
    have := congrArg List.length h
    rw [Array.length_toList] at this
    rw [this, Nat.mul_one]
    clear this h
    induction ws with
    | nil => rfl
    | cons x r ih => simp only [List.flatMap_cons, List.length_append, List.length_cons, ih (by simp at hl; omega)]; simp [strE]; omega
  have := World.ownsRow_lit (base := w.heap.size) (e := 9) (size := 1) w cs ws.length (Nat.le_refl _) (by simp [maxLen]; omega) hs
  rw [h] at this
  exact this
theorem rdS_strE {w : World} {B : Nat} {A : Option Addr} {xs : List ByteArray} (h : RdS w B A xs) : RdL 1 strE w B A (xs.map (fun s => s.data.toList)) := fun k x hx => by
  rw [List.getElem?_map] at hx
  obtain ⟨s, hs, rfl⟩ := Option.map_eq_some_iff.1 hx
  exact h k s hs
theorem files_flat (p : Prof) : (shFiles p).flatMap pieceF = filesB p := by
  unfold shFiles filesB filesW
  split
  · simp [lineB, piece_num, piece_word, piece_sign, flat_types]
  · rfl
theorem filesB_len {p : Prof} (h : Rt p) : (filesB p).length ≤ 600 := by
  rw [← files_flat]
  exact Nat.le_trans (flat_short (alls_files h)) (by decide)
theorem own_cells {w : World} {base : Nat} {A : Option Addr} {c : Nat} {xs : List (List UInt8)} (h : OwnL w base 9 1 strE A c xs) (hne : xs ≠ []) :
    ∃ g, A = some ⟨g, 0, none⟩ ∧ base ≤ g ∧ g < w.heap.size ∧ xs.length ≤ c ∧ ∀ k (hk : k < xs.length), w.cell? ⟨g, 0 + k, none⟩ = some (.string (bs xs[k])) := by
  obtain ⟨g, rfl, h1, h2, h3⟩ := own_some h hne
  refine ⟨g, rfl, h1, h2, h3, fun k hk => ?_⟩
  obtain ⟨b2, off, e, _, h4⟩ := rdS_cell (h.rd strELay) hk
  injection e with e
  injection e with e1 e2
  subst e1 e2
  exact h4
theorem levelW_cons (P : Prof) : ∃ r, levelW P = kReceipts :: r ∧ 1 ≤ r.length ∧ r.length ≤ 2 ∧ (lineB (kReceipts :: r)).length ≤ 100 := by
  have h := words_20 wReceipts (by decide) P.level.toNat
  unfold levelW
  cases P.batch
  · exact ⟨_, rfl, by simp, by simp, by rw [lineB_len]; simp at h ⊢; omega⟩
  · exact ⟨_, rfl, by simp, by simp, by rw [lineB_len]; simp at h ⊢; omega⟩
/-- The words of the line about receipts. -/
def LvPost (w1 : World) (l : List UInt8) (m : Nat) (ws : List (List UInt8)) (v : Value) (wx : World) : Prop :=
  ∃ g c, v = .slice (some ⟨g, 0, none⟩) ws.length c ∧ ws.length ≤ c ∧ g < wx.heap.size ∧ (∀ k (hk : k < ws.length), wx.cell? ⟨g, 0 + k, none⟩ = some (.string (bs ws[k]))) ∧ PS w1 l m wx
theorem bld_len {B b : Nat} {l : List UInt8} {w : World} (h : Bld B b l w) (hl : l.length ≤ 1000000) : Calls Tryd.prog 54 #[.pointer (some ⟨b, 0, none⟩)] w fun e w' => e = .returned (.int .i64 (l.length : Nat)) ∧ w = w' := by
  have one : ∀ p, Lib.BuilderAtF 68 5 B b p (Lib.byteCells l) w → ∃ A c, w.cell? ⟨b, 1, none⟩ = some (.slice A l.length c) ∧ l.length ≤ c := by
    rintro p ⟨hB, v, hv, hown, hne⟩
    have hn : (Lib.byteCells l).length = l.length := Lib.byteCells_length l
    rw [hn] at hown
    rcases hown.2 with ⟨hv2, h0⟩ | ⟨g, cap, cur, fz, hv2, _, _, _, hc, _⟩
    · subst hv2
      exact ⟨none, 0, by rw [h0]; exact box_cell hv 1 _ rfl, by omega⟩
    · subst hv2
      exact ⟨_, _, box_cell hv 1 _ rfl, hc⟩
  obtain ⟨A, c, c1, hc⟩ : ∃ A c, w.cell? ⟨b, 1, none⟩ = some (.slice A l.length c) ∧ l.length ≤ c := by
    rcases h with h | h
    · exact one _ h
    · exact one _ h
  clear h one
  generalize l.length = n at *
  go_enter Tryd.func54, Tryd.ntmps54
  go_wp2_with fail
  go_ret
  exact ⟨rfl, rfl⟩
-- litLine WORD | j | d | WORDS | CELLS | k | k0 : a line of a word and of one of two words of a slice that is made
end Go.Proofs.YtnaejabgkfhlbaaDoor
