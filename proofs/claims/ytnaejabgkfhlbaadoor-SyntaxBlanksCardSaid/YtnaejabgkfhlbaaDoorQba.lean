/- Contracts and plain laws, joined: SyU, SyVl, SyV. -/
import Derived.Test.YtnaejabgkfhlbaaDoorQax
import Derived.Test.YtnaejabgkfhlbaaDoorQaw
import Derived.Test.YtnaejabgkfhlbaaDoorQal
/- The lines of the canonical text, and what a printer holds (layer 12). -/
set_option linter.unusedSimpArgs false
set_option linter.unusedVariables false
namespace Go.Proofs.YtnaejabgkfhlbaaDoor
open Go.RowKit

def editB (p : Prof) : List UInt8 := if 0 < p.within_ then lineB [kEdit, kYes, kWithin, Lib.itoa p.within_] else lineB [kEdit, yesW (p.edit == 2)]
def filesW (p : Prof) : List (List UInt8) := [kFiles, Lib.itoa p.files, kBytes, Lib.itoa p.bytes, kTypes] ++ p.types.map (fun s => s.data.toList)
def filesB (p : Prof) : List UInt8 := if 0 < p.files then lineB (filesW p) else []
def levelW (p : Prof) : List (List UInt8) := if p.batch then [kReceipts, wReceipts.getD p.level.toNat [], kBatch] else [kReceipts, wReceipts.getD p.level.toNat []]
def keepB (p : Prof) : List UInt8 := if 0 < p.keep then lineB [kKeep, Lib.itoa p.keep] else []
def headL (p : Prof) : List UInt8 := [] ++ lineB [kNetwork, p.name.data.toList] ++ editB p ++ lineB [kDelete, wDeletes.getD p.delete.toNat []] ++ lineB [kReact, yesW p.react] ++ lineB [kThread, wThreads.getD p.thread.toNat []]
  ++ lineB [kQuote, yesW p.quote] ++ lineB [kMention, yesW p.mention] ++ lineB [kSize, Lib.itoa p.size, kParts, Lib.itoa p.parts]
def printL (p : Prof) : List UInt8 := headL p ++ filesB p ++ lineB [kJoin, wJoins.getD p.join.toNat []] ++ lineB [kHistory, wHistory.getD p.history.toNat []]
  ++ lineB [kRemove, wRemove.getD p.remove.toNat []] ++ lineB (levelW p) ++ lineB [kRate, Lib.itoa p.rate, kDown, Lib.itoa p.down, kOf, Lib.itoa p.window] ++ keepB p
theorem yes_pick (b : Bool) : (pick wNoYes (oneI b)).text = yesW b ∧ pieceE (pick wNoYes (oneI b)) = 32 := by cases b <;> exact ⟨rfl, rfl⟩
theorem flat_words (ws : List (List UInt8)) : (ws.map Sh.word ++ [Sh.sign]).flatMap pieceF = lineB ws := by
  induction ws with
  | nil => rfl
  | cons x r ih =>
    have e : lineB (x :: r) = (x ++ [32]) ++ lineB r := by simp [lineB]
    rw [e, ← ih]
    simp [pieceF, pieceE, Sh.text]
theorem piece_num (n : Int) : pieceF (numS n) = Lib.itoa n ++ [32] := rfl
theorem piece_word (s : List UInt8) : pieceF (.word s) = s ++ [32] := rfl
theorem piece_sign : pieceF .sign = [59, 10] := rfl
theorem piece_pick (ws : List (List UInt8)) (i : Int) : pieceF (pick ws i) = ws.getD i.toNat [] ++ [32] := rfl
theorem piece_yes (b : Bool) : pieceF (pick wNoYes (oneI b)) = yesW b ++ [32] := by cases b <;> rfl
theorem yes_word (b : Bool) : wNoYes.getD (oneI b).toNat [] = yesW b := by cases b <;> rfl
theorem flat_types (l : List ByteArray) : (l.map (fun s => Sh.word s.data.toList)).flatMap pieceF = (l.map (fun s => s.data.toList)).flatMap (fun s => s ++ [32]) := by
  induction l with
  | nil => rfl
  | cons x r ih => simp only [List.map_cons, List.flatMap_cons, ih]; rfl
theorem print_lines (p : Prof) : printL p = printF p := by
  have h1 : (shEdit p ++ [Sh.sign]).flatMap pieceF = (editB p).drop 5 := by
    unfold shEdit editB
    split
    · simp [lineB, piece_num, piece_word, piece_sign]; rfl
    · simp only [List.append_nil, List.cons_append, List.nil_append, List.flatMap_cons, List.flatMap_nil, piece_yes, piece_sign]
      simp [lineB]
  have h1' : editB p = (kEdit ++ [32]) ++ (shEdit p ++ [Sh.sign]).flatMap pieceF := by
    rw [h1]
    unfold editB
    split <;> simp [lineB]
  have h2 : (shFiles p).flatMap pieceF = filesB p := by
    unfold shFiles filesB filesW
    split
    · simp [lineB, piece_num, piece_word, piece_sign, flat_types]
    · rfl
  have h3 : (shKeep p).flatMap pieceF = keepB p := by
    unfold shKeep keepB
    split
    · simp [lineB, piece_num, piece_word, piece_sign]
    · rfl
  have h4 : lineB (levelW p) = (kReceipts ++ [32]) ++ (pieceF (pick wReceipts p.level) ++ ((shBatch p).flatMap pieceF ++ [59, 10])) := by
    unfold levelW shBatch
    cases p.batch <;> simp [lineB, piece_pick, piece_word]
  unfold printL headL
  rw [h1', h4, ← h2, ← h3]
  unfold printF shapesP shRest shPart
  simp only [List.flatMap_append, List.flatMap_cons, List.flatMap_nil, List.append_nil, List.nil_append, List.cons_append, piece_num, piece_word, piece_sign, piece_yes, lineB, piece_pick, yes_word, List.append_assoc]

/-- The printer's world: the builder (the block behind w1) holds l; below it all is as in w1. -/
structure PS (w1 : World) (l : List UInt8) (m : Nat) (w : World) : Prop where
  bld : Bld w1.heap.size w1.heap.size l w
  low : Below w1.heap.size w1 w
  len : l.length ≤ m
theorem PS.now {w1 w w' : World} {l : List UInt8} {m : Nat} (h : PS w1 l m w) (hb : Below w.heap.size w w') : PS w1 l m w' := ⟨h.bld.now hb, h.low.trans (hb.mono h.low.size), h.len⟩
theorem PS.drew {w1 w : World} {l : List UInt8} {m : Nat} (h : PS w1 l m w) : PS w1 l m w.drew := h.now (Below.refl _ _).drew
theorem PS.alloc {w1 w : World} {l : List UInt8} {m : Nat} (h : PS w1 l m w) (o : Obj) : PS w1 l m (w.alloc o) := h.now ((Below.refl _ _).alloc (Nat.le_refl _) _)
theorem lit_cells (w : World) (ws : List (List UInt8)) (cs : Array Value) (h : cs.toList = ws.map (fun l => Value.string (bs l))) : ∀ k (hk : k < ws.length), (w.alloc (.cells cs 9)).cell? ⟨w.heap.size, 0 + k, none⟩ = some (.string (bs ws[k])) := by
  intro k hk
  unfold World.cell?
  simp only [heap_alloc_new]
  have : cs.toList[k]? = some (.string (bs ws[k])) := by rw [h, List.getElem?_map, List.getElem?_eq_getElem hk]; rfl
  rw [Nat.zero_add]
  simpa using this
/-- A line of words that stand in a slice. -/
theorem PS.line {w1 w : World} {l : List UInt8} {m : Nat} (h : PS w1 l m w) (x : List UInt8) (r : List (List UInt8)) (q off c n k : Nat) (hn : n = (x :: r).length) (h2 : 2 ≤ n) (hc : n ≤ c) (hq : q < w.heap.size)
    (hcell : ∀ k (hk : k < (x :: r).length), w.cell? ⟨q, off + k, none⟩ = some (.string (bs (x :: r)[k]))) (hm : m ≤ 900000) (hk : (lineB (x :: r)).length ≤ k) (hk2 : k ≤ 100000) :
    Calls Tryd.prog 47 #[.slice (some ⟨q, off, none⟩) n c, .pointer (some ⟨w1.heap.size, 0, none⟩)] w fun e w' => e = .returned (.tuple #[]) ∧ PS w1 (l ++ lineB (x :: r)) (m + k) w' := by
  refine (line_any w1.heap.size w1.heap.size l x r q off c n w hn h2 hc hq hcell h.bld h.low.size (by have := h.len; omega) (by omega)).mono ?_
  rintro e w' ⟨rfl, h3, h4⟩
  exact ⟨rfl, h3, h.low.trans h4, by rw [List.length_append]; have := h.len; omega⟩
theorem PS.lit {w1 w : World} {l : List UInt8} {m : Nat} (h : PS w1 l m w) (x y : List UInt8) (r : List (List UInt8)) (cs : Array Value) (n q k : Nat) (hq : q = w.heap.size) (hn : n = (x :: y :: r).length) (hcs : cs.toList = (x :: y :: r).map (fun l => Value.string (bs l)))
    (hm : m ≤ 900000) (hk : (lineB (x :: y :: r)).length ≤ k) (hk2 : k ≤ 100000) :
    Calls Tryd.prog 47 #[.slice (some ⟨q, 0, none⟩) n n, .pointer (some ⟨w1.heap.size, 0, none⟩)] (w.alloc (.cells cs 9)) fun e w' => e = .returned (.tuple #[]) ∧ PS w1 (l ++ lineB (x :: y :: r)) (m + k) w' :=
  hq ▸ (h.alloc _).line x (y :: r) w.heap.size 0 n n k hn (by rw [hn]; simp) (Nat.le_refl _) (by simp) (lit_cells w _ cs hcs) hm hk hk2
theorem PS.two {w1 w : World} {l : List UInt8} {m : Nat} (h : PS w1 l m w) (x y : List UInt8) (q : Nat) (hq : q = w.heap.size) (hm : m ≤ 900000) (hx : x.length ≤ 20) (hy : y.length ≤ 20) :
    Calls Tryd.prog 47 #[.slice (some ⟨q, 0, none⟩) 2 2, .pointer (some ⟨w1.heap.size, 0, none⟩)] (w.alloc (.cells #[.string (bs x), .string (bs y)] 9)) fun e w' => e = .returned (.tuple #[]) ∧ PS w1 (l ++ lineB [x, y]) (m + 50) w' :=
  h.lit x y [] _ 2 q 50 hq rfl rfl hm (by rw [lineB_len]; simp; omega) (by decide)
theorem PS.four {w1 w : World} {l : List UInt8} {m : Nat} (h : PS w1 l m w) (x y u v : List UInt8) (q : Nat) (hq : q = w.heap.size) (hm : m ≤ 900000) (hx : x.length ≤ 20) (hy : y.length ≤ 20) (hu : u.length ≤ 20) (hv : v.length ≤ 20) :
    Calls Tryd.prog 47 #[.slice (some ⟨q, 0, none⟩) 4 4, .pointer (some ⟨w1.heap.size, 0, none⟩)] (w.alloc (.cells #[.string (bs x), .string (bs y), .string (bs u), .string (bs v)] 9)) fun e w' => e = .returned (.tuple #[]) ∧ PS w1 (l ++ lineB [x, y, u, v]) (m + 100) w' :=
  h.lit x y [u, v] _ 4 q 100 hq rfl rfl hm (by rw [lineB_len]; simp; omega) (by decide)
theorem PS.six {w1 w : World} {l : List UInt8} {m : Nat} (h : PS w1 l m w) (x y u v s t : List UInt8) (q : Nat) (hq : q = w.heap.size) (hm : m ≤ 900000) (hx : x.length ≤ 20) (hy : y.length ≤ 20) (hu : u.length ≤ 20) (hv : v.length ≤ 20) (hs : s.length ≤ 20) (ht : t.length ≤ 20) :
    Calls Tryd.prog 47 #[.slice (some ⟨q, 0, none⟩) 6 6, .pointer (some ⟨w1.heap.size, 0, none⟩)] (w.alloc (.cells #[.string (bs x), .string (bs y), .string (bs u), .string (bs v), .string (bs s), .string (bs t)] 9)) fun e w' => e = .returned (.tuple #[]) ∧ PS w1 (l ++ lineB [x, y, u, v, s, t]) (m + 150) w' :=
  h.lit x y [u, v, s, t] _ 6 q 150 hq rfl rfl hm (by rw [lineB_len]; simp; omega) (by decide)
end Go.Proofs.YtnaejabgkfhlbaaDoor
/- What Print says: lemmas and macros. -/
set_option linter.unusedSimpArgs false
set_option linter.unusedVariables false
namespace Go.Proofs.YtnaejabgkfhlbaaDoor
open Go.RowKit

/-- What Print says. -/
def PrintOut (P : Prof) (w : World) (e : Ending) (w' : World) : Prop := e = .returned (.tuple #[.string (bs (if profRight P then printF P else [])), .int .i64 (if profRight P then 0 else 1)]) ∧ Below w.heap.size w w'
theorem itoa_len (n : Int) (h0 : 0 ≤ n) (h1 : n ≤ 1073741824) : (Lib.itoa n).length ≤ 20 := (short_num n h0 h1).2
theorem yesW_len (b : Bool) : (yesW b).length ≤ 20 := by cases b <;> decide
theorem nat_of {n : Int} (h : 0 ≤ n) : ∃ k : Nat, n = k := ⟨n.toNat, by omega⟩
theorem getD_at {ws : List (List UInt8)} {k : Nat} (h : k < ws.length) : ws.getD k [] = ws[k] := by rw [List.getD_eq_getElem?_getD, List.getElem?_eq_getElem h]; rfl
theorem words_20 (ws : List (List UInt8)) (h : ws.all (fun s => decide (s.length ≤ 20)) = true) (k : Nat) : (ws.getD k []).length ≤ 20 := by
  rw [List.getD_eq_getElem?_getD]
  cases e : ws[k]? with
  | none => simp
  | some s =>
    have := List.all_eq_true.1 h s (List.mem_of_getElem? e)
    simpa using this
theorem tab_cell {w : World} {b : Nat} {ws : List (List UInt8)} (h : RdL 1 strE w w.heap.size (some ⟨b, 0, none⟩) ws) {k : Nat} (hk : k < ws.length) : w.cell? ⟨b, k, none⟩ = some (.string (bs (ws.getD k []))) := by
  obtain ⟨b2, off, e, _, h2⟩ := rdS_cell h hk
  injection e with e
  injection e with e1 e2
  subst e1 e2
  rw [getD_at hk]
  rw [Nat.zero_add] at h2
  exact h2
-- pl CONTRACT | k : a line is written: HPk
-- pc j | k | v : the profile's cell j in the world of HPk
-- tabLine TABLE | WORD | j | d | WORDS | k | k0 : a line of a word and of one of a table's words (d: the number, hd its bound; HI j: the cell)
-- yesLine j | WORD | BOOL | k | k0 : a line of a word and yes or no
-- numCall i | n | k | k0 | RANGE : operation i: strconv.Itoa(n)
theorem own_lit (w : World) (ws : List (List UInt8)) (cs : Array Value) (n : Nat) (hn : n = w.heap.size) (hl : ws.length ≤ 1000) (h : cs.toList = ws.flatMap strE) : OwnL (w.alloc (.cells cs 9)) w.heap.size 9 1 strE (some ⟨n, 0, none⟩) ws.length ws := by
  subst hn
  have hs : cs.size = ws.length * 1 := by
    have := congrArg List.length h
    rw [Array.length_toList] at this
    rw [this, Nat.mul_one]
    clear this h
    induction ws with
    | nil => rfl
    | cons x r ih => simp only [List.flatMap_cons, List.length_append, List.length_cons, ih (by simp at hl; omega)]; simp [strE]; omega
  have := World.ownsRow_lit (base := w.heap.size) (e := 9) (size := 1) w cs ws.length (Nat.le_refl _) (by simp [maxLen]; omega) hs
  rw [h] at this
  exact this
theorem rdS_strE {w : World} {B : Nat} {A : Option Addr} {xs : List ByteArray} (h : RdS w B A xs) : RdL 1 strE w B A (xs.map (fun s => s.data.toList)) := fun k x hx => by
  rw [List.getElem?_map] at hx
  obtain ⟨s, hs, rfl⟩ := Option.map_eq_some_iff.1 hx
  exact h k s hs
theorem files_flat (p : Prof) : (shFiles p).flatMap pieceF = filesB p := by
  unfold shFiles filesB filesW
  split
  · simp [lineB, piece_num, piece_word, piece_sign, flat_types]
  · rfl
theorem filesB_len {p : Prof} (h : Rt p) : (filesB p).length ≤ 600 := by
  rw [← files_flat]
  exact Nat.le_trans (flat_short (alls_files h)) (by decide)
theorem own_cells {w : World} {base : Nat} {A : Option Addr} {c : Nat} {xs : List (List UInt8)} (h : OwnL w base 9 1 strE A c xs) (hne : xs ≠ []) :
    ∃ g, A = some ⟨g, 0, none⟩ ∧ base ≤ g ∧ g < w.heap.size ∧ xs.length ≤ c ∧ ∀ k (hk : k < xs.length), w.cell? ⟨g, 0 + k, none⟩ = some (.string (bs xs[k])) := by
  obtain ⟨g, rfl, h1, h2, h3⟩ := own_some h hne
  refine ⟨g, rfl, h1, h2, h3, fun k hk => ?_⟩
  obtain ⟨b2, off, e, _, h4⟩ := rdS_cell (h.rd strELay) hk
  injection e with e
  injection e with e1 e2
  subst e1 e2
  exact h4
theorem levelW_cons (P : Prof) : ∃ r, levelW P = kReceipts :: r ∧ 1 ≤ r.length ∧ r.length ≤ 2 ∧ (lineB (kReceipts :: r)).length ≤ 100 := by
  have h := words_20 wReceipts (by decide) P.level.toNat
  unfold levelW
  cases P.batch
  · exact ⟨_, rfl, by simp, by simp, by rw [lineB_len]; simp at h ⊢; omega⟩
  · exact ⟨_, rfl, by simp, by simp, by rw [lineB_len]; simp at h ⊢; omega⟩
/-- The words of the line about receipts. -/
def LvPost (w1 : World) (l : List UInt8) (m : Nat) (ws : List (List UInt8)) (v : Value) (wx : World) : Prop :=
  ∃ g c, v = .slice (some ⟨g, 0, none⟩) ws.length c ∧ ws.length ≤ c ∧ g < wx.heap.size ∧ (∀ k (hk : k < ws.length), wx.cell? ⟨g, 0 + k, none⟩ = some (.string (bs ws[k]))) ∧ PS w1 l m wx
theorem bld_len {B b : Nat} {l : List UInt8} {w : World} (h : Bld B b l w) (hl : l.length ≤ 1000000) : Calls Tryd.prog 54 #[.pointer (some ⟨b, 0, none⟩)] w fun e w' => e = .returned (.int .i64 (l.length : Nat)) ∧ w = w' := by
  have one : ∀ p, Lib.BuilderAtF 68 5 B b p (Lib.byteCells l) w → ∃ A c, w.cell? ⟨b, 1, none⟩ = some (.slice A l.length c) ∧ l.length ≤ c := by
    rintro p ⟨hB, v, hv, hown, hne⟩
    have hn : (Lib.byteCells l).length = l.length := Lib.byteCells_length l
    rw [hn] at hown
    rcases hown.2 with ⟨hv2, h0⟩ | ⟨g, cap, cur, fz, hv2, _, _, _, hc, _⟩
    · subst hv2
      exact ⟨none, 0, by rw [h0]; exact box_cell hv 1 _ rfl, by omega⟩
    · subst hv2
      exact ⟨_, _, box_cell hv 1 _ rfl, hc⟩
  obtain ⟨A, c, c1, hc⟩ : ∃ A c, w.cell? ⟨b, 1, none⟩ = some (.slice A l.length c) ∧ l.length ≤ c := by
    rcases h with h | h
    · exact one _ h
    · exact one _ h
  clear h one
  generalize l.length = n at *
  go_enter Tryd.func54, Tryd.ntmps54
  go_wp2_with fail
  go_ret
  exact ⟨rfl, rfl⟩
-- litLine WORD | j | d | WORDS | CELLS | k | k0 : a line of a word and of one of two words of a slice that is made
end Go.Proofs.YtnaejabgkfhlbaaDoor
/- Contract of syntax.Print. -/
set_option linter.unusedSimpArgs false
set_option linter.unusedVariables false
namespace Go.Proofs.YtnaejabgkfhlbaaDoor
open Go.RowKit

set_option maxRecDepth 100000 in
set_option maxHeartbeats 8000000 in
theorem print_any (P : Prof) (A : Option Addr) (c B : Nat) (w : World) (hr : ProfOk w w.heap.size A P) (hcap : P.types.length ≤ c) (hV : Vs B w) : Calls Tryd.prog 13 #[P.v A c] w (PrintOut P w) := by
  have hb0 : Below w.heap.size w (w.alloc (.cells (P.cs A c) 24)) := (Below.refl _ _).alloc (Nat.le_refl _) _
  have hr0 := hr.now hb0
  have HV0 := Lib.hid (hV.now hb0)
  have HB := Lib.hid hb0
  clear hb0 hr hV
  have HRA := Lib.hid (boxRange w (P.cs A c) 24 (Below.refl _ _))
  go_enter Tryd.func13, Tryd.ntmps13
  go_wp2_with ((with_reducible show wpList _ _ _ (Oper.mk _ (Op.load 24 _) _ _ _ _ :: _) _ _); refine wpList_load_w rfl 24 (.tmp 1) rfl w.heap.size 0 rfl (P.cs A c).toList _ HRA.out Tryd.underlying24 rfl (by kernel_rfl) ?_)
  refine (pRight_any P A c _ hr0).mono ?_
  rintro e w1 ⟨rfl, hb1⟩
  have hs1 : w.heap.size < w1.heap.size := by have := hb1.size; simp at this; omega
  have HC : Hid (∀ w', Below w1.heap.size w1 w' → ∀ j v, (P.cs A c)[j]? = some v → w'.cell? ⟨w.heap.size, j, none⟩ = some v) := Lib.hid (fun w' hb' j v hv => by
    have := boxCells w (P.cs A c) 24 (hb1.trans (hb'.mono hb1.size)) j v hv
    exact this)
  have HV := Lib.hid (HV0.out.now hb1)
  have HB1 := Lib.hid (HB.out.trans (hb1.mono HB.out.size))
  have HT := Lib.hid ((hr0.now hb1).rd)
  clear hr0 HV0 HB hb1 HRA
  cases hpr : profRight P with
  | false =>
    have HE : Hid (PrintOut P w (.returned (.tuple #[.string ⟨#[]⟩, .int .i64 1])) w1) := Lib.hid ⟨by rw [hpr]; rfl, HB1.out⟩
    go_wp2_with fail
    go_ret2
    exact HE.out
  | true =>
    have HPR := Lib.hid hpr
    have hR := rt_of hpr
    have HR := Lib.hid hR
    have HPL : Hid (printL P = printF P ∧ (printF P).length ≤ 1617) := Lib.hid ⟨print_lines P, print_len hR⟩
    clear hpr
    obtain ⟨dd, hdd⟩ := nat_of hR.delete.1
    obtain ⟨dt, hdt⟩ := nat_of hR.thread.1
    obtain ⟨dj, hdj⟩ := nat_of hR.join.1
    obtain ⟨dh, hdh⟩ := nat_of hR.history.1
    obtain ⟨dr, hdr⟩ := nat_of hR.remove.1
    obtain ⟨dl, hdl⟩ := nat_of hR.level.1
    have bd : dd < 3 := by have := hR.delete.2; omega
    have bt : dt < 3 := by have := hR.thread.2; omega
    have bj : dj < 3 := by have := hR.join.2; omega
    have bh : dh < 2 := by have := hR.history.2; omega
    have br : dr < 2 := by have := hR.remove.2; omega
    have bl : dl < 5 := by have := hR.level.2; omega
    have HI3 : Hid (∀ w', Below w1.heap.size w1 w' → w'.cell? ⟨w.heap.size, 3, none⟩ = some (.int .i64 (dd : Nat))) := Lib.hid (fun w' h => HC.out w' h 3 _ (by rw [← hdd]; rfl))
    have HI5 : Hid (∀ w', Below w1.heap.size w1 w' → w'.cell? ⟨w.heap.size, 5, none⟩ = some (.int .i64 (dt : Nat))) := Lib.hid (fun w' h => HC.out w' h 5 _ (by rw [← hdt]; rfl))
    have HI13 : Hid (∀ w', Below w1.heap.size w1 w' → w'.cell? ⟨w.heap.size, 13, none⟩ = some (.int .i64 (dj : Nat))) := Lib.hid (fun w' h => HC.out w' h 13 _ (by rw [← hdj]; rfl))
    have HI14 : Hid (∀ w', Below w1.heap.size w1 w' → w'.cell? ⟨w.heap.size, 14, none⟩ = some (.int .i64 (dh : Nat))) := Lib.hid (fun w' h => HC.out w' h 14 _ (by rw [← hdh]; rfl))
    have HI15 : Hid (∀ w', Below w1.heap.size w1 w' → w'.cell? ⟨w.heap.size, 15, none⟩ = some (.int .i64 (dr : Nat))) := Lib.hid (fun w' h => HC.out w' h 15 _ (by rw [← hdr]; rfl))
    have HI16 : Hid (∀ w', Below w1.heap.size w1 w' → w'.cell? ⟨w.heap.size, 16, none⟩ = some (.int .i64 (dl : Nat))) := Lib.hid (fun w' h => HC.out w' h 16 _ (by rw [← hdl]; rfl))
    have HD : Hid (P.delete.toNat = dd ∧ P.thread.toNat = dt ∧ P.join.toNat = dj ∧ P.history.toNat = dh ∧ P.remove.toNat = dr ∧ P.level.toNat = dl) := Lib.hid (by omega)
    have id3 : (dd : Int) < 3 := by omega
    have it3 : (dt : Int) < 3 := by omega
    have ij3 : (dj : Int) < 3 := by omega
    have ih2 : (dh : Int) < 2 := by omega
    have ir2 : (dr : Int) < 2 := by omega
    have il5 : (dl : Int) < 5 := by omega
    clear hdd hdt hdj hdh hdr hdl hR
    have hP0 : PS w1 [] 0 (w1.alloc (.cells #[.pointer none, .slice none 0 0] 68)) := ⟨bld_new w1, (Below.refl _ _).alloc (Nat.le_refl _) _, Nat.le_refl _⟩
    have HP0 := Lib.hid hP0
    have hNm : P.name.data.toList.length ≤ 20 := (short_word HR.out.name).2
    obtain ⟨nm, hnm⟩ : ∃ nm, nm = P.name.data.toList := ⟨_, rfl⟩
    rw [← hnm] at hNm
    have c0 : (w1.alloc (.cells #[.pointer none, .slice none 0 0] 68)).cell? ⟨w.heap.size, 0, none⟩ = some (.string (bs nm)) := HC.out _ hP0.low 0 _ (by rw [hnm]; rfl)
    have HNm := Lib.hid hnm
    clear hnm hP0
    go_wp2_with fail
    refine (HP0.out.two kNetwork nm _ (by simp) (by omega) (by decide) hNm).mono ?_
    rintro e w2 ⟨rfl, hp2⟩
    have HP2 := Lib.hid hp2
    clear hp2
    clear c0 HP0
    have c2 := HC.out _ HP2.out.low 2 _ rfl
    go_upto_if 19 with fail
    go_cut [] (fun wx => PS w1 ([] ++ lineB [kNetwork, nm] ++ editB P) 150 wx)
    case first =>
      by_cases hwi : 0 < P.within_
      · have HE : Hid (editB P = lineB [kEdit, kYes, kWithin, Lib.itoa P.within_]) := Lib.hid (by unfold editB; rw [if_pos hwi])
        have hwr : P.within_ ≤ 1073741824 := by have := HR.out.edit; omega
        have hwl := itoa_len P.within_ (by omega) hwr
        go_wp2_with fail
        refine (itoa_any P.within_ _ (HV.out.now HP2.out.low) ⟨by omega, by omega⟩).mono ?_
        rintro e w3 ⟨rfl, hb3⟩
        have HP3 := Lib.hid (HP2.out.now hb3)
        clear hb3
        go_wp2_with fail
        refine (HP3.out.four kEdit kYes kWithin (Lib.itoa P.within_) _ rfl (by omega) (by decide) (by decide) (by decide) hwl).mono ?_
        rintro e w4 ⟨rfl, hp4⟩
        have HP4 := Lib.hid hp4
        clear hp4
        go_wp2_with fail
        go_meet
        rw [HE.out]
        exact HP4.out
      · have HE : Hid (editB P = lineB [kEdit, yesW (P.edit == 2)]) := Lib.hid (by unfold editB; rw [if_neg hwi])
        have c1 := HC.out _ HP2.out.low 1 _ rfl
        have hqb : (P.edit == 2) = (P.edit == 2) := rfl
        go_wp2_with fail
        refine (yes_any (P.edit == 2) _).mono ?_
        rintro e wy ⟨rfl, rfl⟩
        go_wp2_with fail
        refine (HP2.out.two kEdit (yesW (P.edit == 2)) _ rfl (by omega) (by decide) (yesW_len _)).mono ?_
        rintro e w4 ⟨rfl, hp4⟩
        have HP4 := Lib.hid hp4
        clear hp4
        go_wp2_with fail
        go_meet
        rw [HE.out]
        exact ⟨HP4.out.bld, HP4.out.low, by have := HP4.out.len; omega⟩
    case rest =>
      have HP3 := Lib.hid hcut
      clear hcut c2 HP2
      go_wp2_with fail
      refine wp_region_J (S := fun w' => Below w1.heap.size w1 w') (fun _ => false) (by kernel_rfl) (HP3.out.drew.low) (fun hHeld => ?_)
      refine wpAnyJ_take (i := 0) (v := ?_) rfl (by kernel_rfl) (by kernel_rfl) (by kernel_rfl) (by kernel_rfl) (fun _ _ _ h => h) (Or.inl ⟨by rfl, ?_⟩) hHeld ?_
      rotate_left
      · intro wq hSq
        skip
        go_simp
        try with_reducible rfl
      simp only [Act.put, List.setIfInBounds_toArray, List.set_cons_zero, List.set_cons_succ]
      refine wpAnyJ_take (i := 2) (v := ?_) rfl (by kernel_rfl) (by kernel_rfl) (by kernel_rfl) (by kernel_rfl) (fun _ _ _ h => h) (Or.inl ⟨by rfl, ?_⟩) hHeld ?_
      rotate_left
      · intro wq hSq
        skip
        go_simp
        try with_reducible rfl
      simp only [Act.put, List.setIfInBounds_toArray, List.set_cons_zero, List.set_cons_succ]
      refine wpAnyJ_take (i := 3) (v := ?_) rfl (by kernel_rfl) (by kernel_rfl) (by kernel_rfl) (by kernel_rfl) (fun _ _ _ h => h) (Or.inl ⟨by rfl, ?_⟩) hHeld ?_
      rotate_left
      · intro wq hSq
        have c := HI3.out _ hSq
        go_simp
        try with_reducible rfl
      simp only [Act.put, List.setIfInBounds_toArray, List.set_cons_zero, List.set_cons_succ]
      refine wpAnyJ_one (i := 1) rfl (by kernel_rfl) (fun K hK => ?_)
      go_simp
      refine (deletes_any _).mono ?_
      rintro e wt ⟨rfl, hs, hbt⟩
      have HPt := Lib.hid (HP3.out.drew.now hbt)
      have ct := tab_cell hs (k := dd) (by first | assumption | decide)
      dsimp only [World.drew] at ct
      have hwl := words_20 wDeletes (by decide) dd
      obtain ⟨wd, hwd⟩ : ∃ x, x = (wDeletes).getD dd [] := ⟨_, rfl⟩
      rw [← hwd] at ct hwl
      have HWd := Lib.hid hwd
      clear hwd
      clear hs hbt
      go_wp2_with fail
      refine hK.out _ _ (fun _ _ => HPt.out.low) ?_
      clear hK K
      refine wpAnyJ_pure (i := 4) (v := ?_) rfl (by kernel_rfl) (by kernel_rfl) (by kernel_rfl) (fun _ _ _ h => h) (Or.inl ⟨by rfl, ?_⟩) ?_
      rotate_left
      · intro wq _
        go_simp
        try with_reducible rfl
      simp only [Act.put, List.setIfInBounds_toArray, List.set_cons_zero, List.set_cons_succ]
      refine wpAnyJ_one (i := 5) rfl (by kernel_rfl) (fun K hK => ?_)
      go_simp
      refine hK.out _ _ (fun _ h => h) ?_
      clear hK K
      refine wpAnyJ_one (i := 6) rfl (by kernel_rfl) (fun K hK => ?_)
      go_simp
      refine hK.out _ _ (fun _ _ => (HPt.out.alloc _).low) ?_
      clear hK K
      refine wpAnyJ_one (i := 7) rfl (by kernel_rfl) (fun K hK => ?_)
      go_simp
      refine (HPt.out.two kDelete wd _ (by first | rfl | simp) (by omega) (by decide) hwl).mono ?_
      rintro e w4 ⟨rfl, hp4⟩
      rw [HWd.out] at hp4
      have HP4 := Lib.hid hp4
      go_wp2_with fail
      refine hK.out _ _ (fun _ _ => hp4.low) ?_
      clear hK K
      refine wpAnyJ_done (by kernel_rfl) ?_ _
      clear hp4 ct HPt HWd hwl
      have c4 := HC.out _ HP4.out.low 4 _ rfl
      go_wp2_with fail
      refine (yes_any P.react _).mono ?_
      rintro e wy ⟨rfl, rfl⟩
      go_wp2_with fail
      refine (HP4.out.two kReact (yesW P.react) _ (by first | rfl | simp) (by omega) (by decide) (yesW_len _)).mono ?_
      rintro e w5 ⟨rfl, hp5⟩
      have HP5 := Lib.hid hp5
      clear hp5 c4 HP4
      go_wp2_with fail
      refine wp_region_J (S := fun w' => Below w1.heap.size w1 w') (fun _ => false) (by kernel_rfl) (HP5.out.drew.low) (fun hHeld => ?_)
      refine wpAnyJ_take (i := 0) (v := ?_) rfl (by kernel_rfl) (by kernel_rfl) (by kernel_rfl) (by kernel_rfl) (fun _ _ _ h => h) (Or.inl ⟨by rfl, ?_⟩) hHeld ?_
      rotate_left
      · intro wq hSq
        skip
        go_simp
        try with_reducible rfl
      simp only [Act.put, List.setIfInBounds_toArray, List.set_cons_zero, List.set_cons_succ]
      refine wpAnyJ_take (i := 2) (v := ?_) rfl (by kernel_rfl) (by kernel_rfl) (by kernel_rfl) (by kernel_rfl) (fun _ _ _ h => h) (Or.inl ⟨by rfl, ?_⟩) hHeld ?_
      rotate_left
      · intro wq hSq
        skip
        go_simp
        try with_reducible rfl
      simp only [Act.put, List.setIfInBounds_toArray, List.set_cons_zero, List.set_cons_succ]
      refine wpAnyJ_take (i := 3) (v := ?_) rfl (by kernel_rfl) (by kernel_rfl) (by kernel_rfl) (by kernel_rfl) (fun _ _ _ h => h) (Or.inl ⟨by rfl, ?_⟩) hHeld ?_
      rotate_left
      · intro wq hSq
        have c := HI5.out _ hSq
        go_simp
        try with_reducible rfl
      simp only [Act.put, List.setIfInBounds_toArray, List.set_cons_zero, List.set_cons_succ]
      refine wpAnyJ_one (i := 1) rfl (by kernel_rfl) (fun K hK => ?_)
      go_simp
      refine (threads_any _).mono ?_
      rintro e wt ⟨rfl, hs, hbt⟩
      have HPt := Lib.hid (HP5.out.drew.now hbt)
      have ct := tab_cell hs (k := dt) (by first | assumption | decide)
      dsimp only [World.drew] at ct
      have hwl := words_20 wThreads (by decide) dt
      obtain ⟨wd, hwd⟩ : ∃ x, x = (wThreads).getD dt [] := ⟨_, rfl⟩
      rw [← hwd] at ct hwl
      have HWd := Lib.hid hwd
      clear hwd
      clear hs hbt
      go_wp2_with fail
      refine hK.out _ _ (fun _ _ => HPt.out.low) ?_
      clear hK K
      refine wpAnyJ_pure (i := 4) (v := ?_) rfl (by kernel_rfl) (by kernel_rfl) (by kernel_rfl) (fun _ _ _ h => h) (Or.inl ⟨by rfl, ?_⟩) ?_
      rotate_left
      · intro wq _
        go_simp
        try with_reducible rfl
      simp only [Act.put, List.setIfInBounds_toArray, List.set_cons_zero, List.set_cons_succ]
      refine wpAnyJ_one (i := 5) rfl (by kernel_rfl) (fun K hK => ?_)
      go_simp
      refine hK.out _ _ (fun _ h => h) ?_
      clear hK K
      refine wpAnyJ_one (i := 6) rfl (by kernel_rfl) (fun K hK => ?_)
      go_simp
      refine hK.out _ _ (fun _ _ => (HPt.out.alloc _).low) ?_
      clear hK K
      refine wpAnyJ_one (i := 7) rfl (by kernel_rfl) (fun K hK => ?_)
      go_simp
      refine (HPt.out.two kThread wd _ (by first | rfl | simp) (by omega) (by decide) hwl).mono ?_
      rintro e w6 ⟨rfl, hp6⟩
      rw [HWd.out] at hp6
      have HP6 := Lib.hid hp6
      go_wp2_with fail
      refine hK.out _ _ (fun _ _ => hp6.low) ?_
      clear hK K
      refine wpAnyJ_done (by kernel_rfl) ?_ _
      clear hp6 ct HPt HWd hwl
      clear HP5
      have c6 := HC.out _ HP6.out.low 6 _ rfl
      go_wp2_with fail
      refine (yes_any P.quote _).mono ?_
      rintro e wy ⟨rfl, rfl⟩
      go_wp2_with fail
      refine (HP6.out.two kQuote (yesW P.quote) _ (by first | rfl | simp) (by omega) (by decide) (yesW_len _)).mono ?_
      rintro e w7 ⟨rfl, hp7⟩
      have HP7 := Lib.hid hp7
      clear hp7 c6 HP6
      have c7 := HC.out _ HP7.out.low 7 _ rfl
      go_wp2_with fail
      refine (yes_any P.mention _).mono ?_
      rintro e wy ⟨rfl, rfl⟩
      go_wp2_with fail
      refine (HP7.out.two kMention (yesW P.mention) _ (by first | rfl | simp) (by omega) (by decide) (yesW_len _)).mono ?_
      rintro e w8 ⟨rfl, hp8⟩
      have HP8 := Lib.hid hp8
      clear hp8 c7 HP7
      go_wp2_with fail
      refine wp_region_J (S := fun w' => Below w1.heap.size w1 w') (fun _ => false) (by kernel_rfl) (HP8.out.drew.low) (fun hHeld => ?_)
      refine wpAnyJ_take (i := 0) (v := ?_) rfl (by kernel_rfl) (by kernel_rfl) (by kernel_rfl) (by kernel_rfl) (fun _ _ _ h => h) (Or.inl ⟨by rfl, ?_⟩) hHeld ?_
      rotate_left
      · intro wq hSq
        skip
        go_simp
        try with_reducible rfl
      simp only [Act.put, List.setIfInBounds_toArray, List.set_cons_zero, List.set_cons_succ]
      refine wpAnyJ_take (i := 1) (v := ?_) rfl (by kernel_rfl) (by kernel_rfl) (by kernel_rfl) (by kernel_rfl) (fun _ _ _ h => h) (Or.inl ⟨by rfl, ?_⟩) hHeld ?_
      rotate_left
      · intro wq hSq
        skip
        go_simp
        try with_reducible rfl
      simp only [Act.put, List.setIfInBounds_toArray, List.set_cons_zero, List.set_cons_succ]
      refine wpAnyJ_take (i := 2) (v := ?_) rfl (by kernel_rfl) (by kernel_rfl) (by kernel_rfl) (by kernel_rfl) (fun _ _ _ h => h) (Or.inl ⟨by rfl, ?_⟩) hHeld ?_
      rotate_left
      · intro wq hSq
        skip
        go_simp
        try with_reducible rfl
      simp only [Act.put, List.setIfInBounds_toArray, List.set_cons_zero, List.set_cons_succ]
      refine wpAnyJ_take (i := 3) (v := ?_) rfl (by kernel_rfl) (by kernel_rfl) (by kernel_rfl) (by kernel_rfl) (fun _ _ _ h => h) (Or.inl ⟨by rfl, ?_⟩) hHeld ?_
      rotate_left
      · intro wq hSq
        have c := HC.out _ hSq 8 _ rfl
        go_simp
        try with_reducible rfl
      simp only [Act.put, List.setIfInBounds_toArray, List.set_cons_zero, List.set_cons_succ]
      refine wpAnyJ_take (i := 5) (v := ?_) rfl (by kernel_rfl) (by kernel_rfl) (by kernel_rfl) (by kernel_rfl) (fun _ _ _ h => h) (Or.inl ⟨by rfl, ?_⟩) hHeld ?_
      rotate_left
      · intro wq hSq
        skip
        go_simp
        try with_reducible rfl
      simp only [Act.put, List.setIfInBounds_toArray, List.set_cons_zero, List.set_cons_succ]
      refine wpAnyJ_take (i := 6) (v := ?_) rfl (by kernel_rfl) (by kernel_rfl) (by kernel_rfl) (by kernel_rfl) (fun _ _ _ h => h) (Or.inl ⟨by rfl, ?_⟩) hHeld ?_
      rotate_left
      · intro wq hSq
        skip
        go_simp
        try with_reducible rfl
      simp only [Act.put, List.setIfInBounds_toArray, List.set_cons_zero, List.set_cons_succ]
      refine wpAnyJ_take (i := 7) (v := ?_) rfl (by kernel_rfl) (by kernel_rfl) (by kernel_rfl) (by kernel_rfl) (fun _ _ _ h => h) (Or.inl ⟨by rfl, ?_⟩) hHeld ?_
      rotate_left
      · intro wq hSq
        have c := HC.out _ hSq 9 _ rfl
        go_simp
        try with_reducible rfl
      simp only [Act.put, List.setIfInBounds_toArray, List.set_cons_zero, List.set_cons_succ]
      have HP9 := Lib.hid HP8.out.drew
      refine wpAnyJ_one (i := 4) rfl (by kernel_rfl) (fun K hK => ?_)
      go_simp
      refine (itoa_any (P.size) _ (HV.out.now HP9.out.low) ⟨by have := HR.out.size; omega, by have := HR.out.size; omega⟩).mono ?_
      rintro e w10 ⟨rfl, hb10⟩
      have HP10 := Lib.hid (HP9.out.now hb10)
      clear hb10
      go_wp2_with fail
      refine hK.out _ _ (fun _ _ => HP10.out.low) ?_
      clear hK K
      refine wpAnyJ_one (i := 8) rfl (by kernel_rfl) (fun K hK => ?_)
      go_simp
      refine (itoa_any (P.parts) _ (HV.out.now HP10.out.low) ⟨by have := HR.out.parts; omega, by have := HR.out.parts; omega⟩).mono ?_
      rintro e w11 ⟨rfl, hb11⟩
      have HP11 := Lib.hid (HP10.out.now hb11)
      clear hb11
      go_wp2_with fail
      refine hK.out _ _ (fun _ _ => HP11.out.low) ?_
      clear hK K
      refine wpAnyJ_one (i := 9) rfl (by kernel_rfl) (fun K hK => ?_)
      go_simp
      refine hK.out _ _ (fun _ _ => (HP11.out.alloc _).low) ?_
      clear hK K
      refine wpAnyJ_one (i := 10) rfl (by kernel_rfl) (fun K hK => ?_)
      go_simp
      refine (HP11.out.four kSize (Lib.itoa P.size) kParts (Lib.itoa P.parts) _ (by first | rfl | simp) (by omega) (by decide) (itoa_len _ HR.out.size.1 HR.out.size.2) (by decide) (itoa_len _ HR.out.parts.1 HR.out.parts.2)).mono ?_
      rintro e w12 ⟨rfl, hp12⟩
      have HP12 := Lib.hid hp12
      go_wp2_with fail
      refine hK.out _ _ (fun _ _ => hp12.low) ?_
      clear hK K
      refine wpAnyJ_done (by kernel_rfl) ?_ _
      clear hp12 HP11 HP10 HP9 HP8
      have HP13 : Hid (PS w1 (headL P) 500 w12) := Lib.hid (by
        have h := HP12.out
        unfold headL
        rw [HD.out.1, HD.out.2.1, ← HNm.out]
        exact h)
      clear HP12 HNm hNm
      generalize hlh : headL P = lh at *
      have HLh := Lib.hid hlh
      clear hlh
      have c10 := HC.out _ HP13.out.low 10 _ rfl
      go_upto_if 81 with fail
      go_cut [] (fun wx => PS w1 (lh ++ filesB P) 1100 wx)
      case first =>
        by_cases hf : 0 < P.files
        · have HE : Hid (filesB P = lineB (filesW P)) := Lib.hid (by unfold filesB; rw [if_pos hf])
          have HFl := Lib.hid (filesB_len HR.out)
          have htl : P.types.length ≤ 20 := by rcases HR.out.types with ⟨_, _, h⟩ | ⟨_, _, h, _⟩; rw [h]; decide; exact h
          clear c10
          go_wp2_with fail
          refine wp_region_J (S := fun w' => Below w1.heap.size w1 w') (fun _ => false) (by kernel_rfl) (HP13.out.drew.low) (fun hHeld => ?_)
          refine wpAnyJ_take (i := 0) (v := ?_) rfl (by kernel_rfl) (by kernel_rfl) (by kernel_rfl) (by kernel_rfl) (fun _ _ _ h => h) (Or.inl ⟨by rfl, ?_⟩) hHeld ?_
          rotate_left
          · intro wq hSq
            skip
            go_simp
            try with_reducible rfl
          simp only [Act.put, List.setIfInBounds_toArray, List.set_cons_zero, List.set_cons_succ]
          refine wpAnyJ_take (i := 1) (v := ?_) rfl (by kernel_rfl) (by kernel_rfl) (by kernel_rfl) (by kernel_rfl) (fun _ _ _ h => h) (Or.inl ⟨by rfl, ?_⟩) hHeld ?_
          rotate_left
          · intro wq hSq
            skip
            go_simp
            try with_reducible rfl
          simp only [Act.put, List.setIfInBounds_toArray, List.set_cons_zero, List.set_cons_succ]
          refine wpAnyJ_take (i := 2) (v := ?_) rfl (by kernel_rfl) (by kernel_rfl) (by kernel_rfl) (by kernel_rfl) (fun _ _ _ h => h) (Or.inl ⟨by rfl, ?_⟩) hHeld ?_
          rotate_left
          · intro wq hSq
            skip
            go_simp
            try with_reducible rfl
          simp only [Act.put, List.setIfInBounds_toArray, List.set_cons_zero, List.set_cons_succ]
          refine wpAnyJ_take (i := 3) (v := ?_) rfl (by kernel_rfl) (by kernel_rfl) (by kernel_rfl) (by kernel_rfl) (fun _ _ _ h => h) (Or.inl ⟨by rfl, ?_⟩) hHeld ?_
          rotate_left
          · intro wq hSq
            have c := HC.out _ hSq 10 _ rfl
            go_simp
            try with_reducible rfl
          simp only [Act.put, List.setIfInBounds_toArray, List.set_cons_zero, List.set_cons_succ]
          refine wpAnyJ_take (i := 5) (v := ?_) rfl (by kernel_rfl) (by kernel_rfl) (by kernel_rfl) (by kernel_rfl) (fun _ _ _ h => h) (Or.inl ⟨by rfl, ?_⟩) hHeld ?_
          rotate_left
          · intro wq hSq
            skip
            go_simp
            try with_reducible rfl
          simp only [Act.put, List.setIfInBounds_toArray, List.set_cons_zero, List.set_cons_succ]
          refine wpAnyJ_take (i := 6) (v := ?_) rfl (by kernel_rfl) (by kernel_rfl) (by kernel_rfl) (by kernel_rfl) (fun _ _ _ h => h) (Or.inl ⟨by rfl, ?_⟩) hHeld ?_
          rotate_left
          · intro wq hSq
            skip
            go_simp
            try with_reducible rfl
          simp only [Act.put, List.setIfInBounds_toArray, List.set_cons_zero, List.set_cons_succ]
          refine wpAnyJ_take (i := 7) (v := ?_) rfl (by kernel_rfl) (by kernel_rfl) (by kernel_rfl) (by kernel_rfl) (fun _ _ _ h => h) (Or.inl ⟨by rfl, ?_⟩) hHeld ?_
          rotate_left
          · intro wq hSq
            have c := HC.out _ hSq 11 _ rfl
            go_simp
            try with_reducible rfl
          simp only [Act.put, List.setIfInBounds_toArray, List.set_cons_zero, List.set_cons_succ]
          refine wpAnyJ_take (i := 10) (v := ?_) rfl (by kernel_rfl) (by kernel_rfl) (by kernel_rfl) (by kernel_rfl) (fun _ _ _ h => h) (Or.inl ⟨by rfl, ?_⟩) hHeld ?_
          rotate_left
          · intro wq hSq
            skip
            go_simp
            try with_reducible rfl
          simp only [Act.put, List.setIfInBounds_toArray, List.set_cons_zero, List.set_cons_succ]
          refine wpAnyJ_take (i := 11) (v := ?_) rfl (by kernel_rfl) (by kernel_rfl) (by kernel_rfl) (by kernel_rfl) (fun _ _ _ h => h) (Or.inl ⟨by rfl, ?_⟩) hHeld ?_
          rotate_left
          · intro wq hSq
            have c := HC.out _ hSq 12 _ rfl
            go_simp
            try with_reducible rfl
          simp only [Act.put, List.setIfInBounds_toArray, List.set_cons_zero, List.set_cons_succ]
          have HP14 := Lib.hid HP13.out.drew
          refine wpAnyJ_one (i := 4) rfl (by kernel_rfl) (fun K hK => ?_)
          go_simp
          refine (itoa_any (P.files) _ (HV.out.now HP14.out.low) ⟨by have := HR.out.files; omega, by have := HR.out.files; omega⟩).mono ?_
          rintro e w15 ⟨rfl, hb15⟩
          have HP15 := Lib.hid (HP14.out.now hb15)
          clear hb15
          go_wp2_with fail
          refine hK.out _ _ (fun _ _ => HP15.out.low) ?_
          clear hK K
          refine wpAnyJ_one (i := 8) rfl (by kernel_rfl) (fun K hK => ?_)
          go_simp
          refine (itoa_any (P.bytes) _ (HV.out.now HP15.out.low) ⟨by have := HR.out.bytes; omega, by have := HR.out.bytes; omega⟩).mono ?_
          rintro e w16 ⟨rfl, hb16⟩
          have HP16 := Lib.hid (HP15.out.now hb16)
          clear hb16
          go_wp2_with fail
          refine hK.out _ _ (fun _ _ => HP16.out.low) ?_
          clear hK K
          refine wpAnyJ_one (i := 9) rfl (by kernel_rfl) (fun K hK => ?_)
          go_simp
          refine hK.out _ _ (fun _ _ => (HP16.out.alloc _).low) ?_
          clear hK K
          have HL := Lib.hid (own_lit w16 [kFiles, Lib.itoa P.files, kBytes, Lib.itoa P.bytes, kTypes] #[.string (bs kFiles), .string (bs (Lib.itoa P.files)), .string (bs kBytes), .string (bs (Lib.itoa P.bytes)), .string (bs kTypes)] _ rfl (by simp) rfl)
          have HTy := Lib.hid (rdS_strE (HT.out.now (HP16.out.alloc (.cells #[.string (bs kFiles), .string (bs (Lib.itoa P.files)), .string (bs kBytes), .string (bs (Lib.itoa P.bytes)), .string (bs kTypes)] 9)).low))
          refine wpAnyJ_one (i := 12) rfl (by kernel_rfl) (fun K hK => ?_)
          refine step_append_l rfl (.tmp 91) (.tmp 93) rfl slStr strELay w16.heap.size [kFiles, Lib.itoa P.files, kBytes, Lib.itoa P.bytes, kTypes] (P.types.map (fun s : ByteArray => s.data.toList)) rfl rfl HL.out rfl (by simp) ⟨_, HTy.out⟩ (by simp; omega) (by simp) ?_
          intro A2 c2 w17 hown hg hbl hat
          have HP17 := Lib.hid (HP16.out.now (((Below.refl _ _).alloc (Nat.le_refl _) _).trans hbl))
          obtain ⟨g2, rfl, hg2, hg3, hc2, hcell⟩ := own_cells hown (by simp)
          have HCl := Lib.hid hcell
          clear hown hg hbl hat hcell
          refine hK.out _ _ (fun _ _ => HP17.out.low) ?_
          clear hK K
          refine wpAnyJ_one (i := 13) rfl (by kernel_rfl) (fun K hK => ?_)
          go_simp
          refine (HP17.out.line kFiles ([Lib.itoa P.files, kBytes, Lib.itoa P.bytes, kTypes] ++ P.types.map (fun s : ByteArray => s.data.toList)) g2 0 c2 _ 600 (by simp) (by simp) (by simpa using hc2) hg3 HCl.out (by omega) (by have := HFl.out; rw [HE.out] at this; exact this) (by decide)).mono ?_
          rintro e w18 ⟨rfl, hp18⟩
          have HP18 := Lib.hid hp18
          go_wp2_with fail
          refine hK.out _ _ (fun _ _ => hp18.low) ?_
          clear hK K
          refine wpAnyJ_done (by kernel_rfl) ?_ _
          go_wp2_with fail
          go_meet
          rw [HE.out]
          exact HP18.out
        · have HE : Hid (filesB P = []) := Lib.hid (by unfold filesB; rw [if_neg hf])
          go_wp2_with fail
          go_meet
          rw [HE.out, List.append_nil]
          exact ⟨HP13.out.bld, HP13.out.low, by have := HP13.out.len; omega⟩
      case rest =>
        have HP19 := Lib.hid hcut
        clear hcut c10 HP13
        generalize hlf : lh ++ filesB P = lf at *
        have HLf := Lib.hid hlf
        clear hlf
        go_wp2_with fail
        refine wp_region_J (S := fun w' => Below w1.heap.size w1 w') (fun _ => false) (by kernel_rfl) (HP19.out.drew.low) (fun hHeld => ?_)
        refine wpAnyJ_take (i := 0) (v := ?_) rfl (by kernel_rfl) (by kernel_rfl) (by kernel_rfl) (by kernel_rfl) (fun _ _ _ h => h) (Or.inl ⟨by rfl, ?_⟩) hHeld ?_
        rotate_left
        · intro wq hSq
          skip
          go_simp
          try with_reducible rfl
        simp only [Act.put, List.setIfInBounds_toArray, List.set_cons_zero, List.set_cons_succ]
        refine wpAnyJ_take (i := 2) (v := ?_) rfl (by kernel_rfl) (by kernel_rfl) (by kernel_rfl) (by kernel_rfl) (fun _ _ _ h => h) (Or.inl ⟨by rfl, ?_⟩) hHeld ?_
        rotate_left
        · intro wq hSq
          skip
          go_simp
          try with_reducible rfl
        simp only [Act.put, List.setIfInBounds_toArray, List.set_cons_zero, List.set_cons_succ]
        refine wpAnyJ_take (i := 3) (v := ?_) rfl (by kernel_rfl) (by kernel_rfl) (by kernel_rfl) (by kernel_rfl) (fun _ _ _ h => h) (Or.inl ⟨by rfl, ?_⟩) hHeld ?_
        rotate_left
        · intro wq hSq
          have c := HI13.out _ hSq
          go_simp
          try with_reducible rfl
        simp only [Act.put, List.setIfInBounds_toArray, List.set_cons_zero, List.set_cons_succ]
        refine wpAnyJ_one (i := 1) rfl (by kernel_rfl) (fun K hK => ?_)
        go_simp
        refine (joins_any _).mono ?_
        rintro e wt ⟨rfl, hs, hbt⟩
        have HPt := Lib.hid (HP19.out.drew.now hbt)
        have ct := tab_cell hs (k := dj) (by first | assumption | decide)
        dsimp only [World.drew] at ct
        have hwl := words_20 wJoins (by decide) dj
        obtain ⟨wd, hwd⟩ : ∃ x, x = (wJoins).getD dj [] := ⟨_, rfl⟩
        rw [← hwd] at ct hwl
        have HWd := Lib.hid hwd
        clear hwd
        clear hs hbt
        go_wp2_with fail
        refine hK.out _ _ (fun _ _ => HPt.out.low) ?_
        clear hK K
        refine wpAnyJ_pure (i := 4) (v := ?_) rfl (by kernel_rfl) (by kernel_rfl) (by kernel_rfl) (fun _ _ _ h => h) (Or.inl ⟨by rfl, ?_⟩) ?_
        rotate_left
        · intro wq _
          go_simp
          try with_reducible rfl
        simp only [Act.put, List.setIfInBounds_toArray, List.set_cons_zero, List.set_cons_succ]
        refine wpAnyJ_one (i := 5) rfl (by kernel_rfl) (fun K hK => ?_)
        go_simp
        refine hK.out _ _ (fun _ h => h) ?_
        clear hK K
        refine wpAnyJ_one (i := 6) rfl (by kernel_rfl) (fun K hK => ?_)
        go_simp
        refine hK.out _ _ (fun _ _ => (HPt.out.alloc _).low) ?_
        clear hK K
        refine wpAnyJ_one (i := 7) rfl (by kernel_rfl) (fun K hK => ?_)
        go_simp
        refine (HPt.out.two kJoin wd _ (by first | rfl | simp) (by omega) (by decide) hwl).mono ?_
        rintro e w20 ⟨rfl, hp20⟩
        rw [HWd.out] at hp20
        have HP20 := Lib.hid hp20
        go_wp2_with fail
        refine hK.out _ _ (fun _ _ => hp20.low) ?_
        clear hK K
        refine wpAnyJ_done (by kernel_rfl) ?_ _
        clear hp20 ct HPt HWd hwl
        clear HP19
        have c14 := HI14.out _ (HP20.out.alloc (.cells #[.string ⟨#[115, 105, 110, 99, 101]⟩, .string ⟨#[97, 108, 108]⟩] 9)).low
        have ct : (w20.alloc (.cells #[.string ⟨#[115, 105, 110, 99, 101]⟩, .string ⟨#[97, 108, 108]⟩] 9)).cell? ⟨w20.heap.size, dh, none⟩ = some (.string (bs ((wHistory).getD dh []))) := by
          have h := lit_cells w20 wHistory #[.string ⟨#[115, 105, 110, 99, 101]⟩, .string ⟨#[97, 108, 108]⟩] rfl dh (by first | assumption | decide)
          rw [Nat.zero_add] at h
          rw [getD_at (by assumption)]
          exact h
        have hwl := words_20 wHistory (by decide) dh
        obtain ⟨wd, hwd⟩ : ∃ x, x = (wHistory).getD dh [] := ⟨_, rfl⟩
        rw [← hwd] at ct hwl
        have HWd := Lib.hid hwd
        clear hwd
        go_wp2_with fail
        refine ((HP20.out.alloc _).two kHistory wd _ (by simp) (by omega) (by decide) hwl).mono ?_
        rintro e w21 ⟨rfl, hp21⟩
        rw [HWd.out] at hp21
        have HP21 := Lib.hid hp21
        clear hp21 ct HWd hwl c14 HP20
        have c15 := HI15.out _ (HP21.out.alloc (.cells #[.string ⟨#[110, 111, 119]⟩, .string ⟨#[107, 101, 121]⟩] 9)).low
        have ct : (w21.alloc (.cells #[.string ⟨#[110, 111, 119]⟩, .string ⟨#[107, 101, 121]⟩] 9)).cell? ⟨w21.heap.size, dr, none⟩ = some (.string (bs ((wRemove).getD dr []))) := by
          have h := lit_cells w21 wRemove #[.string ⟨#[110, 111, 119]⟩, .string ⟨#[107, 101, 121]⟩] rfl dr (by first | assumption | decide)
          rw [Nat.zero_add] at h
          rw [getD_at (by assumption)]
          exact h
        have hwl := words_20 wRemove (by decide) dr
        obtain ⟨wd, hwd⟩ : ∃ x, x = (wRemove).getD dr [] := ⟨_, rfl⟩
        rw [← hwd] at ct hwl
        have HWd := Lib.hid hwd
        clear hwd
        go_wp2_with fail
        refine ((HP21.out.alloc _).two kRemove wd _ (by simp) (by omega) (by decide) hwl).mono ?_
        rintro e w22 ⟨rfl, hp22⟩
        rw [HWd.out] at hp22
        have HP22 := Lib.hid hp22
        clear hp22 ct HWd hwl c15 HP21
        go_wp2_with fail
        refine wp_region_J (S := fun w' => Below w1.heap.size w1 w') (fun _ => false) (by kernel_rfl) (HP22.out.drew.low) (fun hHeld => ?_)
        refine wpAnyJ_take (i := 1) (v := ?_) rfl (by kernel_rfl) (by kernel_rfl) (by kernel_rfl) (by kernel_rfl) (fun _ _ _ h => h) (Or.inl ⟨by rfl, ?_⟩) hHeld ?_
        rotate_left
        · intro wq hSq
          skip
          go_simp
          try with_reducible rfl
        simp only [Act.put, List.setIfInBounds_toArray, List.set_cons_zero, List.set_cons_succ]
        refine wpAnyJ_take (i := 2) (v := ?_) rfl (by kernel_rfl) (by kernel_rfl) (by kernel_rfl) (by kernel_rfl) (fun _ _ _ h => h) (Or.inl ⟨by rfl, ?_⟩) hHeld ?_
        rotate_left
        · intro wq hSq
          have c := HI16.out _ hSq
          go_simp
          try with_reducible rfl
        simp only [Act.put, List.setIfInBounds_toArray, List.set_cons_zero, List.set_cons_succ]
        refine wpAnyJ_one (i := 0) rfl (by kernel_rfl) (fun K hK => ?_)
        go_simp
        refine (receipts_any _).mono ?_
        rintro e wt ⟨rfl, hs, hbt⟩
        have HPt := Lib.hid (HP22.out.drew.now hbt)
        have ct := tab_cell hs (k := dl) bl
        dsimp only [World.drew] at ct
        have hwl := words_20 wReceipts (by decide) dl
        obtain ⟨wd, hwd⟩ : ∃ x, x = wReceipts.getD dl [] := ⟨_, rfl⟩
        rw [← hwd] at ct hwl
        have HLW : Hid (levelW P = if P.batch then [kReceipts, wd, kBatch] else [kReceipts, wd]) := Lib.hid (by unfold levelW; rw [HD.out.2.2.2.2.2, hwd])
        clear hwd hs hbt
        go_wp2_with fail
        refine hK.out _ _ (fun _ _ => HPt.out.low) ?_
        clear hK K
        refine wpAnyJ_pure (i := 3) (v := ?_) rfl (by kernel_rfl) (by kernel_rfl) (by kernel_rfl) (fun _ _ _ h => h) (Or.inl ⟨by rfl, ?_⟩) ?_
        rotate_left
        · intro wq _
          go_simp
          try with_reducible rfl
        simp only [Act.put, List.setIfInBounds_toArray, List.set_cons_zero, List.set_cons_succ]
        refine wpAnyJ_one (i := 4) rfl (by kernel_rfl) (fun K hK => ?_)
        go_simp
        refine hK.out _ _ (fun _ h => h) ?_
        clear hK K
        refine wpAnyJ_one (i := 5) rfl (by kernel_rfl) (fun K hK => ?_)
        go_simp
        refine hK.out _ _ (fun _ _ => (HPt.out.alloc _).low) ?_
        clear hK K
        refine wpAnyJ_pure (i := 6) (v := ?_) rfl (by kernel_rfl) (by kernel_rfl) (by kernel_rfl) (fun _ _ _ h => h) (Or.inl ⟨by rfl, ?_⟩) ?_
        rotate_left
        · intro wq _
          go_simp
          try with_reducible rfl
        simp only [Act.put, List.setIfInBounds_toArray, List.set_cons_zero, List.set_cons_succ]
        refine wpAnyJ_done (by kernel_rfl) ?_ _
        have HP23 := Lib.hid (HPt.out.alloc (.cells #[.string ⟨#[114, 101, 99, 101, 105, 112, 116, 115]⟩, .string (bs wd)] 9))
        have HOw := Lib.hid (own_lit wt [kReceipts, wd] #[.string ⟨#[114, 101, 99, 101, 105, 112, 116, 115]⟩, .string (bs wd)] _ rfl (by simp) rfl)
        have c17 := HC.out _ HP23.out.low 17 _ rfl
        clear ct HP22
        go_upto_if 127 with fail
        go_cut [7] (fun v wx => LvPost w1 (lf ++ lineB [kJoin, wJoins.getD dj []] ++ lineB [kHistory, wHistory.getD dh []] ++ lineB [kRemove, wRemove.getD dr []]) 1250 (levelW P) v wx)
        case first =>
          cases hbt : P.batch with
          | false =>
            have hlv : levelW P = [kReceipts, wd] := by rw [HLW.out, hbt]; rfl
            have HP24 := Lib.hid (show LvPost w1 _ 1250 (levelW P) (.slice (some ⟨wt.heap.size, 0, none⟩) 2 2) _ by
              rw [hlv]
              exact ⟨wt.heap.size, 2, rfl, by simp, by simp, lit_cells wt [kReceipts, wd] #[.string ⟨#[114, 101, 99, 101, 105, 112, 116, 115]⟩, .string (bs wd)] rfl, HP23.out⟩)
            clear hlv
            go_wp2_with fail
            go_meet
            exact HP24.out
          | true =>
            have HLB : Hid (levelW P = [kReceipts, wd] ++ [kBatch]) := Lib.hid (by rw [HLW.out, hbt]; rfl)
            go_wp2_with (at_builtin; refine wp_append_l rfl (.tmp 128) (.tmp 129) rfl slStr strELay wt.heap.size (xs := [kReceipts, wd]) (ys := [kBatch]) rfl rfl (HOw.out.alloc _) rfl rfl (tabS _ [kBatch] _ _ (by simp) rfl) (by simp) (by simp; omega) ?_; intro A2 c2 w24 hown hg hb2 hat; have HO2 := Lib.hid hown; have HB2 := Lib.hid hb2; clear hown hg hb2 hat)
            obtain ⟨g2, rfl, hg1, hg2, hc2, hcell⟩ := own_cells HO2.out (by simp)
            have hp24 := HPt.out.now ((((Below.refl wt.heap.size wt).alloc (Nat.le_refl _) (.cells #[.string ⟨#[114, 101, 99, 101, 105, 112, 116, 115]⟩, .string (bs wd)] 9)).alloc (by simp) (.cells #[.string ⟨#[98, 97, 116, 99, 104]⟩] 9)).trans HB2.out)
            have HPo := Lib.hid (show LvPost w1 _ 1250 (levelW P) (.slice (some ⟨g2, 0, none⟩) ([kReceipts, wd] ++ [kBatch]).length c2) w24 by
              rw [HLB.out]
              exact ⟨g2, c2, rfl, hc2, hg2, hcell, hp24⟩)
            clear hcell hp24 hg1 hc2
            go_wp2_with fail
            go_meet
            exact HPo.out
        case rest =>
          obtain ⟨g, c2, rfl, hc2, hg, hcell, hps⟩ := hcut
          obtain ⟨r, hr, hr1, hr2, hr3⟩ := levelW_cons P
          have HLev := Lib.hid hr
          rw [hr] at hc2 hcell ⊢
          clear hr HPt HP23 HOw c17 HLW hwl
          have HCl := Lib.hid hcell
          have HP25 := Lib.hid hps
          clear hcell hps
          go_wp2_with fail
          refine (HP25.out.line kReceipts r g 0 c2 _ 100 (by simp) (by simp; omega) (by simpa using hc2) hg HCl.out (by omega) hr3 (by decide)).mono ?_
          rintro e w26 ⟨rfl, hp26⟩
          have HP26 := Lib.hid hp26
          clear hp26 HP25 HCl hc2 hg
          rw [← HLev.out] at HP26
          go_wp2_with fail
          refine wp_region_J (S := fun w' => Below w1.heap.size w1 w') (fun _ => false) (by kernel_rfl) (HP26.out.drew.low) (fun hHeld => ?_)
          refine wpAnyJ_take (i := 0) (v := ?_) rfl (by kernel_rfl) (by kernel_rfl) (by kernel_rfl) (by kernel_rfl) (fun _ _ _ h => h) (Or.inl ⟨by rfl, ?_⟩) hHeld ?_
          rotate_left
          · intro wq hSq
            skip
            go_simp
            try with_reducible rfl
          simp only [Act.put, List.setIfInBounds_toArray, List.set_cons_zero, List.set_cons_succ]
          refine wpAnyJ_take (i := 1) (v := ?_) rfl (by kernel_rfl) (by kernel_rfl) (by kernel_rfl) (by kernel_rfl) (fun _ _ _ h => h) (Or.inl ⟨by rfl, ?_⟩) hHeld ?_
          rotate_left
          · intro wq hSq
            skip
            go_simp
            try with_reducible rfl
          simp only [Act.put, List.setIfInBounds_toArray, List.set_cons_zero, List.set_cons_succ]
          refine wpAnyJ_take (i := 2) (v := ?_) rfl (by kernel_rfl) (by kernel_rfl) (by kernel_rfl) (by kernel_rfl) (fun _ _ _ h => h) (Or.inl ⟨by rfl, ?_⟩) hHeld ?_
          rotate_left
          · intro wq hSq
            skip
            go_simp
            try with_reducible rfl
          simp only [Act.put, List.setIfInBounds_toArray, List.set_cons_zero, List.set_cons_succ]
          refine wpAnyJ_take (i := 3) (v := ?_) rfl (by kernel_rfl) (by kernel_rfl) (by kernel_rfl) (by kernel_rfl) (fun _ _ _ h => h) (Or.inl ⟨by rfl, ?_⟩) hHeld ?_
          rotate_left
          · intro wq hSq
            have c := HC.out _ hSq 18 _ rfl
            go_simp
            try with_reducible rfl
          simp only [Act.put, List.setIfInBounds_toArray, List.set_cons_zero, List.set_cons_succ]
          refine wpAnyJ_take (i := 5) (v := ?_) rfl (by kernel_rfl) (by kernel_rfl) (by kernel_rfl) (by kernel_rfl) (fun _ _ _ h => h) (Or.inl ⟨by rfl, ?_⟩) hHeld ?_
          rotate_left
          · intro wq hSq
            skip
            go_simp
            try with_reducible rfl
          simp only [Act.put, List.setIfInBounds_toArray, List.set_cons_zero, List.set_cons_succ]
          refine wpAnyJ_take (i := 6) (v := ?_) rfl (by kernel_rfl) (by kernel_rfl) (by kernel_rfl) (by kernel_rfl) (fun _ _ _ h => h) (Or.inl ⟨by rfl, ?_⟩) hHeld ?_
          rotate_left
          · intro wq hSq
            skip
            go_simp
            try with_reducible rfl
          simp only [Act.put, List.setIfInBounds_toArray, List.set_cons_zero, List.set_cons_succ]
          refine wpAnyJ_take (i := 7) (v := ?_) rfl (by kernel_rfl) (by kernel_rfl) (by kernel_rfl) (by kernel_rfl) (fun _ _ _ h => h) (Or.inl ⟨by rfl, ?_⟩) hHeld ?_
          rotate_left
          · intro wq hSq
            have c := HC.out _ hSq 19 _ rfl
            go_simp
            try with_reducible rfl
          simp only [Act.put, List.setIfInBounds_toArray, List.set_cons_zero, List.set_cons_succ]
          refine wpAnyJ_take (i := 9) (v := ?_) rfl (by kernel_rfl) (by kernel_rfl) (by kernel_rfl) (by kernel_rfl) (fun _ _ _ h => h) (Or.inl ⟨by rfl, ?_⟩) hHeld ?_
          rotate_left
          · intro wq hSq
            skip
            go_simp
            try with_reducible rfl
          simp only [Act.put, List.setIfInBounds_toArray, List.set_cons_zero, List.set_cons_succ]
          refine wpAnyJ_take (i := 10) (v := ?_) rfl (by kernel_rfl) (by kernel_rfl) (by kernel_rfl) (by kernel_rfl) (fun _ _ _ h => h) (Or.inl ⟨by rfl, ?_⟩) hHeld ?_
          rotate_left
          · intro wq hSq
            skip
            go_simp
            try with_reducible rfl
          simp only [Act.put, List.setIfInBounds_toArray, List.set_cons_zero, List.set_cons_succ]
          refine wpAnyJ_take (i := 11) (v := ?_) rfl (by kernel_rfl) (by kernel_rfl) (by kernel_rfl) (by kernel_rfl) (fun _ _ _ h => h) (Or.inl ⟨by rfl, ?_⟩) hHeld ?_
          rotate_left
          · intro wq hSq
            have c := HC.out _ hSq 20 _ rfl
            go_simp
            try with_reducible rfl
          simp only [Act.put, List.setIfInBounds_toArray, List.set_cons_zero, List.set_cons_succ]
          have HP27 := Lib.hid HP26.out.drew
          refine wpAnyJ_one (i := 4) rfl (by kernel_rfl) (fun K hK => ?_)
          go_simp
          refine (itoa_any (P.rate) _ (HV.out.now HP27.out.low) ⟨by have := HR.out.rate; omega, by have := HR.out.rate; omega⟩).mono ?_
          rintro e w28 ⟨rfl, hb28⟩
          have HP28 := Lib.hid (HP27.out.now hb28)
          clear hb28
          go_wp2_with fail
          refine hK.out _ _ (fun _ _ => HP28.out.low) ?_
          clear hK K
          refine wpAnyJ_one (i := 8) rfl (by kernel_rfl) (fun K hK => ?_)
          go_simp
          refine (itoa_any (P.down) _ (HV.out.now HP28.out.low) ⟨by have := HR.out.down; omega, by have := HR.out.down; omega⟩).mono ?_
          rintro e w29 ⟨rfl, hb29⟩
          have HP29 := Lib.hid (HP28.out.now hb29)
          clear hb29
          go_wp2_with fail
          refine hK.out _ _ (fun _ _ => HP29.out.low) ?_
          clear hK K
          refine wpAnyJ_one (i := 12) rfl (by kernel_rfl) (fun K hK => ?_)
          go_simp
          refine (itoa_any (P.window) _ (HV.out.now HP29.out.low) ⟨by have := HR.out.window; omega, by have := HR.out.window; omega⟩).mono ?_
          rintro e w30 ⟨rfl, hb30⟩
          have HP30 := Lib.hid (HP29.out.now hb30)
          clear hb30
          go_wp2_with fail
          refine hK.out _ _ (fun _ _ => HP30.out.low) ?_
          clear hK K
          refine wpAnyJ_one (i := 13) rfl (by kernel_rfl) (fun K hK => ?_)
          go_simp
          refine hK.out _ _ (fun _ _ => (HP30.out.alloc _).low) ?_
          clear hK K
          refine wpAnyJ_one (i := 14) rfl (by kernel_rfl) (fun K hK => ?_)
          go_simp
          refine (HP30.out.six kRate (Lib.itoa P.rate) kDown (Lib.itoa P.down) kOf (Lib.itoa P.window) _ (by first | rfl | simp) (by omega) (by decide) (itoa_len _ HR.out.rate.1 HR.out.rate.2) (by decide) (itoa_len _ HR.out.down.1 HR.out.down.2) (by decide) (itoa_len _ HR.out.window.1 HR.out.window.2)).mono ?_
          rintro e w31 ⟨rfl, hp31⟩
          have HP31 := Lib.hid hp31
          go_wp2_with fail
          refine hK.out _ _ (fun _ _ => hp31.low) ?_
          clear hK K
          refine wpAnyJ_done (by kernel_rfl) ?_ _
          clear hp31 HP30 HP29 HP28 HP27 HP26
          obtain ⟨lk, hlk⟩ : ∃ x, x = lf ++ lineB [kJoin, wJoins.getD dj []] ++ lineB [kHistory, wHistory.getD dh []] ++ lineB [kRemove, wRemove.getD dr []] ++ lineB (levelW P) ++ lineB [kRate, Lib.itoa P.rate, kDown, Lib.itoa P.down, kOf, Lib.itoa P.window] := ⟨_, rfl⟩
          rw [← hlk] at HP31
          have HLk := Lib.hid hlk
          clear hlk
          have c21 := HC.out _ HP31.out.low 21 _ rfl
          go_upto_if 151 with fail
          go_cut [] (fun wx => PS w1 (lk ++ keepB P) 2000 wx)
          case first =>
            by_cases hk : 0 < P.keep
            · have HE : Hid (keepB P = lineB [kKeep, Lib.itoa P.keep]) := Lib.hid (by unfold keepB; rw [if_pos hk])
              have hkr := HR.out.keep
              have hkl := itoa_len P.keep hkr.1 hkr.2
              go_wp2_with fail
              refine (itoa_any P.keep _ (HV.out.now HP31.out.low) ⟨by omega, by omega⟩).mono ?_
              rintro e w32 ⟨rfl, hb32⟩
              have HP32 := Lib.hid (HP31.out.now hb32)
              clear hb32
              go_wp2_with fail
              refine (HP32.out.two kKeep (Lib.itoa P.keep) _ rfl (by omega) (by decide) hkl).mono ?_
              rintro e w33 ⟨rfl, hp33⟩
              have HP33 := Lib.hid hp33
              clear hp33
              go_wp2_with fail
              go_meet
              rw [HE.out]
              exact ⟨HP33.out.bld, HP33.out.low, by have := HP33.out.len; omega⟩
            · have HE : Hid (keepB P = []) := Lib.hid (by unfold keepB; rw [if_neg hk])
              go_wp2_with fail
              go_meet
              rw [HE.out, List.append_nil]
              exact ⟨HP31.out.bld, HP31.out.low, by have := HP31.out.len; omega⟩
          case rest =>
            have HPz : Hid (PS w1 (printF P) 2000 wc) := Lib.hid (by
              rw [← HPL.out.1]
              unfold printL
              rw [HLh.out, HLf.out, HD.out.2.2.1, HD.out.2.2.2.1, HD.out.2.2.2.2.1, ← HLk.out]
              exact hcut)
            have HO : Hid (∀ w', Below w1.heap.size w1 w' → PrintOut P w (.returned (.tuple #[.string (bs (printF P)), .int .i64 0])) w') := Lib.hid (fun w' h => ⟨by rw [HPR.out]; rfl, HB1.out.trans (h.mono (by omega))⟩)
            have hpl := HPL.out.2
            clear hcut HP31 HLk HLf HLh HPL HPR c21 HD HI3 HI5 HI13 HI14 HI15 HI16
            generalize printF P = lp at *
            have hp2 : decide ((2000 : Int) < (lp.length : Int)) = false := by simp; omega
            go_wp2_with fail
            refine (bld_len HPz.out.bld (by omega)).mono ?_
            rintro e wl ⟨rfl, rfl⟩
            go_wp2_with fail
            refine (bld_string HPz.out.bld HPz.out.low.size).mono ?_
            rintro e w34 ⟨rfl, h6, hb6⟩
            have HE6 := Lib.hid (HO.out _ (HPz.out.low.trans hb6))
            clear h6 hb6
            go_wp2_with fail
            go_ret2
            exact HE6.out
end Go.Proofs.YtnaejabgkfhlbaaDoor
