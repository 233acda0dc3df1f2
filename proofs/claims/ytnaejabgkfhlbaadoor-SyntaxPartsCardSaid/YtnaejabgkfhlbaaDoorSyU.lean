/- The lines of the canonical text, and what a printer holds (layer 12). -/
import Derived.Test.YtnaejabgkfhlbaaDoorSyT
import Derived.Test.YtnaejabgkfhlbaaDoorSyR
set_option linter.unusedSimpArgs false
set_option linter.unusedVariables false
namespace Go.Proofs.YtnaejabgkfhlbaaDoor
open Go.RowKit

def editB (p : Prof) : List UInt8 := if 0 < p.within_ then lineB [kEdit, kYes, kWithin, Lib.itoa p.within_] else lineB [kEdit, yesW (p.edit == 2)]
def filesW (p : Prof) : List (List UInt8) := [kFiles, Lib.itoa p.files, kBytes, Lib.itoa p.bytes, kTypes] ++ p.types.map (fun s => s.data.toList)
def filesB (p : Prof) : List UInt8 := if 0 < p.files then lineB (filesW p) else []
def levelW (p : Prof) : List (List UInt8) := if p.batch then [kReceipts, wReceipts.getD p.level.toNat [], kBatch] else [kReceipts, wReceipts.getD p.level.toNat []]
def keepB (p : Prof) : List UInt8 := if 0 < p.keep then lineB [kKeep, Lib.itoa p.keep] else []
def headL (p : Prof) : List UInt8 := [] ++ lineB [kNetwork, p.name.data.toList] ++ editB p ++ lineB [kDelete, wDeletes.getD p.delete.toNat []] ++ lineB [kReact, yesW p.react] ++ lineB [kThread, wThreads.getD p.thread.toNat []]
  ++ lineB [kQuote, yesW p.quote] ++ lineB [kMention, yesW p.mention] ++ lineB [kSize, Lib.itoa p.size, kParts, Lib.itoa p.parts]
def printL (p : Prof) : List UInt8 := headL p ++ filesB p ++ lineB [kJoin, wJoins.getD p.join.toNat []] ++ lineB [kHistory, wHistory.getD p.history.toNat []]
  ++ lineB [kRemove, wRemove.getD p.remove.toNat []] ++ lineB (levelW p) ++ lineB [kRate, Lib.itoa p.rate, kDown, Lib.itoa p.down, kOf, Lib.itoa p.window] ++ keepB p
theorem yes_pick (b : Bool) : (pick wNoYes (oneI b)).text = yesW b ∧ pieceE (pick wNoYes (oneI b)) = 32 := by cases b <;> exact ⟨rfl, rfl⟩
theorem flat_words (ws : List (List UInt8)) : (ws.map Sh.word ++ [Sh.sign]).flatMap pieceF = lineB ws := by
  induction ws with
  | nil => rfl
  | cons x r ih =>
    have e : lineB (x :: r) = (x ++ [32]) ++ lineB r := by simp [lineB]
    rw [e, ← ih]
    simp [pieceF, pieceE, Sh.text]
theorem piece_num (n : Int) : pieceF (numS n) = Lib.itoa n ++ [32] := rfl
theorem piece_word (s : List UInt8) : pieceF (.word s) = s ++ [32] := rfl
theorem piece_sign : pieceF .sign = [59, 10] := rfl
theorem piece_pick (ws : List (List UInt8)) (i : Int) : pieceF (pick ws i) = ws.getD i.toNat [] ++ [32] := rfl
theorem piece_yes (b : Bool) : pieceF (pick wNoYes (oneI b)) = yesW b ++ [32] := by cases b <;> rfl
theorem yes_word (b : Bool) : wNoYes.getD (oneI b).toNat [] = yesW b := by cases b <;> rfl
theorem flat_types (l : List ByteArray) : (l.map (fun s => Sh.word s.data.toList)).flatMap pieceF = (l.map (fun s => s.data.toList)).flatMap (fun s => s ++ [32]) := by
  induction l with
  | nil => rfl
  | cons x r ih => simp only [List.map_cons, List.flatMap_cons, ih]; rfl
theorem print_lines (p : Prof) : printL p = printF p := by
  have h1 : (shEdit p ++ [Sh.sign]).flatMap pieceF = (editB p).drop 5 := by
    unfold shEdit editB
    split
    · simp [lineB, piece_num, piece_word, piece_sign]; rfl
    · simp only [List.append_nil, List.cons_append, List.nil_append, List.flatMap_cons, List.flatMap_nil, piece_yes, piece_sign]
      simp [lineB]
  have h1' : editB p = (kEdit ++ [32]) ++ (shEdit p ++ [Sh.sign]).flatMap pieceF := by
    rw [h1]
    unfold editB
    split <;> simp [lineB]
  have h2 : (shFiles p).flatMap pieceF = filesB p := by
    unfold shFiles filesB filesW
    split
    · simp [lineB, piece_num, piece_word, piece_sign, flat_types]
    · rfl
  have h3 : (shKeep p).flatMap pieceF = keepB p := by
    unfold shKeep keepB
    split
    · simp [lineB, piece_num, piece_word, piece_sign]
    · rfl
  have h4 : lineB (levelW p) = (kReceipts ++ [32]) ++ (pieceF (pick wReceipts p.level) ++ ((shBatch p).flatMap pieceF ++ [59, 10])) := by
    unfold levelW shBatch
    cases p.batch <;> simp [lineB, piece_pick, piece_word]
  unfold printL headL
  rw [h1', h4, ← h2, ← h3]
  unfold printF shapesP shRest shPart
  simp only [List.flatMap_append, List.flatMap_cons, List.flatMap_nil, List.append_nil, List.nil_append, List.cons_append, piece_num, piece_word, piece_sign, piece_yes, lineB, piece_pick, yes_word, List.append_assoc]

/-- The printer's world: the builder (the block behind w1) holds l; below it all is as in w1. -/
structure PS (w1 : World) (l : List UInt8) (m : Nat) (w : World) : Prop where
  bld : Bld w1.heap.size w1.heap.size l w
  low : Below w1.heap.size w1 w
  len : l.length ≤ m
theorem PS.now {w1 w w' : World} {l : List UInt8} {m : Nat} (h : PS w1 l m w) (hb : Below w.heap.size w w') : PS w1 l m w' := ⟨h.bld.now hb, h.low.trans (hb.mono h.low.size), h.len⟩
theorem PS.drew {w1 w : World} {l : List UInt8} {m : Nat} (h : PS w1 l m w) : PS w1 l m w.drew := h.now (Below.refl _ _).drew
theorem PS.alloc {w1 w : World} {l : List UInt8} {m : Nat} (h : PS w1 l m w) (o : Obj) : PS w1 l m (w.alloc o) := h.now ((Below.refl _ _).alloc (Nat.le_refl _) _)
theorem lit_cells (w : World) (ws : List (List UInt8)) (cs : Array Value) (h : cs.toList = ws.map (fun l => Value.string (bs l))) : ∀ k (hk : k < ws.length), (w.alloc (.cells cs 9)).cell? ⟨w.heap.size, 0 + k, none⟩ = some (.string (bs ws[k])) := by
  intro k hk
  unfold World.cell?
  simp only [heap_alloc_new]
  have : cs.toList[k]? = some (.string (bs ws[k])) := by rw [h, List.getElem?_map, List.getElem?_eq_getElem hk]; rfl
  rw [Nat.zero_add]
  simpa using this
/-- A line of words that stand in a slice. -/
theorem PS.line {w1 w : World} {l : List UInt8} {m : Nat} (h : PS w1 l m w) (x : List UInt8) (r : List (List UInt8)) (q off c n k : Nat) (hn : n = (x :: r).length) (h2 : 2 ≤ n) (hc : n ≤ c) (hq : q < w.heap.size)
    (hcell : ∀ k (hk : k < (x :: r).length), w.cell? ⟨q, off + k, none⟩ = some (.string (bs (x :: r)[k]))) (hm : m ≤ 900000) (hk : (lineB (x :: r)).length ≤ k) (hk2 : k ≤ 100000) :
    Calls Tryd.prog 47 #[.slice (some ⟨q, off, none⟩) n c, .pointer (some ⟨w1.heap.size, 0, none⟩)] w fun e w' => e = .returned (.tuple #[]) ∧ PS w1 (l ++ lineB (x :: r)) (m + k) w' := by
  refine (line_any w1.heap.size w1.heap.size l x r q off c n w hn h2 hc hq hcell h.bld h.low.size (by have := h.len; omega) (by omega)).mono ?_
  rintro e w' ⟨rfl, h3, h4⟩
  exact ⟨rfl, h3, h.low.trans h4, by rw [List.length_append]; have := h.len; omega⟩
theorem PS.lit {w1 w : World} {l : List UInt8} {m : Nat} (h : PS w1 l m w) (x y : List UInt8) (r : List (List UInt8)) (cs : Array Value) (n q k : Nat) (hq : q = w.heap.size) (hn : n = (x :: y :: r).length) (hcs : cs.toList = (x :: y :: r).map (fun l => Value.string (bs l)))
    (hm : m ≤ 900000) (hk : (lineB (x :: y :: r)).length ≤ k) (hk2 : k ≤ 100000) :
    Calls Tryd.prog 47 #[.slice (some ⟨q, 0, none⟩) n n, .pointer (some ⟨w1.heap.size, 0, none⟩)] (w.alloc (.cells cs 9)) fun e w' => e = .returned (.tuple #[]) ∧ PS w1 (l ++ lineB (x :: y :: r)) (m + k) w' :=
  hq ▸ (h.alloc _).line x (y :: r) w.heap.size 0 n n k hn (by rw [hn]; simp) (Nat.le_refl _) (by simp) (lit_cells w _ cs hcs) hm hk hk2
theorem PS.two {w1 w : World} {l : List UInt8} {m : Nat} (h : PS w1 l m w) (x y : List UInt8) (q : Nat) (hq : q = w.heap.size) (hm : m ≤ 900000) (hx : x.length ≤ 20) (hy : y.length ≤ 20) :
    Calls Tryd.prog 47 #[.slice (some ⟨q, 0, none⟩) 2 2, .pointer (some ⟨w1.heap.size, 0, none⟩)] (w.alloc (.cells #[.string (bs x), .string (bs y)] 9)) fun e w' => e = .returned (.tuple #[]) ∧ PS w1 (l ++ lineB [x, y]) (m + 50) w' :=
  h.lit x y [] _ 2 q 50 hq rfl rfl hm (by rw [lineB_len]; simp; omega) (by decide)
theorem PS.four {w1 w : World} {l : List UInt8} {m : Nat} (h : PS w1 l m w) (x y u v : List UInt8) (q : Nat) (hq : q = w.heap.size) (hm : m ≤ 900000) (hx : x.length ≤ 20) (hy : y.length ≤ 20) (hu : u.length ≤ 20) (hv : v.length ≤ 20) :
    Calls Tryd.prog 47 #[.slice (some ⟨q, 0, none⟩) 4 4, .pointer (some ⟨w1.heap.size, 0, none⟩)] (w.alloc (.cells #[.string (bs x), .string (bs y), .string (bs u), .string (bs v)] 9)) fun e w' => e = .returned (.tuple #[]) ∧ PS w1 (l ++ lineB [x, y, u, v]) (m + 100) w' :=
  h.lit x y [u, v] _ 4 q 100 hq rfl rfl hm (by rw [lineB_len]; simp; omega) (by decide)
theorem PS.six {w1 w : World} {l : List UInt8} {m : Nat} (h : PS w1 l m w) (x y u v s t : List UInt8) (q : Nat) (hq : q = w.heap.size) (hm : m ≤ 900000) (hx : x.length ≤ 20) (hy : y.length ≤ 20) (hu : u.length ≤ 20) (hv : v.length ≤ 20) (hs : s.length ≤ 20) (ht : t.length ≤ 20) :
    Calls Tryd.prog 47 #[.slice (some ⟨q, 0, none⟩) 6 6, .pointer (some ⟨w1.heap.size, 0, none⟩)] (w.alloc (.cells #[.string (bs x), .string (bs y), .string (bs u), .string (bs v), .string (bs s), .string (bs t)] 9)) fun e w' => e = .returned (.tuple #[]) ∧ PS w1 (l ++ lineB [x, y, u, v, s, t]) (m + 150) w' :=
  h.lit x y [u, v, s, t] _ 6 q 150 hq rfl rfl hm (by rw [lineB_len]; simp; omega) (by decide)
end Go.Proofs.YtnaejabgkfhlbaaDoor
