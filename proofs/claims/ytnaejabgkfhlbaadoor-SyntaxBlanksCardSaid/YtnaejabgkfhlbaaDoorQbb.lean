/- Contracts and plain laws, joined: SyY. -/
import Derived.Test.YtnaejabgkfhlbaaDoorQba
import Derived.Test.YtnaejabgkfhlbaaDoorQaj
/- Contract of linguaref12.Print. -/
set_option linter.unusedSimpArgs false
set_option linter.unusedVariables false
namespace Go.Proofs.YtnaejabgkfhlbaaDoor
open Go.RowKit

theorem itoa_of {n : Int} {k : Nat} (h : n = k) : Lib.itoa n = Lib.decDigits k := by subst h; rw [itoa_nat _ (by omega)]; rfl
theorem dd20 (k : Nat) (h : k ≤ 1073741824) : (Lib.decDigits k).length ≤ 20 := by have := dd_len 9 k (by omega); omega
theorem alloc_at (w : World) (ws : List (List UInt8)) (cs : Array Value) (h : cs.toList = ws.map (fun l => Value.string (bs l))) (k : Nat) (hk : k < ws.length) (s : List UInt8) (hs : ws.getD k [] = s) : CellAt w.heap.size k (.string (bs s)) (w.alloc (.cells cs 9)) := by
  refine ⟨by simp, ?_⟩
  have := lit_cells w ws cs h k hk
  rw [Nat.zero_add] at this
  rw [this, ← hs, getD_at hk]
-- LEM
def filesT (nfi nby : Nat) (types : List ByteArray) : List UInt8 := [102, 105, 108, 101, 115, 32] ++ Lib.decDigits nfi ++ [32, 98, 121, 116, 101, 115, 32] ++ Lib.decDigits nby ++ [32, 116, 121, 112, 101, 115] ++ types.flatMap (fun s => 32 :: s.data.toList) ++ [32, 59, 10]
def AccT (types : List ByteArray) (k : Nat) (s9 : List UInt8) (v : Value) : Prop := ∃ l : List UInt8, v = .string (bs (s9 ++ l)) ∧ l.length ≤ k * 21 ∧ l = (types.take k).flatMap (fun s => 32 :: s.data.toList)
theorem flat_21 (l : List ByteArray) (h : ∀ s ∈ l, s.data.toList.length ≤ 20) : (l.flatMap (fun s => 32 :: s.data.toList)).length ≤ l.length * 21 := by
  induction l with
  | nil => simp
  | cons s l ih =>
    have h1 := h s (by simp)
    have h2 := ih (fun x hx => h x (by simp [hx]))
    simp only [List.flatMap_cons, List.length_append, List.length_cons]
    omega
theorem filesT_len (nfi nby : Nat) (types : List ByteArray) (hl : types.length ≤ 20) (h : ∀ s ∈ types, s.data.toList.length ≤ 20) (h1 : (Lib.decDigits nfi).length ≤ 20) (h2 : (Lib.decDigits nby).length ≤ 20) : (filesT nfi nby types).length ≤ 600 := by
  have := flat_21 types h
  unfold filesT
  simp only [List.length_append, List.length_cons, List.length_nil]
  omega
theorem types_line (l : List ByteArray) : l.flatMap (fun s => 32 :: s.data.toList) ++ [32, 59, 10] = 32 :: ((l.map (fun s => s.data.toList)).flatMap (fun s => s ++ [32]) ++ [59, 10]) := by
  induction l with
  | nil => rfl
  | cons s l ih => simp only [List.flatMap_cons, List.map_cons, List.append_assoc, List.cons_append, ih, List.nil_append]
theorem cellAt_of {b k : Nat} {v : Value} {w : World} (h : w.cell? ⟨b, k, none⟩ = some v) : CellAt b k v w := by
  refine ⟨?_, h⟩
  rcases Nat.lt_or_ge b w.heap.size with h1 | h1
  · exact h1
  · unfold World.cell? at h
    simp [Array.getElem?_eq_none h1] at h
theorem print_ref (P : Prof) (nm wde wth wjo whi wre wle : List UInt8) (nwt nsz npa nfi nby nra ndo nwi nke : Nat) (hR : Rt P) (hnm : nm = P.name.data.toList) (h1 : wde = wDeletes.getD P.delete.toNat []) (h2 : wth = wThreads.getD P.thread.toNat []) (h3 : wjo = wJoins.getD P.join.toNat []) (h4 : whi = wHistory.getD P.history.toNat [])
    (h5 : wre = wRemove.getD P.remove.toNat []) (h6 : wle = wReceipts.getD P.level.toNat [])
    (hn : Lib.itoa P.within_ = Lib.decDigits nwt ∧ Lib.itoa P.size = Lib.decDigits nsz ∧ Lib.itoa P.parts = Lib.decDigits npa ∧ Lib.itoa P.files = Lib.decDigits nfi ∧ Lib.itoa P.bytes = Lib.decDigits nby ∧ Lib.itoa P.rate = Lib.decDigits nra ∧ Lib.itoa P.down = Lib.decDigits ndo ∧ Lib.itoa P.window = Lib.decDigits nwi ∧ Lib.itoa P.keep = Lib.decDigits nke)
    (hd : (0 < P.within_ ↔ 0 < nwt) ∧ (0 < P.files ↔ 0 < nfi) ∧ (0 < P.keep ↔ 0 < nke)) :
    [110, 101, 116, 119, 111, 114, 107, 32] ++ nm ++ [32, 59, 10, 101, 100, 105, 116, 32] ++ yesW (P.edit == 2) ++ (if 0 < nwt then [32, 119, 105, 116, 104, 105, 110, 32] ++ Lib.decDigits nwt else []) ++ [32, 59, 10, 100, 101, 108, 101, 116, 101, 32] ++ wde ++ [32, 59, 10, 114, 101, 97, 99, 116, 32] ++ yesW P.react ++ [32, 59, 10, 116, 104, 114, 101, 97, 100, 32] ++ wth
      ++ [32, 59, 10, 113, 117, 111, 116, 101, 32] ++ yesW P.quote ++ [32, 59, 10, 109, 101, 110, 116, 105, 111, 110, 32] ++ yesW P.mention ++ [32, 59, 10, 115, 105, 122, 101, 32] ++ Lib.decDigits nsz ++ [32, 112, 97, 114, 116, 115, 32] ++ Lib.decDigits npa ++ [32, 59, 10] ++ (if 0 < nfi then filesT nfi nby P.types else []) ++ [106, 111, 105, 110, 32] ++ wjo ++ [32, 59, 10, 104, 105, 115, 116, 111, 114, 121, 32] ++ whi ++ [32, 59, 10, 114, 101, 109, 111, 118, 101, 32] ++ wre
      ++ [32, 59, 10, 114, 101, 99, 101, 105, 112, 116, 115, 32] ++ wle ++ (if P.batch then [32, 98, 97, 116, 99, 104] else []) ++ [32, 59, 10, 114, 97, 116, 101, 32] ++ Lib.decDigits nra ++ [32, 100, 111, 119, 110, 32] ++ Lib.decDigits ndo ++ [32, 111, 102, 32] ++ Lib.decDigits nwi ++ [32, 59, 10] ++ (if 0 < nke then [107, 101, 101, 112, 32] ++ Lib.decDigits nke ++ [32, 59, 10] else []) = printL P := by
  obtain ⟨n1, n2, n3, n4, n5, n6, n7, n8, n9⟩ := hn
  have he : editB P = [101, 100, 105, 116, 32] ++ (yesW (P.edit == 2) ++ ((if 0 < nwt then [32, 119, 105, 116, 104, 105, 110, 32] ++ Lib.decDigits nwt else []) ++ [32, 59, 10])) := by
    unfold editB
    by_cases h : 0 < P.within_
    · have h2 : P.edit = 2 := by rcases hR.edit with h3 | h3 <;> omega
      rw [if_pos h, if_pos (hd.1.1 h), n1, h2]
      simp [lineB, yesW]
    · rw [if_neg h, if_neg (fun h2 => h (hd.1.2 h2))]
      simp [lineB]
  have hf : filesB P = if 0 < nfi then filesT nfi nby P.types else [] := by
    unfold filesB
    by_cases h : 0 < P.files
    · rw [if_pos h, if_pos (hd.2.1.1 h)]
      unfold filesT filesW lineB
      rw [n4, n5, List.append_assoc, types_line]
      simp
    · rw [if_neg h, if_neg (fun h2 => h (hd.2.1.2 h2))]
  have hk : keepB P = if 0 < nke then [107, 101, 101, 112, 32] ++ Lib.decDigits nke ++ [32, 59, 10] else [] := by
    unfold keepB
    by_cases h : 0 < P.keep
    · rw [if_pos h, if_pos (hd.2.2.1 h), n9]
      simp [lineB]
    · rw [if_neg h, if_neg (fun h2 => h (hd.2.2.2 h2))]
  have hl : lineB (levelW P) = [114, 101, 99, 101, 105, 112, 116, 115, 32] ++ (wle ++ ((if P.batch then [32, 98, 97, 116, 99, 104] else []) ++ [32, 59, 10])) := by
    unfold levelW
    rw [← h6]
    cases P.batch <;> simp [lineB]
  unfold printL headL
  rw [he, hf, hk, hl, ← hnm, ← h1, ← h2, ← h3, ← h4, ← h5, n2, n3, n6, n7, n8]
  generalize (if 0 < nwt then [32, 119, 105, 116, 104, 105, 110, 32] ++ Lib.decDigits nwt else []) = t1
  generalize (if 0 < nfi then filesT nfi nby P.types else []) = t2
  generalize (if P.batch then [32, 98, 97, 116, 99, 104] else []) = t3
  generalize (if 0 < nke then [107, 101, 101, 112, 32] ++ Lib.decDigits nke ++ [32, 59, 10] else []) = t4
  simp [lineB]
-- LEMEND
-- gNam s | TEXT | H | BOUND : a name for the text so far
-- gWord | gNum : a call that leaves the world
-- gRead FACTS : one read
-- gEnd k | k0 : a region's end
-- gAlloc G | WORDS | CELLS | K | S : a slice of words is made, of which one is read
set_option maxRecDepth 100000 in
set_option maxHeartbeats 8000000 in
theorem gPrint_any (P : Prof) (A : Option Addr) (c : Nat) (w : World) (hr : ProfOk w w.heap.size A P) : Calls Tryd.prog 14 #[P.v A c] w (PrintOut P w) := by
  have hb0 : Below w.heap.size w (w.alloc (.cells (P.cs A c) 24)) := (Below.refl _ _).alloc (Nat.le_refl _) _
  have hr0 := hr.now hb0
  have HB := Lib.hid hb0
  clear hb0 hr
  have HRA := Lib.hid (boxRange w (P.cs A c) 24 (Below.refl _ _))
  go_enter Tryd.func14, Tryd.ntmps14
  go_wp2_with ((with_reducible show wpList _ _ _ (Oper.mk _ (Op.load 24 _) _ _ _ _ :: _) _ _); refine wpList_load_w rfl 24 (.tmp 1) rfl w.heap.size 0 rfl (P.cs A c).toList _ HRA.out Tryd.underlying24 rfl (by kernel_rfl) ?_)
  refine (rRight_any P A c _ hr0).mono ?_
  rintro e w1 ⟨rfl, hb1⟩
  have hs1 : w.heap.size < w1.heap.size := by have := hb1.size; simp at this; omega
  have HC : Hid (∀ w', Below w1.heap.size w1 w' → ∀ j v, (P.cs A c)[j]? = some v → w'.cell? ⟨w.heap.size, j, none⟩ = some v) := Lib.hid (fun w' hb' j v hv => by
    have := boxCells w (P.cs A c) 24 (hb1.trans (hb'.mono hb1.size)) j v hv
    exact this)
  have HB1 := Lib.hid (HB.out.trans (hb1.mono HB.out.size))
  have HT := Lib.hid ((hr0.now hb1).rd)
  clear hr0 HB hb1 HRA
  cases hpr : profRight P with
  | false =>
    have HE : Hid (PrintOut P w (.returned (.tuple #[.string ⟨#[]⟩, .int .i64 1])) w1) := Lib.hid ⟨by rw [hpr]; rfl, HB1.out⟩
    go_wp2_with fail
    go_ret2
    exact HE.out
  | true =>
    have HPR := Lib.hid hpr
    have hR := rt_of hpr
    have HR := Lib.hid hR
    have HPL : Hid (printL P = printF P ∧ (printF P).length ≤ 1617) := Lib.hid ⟨print_lines P, print_len hR⟩
    clear hpr
    obtain ⟨dd, hdd⟩ := nat_of hR.delete.1
    obtain ⟨dt, hdt⟩ := nat_of hR.thread.1
    obtain ⟨dj, hdj⟩ := nat_of hR.join.1
    obtain ⟨dh, hdh⟩ := nat_of hR.history.1
    obtain ⟨dr, hdr⟩ := nat_of hR.remove.1
    obtain ⟨dl, hdl⟩ := nat_of hR.level.1
    obtain ⟨nsz, hnsz⟩ := nat_of hR.size.1
    obtain ⟨npa, hnpa⟩ := nat_of hR.parts.1
    obtain ⟨nfi, hnfi⟩ := nat_of hR.files.1
    obtain ⟨nby, hnby⟩ := nat_of hR.bytes.1
    obtain ⟨nra, hnra⟩ := nat_of hR.rate.1
    obtain ⟨ndo, hndo⟩ := nat_of hR.down.1
    obtain ⟨nwi, hnwi⟩ := nat_of hR.window.1
    obtain ⟨nke, hnke⟩ := nat_of hR.keep.1
    have hwi0 : 0 ≤ P.within_ ∧ P.within_ ≤ 1073741824 := by have := hR.edit; omega
    obtain ⟨nwt, hnwt⟩ := nat_of hwi0.1
    have bnd : dd < 3 ∧ dt < 3 ∧ dj < 3 ∧ dh < 2 ∧ dr < 2 ∧ dl < 5 ∧ nsz ≤ 1073741824 ∧ npa ≤ 1073741824 ∧ nfi ≤ 1073741824 ∧ nby ≤ 1073741824 ∧ nra ≤ 1073741824 ∧ ndo ≤ 1073741824 ∧ nwi ≤ 1073741824 ∧ nke ≤ 1073741824 ∧ nwt ≤ 1073741824 := by
      obtain ⟨_, a2, a3, a4, a5, a6, a7, a8, a9, b1, b2, b3, b4, b5, b6, _, _⟩ := hR
      omega
    obtain ⟨bd, bt, bj, bh, br, bl, bsz, bpa, bfi, bby, bra, bdo, bwi, bke, bwt⟩ := bnd
    obtain ⟨nm, hnm⟩ : ∃ nm, nm = P.name.data.toList := ⟨_, rfl⟩
    have hNm : nm.length ≤ 20 := by rw [hnm]; exact (short_word hR.name).2
    -- the cells, as they are read
    have HI : Hid (∀ w', Below w1.heap.size w1 w' → w'.cell? ⟨w.heap.size, 0, none⟩ = some (.string (bs nm)) ∧ w'.cell? ⟨w.heap.size, 1, none⟩ = some (.int .i64 P.edit) ∧ w'.cell? ⟨w.heap.size, 2, none⟩ = some (.int .i64 (nwt : Nat)) ∧ w'.cell? ⟨w.heap.size, 3, none⟩ = some (.int .i64 (dd : Nat)) ∧
        w'.cell? ⟨w.heap.size, 4, none⟩ = some (.bool P.react) ∧ w'.cell? ⟨w.heap.size, 5, none⟩ = some (.int .i64 (dt : Nat)) ∧ w'.cell? ⟨w.heap.size, 6, none⟩ = some (.bool P.quote) ∧ w'.cell? ⟨w.heap.size, 7, none⟩ = some (.bool P.mention) ∧
        w'.cell? ⟨w.heap.size, 8, none⟩ = some (.int .i64 (nsz : Nat)) ∧ w'.cell? ⟨w.heap.size, 9, none⟩ = some (.int .i64 (npa : Nat)) ∧ w'.cell? ⟨w.heap.size, 10, none⟩ = some (.int .i64 (nfi : Nat)) ∧ w'.cell? ⟨w.heap.size, 11, none⟩ = some (.int .i64 (nby : Nat))) := Lib.hid (fun w' h => by
      rw [hnm, ← hnwt, ← hdd, ← hdt, ← hnsz, ← hnpa, ← hnfi, ← hnby]
      exact ⟨HC.out w' h 0 _ rfl, HC.out w' h 1 _ rfl, HC.out w' h 2 _ rfl, HC.out w' h 3 _ rfl, HC.out w' h 4 _ rfl, HC.out w' h 5 _ rfl, HC.out w' h 6 _ rfl, HC.out w' h 7 _ rfl, HC.out w' h 8 _ rfl, HC.out w' h 9 _ rfl, HC.out w' h 10 _ rfl, HC.out w' h 11 _ rfl⟩)
    have HJ : Hid (∀ w', Below w1.heap.size w1 w' → w'.cell? ⟨w.heap.size, 12, none⟩ = some (.slice A P.types.length c) ∧ w'.cell? ⟨w.heap.size, 13, none⟩ = some (.int .i64 (dj : Nat)) ∧ w'.cell? ⟨w.heap.size, 14, none⟩ = some (.int .i64 (dh : Nat)) ∧ w'.cell? ⟨w.heap.size, 15, none⟩ = some (.int .i64 (dr : Nat)) ∧ w'.cell? ⟨w.heap.size, 16, none⟩ = some (.int .i64 (dl : Nat)) ∧
        w'.cell? ⟨w.heap.size, 17, none⟩ = some (.bool P.batch) ∧ w'.cell? ⟨w.heap.size, 18, none⟩ = some (.int .i64 (nra : Nat)) ∧ w'.cell? ⟨w.heap.size, 19, none⟩ = some (.int .i64 (ndo : Nat)) ∧ w'.cell? ⟨w.heap.size, 20, none⟩ = some (.int .i64 (nwi : Nat)) ∧ w'.cell? ⟨w.heap.size, 21, none⟩ = some (.int .i64 (nke : Nat))) := Lib.hid (fun w' h => by
      rw [← hdj, ← hdh, ← hdr, ← hdl, ← hnra, ← hndo, ← hnwi, ← hnke]
      exact ⟨HC.out w' h 12 _ rfl, HC.out w' h 13 _ rfl, HC.out w' h 14 _ rfl, HC.out w' h 15 _ rfl, HC.out w' h 16 _ rfl, HC.out w' h 17 _ rfl, HC.out w' h 18 _ rfl, HC.out w' h 19 _ rfl, HC.out w' h 20 _ rfl, HC.out w' h 21 _ rfl⟩)
    have HN : Hid (Lib.itoa P.within_ = Lib.decDigits nwt ∧ Lib.itoa P.size = Lib.decDigits nsz ∧ Lib.itoa P.parts = Lib.decDigits npa ∧ Lib.itoa P.files = Lib.decDigits nfi ∧ Lib.itoa P.bytes = Lib.decDigits nby ∧ Lib.itoa P.rate = Lib.decDigits nra ∧ Lib.itoa P.down = Lib.decDigits ndo ∧ Lib.itoa P.window = Lib.decDigits nwi ∧ Lib.itoa P.keep = Lib.decDigits nke) :=
      Lib.hid ⟨itoa_of hnwt, itoa_of hnsz, itoa_of hnpa, itoa_of hnfi, itoa_of hnby, itoa_of hnra, itoa_of hndo, itoa_of hnwi, itoa_of hnke⟩
    have HD : Hid (P.delete.toNat = dd ∧ P.thread.toNat = dt ∧ P.join.toNat = dj ∧ P.history.toNat = dh ∧ P.remove.toNat = dr ∧ P.level.toNat = dl ∧ (0 < P.within_ ↔ 0 < nwt) ∧ (0 < P.files ↔ 0 < nfi) ∧ (0 < P.keep ↔ 0 < nke)) := Lib.hid (by omega)
    have HNm := Lib.hid hnm
    obtain ⟨wde, hwde⟩ : ∃ x, x = wDeletes.getD dd [] := ⟨_, rfl⟩
    obtain ⟨wth, hwth⟩ : ∃ x, x = wThreads.getD dt [] := ⟨_, rfl⟩
    obtain ⟨wjo, hwjo⟩ : ∃ x, x = wJoins.getD dj [] := ⟨_, rfl⟩
    obtain ⟨whi, hwhi⟩ : ∃ x, x = wHistory.getD dh [] := ⟨_, rfl⟩
    obtain ⟨wre, hwre⟩ : ∃ x, x = wRemove.getD dr [] := ⟨_, rfl⟩
    obtain ⟨wle, hwle⟩ : ∃ x, x = wReceipts.getD dl [] := ⟨_, rfl⟩
    have hlde : wde.length ≤ 20 := hwde ▸ words_20 _ (by decide) _
    have hlth : wth.length ≤ 20 := hwth ▸ words_20 _ (by decide) _
    have hljo : wjo.length ≤ 20 := hwjo ▸ words_20 _ (by decide) _
    have hlhi : whi.length ≤ 20 := hwhi ▸ words_20 _ (by decide) _
    have hlre : wre.length ≤ 20 := hwre ▸ words_20 _ (by decide) _
    have hlle : wle.length ≤ 20 := hwle ▸ words_20 _ (by decide) _
    have HWd := Lib.hid (And.intro hwde (And.intro hwth (And.intro hwjo (And.intro hwhi (And.intro hwre hwle)))))
    have id3 : (dd : Int) < 3 := by omega
    have it3 : (dt : Int) < 3 := by omega
    have ij3 : (dj : Int) < 3 := by omega
    have ih2 : (dh : Int) < 2 := by omega
    have ir2 : (dr : Int) < 2 := by omega
    have il5 : (dl : Int) < 5 := by omega
    clear hdd hdt hdj hdh hdr hdl hnsz hnpa hnfi hnby hnra hndo hnwi hnke hnwt hwi0 hnm hR hwde hwth hwjo hwhi hwre hwle
    have hy1 := yesW_len (P.edit == 2)
    have hy2 := yesW_len P.react
    have hy3 := yesW_len P.quote
    have hy4 := yesW_len P.mention
    have hn1 := dd20 nwt bwt
    have hn2 := dd20 nsz bsz
    have hn3 := dd20 npa bpa
    have hn4 := dd20 nfi bfi
    have hn5 := dd20 nby bby
    have hn6 := dd20 nra bra
    have hn7 := dd20 ndo bdo
    have hn8 := dd20 nwi bwi
    have hn9 := dd20 nke bke
    go_wp2_with fail
    have HW0 : Hid (Below w1.heap.size w1 w1) := Lib.hid (Below.refl _ _)
    refine wp_region_below [(7, fun _ => .string (bs (yesW (P.edit == 2))), fun _ _ => True)] (by kernel_rfl) (by kernel_rfl) (by repeat (first | exact trivial | refine ⟨fun g wa wb hs hs' ht h => by first | exact trivial | exact h.now ht | exact h.below ht | exact ht.cell h | exact h, ?_⟩)) ?_
    rw [List.toList_toArray]
    repeat (first
      | (refine DetE.cat (by rfl) (by rfl) rfl Tryd.underlying9 rfl rfl (by first | omega | (simp; done) | (simp; omega) | (simp only [List.length_append, List.length_cons, List.length_nil]; omega)) ?_; simp only [Act.put, List.setIfInBounds_toArray, List.set_cons_zero, List.set_cons_succ])
      | (refine DetE.read (v := ?_) (by rfl) (by rfl) ?_ ?_; rotate_left; (· (intro wq hSq hkq; obtain ⟨c0, c1, c2, c3, c4, c5, c6, c7, c8, c9, c10, c11⟩ := HI.out _ (HW0.out.trans (hSq.mono HW0.out.size)); go_simp; try with_reducible rfl)); simp only [Act.put, List.setIfInBounds_toArray, List.set_cons_zero, List.set_cons_succ])
      | fail)
    refine DetE.eff _ _ (by rfl) (by rfl) (fun wq hSq hkq K hK => ?_) (fun g2 => ?_)
    · go_simp
      refine (rWordY_any _ _).mono ?_
      rintro e4 w4 ⟨rfl, rfl⟩
      go_wp2_with fail
      exact hK.out (none, 0) _ hSq (Below.refl _ _) trivial _ (by first | rfl | simp only [Act.put, List.setIfInBounds_toArray, List.set_cons_zero, List.set_cons_succ, List.cons_append, List.nil_append, List.append_assoc])
    simp only [Act.put, List.setIfInBounds_toArray, List.set_cons_zero, List.set_cons_succ]
    repeat (first
      | (refine DetE.cat (by rfl) (by rfl) rfl Tryd.underlying9 rfl rfl (by first | omega | (simp; done) | (simp; omega) | (simp only [List.length_append, List.length_cons, List.length_nil]; omega)) ?_; simp only [Act.put, List.setIfInBounds_toArray, List.set_cons_zero, List.set_cons_succ])
      | (refine DetE.read (v := ?_) (by rfl) (by rfl) ?_ ?_; rotate_left; (· (intro wq hSq hkq; skip; go_simp; try with_reducible rfl)); simp only [Act.put, List.setIfInBounds_toArray, List.set_cons_zero, List.set_cons_succ])
      | fail)
    refine DetE.done fun wz hz hkz => ?_
    have HW3 := Lib.hid (HW0.out.trans (hz.mono HW0.out.size))
    clear hz hkz
    obtain ⟨w3, hw⟩ : ∃ x, x = wz := ⟨wz, rfl⟩
    subst hw
    obtain ⟨s3, hs⟩ : ∃ x, x = [110, 101, 116, 119, 111, 114, 107, 32] ++ nm ++ [32, 59, 10, 101, 100, 105, 116, 32] ++ yesW (P.edit == 2) := ⟨_, rfl⟩
    have hs' := hs
    simp only [List.cons_append, List.nil_append, List.append_assoc] at hs'
    rw [← hs']
    have HS3 := Lib.hid hs
    have hls3 : s3.length ≤ 100 := by rw [hs]; simp; omega
    clear hs hs'
    have c2 := (HI.out _ HW3.out).2.2.1
    go_upto_if 20 with fail
    go_cut [4] (fun v wx => v = .string (bs (s3 ++ (if 0 < nwt then [32, 119, 105, 116, 104, 105, 110, 32] ++ Lib.decDigits nwt else []))) ∧ Below w1.heap.size w1 wx)
    case first =>
      by_cases hw0 : 0 < nwt
      · have HE : Hid ((if 0 < nwt then [32, 119, 105, 116, 104, 105, 110, 32] ++ Lib.decDigits nwt else []) = [32, 119, 105, 116, 104, 105, 110, 32] ++ Lib.decDigits nwt) := Lib.hid (if_pos hw0)
        have hwb : ((nwt : Int) != 0) = true := by simp; omega
        go_wp2_with (first
            | ((with_reducible show wpList _ _ _ (Oper.mk _ (Op.binOp .add 9 _ _ _) _ _ _ _ :: _) _ _); refine wp_cat rfl rfl Tryd.underlying9 rfl rfl (by first | omega | (simp; done) | (simp; omega)) ?_)
            | fail)
        refine (rNumF_any nwt _ bwt).mono ?_
        rintro e wy ⟨rfl, rfl⟩
        go_wp2_with (first
            | ((with_reducible show wpList _ _ _ (Oper.mk _ (Op.binOp .add 9 _ _ _) _ _ _ _ :: _) _ _); refine wp_cat rfl rfl Tryd.underlying9 rfl rfl (by first | omega | (simp; done) | (simp; omega)) ?_)
            | fail)
        go_meet
        exact ⟨by rw [HE.out]; simp, HW3.out⟩
      · have HE : Hid ((if 0 < nwt then [32, 119, 105, 116, 104, 105, 110, 32] ++ Lib.decDigits nwt else []) = []) := Lib.hid (if_neg hw0)
        have hwb : ((nwt : Int) != 0) = false := by simp; omega
        go_wp2_with fail
        go_meet
        exact ⟨by rw [HE.out, List.append_nil], HW3.out⟩
    case rest =>
      obtain ⟨rfl, hw⟩ := hcut
      have HW5 := Lib.hid hw
      obtain ⟨w5, hw5⟩ : ∃ x, x = wc := ⟨wc, rfl⟩
      subst hw5
      obtain ⟨s5, hs5⟩ : ∃ x, x = s3 ++ (if 0 < nwt then [32, 119, 105, 116, 104, 105, 110, 32] ++ Lib.decDigits nwt else []) := ⟨_, rfl⟩
      rw [← hs5]
      have HS5 := Lib.hid hs5
      have hls5 : s5.length ≤ 200 := by rw [hs5]; split <;> simp <;> omega
      clear hs5 hw c2
      go_wp2_with fail
      refine wp_region_below [(2, fun g => .slice (some ⟨g.2, 0, none⟩) 3 3, fun g w => CellAt g.2 dd (.string (bs wde)) w), (11, fun _ => .string (bs (yesW P.react)), fun _ _ => True), (14, fun g => .slice (some ⟨g.2, 0, none⟩) 3 3, fun g w => CellAt g.2 dt (.string (bs wth)) w)] (by kernel_rfl) (by kernel_rfl) (by repeat (first | exact trivial | refine ⟨fun g wa wb hs hs' ht h => by first | exact trivial | exact h.now ht | exact h.below ht | exact ht.cell h | exact h, ?_⟩)) ?_
      rw [List.toList_toArray]
      repeat (first
        | (refine DetE.cat (by rfl) (by rfl) rfl Tryd.underlying9 rfl rfl (by first | omega | (simp; done) | (simp; omega) | (simp only [List.length_append, List.length_cons, List.length_nil]; omega)) ?_; simp only [Act.put, List.setIfInBounds_toArray, List.set_cons_zero, List.set_cons_succ])
        | (refine DetE.read (v := ?_) (by rfl) (by rfl) ?_ ?_; rotate_left; (· (intro wq hSq hkq; obtain ⟨c0, c1, c2, c3, c4, c5, c6, c7, c8, c9, c10, c11⟩ := HI.out _ (HW5.out.trans (hSq.mono HW5.out.size)); go_simp; try with_reducible rfl)); simp only [Act.put, List.setIfInBounds_toArray, List.set_cons_zero, List.set_cons_succ])
        | fail)
      refine DetE.eff _ _ (by rfl) (by rfl) (fun wq hSq hkq K hK => ?_) (fun g1 => ?_)
      · go_simp
        have hb4 := fun o => (Below.refl wq.heap.size wq).alloc (Nat.le_refl _) o
        exact hK.out (none, wq.heap.size) _ (hSq.trans ((hb4 _).mono hSq.size)) (hb4 _) (alloc_at wq wDeletes _ rfl dd (by assumption) _ HWd.out.1.symm) _ (by first | rfl | simp only [Act.put, List.setIfInBounds_toArray, List.set_cons_zero, List.set_cons_succ, List.cons_append, List.nil_append, List.append_assoc])
      simp only [Act.put, List.setIfInBounds_toArray, List.set_cons_zero, List.set_cons_succ]
      repeat (first
        | (refine DetE.cat (by rfl) (by rfl) rfl Tryd.underlying9 rfl rfl (by first | omega | (simp; done) | (simp; omega) | (simp only [List.length_append, List.length_cons, List.length_nil]; omega)) ?_; simp only [Act.put, List.setIfInBounds_toArray, List.set_cons_zero, List.set_cons_succ])
        | (refine DetE.read (v := ?_) (by rfl) (by rfl) ?_ ?_; rotate_left; (· (intro wq hSq hkq; obtain ⟨c0, c1, c2, c3, c4, c5, c6, c7, c8, c9, c10, c11⟩ := HI.out _ (HW5.out.trans (hSq.mono HW5.out.size)); go_simp; try with_reducible rfl)); simp only [Act.put, List.setIfInBounds_toArray, List.set_cons_zero, List.set_cons_succ])
        | fail)
      refine DetE.read (v := ?_) (by rfl) (by rfl) ?_ ?_
      rotate_left
      · intro wq hSq hkq
        have hk := (hkq 2 _ rfl (by kernel_rfl)).c
        go_simp
        try with_reducible rfl
      simp only [Act.put, List.setIfInBounds_toArray, List.set_cons_zero, List.set_cons_succ]
      repeat (first
        | (refine DetE.cat (by rfl) (by rfl) rfl Tryd.underlying9 rfl rfl (by first | omega | (simp; done) | (simp; omega) | (simp only [List.length_append, List.length_cons, List.length_nil]; omega)) ?_; simp only [Act.put, List.setIfInBounds_toArray, List.set_cons_zero, List.set_cons_succ])
        | (refine DetE.read (v := ?_) (by rfl) (by rfl) ?_ ?_; rotate_left; (· (intro wq hSq hkq; obtain ⟨c0, c1, c2, c3, c4, c5, c6, c7, c8, c9, c10, c11⟩ := HI.out _ (HW5.out.trans (hSq.mono HW5.out.size)); go_simp; try with_reducible rfl)); simp only [Act.put, List.setIfInBounds_toArray, List.set_cons_zero, List.set_cons_succ])
        | fail)
      refine DetE.eff _ _ (by rfl) (by rfl) (fun wq hSq hkq K hK => ?_) (fun g2 => ?_)
      · go_simp
        refine (rWordY_any _ _).mono ?_
        rintro e4 w4 ⟨rfl, rfl⟩
        go_wp2_with fail
        exact hK.out (none, 0) _ hSq (Below.refl _ _) trivial _ (by first | rfl | simp only [Act.put, List.setIfInBounds_toArray, List.set_cons_zero, List.set_cons_succ, List.cons_append, List.nil_append, List.append_assoc])
      simp only [Act.put, List.setIfInBounds_toArray, List.set_cons_zero, List.set_cons_succ]
      repeat (first
        | (refine DetE.cat (by rfl) (by rfl) rfl Tryd.underlying9 rfl rfl (by first | omega | (simp; done) | (simp; omega) | (simp only [List.length_append, List.length_cons, List.length_nil]; omega)) ?_; simp only [Act.put, List.setIfInBounds_toArray, List.set_cons_zero, List.set_cons_succ])
        | (refine DetE.read (v := ?_) (by rfl) (by rfl) ?_ ?_; rotate_left; (· (intro wq hSq hkq; obtain ⟨c0, c1, c2, c3, c4, c5, c6, c7, c8, c9, c10, c11⟩ := HI.out _ (HW5.out.trans (hSq.mono HW5.out.size)); go_simp; try with_reducible rfl)); simp only [Act.put, List.setIfInBounds_toArray, List.set_cons_zero, List.set_cons_succ])
        | fail)
      refine DetE.eff _ _ (by rfl) (by rfl) (fun wq hSq hkq K hK => ?_) (fun g2 => ?_)
      · go_simp
        have hb4 := fun o => (Below.refl wq.heap.size wq).alloc (Nat.le_refl _) o
        exact hK.out (none, wq.heap.size) _ (hSq.trans ((hb4 _).mono hSq.size)) (hb4 _) (alloc_at wq wThreads _ rfl dt (by assumption) _ HWd.out.2.1.symm) _ (by first | rfl | simp only [Act.put, List.setIfInBounds_toArray, List.set_cons_zero, List.set_cons_succ, List.cons_append, List.nil_append, List.append_assoc])
      simp only [Act.put, List.setIfInBounds_toArray, List.set_cons_zero, List.set_cons_succ]
      repeat (first
        | (refine DetE.cat (by rfl) (by rfl) rfl Tryd.underlying9 rfl rfl (by first | omega | (simp; done) | (simp; omega) | (simp only [List.length_append, List.length_cons, List.length_nil]; omega)) ?_; simp only [Act.put, List.setIfInBounds_toArray, List.set_cons_zero, List.set_cons_succ])
        | (refine DetE.read (v := ?_) (by rfl) (by rfl) ?_ ?_; rotate_left; (· (intro wq hSq hkq; obtain ⟨c0, c1, c2, c3, c4, c5, c6, c7, c8, c9, c10, c11⟩ := HI.out _ (HW5.out.trans (hSq.mono HW5.out.size)); go_simp; try with_reducible rfl)); simp only [Act.put, List.setIfInBounds_toArray, List.set_cons_zero, List.set_cons_succ])
        | fail)
      refine DetE.read (v := ?_) (by rfl) (by rfl) ?_ ?_
      rotate_left
      · intro wq hSq hkq
        have hk := (hkq 14 _ rfl (by kernel_rfl)).c
        go_simp
        try with_reducible rfl
      simp only [Act.put, List.setIfInBounds_toArray, List.set_cons_zero, List.set_cons_succ]
      repeat (first
        | (refine DetE.cat (by rfl) (by rfl) rfl Tryd.underlying9 rfl rfl (by first | omega | (simp; done) | (simp; omega) | (simp only [List.length_append, List.length_cons, List.length_nil]; omega)) ?_; simp only [Act.put, List.setIfInBounds_toArray, List.set_cons_zero, List.set_cons_succ])
        | (refine DetE.read (v := ?_) (by rfl) (by rfl) ?_ ?_; rotate_left; (· (intro wq hSq hkq; obtain ⟨c0, c1, c2, c3, c4, c5, c6, c7, c8, c9, c10, c11⟩ := HI.out _ (HW5.out.trans (hSq.mono HW5.out.size)); go_simp; try with_reducible rfl)); simp only [Act.put, List.setIfInBounds_toArray, List.set_cons_zero, List.set_cons_succ])
        | fail)
      refine DetE.done fun wz hz hkz => ?_
      have HW6 := Lib.hid (HW5.out.trans (hz.mono HW5.out.size))
      clear hz hkz
      obtain ⟨w6, hw⟩ : ∃ x, x = wz := ⟨wz, rfl⟩
      subst hw
      obtain ⟨s6, hs⟩ : ∃ x, x = s5 ++ [32, 59, 10, 100, 101, 108, 101, 116, 101, 32] ++ wde ++ [32, 59, 10, 114, 101, 97, 99, 116, 32] ++ yesW P.react ++ [32, 59, 10, 116, 104, 114, 101, 97, 100, 32] ++ wth := ⟨_, rfl⟩
      have hs' := hs
      simp only [List.cons_append, List.nil_append, List.append_assoc] at hs'
      rw [← hs']
      have HS6 := Lib.hid hs
      have hls6 : s6.length ≤ 400 := by rw [hs]; simp; omega
      clear hs hs'
      go_wp2_with fail
      refine wp_region_below [(4, fun _ => .string (bs (yesW P.quote)), fun _ _ => True), (9, fun _ => .string (bs (yesW P.mention)), fun _ _ => True), (14, fun _ => .string (bs (Lib.decDigits nsz)), fun _ _ => True), (19, fun _ => .string (bs (Lib.decDigits npa)), fun _ _ => True)] (by kernel_rfl) (by kernel_rfl) (by repeat (first | exact trivial | refine ⟨fun g wa wb hs hs' ht h => by first | exact trivial | exact h.now ht | exact h.below ht | exact ht.cell h | exact h, ?_⟩)) ?_
      rw [List.toList_toArray]
      repeat (first
        | (refine DetE.cat (by rfl) (by rfl) rfl Tryd.underlying9 rfl rfl (by first | omega | (simp; done) | (simp; omega) | (simp only [List.length_append, List.length_cons, List.length_nil]; omega)) ?_; simp only [Act.put, List.setIfInBounds_toArray, List.set_cons_zero, List.set_cons_succ])
        | (refine DetE.read (v := ?_) (by rfl) (by rfl) ?_ ?_; rotate_left; (· (intro wq hSq hkq; obtain ⟨c0, c1, c2, c3, c4, c5, c6, c7, c8, c9, c10, c11⟩ := HI.out _ (HW6.out.trans (hSq.mono HW6.out.size)); go_simp; try with_reducible rfl)); simp only [Act.put, List.setIfInBounds_toArray, List.set_cons_zero, List.set_cons_succ])
        | fail)
      refine DetE.eff _ _ (by rfl) (by rfl) (fun wq hSq hkq K hK => ?_) (fun g2 => ?_)
      · go_simp
        refine (rWordY_any _ _).mono ?_
        rintro e4 w4 ⟨rfl, rfl⟩
        go_wp2_with fail
        exact hK.out (none, 0) _ hSq (Below.refl _ _) trivial _ (by first | rfl | simp only [Act.put, List.setIfInBounds_toArray, List.set_cons_zero, List.set_cons_succ, List.cons_append, List.nil_append, List.append_assoc])
      simp only [Act.put, List.setIfInBounds_toArray, List.set_cons_zero, List.set_cons_succ]
      repeat (first
        | (refine DetE.cat (by rfl) (by rfl) rfl Tryd.underlying9 rfl rfl (by first | omega | (simp; done) | (simp; omega) | (simp only [List.length_append, List.length_cons, List.length_nil]; omega)) ?_; simp only [Act.put, List.setIfInBounds_toArray, List.set_cons_zero, List.set_cons_succ])
        | (refine DetE.read (v := ?_) (by rfl) (by rfl) ?_ ?_; rotate_left; (· (intro wq hSq hkq; obtain ⟨c0, c1, c2, c3, c4, c5, c6, c7, c8, c9, c10, c11⟩ := HI.out _ (HW6.out.trans (hSq.mono HW6.out.size)); go_simp; try with_reducible rfl)); simp only [Act.put, List.setIfInBounds_toArray, List.set_cons_zero, List.set_cons_succ])
        | fail)
      refine DetE.eff _ _ (by rfl) (by rfl) (fun wq hSq hkq K hK => ?_) (fun g2 => ?_)
      · go_simp
        refine (rWordY_any _ _).mono ?_
        rintro e4 w4 ⟨rfl, rfl⟩
        go_wp2_with fail
        exact hK.out (none, 0) _ hSq (Below.refl _ _) trivial _ (by first | rfl | simp only [Act.put, List.setIfInBounds_toArray, List.set_cons_zero, List.set_cons_succ, List.cons_append, List.nil_append, List.append_assoc])
      simp only [Act.put, List.setIfInBounds_toArray, List.set_cons_zero, List.set_cons_succ]
      repeat (first
        | (refine DetE.cat (by rfl) (by rfl) rfl Tryd.underlying9 rfl rfl (by first | omega | (simp; done) | (simp; omega) | (simp only [List.length_append, List.length_cons, List.length_nil]; omega)) ?_; simp only [Act.put, List.setIfInBounds_toArray, List.set_cons_zero, List.set_cons_succ])
        | (refine DetE.read (v := ?_) (by rfl) (by rfl) ?_ ?_; rotate_left; (· (intro wq hSq hkq; obtain ⟨c0, c1, c2, c3, c4, c5, c6, c7, c8, c9, c10, c11⟩ := HI.out _ (HW6.out.trans (hSq.mono HW6.out.size)); go_simp; try with_reducible rfl)); simp only [Act.put, List.setIfInBounds_toArray, List.set_cons_zero, List.set_cons_succ])
        | fail)
      refine DetE.eff _ _ (by rfl) (by rfl) (fun wq hSq hkq K hK => ?_) (fun g2 => ?_)
      · go_simp
        refine (rNumF_any _ _ (by omega)).mono ?_
        rintro e4 w4 ⟨rfl, rfl⟩
        go_wp2_with fail
        exact hK.out (none, 0) _ hSq (Below.refl _ _) trivial _ (by first | rfl | simp only [Act.put, List.setIfInBounds_toArray, List.set_cons_zero, List.set_cons_succ, List.cons_append, List.nil_append, List.append_assoc])
      simp only [Act.put, List.setIfInBounds_toArray, List.set_cons_zero, List.set_cons_succ]
      repeat (first
        | (refine DetE.cat (by rfl) (by rfl) rfl Tryd.underlying9 rfl rfl (by first | omega | (simp; done) | (simp; omega) | (simp only [List.length_append, List.length_cons, List.length_nil]; omega)) ?_; simp only [Act.put, List.setIfInBounds_toArray, List.set_cons_zero, List.set_cons_succ])
        | (refine DetE.read (v := ?_) (by rfl) (by rfl) ?_ ?_; rotate_left; (· (intro wq hSq hkq; obtain ⟨c0, c1, c2, c3, c4, c5, c6, c7, c8, c9, c10, c11⟩ := HI.out _ (HW6.out.trans (hSq.mono HW6.out.size)); go_simp; try with_reducible rfl)); simp only [Act.put, List.setIfInBounds_toArray, List.set_cons_zero, List.set_cons_succ])
        | fail)
      refine DetE.eff _ _ (by rfl) (by rfl) (fun wq hSq hkq K hK => ?_) (fun g2 => ?_)
      · go_simp
        refine (rNumF_any _ _ (by omega)).mono ?_
        rintro e4 w4 ⟨rfl, rfl⟩
        go_wp2_with fail
        exact hK.out (none, 0) _ hSq (Below.refl _ _) trivial _ (by first | rfl | simp only [Act.put, List.setIfInBounds_toArray, List.set_cons_zero, List.set_cons_succ, List.cons_append, List.nil_append, List.append_assoc])
      simp only [Act.put, List.setIfInBounds_toArray, List.set_cons_zero, List.set_cons_succ]
      repeat (first
        | (refine DetE.cat (by rfl) (by rfl) rfl Tryd.underlying9 rfl rfl (by first | omega | (simp; done) | (simp; omega) | (simp only [List.length_append, List.length_cons, List.length_nil]; omega)) ?_; simp only [Act.put, List.setIfInBounds_toArray, List.set_cons_zero, List.set_cons_succ])
        | (refine DetE.read (v := ?_) (by rfl) (by rfl) ?_ ?_; rotate_left; (· (intro wq hSq hkq; obtain ⟨c0, c1, c2, c3, c4, c5, c6, c7, c8, c9, c10, c11⟩ := HI.out _ (HW6.out.trans (hSq.mono HW6.out.size)); go_simp; try with_reducible rfl)); simp only [Act.put, List.setIfInBounds_toArray, List.set_cons_zero, List.set_cons_succ])
        | fail)
      refine DetE.done fun wz hz hkz => ?_
      have HW7 := Lib.hid (HW6.out.trans (hz.mono HW6.out.size))
      clear hz hkz
      obtain ⟨w7, hw⟩ : ∃ x, x = wz := ⟨wz, rfl⟩
      subst hw
      obtain ⟨s7, hs⟩ : ∃ x, x = s6 ++ [32, 59, 10, 113, 117, 111, 116, 101, 32] ++ yesW P.quote ++ [32, 59, 10, 109, 101, 110, 116, 105, 111, 110, 32] ++ yesW P.mention ++ [32, 59, 10, 115, 105, 122, 101, 32] ++ Lib.decDigits nsz ++ [32, 112, 97, 114, 116, 115, 32] ++ Lib.decDigits npa ++ [32, 59, 10] := ⟨_, rfl⟩
      have hs' := hs
      simp only [List.cons_append, List.nil_append, List.append_assoc] at hs'
      rw [← hs']
      have HS7 := Lib.hid hs
      have hls7 : s7.length ≤ 700 := by rw [hs]; simp; omega
      clear hs hs'
      have c10 := (HI.out _ HW7.out).2.2.2.2.2.2.2.2.2.2.1
      go_upto_if 71 with fail
      go_cut [4] (fun v wx => v = .string (bs (s7 ++ (if 0 < nfi then filesT nfi nby P.types else []))) ∧ Below w1.heap.size w1 wx)
      case first =>
        by_cases hf0 : 0 < nfi
        · have HE : Hid ((if 0 < nfi then filesT nfi nby P.types else []) = filesT nfi nby P.types) := Lib.hid (if_pos hf0)
          have hfb : ((nfi : Int) != 0) = true := by simp; omega
          have htl : P.types.length ≤ 20 := by rcases HR.out.types with ⟨_, _, h⟩ | ⟨_, _, h, _⟩; rw [h]; decide; exact h
          have HTl : Hid (∀ s ∈ P.types, s.data.toList.length ≤ 20) := Lib.hid (by
            rcases HR.out.types with ⟨_, _, h⟩ | ⟨_, _, _, h⟩
            · rw [h]; simp
            · exact fun s hs => (short_word (h s hs)).2)
          clear c10
          go_wp2_with fail
          try simp only [hfb]
          clear hfb
          refine wp_region_below [(4, fun _ => .string (bs (Lib.decDigits nfi)), fun _ _ => True), (9, fun _ => .string (bs (Lib.decDigits nby)), fun _ _ => True)] (by kernel_rfl) (by kernel_rfl) (by repeat (first | exact trivial | refine ⟨fun g wa wb hs hs' ht h => by first | exact trivial | exact h.now ht | exact h.below ht | exact ht.cell h | exact h, ?_⟩)) ?_
          rw [List.toList_toArray]
          repeat (first
            | (refine DetE.cat (by rfl) (by rfl) rfl Tryd.underlying9 rfl rfl (by first | omega | (simp; done) | (simp; omega) | (simp only [List.length_append, List.length_cons, List.length_nil]; omega)) ?_; simp only [Act.put, List.setIfInBounds_toArray, List.set_cons_zero, List.set_cons_succ])
            | (refine DetE.read (v := ?_) (by rfl) (by rfl) ?_ ?_; rotate_left; (· (intro wq hSq hkq; obtain ⟨c0, c1, c2, c3, c4, c5, c6, c7, c8, c9, c10, c11⟩ := HI.out _ (HW7.out.trans (hSq.mono HW7.out.size)); go_simp; try with_reducible rfl)); simp only [Act.put, List.setIfInBounds_toArray, List.set_cons_zero, List.set_cons_succ])
            | fail)
          refine DetE.eff _ _ (by rfl) (by rfl) (fun wq hSq hkq K hK => ?_) (fun g2 => ?_)
          · go_simp
            refine (rNumF_any _ _ (by omega)).mono ?_
            rintro e4 w4 ⟨rfl, rfl⟩
            go_wp2_with fail
            exact hK.out (none, 0) _ hSq (Below.refl _ _) trivial _ (by first | rfl | simp only [Act.put, List.setIfInBounds_toArray, List.set_cons_zero, List.set_cons_succ, List.cons_append, List.nil_append, List.append_assoc])
          simp only [Act.put, List.setIfInBounds_toArray, List.set_cons_zero, List.set_cons_succ]
          repeat (first
            | (refine DetE.cat (by rfl) (by rfl) rfl Tryd.underlying9 rfl rfl (by first | omega | (simp; done) | (simp; omega) | (simp only [List.length_append, List.length_cons, List.length_nil]; omega)) ?_; simp only [Act.put, List.setIfInBounds_toArray, List.set_cons_zero, List.set_cons_succ])
            | (refine DetE.read (v := ?_) (by rfl) (by rfl) ?_ ?_; rotate_left; (· (intro wq hSq hkq; obtain ⟨c0, c1, c2, c3, c4, c5, c6, c7, c8, c9, c10, c11⟩ := HI.out _ (HW7.out.trans (hSq.mono HW7.out.size)); go_simp; try with_reducible rfl)); simp only [Act.put, List.setIfInBounds_toArray, List.set_cons_zero, List.set_cons_succ])
            | fail)
          refine DetE.eff _ _ (by rfl) (by rfl) (fun wq hSq hkq K hK => ?_) (fun g2 => ?_)
          · go_simp
            refine (rNumF_any _ _ (by omega)).mono ?_
            rintro e4 w4 ⟨rfl, rfl⟩
            go_wp2_with fail
            exact hK.out (none, 0) _ hSq (Below.refl _ _) trivial _ (by first | rfl | simp only [Act.put, List.setIfInBounds_toArray, List.set_cons_zero, List.set_cons_succ, List.cons_append, List.nil_append, List.append_assoc])
          simp only [Act.put, List.setIfInBounds_toArray, List.set_cons_zero, List.set_cons_succ]
          repeat (first
            | (refine DetE.cat (by rfl) (by rfl) rfl Tryd.underlying9 rfl rfl (by first | omega | (simp; done) | (simp; omega) | (simp only [List.length_append, List.length_cons, List.length_nil]; omega)) ?_; simp only [Act.put, List.setIfInBounds_toArray, List.set_cons_zero, List.set_cons_succ])
            | (refine DetE.read (v := ?_) (by rfl) (by rfl) ?_ ?_; rotate_left; (· (intro wq hSq hkq; obtain ⟨c0, c1, c2, c3, c4, c5, c6, c7, c8, c9, c10, c11⟩ := HI.out _ (HW7.out.trans (hSq.mono HW7.out.size)); go_simp; try with_reducible rfl)); simp only [Act.put, List.setIfInBounds_toArray, List.set_cons_zero, List.set_cons_succ])
            | fail)
          refine DetE.done fun wz hz hkz => ?_
          have HW9 := Lib.hid (HW7.out.trans (hz.mono HW7.out.size))
          clear hz hkz
          obtain ⟨w9, hw⟩ : ∃ x, x = wz := ⟨wz, rfl⟩
          subst hw
          obtain ⟨s9, hs⟩ : ∃ x, x = s7 ++ [102, 105, 108, 101, 115, 32] ++ Lib.decDigits nfi ++ [32, 98, 121, 116, 101, 115, 32] ++ Lib.decDigits nby ++ [32, 116, 121, 112, 101, 115] := ⟨_, rfl⟩
          have hs' := hs
          simp only [List.cons_append, List.nil_append, List.append_assoc] at hs'
          rw [← hs']
          have HS9 := Lib.hid hs
          have hls9 : s9.length ≤ 800 := by rw [hs]; simp; omega
          clear hs hs'
          have c12 := (HJ.out _ HW9.out).1
          have HTB := Lib.hid (HT.out.now HW9.out)
          go_wp2_with fail
          go_loop [4, 5] (fun s i => ∃ (k : Nat), k ≤ P.types.length ∧ i = .int .i64 k ∧ AccT P.types k s9 s) (fun _ i => P.types.length - (intOf i).toNat)
          case atStart => exact ⟨0, Nat.zero_le _, rfl, [], by rw [List.append_nil], by simp, rfl⟩
          case round =>
            obtain ⟨k, hk, rfl, l, rfl, hll, hle⟩ := hrel
            have HLe := Lib.hid hle
            clear hle
            by_cases hkt : k < P.types.length
            · obtain ⟨b1, o1, x1, rfl, hb1, hx1, hc1⟩ := RdS_at HTB.out hkt
              have hx20 := HTl.out x1 (List.mem_of_getElem? hx1)
              obtain ⟨y, hy⟩ : ∃ y, y = x1.data.toList := ⟨_, rfl⟩
              have hcy : w9.cell? ⟨b1, o1 + k, none⟩ = some (.string (bs y)) := by rw [hy]; exact hc1
              rw [← hy] at hx20
              have HNx : Hid (l ++ 32 :: y = (P.types.take (k + 1)).flatMap (fun s => 32 :: s.data.toList)) := Lib.hid (by
                rw [List.take_add_one, hx1, List.flatMap_append, ← HLe.out, hy]
                simp)
              clear hc1 hx1 hy
              go_wp2_with (first
                  | ((with_reducible show wpList _ _ _ (Oper.mk _ (Op.binOp .add 9 _ _ _) _ _ _ _ :: _) _ _); refine wp_cat rfl rfl Tryd.underlying9 rfl rfl (by first | omega | (simp; done) | (simp; omega)) ?_)
                  | fail)
              go_round
              case rel => exact ⟨k + 1, by omega, by go_num, l ++ 32 :: y, rfl, by simp only [List.length_append, List.length_cons]; omega, HNx.out⟩
              case measure => simp [intOf]; omega
            · have hke : k = P.types.length := by omega
              have HF : Hid (s9 ++ l ++ [32, 59, 10] = s7 ++ filesT nfi nby P.types) := Lib.hid (by
                rw [HLe.out, hke, List.take_length, HS9.out]
                unfold filesT
                simp)
              go_wp2_with (first
                  | ((with_reducible show wpList _ _ _ (Oper.mk _ (Op.binOp .add 9 _ _ _) _ _ _ _ :: _) _ _); refine wp_cat rfl rfl Tryd.underlying9 rfl rfl (by first | omega | (simp; done) | (simp; omega)) ?_)
                  | fail)
              go_meet
              exact ⟨by rw [HE.out, ← HF.out]; simp, HW9.out⟩
        · have HE : Hid ((if 0 < nfi then filesT nfi nby P.types else []) = []) := Lib.hid (if_neg hf0)
          have hfb : ((nfi : Int) != 0) = false := by simp; omega
          go_wp2_with fail
          go_meet
          exact ⟨by rw [HE.out, List.append_nil], HW7.out⟩
      case rest =>
        obtain ⟨rfl, hw⟩ := hcut
        have HW14 := Lib.hid hw
        obtain ⟨w14, hw14⟩ : ∃ x, x = wc := ⟨wc, rfl⟩
        subst hw14
        obtain ⟨s14, hs14⟩ : ∃ x, x = s7 ++ (if 0 < nfi then filesT nfi nby P.types else []) := ⟨_, rfl⟩
        rw [← hs14]
        have HS14 := Lib.hid hs14
        have hls14 : s14.length ≤ 2000 := by
          rw [hs14, List.length_append]
          have htl : P.types.length ≤ 20 := by rcases HR.out.types with ⟨_, _, h⟩ | ⟨_, _, h, _⟩; rw [h]; decide; exact h
          have HTl : ∀ s ∈ P.types, s.data.toList.length ≤ 20 := by
            rcases HR.out.types with ⟨_, _, h⟩ | ⟨_, _, _, h⟩
            · rw [h]; simp
            · exact fun s hs => (short_word (h s hs)).2
          have := filesT_len nfi nby P.types htl HTl hn4 hn5
          split
          · omega
          · simp; omega
        clear hs14 hw c10
        go_wp2_with fail
        refine wp_region_below [(2, fun g => .slice (some ⟨g.2, 0, none⟩) 3 3, fun g w => CellAt g.2 dj (.string (bs wjo)) w), (9, fun g => .slice (some ⟨g.2, 0, none⟩) 2 2, fun g w => CellAt g.2 dh (.string (bs whi)) w), (16, fun g => .slice (some ⟨g.2, 0, none⟩) 2 2, fun g w => CellAt g.2 dr (.string (bs wre)) w)] (by kernel_rfl) (by kernel_rfl) (by repeat (first | exact trivial | refine ⟨fun g wa wb hs hs' ht h => by first | exact trivial | exact h.now ht | exact h.below ht | exact ht.cell h | exact h, ?_⟩)) ?_
        rw [List.toList_toArray]
        repeat (first
          | (refine DetE.cat (by rfl) (by rfl) rfl Tryd.underlying9 rfl rfl (by first | omega | (simp; done) | (simp; omega) | (simp only [List.length_append, List.length_cons, List.length_nil]; omega)) ?_; simp only [Act.put, List.setIfInBounds_toArray, List.set_cons_zero, List.set_cons_succ])
          | (refine DetE.read (v := ?_) (by rfl) (by rfl) ?_ ?_; rotate_left; (· (intro wq hSq hkq; obtain ⟨c12, c13, c14, c15, c16, c17, c18, c19, c20, c21⟩ := HJ.out _ (HW14.out.trans (hSq.mono HW14.out.size)); go_simp; try with_reducible rfl)); simp only [Act.put, List.setIfInBounds_toArray, List.set_cons_zero, List.set_cons_succ])
          | fail)
        refine DetE.eff _ _ (by rfl) (by rfl) (fun wq hSq hkq K hK => ?_) (fun g1 => ?_)
        · go_simp
          have hb4 := fun o => (Below.refl wq.heap.size wq).alloc (Nat.le_refl _) o
          exact hK.out (none, wq.heap.size) _ (hSq.trans ((hb4 _).mono hSq.size)) (hb4 _) (alloc_at wq wJoins _ rfl dj (by assumption) _ HWd.out.2.2.1.symm) _ (by first | rfl | simp only [Act.put, List.setIfInBounds_toArray, List.set_cons_zero, List.set_cons_succ, List.cons_append, List.nil_append, List.append_assoc])
        simp only [Act.put, List.setIfInBounds_toArray, List.set_cons_zero, List.set_cons_succ]
        repeat (first
          | (refine DetE.cat (by rfl) (by rfl) rfl Tryd.underlying9 rfl rfl (by first | omega | (simp; done) | (simp; omega) | (simp only [List.length_append, List.length_cons, List.length_nil]; omega)) ?_; simp only [Act.put, List.setIfInBounds_toArray, List.set_cons_zero, List.set_cons_succ])
          | (refine DetE.read (v := ?_) (by rfl) (by rfl) ?_ ?_; rotate_left; (· (intro wq hSq hkq; obtain ⟨c12, c13, c14, c15, c16, c17, c18, c19, c20, c21⟩ := HJ.out _ (HW14.out.trans (hSq.mono HW14.out.size)); go_simp; try with_reducible rfl)); simp only [Act.put, List.setIfInBounds_toArray, List.set_cons_zero, List.set_cons_succ])
          | fail)
        refine DetE.read (v := ?_) (by rfl) (by rfl) ?_ ?_
        rotate_left
        · intro wq hSq hkq
          have hk := (hkq 2 _ rfl (by kernel_rfl)).c
          go_simp
          try with_reducible rfl
        simp only [Act.put, List.setIfInBounds_toArray, List.set_cons_zero, List.set_cons_succ]
        repeat (first
          | (refine DetE.cat (by rfl) (by rfl) rfl Tryd.underlying9 rfl rfl (by first | omega | (simp; done) | (simp; omega) | (simp only [List.length_append, List.length_cons, List.length_nil]; omega)) ?_; simp only [Act.put, List.setIfInBounds_toArray, List.set_cons_zero, List.set_cons_succ])
          | (refine DetE.read (v := ?_) (by rfl) (by rfl) ?_ ?_; rotate_left; (· (intro wq hSq hkq; obtain ⟨c12, c13, c14, c15, c16, c17, c18, c19, c20, c21⟩ := HJ.out _ (HW14.out.trans (hSq.mono HW14.out.size)); go_simp; try with_reducible rfl)); simp only [Act.put, List.setIfInBounds_toArray, List.set_cons_zero, List.set_cons_succ])
          | fail)
        refine DetE.eff _ _ (by rfl) (by rfl) (fun wq hSq hkq K hK => ?_) (fun g2 => ?_)
        · go_simp
          have hb4 := fun o => (Below.refl wq.heap.size wq).alloc (Nat.le_refl _) o
          exact hK.out (none, wq.heap.size) _ (hSq.trans ((hb4 _).mono hSq.size)) (hb4 _) (alloc_at wq wHistory _ rfl dh (by assumption) _ HWd.out.2.2.2.1.symm) _ (by first | rfl | simp only [Act.put, List.setIfInBounds_toArray, List.set_cons_zero, List.set_cons_succ, List.cons_append, List.nil_append, List.append_assoc])
        simp only [Act.put, List.setIfInBounds_toArray, List.set_cons_zero, List.set_cons_succ]
        repeat (first
          | (refine DetE.cat (by rfl) (by rfl) rfl Tryd.underlying9 rfl rfl (by first | omega | (simp; done) | (simp; omega) | (simp only [List.length_append, List.length_cons, List.length_nil]; omega)) ?_; simp only [Act.put, List.setIfInBounds_toArray, List.set_cons_zero, List.set_cons_succ])
          | (refine DetE.read (v := ?_) (by rfl) (by rfl) ?_ ?_; rotate_left; (· (intro wq hSq hkq; obtain ⟨c12, c13, c14, c15, c16, c17, c18, c19, c20, c21⟩ := HJ.out _ (HW14.out.trans (hSq.mono HW14.out.size)); go_simp; try with_reducible rfl)); simp only [Act.put, List.setIfInBounds_toArray, List.set_cons_zero, List.set_cons_succ])
          | fail)
        refine DetE.read (v := ?_) (by rfl) (by rfl) ?_ ?_
        rotate_left
        · intro wq hSq hkq
          have hk := (hkq 9 _ rfl (by kernel_rfl)).c
          go_simp
          try with_reducible rfl
        simp only [Act.put, List.setIfInBounds_toArray, List.set_cons_zero, List.set_cons_succ]
        repeat (first
          | (refine DetE.cat (by rfl) (by rfl) rfl Tryd.underlying9 rfl rfl (by first | omega | (simp; done) | (simp; omega) | (simp only [List.length_append, List.length_cons, List.length_nil]; omega)) ?_; simp only [Act.put, List.setIfInBounds_toArray, List.set_cons_zero, List.set_cons_succ])
          | (refine DetE.read (v := ?_) (by rfl) (by rfl) ?_ ?_; rotate_left; (· (intro wq hSq hkq; obtain ⟨c12, c13, c14, c15, c16, c17, c18, c19, c20, c21⟩ := HJ.out _ (HW14.out.trans (hSq.mono HW14.out.size)); go_simp; try with_reducible rfl)); simp only [Act.put, List.setIfInBounds_toArray, List.set_cons_zero, List.set_cons_succ])
          | fail)
        refine DetE.eff _ _ (by rfl) (by rfl) (fun wq hSq hkq K hK => ?_) (fun g3 => ?_)
        · go_simp
          have hb4 := fun o => (Below.refl wq.heap.size wq).alloc (Nat.le_refl _) o
          exact hK.out (none, wq.heap.size) _ (hSq.trans ((hb4 _).mono hSq.size)) (hb4 _) (alloc_at wq wRemove _ rfl dr (by assumption) _ HWd.out.2.2.2.2.1.symm) _ (by first | rfl | simp only [Act.put, List.setIfInBounds_toArray, List.set_cons_zero, List.set_cons_succ, List.cons_append, List.nil_append, List.append_assoc])
        simp only [Act.put, List.setIfInBounds_toArray, List.set_cons_zero, List.set_cons_succ]
        repeat (first
          | (refine DetE.cat (by rfl) (by rfl) rfl Tryd.underlying9 rfl rfl (by first | omega | (simp; done) | (simp; omega) | (simp only [List.length_append, List.length_cons, List.length_nil]; omega)) ?_; simp only [Act.put, List.setIfInBounds_toArray, List.set_cons_zero, List.set_cons_succ])
          | (refine DetE.read (v := ?_) (by rfl) (by rfl) ?_ ?_; rotate_left; (· (intro wq hSq hkq; obtain ⟨c12, c13, c14, c15, c16, c17, c18, c19, c20, c21⟩ := HJ.out _ (HW14.out.trans (hSq.mono HW14.out.size)); go_simp; try with_reducible rfl)); simp only [Act.put, List.setIfInBounds_toArray, List.set_cons_zero, List.set_cons_succ])
          | fail)
        refine DetE.read (v := ?_) (by rfl) (by rfl) ?_ ?_
        rotate_left
        · intro wq hSq hkq
          have hk := (hkq 16 _ rfl (by kernel_rfl)).c
          go_simp
          try with_reducible rfl
        simp only [Act.put, List.setIfInBounds_toArray, List.set_cons_zero, List.set_cons_succ]
        repeat (first
          | (refine DetE.cat (by rfl) (by rfl) rfl Tryd.underlying9 rfl rfl (by first | omega | (simp; done) | (simp; omega) | (simp only [List.length_append, List.length_cons, List.length_nil]; omega)) ?_; simp only [Act.put, List.setIfInBounds_toArray, List.set_cons_zero, List.set_cons_succ])
          | (refine DetE.read (v := ?_) (by rfl) (by rfl) ?_ ?_; rotate_left; (· (intro wq hSq hkq; obtain ⟨c12, c13, c14, c15, c16, c17, c18, c19, c20, c21⟩ := HJ.out _ (HW14.out.trans (hSq.mono HW14.out.size)); go_simp; try with_reducible rfl)); simp only [Act.put, List.setIfInBounds_toArray, List.set_cons_zero, List.set_cons_succ])
          | fail)
        refine DetE.done fun wz hz hkz => ?_
        have HW15 := Lib.hid (HW14.out.trans (hz.mono HW14.out.size))
        clear hz hkz
        obtain ⟨w15, hw⟩ : ∃ x, x = wz := ⟨wz, rfl⟩
        subst hw
        obtain ⟨s15, hs⟩ : ∃ x, x = s14 ++ [106, 111, 105, 110, 32] ++ wjo ++ [32, 59, 10, 104, 105, 115, 116, 111, 114, 121, 32] ++ whi ++ [32, 59, 10, 114, 101, 109, 111, 118, 101, 32] ++ wre := ⟨_, rfl⟩
        have hs' := hs
        simp only [List.cons_append, List.nil_append, List.append_assoc] at hs'
        rw [← hs']
        have HS15 := Lib.hid hs
        have hls15 : s15.length ≤ 2200 := by rw [hs]; simp; omega
        clear hs hs'
        go_wp2_with fail
        refine wp_region_below [(2, fun g => .slice (some ⟨g.2, 0, none⟩) 5 5, fun g w => CellAt g.2 dl (.string (bs wle)) w)] (by kernel_rfl) (by kernel_rfl) (by repeat (first | exact trivial | refine ⟨fun g wa wb hs hs' ht h => by first | exact trivial | exact h.now ht | exact h.below ht | exact ht.cell h | exact h, ?_⟩)) ?_
        rw [List.toList_toArray]
        repeat (first
          | (refine DetE.cat (by rfl) (by rfl) rfl Tryd.underlying9 rfl rfl (by first | omega | (simp; done) | (simp; omega) | (simp only [List.length_append, List.length_cons, List.length_nil]; omega)) ?_; simp only [Act.put, List.setIfInBounds_toArray, List.set_cons_zero, List.set_cons_succ])
          | (refine DetE.read (v := ?_) (by rfl) (by rfl) ?_ ?_; rotate_left; (· (intro wq hSq hkq; obtain ⟨c12, c13, c14, c15, c16, c17, c18, c19, c20, c21⟩ := HJ.out _ (HW15.out.trans (hSq.mono HW15.out.size)); go_simp; try with_reducible rfl)); simp only [Act.put, List.setIfInBounds_toArray, List.set_cons_zero, List.set_cons_succ])
          | fail)
        refine DetE.eff _ _ (by rfl) (by rfl) (fun wq hSq hkq K hK => ?_) (fun g1 => ?_)
        · go_simp
          refine (rLevels_any _).mono ?_
          rintro e4 w4 ⟨rfl, hs, hb4⟩
          have hct := tab_cell hs (k := dl) bl
          rw [← HWd.out.2.2.2.2.2] at hct
          have hca := cellAt_of hct
          clear hs hct
          go_wp2_with fail
          exact hK.out (none, wq.heap.size) _ (hSq.trans (hb4.mono hSq.size)) hb4 hca _ (by first | rfl | simp only [Act.put, List.setIfInBounds_toArray, List.set_cons_zero, List.set_cons_succ, List.cons_append, List.nil_append, List.append_assoc])
        simp only [Act.put, List.setIfInBounds_toArray, List.set_cons_zero, List.set_cons_succ]
        repeat (first
          | (refine DetE.cat (by rfl) (by rfl) rfl Tryd.underlying9 rfl rfl (by first | omega | (simp; done) | (simp; omega) | (simp only [List.length_append, List.length_cons, List.length_nil]; omega)) ?_; simp only [Act.put, List.setIfInBounds_toArray, List.set_cons_zero, List.set_cons_succ])
          | (refine DetE.read (v := ?_) (by rfl) (by rfl) ?_ ?_; rotate_left; (· (intro wq hSq hkq; obtain ⟨c12, c13, c14, c15, c16, c17, c18, c19, c20, c21⟩ := HJ.out _ (HW15.out.trans (hSq.mono HW15.out.size)); go_simp; try with_reducible rfl)); simp only [Act.put, List.setIfInBounds_toArray, List.set_cons_zero, List.set_cons_succ])
          | fail)
        refine DetE.read (v := ?_) (by rfl) (by rfl) ?_ ?_
        rotate_left
        · intro wq hSq hkq
          have hk := (hkq 2 _ rfl (by kernel_rfl)).c
          go_simp
          try with_reducible rfl
        simp only [Act.put, List.setIfInBounds_toArray, List.set_cons_zero, List.set_cons_succ]
        repeat (first
          | (refine DetE.cat (by rfl) (by rfl) rfl Tryd.underlying9 rfl rfl (by first | omega | (simp; done) | (simp; omega) | (simp only [List.length_append, List.length_cons, List.length_nil]; omega)) ?_; simp only [Act.put, List.setIfInBounds_toArray, List.set_cons_zero, List.set_cons_succ])
          | (refine DetE.read (v := ?_) (by rfl) (by rfl) ?_ ?_; rotate_left; (· (intro wq hSq hkq; obtain ⟨c12, c13, c14, c15, c16, c17, c18, c19, c20, c21⟩ := HJ.out _ (HW15.out.trans (hSq.mono HW15.out.size)); go_simp; try with_reducible rfl)); simp only [Act.put, List.setIfInBounds_toArray, List.set_cons_zero, List.set_cons_succ])
          | fail)
        refine DetE.done fun wz hz hkz => ?_
        have HW16 := Lib.hid (HW15.out.trans (hz.mono HW15.out.size))
        clear hz hkz
        obtain ⟨w16, hw⟩ : ∃ x, x = wz := ⟨wz, rfl⟩
        subst hw
        obtain ⟨s16, hs⟩ : ∃ x, x = s15 ++ [32, 59, 10, 114, 101, 99, 101, 105, 112, 116, 115, 32] ++ wle := ⟨_, rfl⟩
        have hs' := hs
        simp only [List.cons_append, List.nil_append, List.append_assoc] at hs'
        rw [← hs']
        have HS16 := Lib.hid hs
        have hls16 : s16.length ≤ 2300 := by rw [hs]; simp; omega
        clear hs hs'
        have c17 := (HJ.out _ HW16.out).2.2.2.2.2.1
        go_upto_if 132 with fail
        go_cut [4] (fun v wx => v = .string (bs (s16 ++ (if P.batch then [32, 98, 97, 116, 99, 104] else []))) ∧ Below w1.heap.size w1 wx)
        case first =>
          cases hbt : P.batch with
          | true =>
            have HBt := Lib.hid hbt
            clear hbt
            go_wp2_with (first
                | ((with_reducible show wpList _ _ _ (Oper.mk _ (Op.binOp .add 9 _ _ _) _ _ _ _ :: _) _ _); refine wp_cat rfl rfl Tryd.underlying9 rfl rfl (by first | omega | (simp; done) | (simp; omega)) ?_)
                | fail)
            go_meet
            exact ⟨by rw [HBt.out]; rfl, HW16.out⟩
          | false =>
            have HBt := Lib.hid hbt
            clear hbt
            go_wp2_with fail
            go_meet
            exact ⟨by rw [HBt.out]; simp, HW16.out⟩
        case rest =>
          obtain ⟨rfl, hw⟩ := hcut
          have HW18 := Lib.hid hw
          obtain ⟨w18, hw18⟩ : ∃ x, x = wc := ⟨wc, rfl⟩
          subst hw18
          obtain ⟨s18, hs18⟩ : ∃ x, x = s16 ++ (if P.batch then [32, 98, 97, 116, 99, 104] else []) := ⟨_, rfl⟩
          rw [← hs18]
          have HS18 := Lib.hid hs18
          have hls18 : s18.length ≤ 2400 := by rw [hs18]; split <;> simp <;> omega
          clear hs18 hw c17
          go_wp2_with fail
          refine wp_region_below [(4, fun _ => .string (bs (Lib.decDigits nra)), fun _ _ => True), (9, fun _ => .string (bs (Lib.decDigits ndo)), fun _ _ => True), (14, fun _ => .string (bs (Lib.decDigits nwi)), fun _ _ => True)] (by kernel_rfl) (by kernel_rfl) (by repeat (first | exact trivial | refine ⟨fun g wa wb hs hs' ht h => by first | exact trivial | exact h.now ht | exact h.below ht | exact ht.cell h | exact h, ?_⟩)) ?_
          rw [List.toList_toArray]
          repeat (first
            | (refine DetE.cat (by rfl) (by rfl) rfl Tryd.underlying9 rfl rfl (by first | omega | (simp; done) | (simp; omega) | (simp only [List.length_append, List.length_cons, List.length_nil]; omega)) ?_; simp only [Act.put, List.setIfInBounds_toArray, List.set_cons_zero, List.set_cons_succ])
            | (refine DetE.read (v := ?_) (by rfl) (by rfl) ?_ ?_; rotate_left; (· (intro wq hSq hkq; obtain ⟨c12, c13, c14, c15, c16, c17, c18, c19, c20, c21⟩ := HJ.out _ (HW18.out.trans (hSq.mono HW18.out.size)); go_simp; try with_reducible rfl)); simp only [Act.put, List.setIfInBounds_toArray, List.set_cons_zero, List.set_cons_succ])
            | fail)
          refine DetE.eff _ _ (by rfl) (by rfl) (fun wq hSq hkq K hK => ?_) (fun g2 => ?_)
          · go_simp
            refine (rNumF_any _ _ (by omega)).mono ?_
            rintro e4 w4 ⟨rfl, rfl⟩
            go_wp2_with fail
            exact hK.out (none, 0) _ hSq (Below.refl _ _) trivial _ (by first | rfl | simp only [Act.put, List.setIfInBounds_toArray, List.set_cons_zero, List.set_cons_succ, List.cons_append, List.nil_append, List.append_assoc])
          simp only [Act.put, List.setIfInBounds_toArray, List.set_cons_zero, List.set_cons_succ]
          repeat (first
            | (refine DetE.cat (by rfl) (by rfl) rfl Tryd.underlying9 rfl rfl (by first | omega | (simp; done) | (simp; omega) | (simp only [List.length_append, List.length_cons, List.length_nil]; omega)) ?_; simp only [Act.put, List.setIfInBounds_toArray, List.set_cons_zero, List.set_cons_succ])
            | (refine DetE.read (v := ?_) (by rfl) (by rfl) ?_ ?_; rotate_left; (· (intro wq hSq hkq; obtain ⟨c12, c13, c14, c15, c16, c17, c18, c19, c20, c21⟩ := HJ.out _ (HW18.out.trans (hSq.mono HW18.out.size)); go_simp; try with_reducible rfl)); simp only [Act.put, List.setIfInBounds_toArray, List.set_cons_zero, List.set_cons_succ])
            | fail)
          refine DetE.eff _ _ (by rfl) (by rfl) (fun wq hSq hkq K hK => ?_) (fun g2 => ?_)
          · go_simp
            refine (rNumF_any _ _ (by omega)).mono ?_
            rintro e4 w4 ⟨rfl, rfl⟩
            go_wp2_with fail
            exact hK.out (none, 0) _ hSq (Below.refl _ _) trivial _ (by first | rfl | simp only [Act.put, List.setIfInBounds_toArray, List.set_cons_zero, List.set_cons_succ, List.cons_append, List.nil_append, List.append_assoc])
          simp only [Act.put, List.setIfInBounds_toArray, List.set_cons_zero, List.set_cons_succ]
          repeat (first
            | (refine DetE.cat (by rfl) (by rfl) rfl Tryd.underlying9 rfl rfl (by first | omega | (simp; done) | (simp; omega) | (simp only [List.length_append, List.length_cons, List.length_nil]; omega)) ?_; simp only [Act.put, List.setIfInBounds_toArray, List.set_cons_zero, List.set_cons_succ])
            | (refine DetE.read (v := ?_) (by rfl) (by rfl) ?_ ?_; rotate_left; (· (intro wq hSq hkq; obtain ⟨c12, c13, c14, c15, c16, c17, c18, c19, c20, c21⟩ := HJ.out _ (HW18.out.trans (hSq.mono HW18.out.size)); go_simp; try with_reducible rfl)); simp only [Act.put, List.setIfInBounds_toArray, List.set_cons_zero, List.set_cons_succ])
            | fail)
          refine DetE.eff _ _ (by rfl) (by rfl) (fun wq hSq hkq K hK => ?_) (fun g2 => ?_)
          · go_simp
            refine (rNumF_any _ _ (by omega)).mono ?_
            rintro e4 w4 ⟨rfl, rfl⟩
            go_wp2_with fail
            exact hK.out (none, 0) _ hSq (Below.refl _ _) trivial _ (by first | rfl | simp only [Act.put, List.setIfInBounds_toArray, List.set_cons_zero, List.set_cons_succ, List.cons_append, List.nil_append, List.append_assoc])
          simp only [Act.put, List.setIfInBounds_toArray, List.set_cons_zero, List.set_cons_succ]
          repeat (first
            | (refine DetE.cat (by rfl) (by rfl) rfl Tryd.underlying9 rfl rfl (by first | omega | (simp; done) | (simp; omega) | (simp only [List.length_append, List.length_cons, List.length_nil]; omega)) ?_; simp only [Act.put, List.setIfInBounds_toArray, List.set_cons_zero, List.set_cons_succ])
            | (refine DetE.read (v := ?_) (by rfl) (by rfl) ?_ ?_; rotate_left; (· (intro wq hSq hkq; obtain ⟨c12, c13, c14, c15, c16, c17, c18, c19, c20, c21⟩ := HJ.out _ (HW18.out.trans (hSq.mono HW18.out.size)); go_simp; try with_reducible rfl)); simp only [Act.put, List.setIfInBounds_toArray, List.set_cons_zero, List.set_cons_succ])
            | fail)
          refine DetE.done fun wz hz hkz => ?_
          have HW19 := Lib.hid (HW18.out.trans (hz.mono HW18.out.size))
          clear hz hkz
          obtain ⟨w19, hw⟩ : ∃ x, x = wz := ⟨wz, rfl⟩
          subst hw
          obtain ⟨s19, hs⟩ : ∃ x, x = s18 ++ [32, 59, 10, 114, 97, 116, 101, 32] ++ Lib.decDigits nra ++ [32, 100, 111, 119, 110, 32] ++ Lib.decDigits ndo ++ [32, 111, 102, 32] ++ Lib.decDigits nwi ++ [32, 59, 10] := ⟨_, rfl⟩
          have hs' := hs
          simp only [List.cons_append, List.nil_append, List.append_assoc] at hs'
          rw [← hs']
          have HS19 := Lib.hid hs
          have hls19 : s19.length ≤ 2600 := by rw [hs]; simp; omega
          clear hs hs'
          have c21 := (HJ.out _ HW19.out).2.2.2.2.2.2.2.2.2
          go_upto_if 154 with fail
          go_cut [4] (fun v wx => v = .string (bs (s19 ++ (if 0 < nke then [107, 101, 101, 112, 32] ++ Lib.decDigits nke ++ [32, 59, 10] else []))) ∧ Below w1.heap.size w1 wx)
          case first =>
            by_cases hk0 : 0 < nke
            · have HE : Hid ((if 0 < nke then [107, 101, 101, 112, 32] ++ Lib.decDigits nke ++ [32, 59, 10] else []) = [107, 101, 101, 112, 32] ++ Lib.decDigits nke ++ [32, 59, 10]) := Lib.hid (if_pos hk0)
              have hkb : ((nke : Int) != 0) = true := by simp; omega
              go_wp2_with (first
                  | ((with_reducible show wpList _ _ _ (Oper.mk _ (Op.binOp .add 9 _ _ _) _ _ _ _ :: _) _ _); refine wp_cat rfl rfl Tryd.underlying9 rfl rfl (by first | omega | (simp; done) | (simp; omega)) ?_)
                  | fail)
              refine (rNumF_any nke _ bke).mono ?_
              rintro e wy ⟨rfl, rfl⟩
              go_wp2_with (first
                  | ((with_reducible show wpList _ _ _ (Oper.mk _ (Op.binOp .add 9 _ _ _) _ _ _ _ :: _) _ _); refine wp_cat rfl rfl Tryd.underlying9 rfl rfl (by first | omega | (simp; done) | (simp; omega)) ?_)
                  | fail)
              go_meet
              exact ⟨by rw [HE.out]; simp, HW19.out⟩
            · have HE : Hid ((if 0 < nke then [107, 101, 101, 112, 32] ++ Lib.decDigits nke ++ [32, 59, 10] else []) = []) := Lib.hid (if_neg hk0)
              have hkb : ((nke : Int) != 0) = false := by simp; omega
              go_wp2_with fail
              go_meet
              exact ⟨by rw [HE.out, List.append_nil], HW19.out⟩
          case rest =>
            obtain ⟨rfl, hw⟩ := hcut
            obtain ⟨s21, hs21⟩ : ∃ x, x = s19 ++ (if 0 < nke then [107, 101, 101, 112, 32] ++ Lib.decDigits nke ++ [32, 59, 10] else []) := ⟨_, rfl⟩
            rw [← hs21]
            have HF : Hid (s21 = printF P) := Lib.hid (by
              rw [← HPL.out.1, hs21, HS19.out, HS18.out, HS16.out, HS15.out, HS14.out, HS7.out, HS6.out, HS5.out, HS3.out]
              exact print_ref P nm wde wth wjo whi wre wle nwt nsz npa nfi nby nra ndo nwi nke HR.out HNm.out (by rw [HD.out.1]; exact HWd.out.1) (by rw [HD.out.2.1]; exact HWd.out.2.1) (by rw [HD.out.2.2.1]; exact HWd.out.2.2.1) (by rw [HD.out.2.2.2.1]; exact HWd.out.2.2.2.1)
                (by rw [HD.out.2.2.2.2.1]; exact HWd.out.2.2.2.2.1) (by rw [HD.out.2.2.2.2.2.1]; exact HWd.out.2.2.2.2.2) HN.out HD.out.2.2.2.2.2.2)
            have hl21 : s21.length ≤ 1617 := by rw [HF.out]; exact HPL.out.2
            have HO : Hid (PrintOut P w (.returned (.tuple #[.string (bs s21), .int .i64 0])) wc) := Lib.hid ⟨by rw [HPR.out, HF.out]; rfl, HB1.out.trans (hw.mono (by omega))⟩
            have hs2 : (bs s21).size = s21.length := bs_size _
            have hp2 : decide ((2000 : Int) < (s21.length : Int)) = false := by simp; omega
            clear hs21 hw c21
            go_wp2_with fail
            go_ret2
            exact HO.out
end Go.Proofs.YtnaejabgkfhlbaaDoor
