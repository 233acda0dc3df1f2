/- Two disks at once; the contract of small: the examples of the document. -/
import Derived.Test.YtjgeefagnddpfaaDkL
namespace Go.Proofs.Ytjgeefagnddpfaa
open Go.RowKit

/-- Two disks that share nothing that either changes; nothing of them lies below B. -/
structure Two (B : Nat) (w : World) (p : Nat) (S : DS) (L : DL) (q : Nat) (T : DS) (M : DL) : Prop where
  l : DK w p S L
  r : DK w q T M
  lo : Own B p L
  ro : Own B q M
  ap : ∀ i, L.own p i → ¬ M.own q i
  kl : ∀ i, slBlk L.kA = some i → ¬ M.own q i
  kr : ∀ i, slBlk M.kA = some i → ¬ L.own p i
theorem Two.symm {B p q : Nat} {w : World} {S T : DS} {L M : DL} (t : Two B w p S L q T M) : Two B w q T M p S L := ⟨t.r, t.l, t.ro, t.lo, fun i h1 h2 => t.ap i h2 h1, t.kr, t.kl⟩
theorem Two.left {B p q : Nat} {w w' : World} {S S' T : DS} {L M : DL} (t : Two B w p S L q T M) (hB : B ≤ w.heap.size) (u : Upd p S' L w w') : ∃ L', Two B w' p S' L' q T M ∧ Below B w w' := by
  obtain ⟨L', d, tt, o, k⟩ := u
  refine ⟨L', ⟨d, t.r.frame tt (fun i hi hF => ?_), ⟨fun i hi => ?_⟩, t.ro, fun i h1 h2 => ?_, fun i h1 h2 => ?_, fun i h1 h2 => ?_⟩, tt.to_below hB t.lo.own⟩
  · rcases hi with hi | hi
    · exact t.ap i hF hi
    · exact t.kr i hi hF
  · rcases o i hi with h | h
    · exact t.lo.own i h
    · omega
  · rcases o i h1 with h | h
    · exact t.ap i h h2
    · have := t.r.lt i h2
      omega
  · rcases k i h1 with h | h
    · exact t.kl i h h2
    · have := t.r.lt i h2
      omega
  · rcases o i h2 with h | h
    · exact t.kr i h1 h
    · have := t.r.kl i h1
      omega
theorem Two.right {B p q : Nat} {w w' : World} {S T T' : DS} {L M : DL} (t : Two B w p S L q T M) (hB : B ≤ w.heap.size) (u : Upd q T' M w w') : ∃ M', Two B w' p S L q T' M' ∧ Below B w w' := by
  obtain ⟨M', t', b⟩ := t.symm.left hB u
  exact ⟨M', t'.symm, b⟩
theorem Two.below {B p q : Nat} {w w' : World} {S T : DS} {L M : DL} (t : Two B w p S L q T M) (hb : Below w.heap.size w w') : Two B w' p S L q T M := ⟨t.l.below hb, t.r.below hb, t.lo, t.ro, t.ap, t.kl, t.kr⟩
theorem Two.of_copy {B p q : Nat} {w w' : World} {S : DS} {L M : DL} (d : DK w p S L) (o : Own B p L) (hB : B ≤ w.heap.size) (hb : Below w.heap.size w w') (m : DK w' q S M) (mo : ∀ i, M.own q i → w.heap.size ≤ i) (mk : M.kA = L.kA) : Two B w' p S L q S M :=
  ⟨d.below hb, m, o, ⟨fun i hi => Nat.le_trans hB (mo i hi)⟩, fun i h1 h2 => by have := d.lt i h1; have := mo i h2; omega, fun i h1 h2 => by have := d.kl i h1; have := mo i h2; omega, fun i h1 h2 => d.kp i (by rw [← mk]; exact h1) h2⟩

def sAbc : ByteArray := ⟨#[97, 98, 99]⟩
def sXY : ByteArray := ⟨#[88, 89]⟩
def sAbcd : ByteArray := ⟨#[97, 98, 99, 100]⟩
def sA : ByteArray := ⟨#[97]⟩
def sm1 : DS := DS.new.write 0 0 sAbc
def sm2 : DS := sm1.sync 0
def sm3 : DS := sm2.write 0 1 sXY
def sm4 : DS := sm3.crash [1]
def sm5 : DS := sm4.start
def tm1 : DS := sm3.crash [0]
def tm2 : DS := tm1.start
def tm3 : DS := tm2.write 1 62 sAbcd
def tm4 : DS := tm3.crash [0, 1]
def tm5 : DS := tm4.start
def tm6 : DS := tm5.write 16 0 e0
theorem smA : DS.new.writeC 0 0 sAbc = 0 := by decide
theorem smB : sm1.syncC 0 = 0 := by decide
theorem smC : sm4.down = true := by decide
theorem smD : sm4.readC 0 0 9 = 8 := by decide
theorem smE : sm5.readC 0 0 9 = 0 := by decide
theorem smF : sm5.readS 0 0 9 = ⟨#[97, 88, 89]⟩ := by decide
theorem smG : tm2.readC 0 1 9 = 0 := by decide
theorem smH : tm2.readS 0 1 9 = ⟨#[98, 99]⟩ := by decide
theorem smI : tm2.writeC 1 62 sAbcd = 0 := by decide
theorem smJ : tm5.readC 1 60 100 = 0 := by decide
theorem smK : tm5.readS 1 60 100 = ⟨#[0, 0, 0, 0, 99, 100]⟩ := by decide
theorem smL : (tm5.files 1).1.size = 66 := by decide
theorem smM : tm5.writeC 16 0 e0 = 1 := by decide
theorem smN : tm6.writeC 1 16777216 sA = 6 := by decide

theorem keep_one {w : World} (xs : List Int) (cs : Array Value) (t : TypeId) (h : cs.toList = xs.flatMap intC) : RdL 1 intC (w.alloc (.cells cs t)) (w.alloc (.cells cs t)).heap.size (some ⟨w.heap.size, 0, none⟩) xs := by
  intro k x hx
  refine ⟨_, _, rfl, by simp, fun j v hj => ?_⟩
  have hg := flat_get intLay xs k j x v hx hj
  rw [← h] at hg
  unfold World.cell?
  simp only [heap_alloc_new]
  simpa using hg
set_option maxRecDepth 100000 in
set_option maxHeartbeats 4000000 in
theorem lSmall_any (w : World) : Calls Try.prog 8 #[] w fun e w' => e = .returned (.bool true) ∧ Below w.heap.size w w' := by
  go_enter Try.func8, Try.ntmps8
  go_wp2_with fail
  refine (dNew_any w).mono ?_
  rintro e w1 ⟨rfl, hb1, L0, D, o0, _⟩
  obtain ⟨p, hp⟩ : ∃ p, p = w.heap.size + 2 := ⟨_, rfl⟩
  rw [← hp] at D o0
  simp only [← hp]
  clear hp
  have O : Own w.heap.size p L0 := ⟨o0⟩
  have HB := Lib.hid hb1
  have hz := hb1.size
  clear hb1 o0
  go_wp2_with fail
  have H1 := dWrite_any p DS.new L0 w1 0 0 sAbc (by unfold inI64; omega) (by unfold inI64; omega) (by decide) (by decide) D
  rw [smA] at H1
  refine H1.mono ?_
  rintro e w2 ⟨rfl, hu⟩
  obtain ⟨L1, D1, O1, _, hb2⟩ := O.upd hz hu
  have HB := Lib.hid (HB.out.trans hb2)
  have hz := HB.out.size
  clear D O hu H1 hb2
  go_wp2_with fail
  have H1 := dSync_any p sm1 L1 w2 0 (by unfold inI64; omega) (by decide) D1
  rw [smB] at H1
  refine H1.mono ?_
  rintro e w3 ⟨rfl, hu⟩
  obtain ⟨L2, D2, O2, _, hb2⟩ := O1.upd hz hu
  have HB := Lib.hid (HB.out.trans hb2)
  have hz := HB.out.size
  clear D1 O1 hu H1 hb2
  go_wp2_with fail
  refine (dWrite_any p sm2 L2 w3 0 1 sXY (by unfold inI64; omega) (by unfold inI64; omega) (by decide) (by decide) D2).mono ?_
  rintro e w4 ⟨rfl, hu⟩
  obtain ⟨L3, D3, O3, _, hb2⟩ := O2.upd hz hu
  have HB := Lib.hid (HB.out.trans hb2)
  have hz := HB.out.size
  clear D2 O2 hu hb2
  go_wp2_with fail
  refine (dCopy_any p sm3 L3 w4 D3).mono ?_
  rintro e w5 ⟨q, M3, rfl, hb2, dm, om, mk⟩
  have T := Lib.hid (Two.of_copy D3 O3 hz hb2 dm om mk)
  have HB := Lib.hid (HB.out.trans (hb2.mono hz))
  have hz := HB.out.size
  clear D3 O3 hb2 dm om mk
  go_wp2_with fail
  go_wp2_with fail
  obtain ⟨wo, hwo⟩ : ∃ x, x = w5 := ⟨_, rfl⟩
  have hb1 : Below wo.heap.size wo (wo.alloc (.cells #[.int .i64 1] 3)) := (Below.refl _ _).alloc (Nat.le_refl _) _
  have N1 := Lib.hid (show ∀ i, slBlk (some (⟨wo.heap.size, 0, none⟩ : Addr)) = some i → i = wo.heap.size from fun i hi => by injection hi with hi; exact hi.symm)
  have NL := Lib.hid (show ∀ i, i = wo.heap.size → ¬ L3.own p i from fun i hi h => by have := T.out.l.lt i h; rw [hwo] at *; omega)
  have K1 := Lib.hid (keep_one (w := wo) [1] #[.int .i64 1] 3 rfl)
  rw [hwo] at hb1 N1 NL K1
  have T := Lib.hid (T.out.below hb1)
  have HB := Lib.hid (HB.out.trans (hb1.mono hz))
  have hz := HB.out.size
  clear hb1 hwo
  refine (dCrash_any p sm3 L3 _ [1] _ 1 K1.out (by decide) (fun _ i hi => NL.out i (N1.out i hi)) T.out.l).mono ?_
  rintro e w6 ⟨rfl, hu⟩
  obtain ⟨L4, tn, hbn⟩ := T.out.left hz hu
  have T : Hid (Two w.heap.size w6 p sm4 L4 q sm3 M3) := Lib.hid tn
  have HB := Lib.hid (HB.out.trans hbn)
  have hz := HB.out.size
  clear tn hbn hu K1 N1 NL
  go_wp2_with fail
  refine (dDown_any p sm4 L4 w6 T.out.l).mono ?_
  rintro e wx ⟨rfl, hw⟩
  obtain rfl := hw.symm
  rw [smC]
  go_wp2_with fail
  have HR := Lib.hid (dRead_any p sm4 L4 w6 0 0 9 (by unfold inI64; omega) T.out.l)
  rw [smD] at HR
  refine HR.out.mono ?_
  rintro e wx ⟨rfl, hw⟩
  obtain rfl := hw.symm
  clear HR
  go_wp2_with fail
  refine (dStart_any p sm4 L4 w6 T.out.l).mono ?_
  rintro e w7 ⟨rfl, hu⟩
  obtain ⟨L5, tn, hbn⟩ := T.out.left hz hu
  have T : Hid (Two w.heap.size w7 p sm5 L5 q sm3 M3) := Lib.hid tn
  have HB := Lib.hid (HB.out.trans hbn)
  have hz := HB.out.size
  clear tn hbn hu
  go_wp2_with fail
  have HR := Lib.hid (dRead_any p sm5 L5 w7 0 0 9 (by unfold inI64; omega) T.out.l)
  rw [smE, smF] at HR
  refine HR.out.mono ?_
  rintro e wx ⟨rfl, hw⟩
  obtain rfl := hw.symm
  clear HR
  go_wp2_with fail
  obtain ⟨wo, hwo⟩ : ∃ x, x = w7 := ⟨_, rfl⟩
  have hb1 : Below wo.heap.size wo (wo.alloc (.cells #[.int .i64 0] 3)) := (Below.refl _ _).alloc (Nat.le_refl _) _
  have N1 := Lib.hid (show ∀ i, slBlk (some (⟨wo.heap.size, 0, none⟩ : Addr)) = some i → i = wo.heap.size from fun i hi => by injection hi with hi; exact hi.symm)
  have NL := Lib.hid (show ∀ i, i = wo.heap.size → ¬ M3.own q i from fun i hi h => by have := T.out.r.lt i h; rw [hwo] at *; omega)
  have K1 := Lib.hid (keep_one (w := wo) [0] #[.int .i64 0] 3 rfl)
  rw [hwo] at hb1 N1 NL K1
  have T := Lib.hid (T.out.below hb1)
  have HB := Lib.hid (HB.out.trans (hb1.mono hz))
  have hz := HB.out.size
  clear hb1 hwo
  refine (dCrash_any q sm3 M3 _ [0] _ 1 K1.out (by decide) (fun _ i hi => NL.out i (N1.out i hi)) T.out.r).mono ?_
  rintro e w8 ⟨rfl, hu⟩
  obtain ⟨M4, tn, hbn⟩ := T.out.right hz hu
  have T : Hid (Two w.heap.size w8 p sm5 L5 q tm1 M4) := Lib.hid tn
  have HB := Lib.hid (HB.out.trans hbn)
  have hz := HB.out.size
  clear tn hbn hu K1 N1 NL
  go_wp2_with fail
  refine (dStart_any q tm1 M4 w8 T.out.r).mono ?_
  rintro e w9 ⟨rfl, hu⟩
  obtain ⟨M5, tn, hbn⟩ := T.out.right hz hu
  have T : Hid (Two w.heap.size w9 p sm5 L5 q tm2 M5) := Lib.hid tn
  have HB := Lib.hid (HB.out.trans hbn)
  have hz := HB.out.size
  clear tn hbn hu
  go_wp2_with fail
  have HR := Lib.hid (dRead_any q tm2 M5 w9 0 1 9 (by unfold inI64; omega) T.out.r)
  rw [smG, smH] at HR
  refine HR.out.mono ?_
  rintro e wx ⟨rfl, hw⟩
  obtain rfl := hw.symm
  clear HR
  go_wp2_with fail
  have HR := Lib.hid (dWrite_any q tm2 M5 w9 1 62 sAbcd (by unfold inI64; omega) (by unfold inI64; omega) (by decide) (by decide) T.out.r)
  rw [smI] at HR
  refine HR.out.mono ?_
  rintro e w10 ⟨rfl, hu⟩
  obtain ⟨M6, tn, hbn⟩ := T.out.right hz hu
  have T : Hid (Two w.heap.size w10 p sm5 L5 q tm3 M6) := Lib.hid tn
  have HB := Lib.hid (HB.out.trans hbn)
  have hz := HB.out.size
  clear tn hbn hu HR
  go_wp2_with fail
  obtain ⟨wo, hwo⟩ : ∃ x, x = w10 := ⟨_, rfl⟩
  have hb1 : Below wo.heap.size wo (wo.alloc (.cells #[.int .i64 0, .int .i64 1] 3)) := (Below.refl _ _).alloc (Nat.le_refl _) _
  have N1 := Lib.hid (show ∀ i, slBlk (some (⟨wo.heap.size, 0, none⟩ : Addr)) = some i → i = wo.heap.size from fun i hi => by injection hi with hi; exact hi.symm)
  have NL := Lib.hid (show ∀ i, i = wo.heap.size → ¬ M6.own q i from fun i hi h => by have := T.out.r.lt i h; rw [hwo] at *; omega)
  have K1 := Lib.hid (keep_one (w := wo) [0, 1] #[.int .i64 0, .int .i64 1] 3 rfl)
  rw [hwo] at hb1 N1 NL K1
  have T := Lib.hid (T.out.below hb1)
  have HB := Lib.hid (HB.out.trans (hb1.mono hz))
  have hz := HB.out.size
  clear hb1 hwo
  refine (dCrash_any q tm3 M6 _ [0, 1] _ 2 K1.out (by decide) (fun _ i hi => NL.out i (N1.out i hi)) T.out.r).mono ?_
  rintro e w11 ⟨rfl, hu⟩
  obtain ⟨M7, tn, hbn⟩ := T.out.right hz hu
  have T : Hid (Two w.heap.size w11 p sm5 L5 q tm4 M7) := Lib.hid tn
  have HB := Lib.hid (HB.out.trans hbn)
  have hz := HB.out.size
  clear tn hbn hu K1 N1 NL
  go_wp2_with fail
  refine (dStart_any q tm4 M7 w11 T.out.r).mono ?_
  rintro e w12 ⟨rfl, hu⟩
  obtain ⟨M8, tn, hbn⟩ := T.out.right hz hu
  have T : Hid (Two w.heap.size w12 p sm5 L5 q tm5 M8) := Lib.hid tn
  have HB := Lib.hid (HB.out.trans hbn)
  have hz := HB.out.size
  clear tn hbn hu
  go_wp2_with fail
  have HR := Lib.hid (dRead_any q tm5 M8 w12 1 60 100 (by unfold inI64; omega) T.out.r)
  rw [smJ, smK] at HR
  refine HR.out.mono ?_
  rintro e wx ⟨rfl, hw⟩
  obtain rfl := hw.symm
  clear HR
  have HR := Lib.hid (dSize_any q tm5 M8 w12 1 (by unfold inI64; omega) T.out.r)
  rw [smL] at HR
  go_wp2_with (go_at_call 16; refine HR.out.mono ?_; rintro e wx ⟨rfl, hw⟩; obtain rfl := hw.symm)
  clear HR
  have HR := Lib.hid (dWrite_any q tm5 M8 w12 16 0 e0 (by unfold inI64; omega) (by unfold inI64; omega) (by decide) (by decide) T.out.r)
  rw [smM] at HR
  refine HR.out.mono ?_
  rintro e w13 ⟨rfl, hu⟩
  obtain ⟨M9, tn, hbn⟩ := T.out.right hz hu
  have T : Hid (Two w.heap.size w13 p sm5 L5 q tm6 M9) := Lib.hid tn
  have HB := Lib.hid (HB.out.trans hbn)
  have hz := HB.out.size
  clear tn hbn hu HR
  go_wp2_with fail
  have HR := Lib.hid (dWrite_any q tm6 M9 w13 1 16777216 sA (by unfold inI64; omega) (by unfold inI64; omega) (by decide) (by decide) T.out.r)
  rw [smN] at HR
  refine HR.out.mono ?_
  rintro e w14 ⟨rfl, hu⟩
  obtain ⟨M10, tn, hbn⟩ := T.out.right hz hu
  have HB := Lib.hid (HB.out.trans hbn)
  clear tn hbn hu HR
  go_wp2
  go_ret
  exact ⟨rfl, HB.out⟩
end Go.Proofs.Ytjgeefagnddpfaa
