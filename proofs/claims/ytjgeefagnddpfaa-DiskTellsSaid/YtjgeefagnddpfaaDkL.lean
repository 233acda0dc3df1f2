/- Contracts of played, after, byteAt and same. -/
import Derived.Test.YtjgeefagnddpfaaDkK
namespace Go.Proofs.Ytjgeefagnddpfaa
open Go.RowKit

def playS (S : DS) (l : List ActM) : DS := l.foldl DS.doS S
/-- A disk of the call's own: nothing of it lies below B, and its list of numbers lies in the arguments or is its own. -/
structure Own (B p : Nat) (L : DL) : Prop where
  own : ∀ i, L.own p i → B ≤ i
theorem Own.upd {B p : Nat} {S : DS} {L : DL} {w w' : World} (h : Own B p L) (hB : B ≤ w.heap.size) (u : Upd p S L w w') : ∃ L', DK w' p S L' ∧ Own B p L' ∧ Turn (L.own p) w w' ∧ Below B w w' := by
  obtain ⟨L', d, t, o, _⟩ := u
  exact ⟨L', d, ⟨fun i hi => by
    rcases o i hi with h1 | h1
    · exact h.own i h1
    · omega⟩, t, t.to_below hB h.own⟩
/-- What lies below B is apart from the disk. -/
theorem Own.apart {B p : Nat} {L : DL} (h : Own B p L) {w : World} {A : Option Addr} {xs : List Int} (hr : RdL 1 intC w B A xs) (hx : xs ≠ []) : ∀ i, slBlk A = some i → ¬ L.own p i := by
  intro i hi ho
  rcases xs with _ | ⟨x, r⟩
  · exact hx rfl
  · obtain ⟨b, off, e, hb, _⟩ := hr 0 x rfl
    rw [e] at hi
    injection hi with hi
    have := h.own i ho
    have h2 : b = i := hi
    omega
theorem play_take (S : DS) (l : List ActM) (k : Nat) (hk : k < l.length) : playS S (l.take (k + 1)) = (playS S (l.take k)).doS l[k] := by
  unfold playS
  rw [List.take_succ_eq_append_getElem hk, List.foldl_append]
  rfl
theorem play_keep : ∀ (l : List ActM) (S : DS), S.keep.length ≤ 60 → (∀ a ∈ l, ActFew a) → (playS S l).keep.length ≤ 60
  | [], _, h, _ => h
  | a :: r, S, h, hf => play_keep r (S.doS a) (doS_keep h (hf a (by simp))) (fun x hx => hf x (by simp [hx]))
theorem ActOk.now {w w' : World} {a : ActM} (h : ActOk w a) (hb : Below w.heap.size w w') : ActOk w' a := ⟨h.d, h.f, h.n, h.s, h.kl, h.k, h.rd.now hb⟩
set_option maxHeartbeats 1000000 in
theorem lPlayed_any (l : List ActM) (A : Option Addr) (c : Nat) (w : World) (hr : RdL 5 actC w w.heap.size A l) (hl : ∀ a ∈ l, ActOk w a) (hfew : fewB l = true) :
    Calls Try.prog 22 #[.slice A l.length c] w fun e w' => ∃ p L, e = .returned (.pointer (some ⟨p, 0, none⟩)) ∧ DK w' p (playS DS.new l) L ∧ Own w.heap.size p L ∧ Below w.heap.size w w' := by
  obtain ⟨hlen, hfa⟩ := few_ok hfew
  have HL := Lib.hid hl
  have HFA := Lib.hid hfa
  have HR := Lib.hid hr
  clear hl hfa hfew hr
  go_enter Try.func22, Try.ntmps22
  go_wp2_with fail
  refine (dNew_any w).mono ?_
  rintro e w1 ⟨rfl, hb1, L0, d0, o0, _⟩
  have HB1 := Lib.hid hb1
  clear hb1
  go_wp2_with fail
  obtain ⟨p, hp⟩ : ∃ p, p = w.heap.size + 2 := ⟨_, rfl⟩
  rw [← hp] at d0 o0
  simp only [← hp]
  clear hp
  go_loopw [4] (fun i wr => ∃ (k : Nat) (L : DL), k ≤ l.length ∧ i = .int .i64 k ∧ DK wr p (playS DS.new (l.take k)) L ∧ Own w.heap.size p L ∧ Below w.heap.size w wr) (fun i _ => l.length - (intOf i).toNat)
  case atStart => exact ⟨0, L0, Nat.zero_le _, rfl, d0, ⟨o0⟩, HB1.out⟩
  case round =>
    clear d0 o0
    obtain ⟨k, L, hk, rfl, d, o, hb⟩ := hrel
    have D := Lib.hid d
    have O := Lib.hid o
    have HB := Lib.hid hb
    have hz := hb.size
    by_cases hlt : k < l.length
    · obtain ⟨b, off, rfl, hbb, c0, c1, c2, c3, c4⟩ := (HR.out.now hb).act hlt
      have hok := HL.out l[k] (List.getElem_mem hlt)
      have hfa := HFA.out l[k] (List.getElem_mem hlt)
      have HD := Lib.hid (lDo_any p (playS DS.new (l.take k)) L wr l[k] (hok.now hb) hfa (play_keep _ _ (by simp [DS.new]) (fun a ha => HFA.out a (List.mem_of_mem_take ha))) (fun hne => O.out.apart hok.rd hne) d)
      have hst := play_take DS.new l k hlt
      rw [← hst] at HD
      have HDc := Lib.hid (show True from trivial)
      clear hst hok hfa d o hb HDc
      generalize l[k] = a at *
      go_wp2_with (go_at_call 12; refine HD.out.mono ?_; rintro e w2 ⟨rfl, hu⟩)
      obtain ⟨L2, d2, o2, t2, hb2⟩ := O.out.upd hz hu
      go_roundw
      case rel => exact ⟨k + 1, L2, by omega, by go_num, d2, o2, HB.out.trans hb2⟩
      case measure => simp [intOf]; omega
    · have hlen2 : l.take k = l := List.take_of_length_le (by omega)
      rw [hlen2] at D
      go_wp2
      go_ret
      exact ⟨p, L, rfl, D.out, O.out, HB.out⟩
def afterS (S : DS) (f : Int) (keep : List Int) : ByteArray := (S.crash keep).start.readS f 0 16777216
def afterC (S : DS) (f : Int) (keep : List Int) : Int := (S.crash keep).start.readC f 0 16777216
theorem lAfter_any (p : Nat) (S : DS) (L : DL) (w : World) (f : Int) (hf : inI64 f) (keep : List Int) (A : Option Addr) (n c : Nat) (hn : n = keep.length) (hr : RdL 1 intC w w.heap.size A keep) (hm : keep.length ≤ 60) (h : DK w p S L) :
    Calls Try.prog 23 #[.pointer (some ⟨p, 0, none⟩), .int .i64 f, .slice A n c] w fun e w' => e = .returned (.tuple #[.string (afterS S f keep), .bool (afterC S f keep == 0)]) ∧ Below w.heap.size w w' := by
  subst hn
  have HR := Lib.hid hr
  have HC := Lib.hid (dCopy_any p S L w h)
  clear hr h
  go_enter Try.func23, Try.ntmps23
  go_wp2_with fail
  refine HC.out.mono ?_
  rintro e w1 ⟨p2, L2, rfl, hb1, d2, o2, _⟩
  have O2 : Hid (Own w.heap.size p2 L2) := Lib.hid ⟨o2⟩
  have HB1 := Lib.hid hb1
  have hz1 := hb1.size
  have HCr := Lib.hid (dCrash_any p2 S L2 w1 keep A c (HR.out.now hb1) (by omega) (fun hne => O2.out.apart HR.out hne) d2)
  clear d2 o2 hb1
  go_wp2_with fail
  refine HCr.out.mono ?_
  rintro e w2 ⟨rfl, hu⟩
  obtain ⟨L3, d3, o3, t3, hb3⟩ := O2.out.upd hz1 hu
  have HB3 := Lib.hid (HB1.out.trans hb3)
  have hz3 := HB3.out.size
  clear hu t3 hb3
  go_wp2_with fail
  refine (dStart_any p2 _ L3 w2 d3).mono ?_
  rintro e w3 ⟨rfl, hu⟩
  obtain ⟨L4, d4, o4, t4, hb4⟩ := o3.upd hz3 hu
  have HB4 := Lib.hid (HB3.out.trans hb4)
  have HRd := Lib.hid (dRead_any p2 _ L4 w3 f 0 16777216 hf d4)
  clear hu t4 hb4 d3 o3 d4 o4
  go_wp2_with fail
  refine HRd.out.mono ?_
  rintro e w4 ⟨rfl, hw4⟩
  obtain rfl := hw4.symm
  go_wp2
  go_ret2
  exact ⟨rfl, HB4.out⟩
def byteB (s : ByteArray) (i : Int) : Int := if i < 0 ∨ s.size ≤ i then 0 else ((s.data.toList.getD i.toNat 0).toNat : Int)
theorem byte_get (s : ByteArray) (n : Nat) (h : n < s.size) : s.data.toList.getD n 0 = s[n] := by
  have h' : n < s.data.size := h
  rw [List.getD_eq_getElem?_getD, Array.getElem?_toList, Array.getElem?_eq_getElem h']
  rfl
theorem lByteAt_any (s : ByteArray) (i : Int) (w : World) : Calls Try.prog 24 #[.string s, .int .i64 i] w fun e w' => e = .returned (.int .u8 (byteB s i)) ∧ w' = w := by
  by_cases hb : i < 0 ∨ (s.size : Int) ≤ i
  · have h0 : byteB s i = 0 := by unfold byteB; rw [if_pos hb]
    rw [h0]
    go_enter Try.func24, Try.ntmps24
    go_wp2
    all_goals first
      | (exfalso; omega)
      | (go_ret; exact ⟨rfl, rfl⟩)
  · have h0 : byteB s i = ((s.data.toList.getD i.toNat 0).toNat : Int) := by unfold byteB; rw [if_neg hb]
    rw [h0, byte_get s i.toNat (by omega)]
    have hi0 : 0 ≤ i := by omega
    have hi1 : i < s.size := by omega
    go_enter Try.func24, Try.ntmps24
    go_wp2
    all_goals first
      | (exfalso; omega)
      | (go_ret; exact ⟨rfl, rfl⟩)
end Go.Proofs.Ytjgeefagnddpfaa
