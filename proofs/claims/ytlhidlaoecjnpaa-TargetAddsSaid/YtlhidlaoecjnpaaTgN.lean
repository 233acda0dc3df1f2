/- The walk of TargetBack. -/
import Derived.Test.YtlhidlaoecjnpaaTgM
import Derived.Deep.RegionHeld3
namespace Go.Proofs.Ytlhidlaoecjnpaa
open Go.RowKit

theorem any_snoc {T : Type} (f : T → Bool) (xs : List T) (k : Nat) {p : T} (h : xs[k]? = some p) : (xs.take (k + 1)).any f = ((xs.take k).any f || f p) := by
  obtain ⟨hk, rfl⟩ := List.getElem?_eq_some_iff.1 h
  rw [List.take_succ_eq_append_getElem hk, List.any_append]
  simp
theorem find_any {T : Type} (f : T → Bool) : ∀ xs : List T, (xs.find? f).isSome = xs.any f
  | [] => rfl
  | x :: r => by
    by_cases h : f x = true
    · simp [h]
    · rw [List.find?_cons_of_neg h, find_any f r]; simp [h]
/-- In a valid list a pair is found by what excludes others. -/
theorem find_only (f : Pair → Bool) (p : Pair) (hf : f p = true) (hx : ∀ q, f q = true → excl p q = true ∧ excl q p = true) : ∀ (xs : List Pair), xs.Pairwise (fun q p => excl p q = false) → p ∈ xs → findF f xs = some p
  | [], _, h => by simp at h
  | x :: r, hp, h => by
    rw [List.pairwise_cons] at hp
    unfold findF
    by_cases hfx : f x = true
    · rw [List.find?_cons_of_pos hfx]
      rcases List.mem_cons.1 h with rfl | h
      · rfl
      · have := hp.1 p h
        rw [(hx x hfx).1] at this
        cases this
    · rw [List.find?_cons_of_neg hfx]
      rcases List.mem_cons.1 h with rfl | h
      · exact absurd hf hfx
      · exact find_only f p hf hx r hp.2 h
theorem find_NL (xs : List Pair) (h : rightB xs = true) (p : Pair) (hp : p ∈ xs) : findF (fNL p.net p.loc) xs = some p :=
  find_only _ p (by simp [fNL]) (fun q hq => by simp [fNL] at hq; simp [excl, hq]) xs ((rightB_iff xs).1 h).2 hp
theorem find_NEP (xs : List Pair) (h : rightB xs = true) (p : Pair) (hp : p ∈ xs) : findF (fNEP p.net p.ev p.part) xs = some p :=
  find_only _ p (by simp [fNEP]) (fun q hq => by simp [fNEP] at hq; simp [excl, hq]) xs ((rightB_iff xs).1 h).2 hp
theorem find_mem {f : Pair → Bool} {xs : List Pair} {p : Pair} (h : findF f xs = some p) : p ∈ xs ∧ f p = true := ⟨List.mem_of_find?_eq_some h, List.find?_some h⟩

set_option maxRecDepth 100000 in
set_option maxHeartbeats 4000000 in
theorem back_walk (xs : List Pair) (A : Option Addr) (c : Nat) (net a b : Int) (w : World) (hr : RdP w w.heap.size A xs) (hm : xs.length ≤ 9223372036854775807) (hwf : ∀ q ∈ xs, q.wf) :
    Calls Try.prog 4 #[.slice A xs.length c, .int .i64 net, .int .i64 a, .int .i64 b] w fun e w' => e = .returned (.bool true) ∧ Below w.heap.size w w' := by
  have HWF := Lib.hid hwf
  clear hwf
  by_cases hlen : 40 < xs.length
  · go_enter Try.func4, Try.ntmps4
    go_wp2_with (go_at_call 8; refine (small_any _).mono ?_; rintro e w1 ⟨rfl, b1⟩)
    go_ret
    exact ⟨rfl, b1⟩
  · have hle : xs.length ≤ 40 := by omega
    clear hlen
    cases hv : rightB xs
    · go_enter Try.func4, Try.ntmps4
      go_wp2_with fail
      refine (small_any _).mono ?_; rintro e w1 ⟨rfl, b1⟩
      have hr1 := hr.now b1
      go_wp2_with fail
      refine (pright_any xs A c _ hr1 (by omega) HWF.out).mono ?_; rintro e w2 ⟨rfl, b2⟩
      rw [hv]
      go_wp2
      go_ret
      exact ⟨rfl, b1.trans (b2.mono b1.size)⟩
    · have HNL := Lib.hid (find_NL xs hv)
      have HNEP := Lib.hid (find_NEP xs hv)
      go_enter Try.func4, Try.ntmps4
      go_wp2_with fail
      refine (small_any _).mono ?_; rintro e w1 ⟨rfl, b1⟩
      have hr1 := hr.now b1
      go_wp2_with fail
      refine (pright_any xs A c _ hr1 (by omega) HWF.out).mono ?_; rintro e w2 ⟨rfl, b2⟩
      have B2 := b1.trans (b2.mono b1.size)
      rw [hv]
      clear hr1 b1 b2 hv
      go_wp2_with fail
      go_loopw [10] (fun si wr => ∃ k : Nat, k ≤ xs.length ∧ si = .int .i64 k ∧ Below w.heap.size w wr) (fun i _ => xs.length - (intOf i).toNat)
      case atStart => exact ⟨0, Nat.zero_le _, rfl, B2⟩
      case round =>
        clear B2
        obtain ⟨k, hk, rfl, hb⟩ := hrel
        by_cases hlt : k < xs.length
        · obtain ⟨bb, off, p, rfl, hbb, hp, d0, d1, d2, d3⟩ := RdP_at (hr.now hb) hlt
          have hpm := List.mem_of_getElem? hp
          have F1 := Lib.hid (HNL.out p hpm)
          have F2 := Lib.hid (HNEP.out p hpm)
          have hrw := hr.now hb
          clear hp hpm
          go_wp2_with fail
          go_region_held3 (fun w' => w'.cell? ⟨bb, off + k * 4, none⟩ = some (.int .i64 p.net) ∧ w'.cell? ⟨bb, off + k * 4 + 1, none⟩ = some (.int .i64 p.loc)) (first | go_keep | exact ⟨(b3.cell (p := ⟨bb, off + k * 4, none⟩) hbb).trans d0, (b3.cell (p := ⟨bb, off + k * 4 + 1, none⟩) hbb).trans d1⟩) (first | (go_at_call 11; refine (pfind_any xs _ c p.net p.loc _ (show RdP wr.drew wr.drew.heap.size _ xs from hrw) hm).mono ?_; rintro e w3 ⟨rfl, b3⟩))
          have B3 := hb.trans (Below.trans (Below.refl _ _).drew (b3.mono (by show w.heap.size ≤ wr.heap.size; exact hb.size)))
          have hrw3 := hr.now B3
          have hbb3 : bb < w3.heap.size := Nat.lt_of_lt_of_le hbb b3.size
          have e0 := (b3.cell (p := ⟨bb, off + k * 4, none⟩) hbb).trans d0
          have e1 := (b3.cell (p := ⟨bb, off + k * 4 + 1, none⟩) hbb).trans d1
          have e2 := (b3.cell (p := ⟨bb, off + k * 4 + 2, none⟩) hbb).trans d2
          have e3 := (b3.cell (p := ⟨bb, off + k * 4 + 3, none⟩) hbb).trans d3
          clear d0 d1 d2 d3 b3 hrw hb
          rw [F1.out]
          simp only [evOf, partOf, Option.isSome_some]
          go_wp2_with fail
          go_region_held3 (fun w' => w'.cell? ⟨bb, off + k * 4, none⟩ = some (.int .i64 p.net) ∧ w'.cell? ⟨bb, off + k * 4 + 2, none⟩ = some (.int .i64 p.ev) ∧ w'.cell? ⟨bb, off + k * 4 + 3, none⟩ = some (.int .i64 p.part)) (first | go_keep | exact ⟨(b4.cell (p := ⟨bb, off + k * 4, none⟩) hbb3).trans e0, (b4.cell (p := ⟨bb, off + k * 4 + 2, none⟩) hbb3).trans e2, (b4.cell (p := ⟨bb, off + k * 4 + 3, none⟩) hbb3).trans e3⟩) (first | (go_at_call 13; refine (plocal_any xs _ c p.net p.ev p.part _ (show RdP w3.drew w3.drew.heap.size _ xs from hrw3) hm).mono ?_; rintro e w4 ⟨rfl, b4⟩))
          have B4 := B3.trans (Below.trans (Below.refl _ _).drew (b4.mono (by show w.heap.size ≤ w3.heap.size; exact B3.size)))
          have d1 := (b4.cell (p := ⟨bb, off + k * 4 + 1, none⟩) hbb3).trans e1
          have d2 := (b4.cell (p := ⟨bb, off + k * 4 + 2, none⟩) hbb3).trans e2
          have d3 := (b4.cell (p := ⟨bb, off + k * 4 + 3, none⟩) hbb3).trans e3
          clear e0 e1 e2 e3 b4 hrw3 B3
          rw [F2.out]
          simp only [locOf, Option.isSome_some]
          go_wp2
          go_roundw
          case rel => exact ⟨k + 1, by omega, by go_num, B4⟩
          case measure => simp [intOf]; omega
        · obtain rfl : k = xs.length := by omega
          have FA := Lib.hid (find_any (fNL net a) xs)
          have FB := Lib.hid (find_any (fNEP net a b) xs)
          have hrw := hr.now hb
          go_wp2_with fail
          refine (pfind_any xs A c net a _ hrw hm).mono ?_; rintro e w3 ⟨rfl, b3⟩
          have B3 := hb.trans (b3.mono hb.size)
          have hr3 := hr.now B3
          clear hrw b3 hb
          go_wp2_with fail
          refine (plocal_any xs A c net a b _ hr3 hm).mono ?_; rintro e w4 ⟨rfl, b4⟩
          have B4 := B3.trans (b4.mono B3.size)
          clear hr3 b4 B3
          generalize hO : findF (fNL net a) xs = O at *
          generalize hL : findF (fNEP net a b) xs = L at *
          have HO := Lib.hid hO
          have HL := Lib.hid hL
          clear hO hL
          go_wp2_with fail
          go_loopw [21, 22, 23] (fun s1 s2 si wr => ∃ k : Nat, k ≤ xs.length ∧ si = .int .i64 k ∧ s1 = .bool ((xs.take k).any (fNL net a)) ∧ s2 = .bool ((xs.take k).any (fNEP net a b)) ∧ Below w.heap.size w wr) (fun _ _ i _ => xs.length - (intOf i).toNat)
          case atStart => exact ⟨0, Nat.zero_le _, rfl, rfl, rfl, B4⟩
          case round =>
            clear B4
            obtain ⟨k, hk, rfl, rfl, rfl, hb⟩ := hrel
            by_cases hlt2 : k < xs.length
            · obtain ⟨bb, off, p, rfl, hbb, hp, d0, d1, d2, d3⟩ := RdP_at (hr.now hb) hlt2
              have S1 := Lib.hid (any_snoc (fNL net a) xs k hp)
              have S2 := Lib.hid (any_snoc (fNEP net a b) xs k hp)
              clear hp
              generalize hG : (xs.take k).any (fNL net a) = G at *
              generalize hM : (xs.take k).any (fNEP net a b) = M at *
              have HG := Lib.hid hG
              have HM := Lib.hid hM
              clear hG hM
              cases G <;> cases M
              all_goals go_wp2
              all_goals
                go_roundw
                case rel => exact ⟨k + 1, by omega, by go_num, by rw [S1.out]; simp [fNL, *], by rw [S2.out]; simp [fNEP, *], hb⟩
                case measure => simp [intOf]; omega
            · obtain rfl : k = xs.length := by omega
              rw [List.take_of_length_le (Nat.le_refl _), ← FA.out, ← FB.out]
              have hrw := hr.now hb
              have hO := HO.out
              have hL := HL.out
              unfold findF at hO hL
              rw [hO, hL]
              clear hO hL
              rcases O with _ | q <;> rcases L with _ | r
              · go_wp2
                go_ret
                exact ⟨rfl, hb⟩
              · obtain ⟨hm1, hf1⟩ := find_mem HL.out
                have h1 : r.net = net ∧ r.ev = a ∧ r.part = b := by simpa [fNEP] using hf1
                have F1 := HNL.out r hm1
                rw [h1.1] at F1
                have HF1 := Lib.hid F1
                have HR := Lib.hid h1
                clear F1 h1 hf1 hm1
                go_wp2_with fail
                refine (pfind_any xs A c net (locOf (some r)) _ hrw hm).mono ?_; rintro e w5 ⟨rfl, b5⟩
                rw [show findF (fNL net (locOf (some r))) xs = some r from HF1.out]
                have t1 : (r.ev != a) = false := by simp [HR.out.2.1]
                have t2 : (r.part != b) = false := by simp [HR.out.2.2]
                simp only [evOf, partOf, Option.isSome_some]
                go_wp2
                go_ret
                exact ⟨rfl, hb.trans (b5.mono hb.size)⟩
              · obtain ⟨hm1, hf1⟩ := find_mem HO.out
                have h1 : q.net = net ∧ q.loc = a := by simpa [fNL] using hf1
                have F1 := HNEP.out q hm1
                rw [h1.1] at F1
                have HF1 := Lib.hid F1
                have HR := Lib.hid h1
                clear F1 h1 hf1 hm1
                go_wp2_with fail
                refine (plocal_any xs A c net (evOf (some q)) (partOf (some q)) _ hrw hm).mono ?_; rintro e w5 ⟨rfl, b5⟩
                rw [show findF (fNEP net (evOf (some q)) (partOf (some q))) xs = some q from HF1.out]
                have t1 : (q.loc != a) = false := by simp [HR.out.2]
                simp only [locOf, Option.isSome_some]
                go_wp2
                go_ret
                exact ⟨rfl, hb.trans (b5.mono hb.size)⟩
              · obtain ⟨hm1, hf1⟩ := find_mem HO.out
                have h1 : q.net = net ∧ q.loc = a := by simpa [fNL] using hf1
                have F1 := HNEP.out q hm1
                rw [h1.1] at F1
                have HF1 := Lib.hid F1
                have HR := Lib.hid h1
                obtain ⟨hm2, hf2⟩ := find_mem HL.out
                have h2 : r.net = net ∧ r.ev = a ∧ r.part = b := by simpa [fNEP] using hf2
                have F2 := HNL.out r hm2
                rw [h2.1] at F2
                have HF2 := Lib.hid F2
                have HR2 := Lib.hid h2
                clear F1 h1 hf1 hm1 F2 h2 hf2 hm2
                go_wp2_with fail
                refine (plocal_any xs A c net (evOf (some q)) (partOf (some q)) _ hrw hm).mono ?_; rintro e w5 ⟨rfl, b5⟩
                rw [show findF (fNEP net (evOf (some q)) (partOf (some q))) xs = some q from HF1.out]
                have t1 : (q.loc != a) = false := by simp [HR.out.2]
                simp only [locOf, Option.isSome_some]
                have B5 := hb.trans (b5.mono hb.size)
                have hr5 := hr.now B5
                go_wp2_with fail
                refine (pfind_any xs A c net (locOf (some r)) _ hr5 hm).mono ?_; rintro e w6 ⟨rfl, b6⟩
                rw [show findF (fNL net (locOf (some r))) xs = some r from HF2.out]
                have t2 : (r.ev != a) = false := by simp [HR2.out.2.1]
                have t3 : (r.part != b) = false := by simp [HR2.out.2.2]
                simp only [evOf, partOf, Option.isSome_some]
                go_wp2
                go_ret
                exact ⟨rfl, B5.trans (b6.mono B5.size)⟩
end Go.Proofs.Ytlhidlaoecjnpaa
