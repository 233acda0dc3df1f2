/- The walk of TargetNets. -/
import Derived.Test.YtlhidlaoecjnpaaTgJ
namespace Go.Proofs.Ytlhidlaoecjnpaa
open Go.RowKit

/-- Two rows that are not one. -/
def Dj (a b : Option Nat) : Prop := ∀ k, a = some k → b ≠ some k
theorem Dj.symm {a b : Option Nat} (h : Dj a b) : Dj b a := fun k hk hb => h k hb hk
theorem Dj.step {a b b' : Option Nat} {n : Nat} (h : Dj a b) (ha : ∀ k, a = some k → k < n) (hb : b' = b ∨ b' = some n) : Dj a b' := fun k hk e => by
  rcases hb with hb | hb
  · exact h k hk (hb ▸ e)
  · have := ha k hk
    rw [hb] at e
    injection e with e
    omega
theorem OwnL.keptD {T : Type} {sz : Nat} {enc : T → List Value} {w w' : World} {base : Nat} {e : TypeId} {A : Option Addr} {c : Nat} {xs : List T} {row : Option Nat} (h : OwnL w base e sz enc A c xs) (hg : w.grownBy w' row) (hd : Dj (Value.slice A xs.length c).ownBlock row) : OwnL w' base e sz enc A c xs :=
  h.kept hg (by
    rcases ho : (Value.slice A xs.length c).ownBlock with _ | k
    · exact .inl rfl
    · exact .inr (fun e => hd k ho e.symm))

theorem box4g {w w' : World} {a b c d : Value} {t : TypeId} {o : Obj} {row : Option Nat} (hg : ((w.alloc (.cells #[a, b, c, d] t)).alloc o).grownBy w' row) (hne : ∀ k, row = some k → k < w.heap.size) :
    w'.cell? ⟨w.heap.size, 0, none⟩ = some a ∧ w'.cell? ⟨w.heap.size, 1, none⟩ = some b ∧ w'.cell? ⟨w.heap.size, 2, none⟩ = some c ∧ w'.cell? ⟨w.heap.size, 3, none⟩ = some d := by
  have hn : some w.heap.size ≠ row := fun e => by have := hne _ e.symm; omega
  exact ⟨(grown_cell' hg (by simp; omega) hn 0).trans (by simp), (grown_cell' hg (by simp; omega) hn 1).trans (by simp), (grown_cell' hg (by simp; omega) hn 2).trans (by simp), (grown_cell' hg (by simp; omega) hn 3).trans (by simp)⟩

def mvP (net : Int) (p : Pair) : Pair := if p.net = net then p else if p.net ≠ -7 ∧ net ≠ -7 then { p with net := -7 } else p
def ownF (net : Int) (xs : List Pair) : List Pair := xs.filter (fun p => p.net == net)
def movF (net : Int) (xs : List Pair) : List Pair := xs.map (mvP net)
theorem ownF_snoc (net : Int) (xs : List Pair) (k : Nat) {p : Pair} (h : xs[k]? = some p) : ownF net (xs.take (k + 1)) = ownF net (xs.take k) ++ (if p.net = net then [p] else []) := by
  obtain ⟨hk, rfl⟩ := List.getElem?_eq_some_iff.1 h
  rw [List.take_succ_eq_append_getElem hk, ownF, ownF, List.filter_append]
  by_cases hn : xs[k].net = net
  · rw [List.filter_cons_of_pos (by simp [hn]), if_pos hn]; rfl
  · rw [List.filter_cons_of_neg (by simp [hn]), if_neg hn]; rfl
theorem movF_snoc (net : Int) (xs : List Pair) (k : Nat) {p : Pair} (h : xs[k]? = some p) : movF net (xs.take (k + 1)) = movF net (xs.take k) ++ [mvP net p] := by
  obtain ⟨hk, rfl⟩ := List.getElem?_eq_some_iff.1 h
  rw [List.take_succ_eq_append_getElem hk, movF, movF, List.map_append]
  rfl
theorem movF_len (net : Int) (xs : List Pair) (k : Nat) : (movF net (xs.take k)).length ≤ k := by rw [movF, List.length_map]; exact List.length_take_le _ _
theorem ownF_len (net : Int) (xs : List Pair) (k : Nat) : (ownF net (xs.take k)).length ≤ k := Nat.le_trans (List.length_filter_le _ _) (List.length_take_le _ _)
theorem find_own (net : Int) (f : Pair → Bool) (hf : ∀ p, f p = true → p.net = net) : ∀ xs : List Pair, findF f (ownF net xs) = findF f xs
  | [] => rfl
  | p :: r => by
    have ih := find_own net f hf r
    unfold findF ownF at *
    by_cases hp : f p = true
    · have hn := hf p hp
      rw [List.filter_cons_of_pos (by simp [hn]), List.find?_cons_of_pos hp, List.find?_cons_of_pos hp]
    · rw [List.find?_cons_of_neg hp]
      by_cases hn : p.net = net
      · rw [List.filter_cons_of_pos (by simp [hn]), List.find?_cons_of_neg hp]
        exact ih
      · rw [List.filter_cons_of_neg (by simp [hn])]
        exact ih
theorem find_mov (net : Int) (f : Pair → Bool) (hf : ∀ p, f p = true → p.net = net) : ∀ xs : List Pair, findF f (movF net xs) = findF f xs
  | [] => rfl
  | p :: r => by
    have ih := find_mov net f hf r
    unfold findF movF at *
    rw [List.map_cons]
    by_cases hp : f p = true
    · have hn := hf p hp
      have hm : mvP net p = p := by unfold mvP; rw [if_pos hn]
      rw [hm, List.find?_cons_of_pos hp, List.find?_cons_of_pos hp]
    · have hm : ¬ f (mvP net p) = true := by
        unfold mvP
        split
        · exact hp
        · rename_i hn
          split
          · rename_i h7
            intro h
            have := hf _ h
            exact h7.2 this.symm
          · exact hp
      rw [List.find?_cons_of_neg hp, List.find?_cons_of_neg hm]
      exact ih

set_option maxRecDepth 100000 in
set_option maxHeartbeats 2000000 in
theorem nets_walk (xs : List Pair) (A : Option Addr) (c : Nat) (net a b : Int) (w : World) (hr : RdP w w.heap.size A xs) (hm : xs.length ≤ 9223372036854775807) :
    Calls Try.prog 7 #[.slice A xs.length c, .int .i64 net, .int .i64 a, .int .i64 b] w fun e w' => e = .returned (.bool true) ∧ Below w.heap.size w w' := by
  by_cases hlen : 40 < xs.length
  · go_enter Try.func7, Try.ntmps7
    go_wp2_with (go_at_call 8; refine (small_any _).mono ?_; rintro e w1 ⟨rfl, b1⟩)
    go_ret
    exact ⟨rfl, b1⟩
  · have hle : xs.length ≤ 40 := by omega
    clear hlen
    go_enter Try.func7, Try.ntmps7
    go_wp2_with fail
    refine (small_any _).mono ?_; rintro e w1 ⟨rfl, b1⟩
    go_wp2_with fail
    go_loopw [10, 11, 12, 13] (fun so sm si _ wr => ∃ (k : Nat) (A1 : Option Addr) (c1 : Nat) (A2 : Option Addr) (c2 : Nat), k ≤ xs.length ∧ so = .slice A1 (ownF net (xs.take k)).length c1 ∧ sm = .slice A2 (movF net (xs.take k)).length c2 ∧ si = .int .i64 k ∧
        OwnP wr w.heap.size A1 c1 (ownF net (xs.take k)) ∧ OwnP wr w.heap.size A2 c2 (movF net (xs.take k)) ∧ Dj (Value.slice A1 (ownF net (xs.take k)).length c1).ownBlock (Value.slice A2 (movF net (xs.take k)).length c2).ownBlock ∧ Below w.heap.size w wr) (fun _ _ i _ _ => xs.length - (intOf i).toNat)
    case atStart => exact ⟨0, none, 0, none, 0, Nat.zero_le _, rfl, rfl, rfl, OwnL.nil_, OwnL.nil_, (fun k hk => by cases hk), b1⟩
    case round =>
      clear b1
      obtain ⟨k, A1, c1, A2, c2, hk, rfl, rfl, rfl, o1, o2, hdj, hb⟩ := hrel
      by_cases hlt : k < xs.length
      · obtain ⟨bb, off, p, rfl, hbb, hp, d0, d1, d2, d3⟩ := RdP_at (hr.now hb) hlt
        have H1 := Lib.hid (ownF_snoc net xs k hp)
        have H2 := Lib.hid (movF_snoc net xs k hp)
        have l1 := ownF_len net xs k
        have l2 := movF_len net xs k
        clear hp
        generalize ownF net (xs.take k) = O at *
        generalize movF net (xs.take k) = M at *
        have B1 := Lib.hid (show (O.length + [p].length) * 32 ≤ 140737488355328 by simp; omega)
        have B2 := Lib.hid (show (M.length + [p].length) * 32 ≤ 140737488355328 by simp; omega)
        by_cases h1 : p.net = net
        · have hO : ownF net (xs.take (k + 1)) = O ++ [p] := by rw [H1.out, if_pos h1]
          have hM : movF net (xs.take (k + 1)) = M ++ [p] := by rw [H2.out]; unfold mvP; rw [if_pos h1]
          have HO := Lib.hid hO
          have HM := Lib.hid hM
          have t1 : (p.net == net) = true := by simp [h1]
          have O1 := Lib.hid ((o1.alloc (.cells #[.int .i64 p.net, .int .i64 p.loc, .int .i64 p.ev, .int .i64 p.part] 24)).alloc (.cells #[.int .i64 p.net, .int .i64 p.loc, .int .i64 p.ev, .int .i64 p.part] 24))
          have hz : w.heap.size ≤ ((wr.alloc (.cells #[.int .i64 p.net, .int .i64 p.loc, .int .i64 p.ev, .int .i64 p.part] 24)).alloc (.cells #[.int .i64 p.net, .int .i64 p.loc, .int .i64 p.ev, .int .i64 p.part] 24)).heap.size := by have := hb.size; simp; omega
          have HZ := Lib.hid hz
          clear hO hM h1 hz
          have MP := Lib.hid ((o2.alloc (.cells #[.int .i64 p.net, .int .i64 p.loc, .int .i64 p.ev, .int .i64 p.part] 24)).alloc (.cells #[.int .i64 p.net, .int .i64 p.loc, .int .i64 p.ev, .int .i64 p.part] 24))
          go_wp2_with (first | (at_builtin; refine wp_append_l rfl (.tmp 48) (.tmp 50) rfl slP layP w.heap.size (xs := O) (ys := [p]) (B := wr.heap.size + 1 + 1) rfl rfl O1.out rfl rfl (by simpa using RdL.one (wr.alloc (.cells #[.int .i64 p.net, .int .i64 p.loc, .int .i64 p.ev, .int .i64 p.part] 24)) p _ 24 rfl _ rfl) B1.out HZ.out ?_; intro A3 c3 w3 o3 g3 bl3 at3; obtain ⟨f0, f1, f2, f3⟩ := box4g g3 (fun k hk => (o1.lt k hk).2); have z3 := g3.size; simp at z3; have M3 := Lib.hid (MP.out.keptD g3 hdj.symm); have z3' : w.heap.size ≤ w3.heap.size := Nat.le_trans hb.size (by omega); have hj3 := Lib.hid (Dj.step hdj.symm (fun k hk => (MP.out.lt k hk).2) at3)) | (at_builtin; refine wp_append_l rfl (.tmp 60) (.tmp 62) rfl slP layP w.heap.size (xs := M) (ys := [p]) (B := w3.heap.size + 1) rfl rfl (M3.out.alloc _) rfl rfl (RdL.one w3 p _ 24 rfl _ rfl) B2.out (Nat.le_trans z3' (Nat.le_of_lt (by simp))) ?_; intro A4 c4 w4 o4 g4 bl4 at4))
          go_roundw
          case rel =>
            refine ⟨k + 1, A3, c3, A4, c4, by omega, by rw [HO.out, List.length_append]; rfl, by rw [HM.out, List.length_append]; rfl, by go_num, ?_, by rw [HM.out]; exact o4, ?_, ?_⟩
            · rw [HO.out]
              exact (o3.alloc _).keptD g4 hj3.out.symm
            · rw [HO.out, HM.out]
              exact Dj.step hj3.out.symm (fun k hk => ((o3.alloc _).lt k hk).2) at4
            · exact (hb.trans (Below.trans (show Below w.heap.size wr _ by have hz := hb.size; repeat (first | with_reducible exact Below.refl _ _ | with_reducible assumption | with_reducible refine Below.drew ?_ | with_reducible refine Below.alloc ?_ (by first | omega | (simp; done) | (simp; omega)) _)) bl3)).trans (Below.trans (show Below w.heap.size w3 _ by repeat (first | with_reducible exact Below.refl _ _ | with_reducible assumption | with_reducible refine Below.drew ?_ | with_reducible refine Below.alloc ?_ (by first | omega | (simp; done) | (simp; omega)) _)) bl4)
          case measure => simp [intOf]; omega
        · by_cases h7 : p.net ≠ -7 ∧ net ≠ -7
          · obtain ⟨ha, hb7⟩ := h7
            have hM : movF net (xs.take (k + 1)) = M ++ [⟨-7, p.loc, p.ev, p.part⟩] := by rw [H2.out]; unfold mvP; rw [if_neg h1, if_pos ⟨ha, hb7⟩]
            have t2 : (p.net != -7) = true := by simpa using ha
            have t3 : (net != -7) = true := by simpa using hb7
            clear ha hb7
            have hO : ownF net (xs.take (k + 1)) = O := by rw [H1.out, if_neg h1]; simp
            have HO := Lib.hid hO
            have HM := Lib.hid hM
            have t1 : (p.net == net) = false := by simp [h1]
            have M1 := Lib.hid ((o2.alloc (.cells #[.int .i64 (-7), .int .i64 p.loc, .int .i64 p.ev, .int .i64 p.part] 24)).alloc (.cells #[.int .i64 (-7), .int .i64 p.loc, .int .i64 p.ev, .int .i64 p.part] 24))
            have O1 := Lib.hid ((o1.alloc (.cells #[.int .i64 (-7), .int .i64 p.loc, .int .i64 p.ev, .int .i64 p.part] 24)).alloc (.cells #[.int .i64 (-7), .int .i64 p.loc, .int .i64 p.ev, .int .i64 p.part] 24))
            have hz : w.heap.size ≤ ((wr.alloc (.cells #[.int .i64 (-7), .int .i64 p.loc, .int .i64 p.ev, .int .i64 p.part] 24)).alloc (.cells #[.int .i64 (-7), .int .i64 p.loc, .int .i64 p.ev, .int .i64 p.part] 24)).heap.size := by have := hb.size; simp; omega
            have HZ := Lib.hid hz
            clear hO hM h1 hz
            go_wp2_with (first | (at_builtin; refine wp_append_l rfl (.tmp 60) (.tmp 62) rfl slP layP w.heap.size (xs := M) (ys := [⟨-7, p.loc, p.ev, p.part⟩]) (B := wr.heap.size + 1 + 1) rfl rfl M1.out rfl rfl (by simpa using RdL.one (wr.alloc (.cells #[.int .i64 (-7), .int .i64 p.loc, .int .i64 p.ev, .int .i64 p.part] 24)) (⟨-7, p.loc, p.ev, p.part⟩ : Pair) _ 24 rfl _ rfl) B2.out HZ.out ?_; intro A4 c4 w4 o4 g4 bl4 at4))
            go_roundw
            case rel =>
              refine ⟨k + 1, A1, c1, A4, c4, by omega, by rw [HO.out], by rw [HM.out, List.length_append]; rfl, by go_num, ?_, by rw [HM.out]; exact o4, ?_, ?_⟩
              · rw [HO.out]
                exact O1.out.keptD g4 hdj
              · rw [HO.out, HM.out]
                exact Dj.step hdj (fun k hk => (O1.out.lt k hk).2) at4
              · exact hb.trans (Below.trans (show Below w.heap.size wr _ by have hz := hb.size; repeat (first | with_reducible exact Below.refl _ _ | with_reducible assumption | with_reducible refine Below.drew ?_ | with_reducible refine Below.alloc ?_ (by first | omega | (simp; done) | (simp; omega)) _)) bl4)
            case measure => simp [intOf]; omega
          · have hM : movF net (xs.take (k + 1)) = M ++ [p] := by rw [H2.out]; unfold mvP; rw [if_neg h1, if_neg h7]
            by_cases ha : p.net = -7
            · have t2 : (p.net != -7) = false := by simp [ha]
              clear ha h7
              have hO : ownF net (xs.take (k + 1)) = O := by rw [H1.out, if_neg h1]; simp
              have HO := Lib.hid hO
              have HM := Lib.hid hM
              have t1 : (p.net == net) = false := by simp [h1]
              have M1 := Lib.hid ((o2.alloc (.cells #[.int .i64 p.net, .int .i64 p.loc, .int .i64 p.ev, .int .i64 p.part] 24)).alloc (.cells #[.int .i64 p.net, .int .i64 p.loc, .int .i64 p.ev, .int .i64 p.part] 24))
              have O1 := Lib.hid ((o1.alloc (.cells #[.int .i64 p.net, .int .i64 p.loc, .int .i64 p.ev, .int .i64 p.part] 24)).alloc (.cells #[.int .i64 p.net, .int .i64 p.loc, .int .i64 p.ev, .int .i64 p.part] 24))
              have hz : w.heap.size ≤ ((wr.alloc (.cells #[.int .i64 p.net, .int .i64 p.loc, .int .i64 p.ev, .int .i64 p.part] 24)).alloc (.cells #[.int .i64 p.net, .int .i64 p.loc, .int .i64 p.ev, .int .i64 p.part] 24)).heap.size := by have := hb.size; simp; omega
              have HZ := Lib.hid hz
              clear hO hM h1 hz
              go_wp2_with (first | (at_builtin; refine wp_append_l rfl (.tmp 60) (.tmp 62) rfl slP layP w.heap.size (xs := M) (ys := [p]) (B := wr.heap.size + 1 + 1) rfl rfl M1.out rfl rfl (by simpa using RdL.one (wr.alloc (.cells #[.int .i64 p.net, .int .i64 p.loc, .int .i64 p.ev, .int .i64 p.part] 24)) (p : Pair) _ 24 rfl _ rfl) B2.out HZ.out ?_; intro A4 c4 w4 o4 g4 bl4 at4))
              go_roundw
              case rel =>
                refine ⟨k + 1, A1, c1, A4, c4, by omega, by rw [HO.out], by rw [HM.out, List.length_append]; rfl, by go_num, ?_, by rw [HM.out]; exact o4, ?_, ?_⟩
                · rw [HO.out]
                  exact O1.out.keptD g4 hdj
                · rw [HO.out, HM.out]
                  exact Dj.step hdj (fun k hk => (O1.out.lt k hk).2) at4
                · exact hb.trans (Below.trans (show Below w.heap.size wr _ by have hz := hb.size; repeat (first | with_reducible exact Below.refl _ _ | with_reducible assumption | with_reducible refine Below.drew ?_ | with_reducible refine Below.alloc ?_ (by first | omega | (simp; done) | (simp; omega)) _)) bl4)
              case measure => simp [intOf]; omega
            · have t2 : (p.net != -7) = true := by simpa using ha
              have t3 : (net != -7) = false := by
                have : net = -7 := by
                  by_cases hn : net = -7
                  · exact hn
                  · exact absurd ⟨ha, hn⟩ h7
                simp [this]
              clear ha h7
              have hO : ownF net (xs.take (k + 1)) = O := by rw [H1.out, if_neg h1]; simp
              have HO := Lib.hid hO
              have HM := Lib.hid hM
              have t1 : (p.net == net) = false := by simp [h1]
              have M1 := Lib.hid ((o2.alloc (.cells #[.int .i64 p.net, .int .i64 p.loc, .int .i64 p.ev, .int .i64 p.part] 24)).alloc (.cells #[.int .i64 p.net, .int .i64 p.loc, .int .i64 p.ev, .int .i64 p.part] 24))
              have O1 := Lib.hid ((o1.alloc (.cells #[.int .i64 p.net, .int .i64 p.loc, .int .i64 p.ev, .int .i64 p.part] 24)).alloc (.cells #[.int .i64 p.net, .int .i64 p.loc, .int .i64 p.ev, .int .i64 p.part] 24))
              have hz : w.heap.size ≤ ((wr.alloc (.cells #[.int .i64 p.net, .int .i64 p.loc, .int .i64 p.ev, .int .i64 p.part] 24)).alloc (.cells #[.int .i64 p.net, .int .i64 p.loc, .int .i64 p.ev, .int .i64 p.part] 24)).heap.size := by have := hb.size; simp; omega
              have HZ := Lib.hid hz
              clear hO hM h1 hz
              go_wp2_with (first | (at_builtin; refine wp_append_l rfl (.tmp 60) (.tmp 62) rfl slP layP w.heap.size (xs := M) (ys := [p]) (B := wr.heap.size + 1 + 1) rfl rfl M1.out rfl rfl (by simpa using RdL.one (wr.alloc (.cells #[.int .i64 p.net, .int .i64 p.loc, .int .i64 p.ev, .int .i64 p.part] 24)) (p : Pair) _ 24 rfl _ rfl) B2.out HZ.out ?_; intro A4 c4 w4 o4 g4 bl4 at4))
              go_roundw
              case rel =>
                refine ⟨k + 1, A1, c1, A4, c4, by omega, by rw [HO.out], by rw [HM.out, List.length_append]; rfl, by go_num, ?_, by rw [HM.out]; exact o4, ?_, ?_⟩
                · rw [HO.out]
                  exact O1.out.keptD g4 hdj
                · rw [HO.out, HM.out]
                  exact Dj.step hdj (fun k hk => (O1.out.lt k hk).2) at4
                · exact hb.trans (Below.trans (show Below w.heap.size wr _ by have hz := hb.size; repeat (first | with_reducible exact Below.refl _ _ | with_reducible assumption | with_reducible refine Below.drew ?_ | with_reducible refine Below.alloc ?_ (by first | omega | (simp; done) | (simp; omega)) _)) bl4)
              case measure => simp [intOf]; omega
      · obtain rfl : k = xs.length := by omega
        have ht : xs.take xs.length = xs := List.take_of_length_le (Nat.le_refl _)
        rw [ht] at o1 o2 hdj ⊢
        have hlo : (ownF net xs).length ≤ 40 := Nat.le_trans (List.length_filter_le _ _) hle
        have hlm : (movF net xs).length ≤ 40 := by rw [movF, List.length_map]; exact hle
        have f1 := find_own net (fNL net a) (fun p hp => by simp [fNL] at hp; exact hp.1) xs
        have f2 := find_mov net (fNL net a) (fun p hp => by simp [fNL] at hp; exact hp.1) xs
        have f3 := find_own net (fNEP net a b) (fun p hp => by simp [fNEP] at hp; exact hp.1) xs
        have f4 := find_mov net (fNEP net a b) (fun p hp => by simp [fNEP] at hp; exact hp.1) xs
        have F1 := Lib.hid f1
        have F2 := Lib.hid f2
        have F3 := Lib.hid f3
        have F4 := Lib.hid f4
        clear f1 f2 f3 f4 ht hdj
        have hr1 := hr.now hb
        go_wp2_with fail
        refine (pfind_any xs A c net a _ hr1 hm).mono ?_; rintro e w4 ⟨rfl, b4⟩
        have p1 := o1.below b4
        have p2 := o2.below b4
        have B4 := hb.trans (b4.mono hb.size)
        clear hr1 o1 o2 b4 hb
        go_wp2_with fail
        refine (pfind_any _ A1 c1 net a _ (p1.rd layP) (by omega)).mono ?_; rintro e w5 ⟨rfl, b5⟩
        rw [F1.out]
        have o1 := p1.below b5
        have o2 := p2.below b5
        have B5 := B4.trans (b5.mono B4.size)
        clear p1 p2 b5 B4
        go_wp2_with fail
        refine (pfind_any _ A2 c2 net a _ (o2.rd layP) (by omega)).mono ?_; rintro e w6 ⟨rfl, b6⟩
        rw [F2.out]
        have p1 := o1.below b6
        have p2 := o2.below b6
        have B6 := B5.trans (b6.mono B5.size)
        have hr6 := hr.now B6
        clear o1 o2 b6 B5
        go_wp2_with fail
        refine (plocal_any xs A c net a b _ hr6 hm).mono ?_; rintro e w7 ⟨rfl, b7⟩
        have o1 := p1.below b7
        have o2 := p2.below b7
        have B7 := B6.trans (b7.mono B6.size)
        clear p1 p2 b7 B6 hr6
        go_wp2_with fail
        refine (plocal_any _ A1 c1 net a b _ (o1.rd layP) (by omega)).mono ?_; rintro e w8 ⟨rfl, b8⟩
        rw [F3.out]
        have p2 := o2.below b8
        have B8 := B7.trans (b8.mono B7.size)
        clear o1 o2 b8 B7
        go_wp2_with fail
        refine (plocal_any _ A2 c2 net a b _ (p2.rd layP) (by omega)).mono ?_; rintro e w9 ⟨rfl, b9⟩
        rw [F4.out]
        go_wp2
        go_ret
        exact ⟨rfl, B8.trans (b9.mono B8.size)⟩
end Go.Proofs.Ytlhidlaoecjnpaa
