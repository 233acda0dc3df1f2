/- Contracts of layer 22: dropping and adding by the reference. -/
import Derived.Test.YtlhidlaoecjnpaaTgB
import Derived.Test.YtlhidlaoecjnpaaTgE
import Derived.Deep.RegionLaw
namespace Go.Proofs.Ytlhidlaoecjnpaa
open Go.RowKit

set_option maxHeartbeats 1000000 in
theorem rdrop_any (xs : List Pair) (A : Option Addr) (c : Nat) (net ev : Int) (w : World) (hr : RdP w w.heap.size A xs) (hm : xs.length ≤ 1000000) :
    Calls Try.prog 19 #[.slice A xs.length c, .int .i64 net, .int .i64 ev] w fun e w' => ∃ A' c', e = .returned (.slice A' (dropF net ev xs).length c') ∧ OwnP w' w.heap.size A' c' (dropF net ev xs) ∧ Below w.heap.size w w' := by
  have hm2 : xs.length ≤ 9223372036854775807 := by omega
  go_enter Try.func19, Try.ntmps19
  go_wp2
  go_loopw [7, 8] (fun o i wr => ∃ (k : Nat) (A' : Option Addr) (c' : Nat), k ≤ xs.length ∧ i = .int .i64 k ∧ o = .slice A' (dropF net ev (xs.take k)).length c' ∧ OwnP wr w.heap.size A' c' (dropF net ev (xs.take k)) ∧ Below w.heap.size w wr) (fun _ i _ => xs.length - (intOf i).toNat)
  case atStart => exact ⟨0, none, 0, Nat.zero_le _, rfl, rfl, OwnL.nil_, Below.refl _ _⟩
  case round =>
    obtain ⟨k, A', c', hk, rfl, rfl, hown, hb⟩ := hrel
    by_cases hlt : k < xs.length
    · obtain ⟨b, off, p, rfl, hbb, hp, c0, c1, c2, c3⟩ := RdP_at (hr.now hb) hlt
      have hs := dropF_snoc net ev xs k hp
      have hd := dropF_len net ev xs k
      have HP := Lib.hid hp
      have HS := Lib.hid hs
      clear hp hs
      have b1 : ((dropF net ev (xs.take k)).length + [p].length) * 32 ≤ 140737488355328 := by simp; omega
      have B1 := Lib.hid b1
      clear b1
      generalize hD : dropF net ev (xs.take k) = D at *
      have HD := Lib.hid hD
      clear hD
      have b2 : w.heap.size ≤ (wr.alloc (.cells #[.int .i64 p.net, .int .i64 p.loc, .int .i64 p.ev, .int .i64 p.part] 24)).heap.size := Nat.le_trans hb.size (Nat.le_of_lt (by simp))
      have o1 : OwnP (wr.alloc (.cells #[.int .i64 p.net, .int .i64 p.loc, .int .i64 p.ev, .int .i64 p.part] 24)) w.heap.size A' c' D := hown.below ((Below.refl _ _).alloc (Nat.le_refl _) _)
      have B2 := Lib.hid b2
      have O1 := Lib.hid o1
      clear b2 o1
      by_cases h1 : p.net = net
      · have t1 : (p.net != net) = false := by simp [h1]
        by_cases h2 : p.ev = ev
        · have t2 : (p.ev != ev) = false := by simp [h2]
          have h3 : dropF net ev (xs.take (k + 1)) = D := by rw [HS.out]; simp [h1, h2]
          have H3 := Lib.hid h3
          clear h1 h2 h3
          go_wp2
          go_roundw
          case rel => exact ⟨k + 1, A', c', by omega, by go_num, by rw [H3.out], by rw [H3.out]; exact hown, hb⟩
          case measure => simp [intOf]; omega
        · have t2 : (p.ev != ev) = true := by simp [h2]
          have h3 : dropF net ev (xs.take (k + 1)) = D ++ [p] := by rw [HS.out]; simp [h2]
          clear h1 h2
          have H3 := Lib.hid h3
          clear h3
          go_wp2_with (first | (at_builtin; go_loud (refine wp_append_l rfl (.tmp 31) (.tmp 36) rfl slP layP w.heap.size (xs := D) (ys := [p]) (B := wr.heap.size + 1) rfl rfl O1.out rfl rfl (RdL.one wr p _ 24 rfl _ rfl) B1.out B2.out ?_); intro A2 c2 w2 hown2 hg hbl hat))
          go_roundw
          case rel => exact ⟨k + 1, A2, c2, by omega, by go_num, by rw [H3.out, List.length_append]; rfl, by rw [H3.out]; exact hown2, hb.trans (Below.trans ((Below.refl _ _).alloc hb.size _) hbl)⟩
          case measure => simp [intOf]; omega
      · have t1 : (p.net != net) = true := by simp [h1]
        have h3 : dropF net ev (xs.take (k + 1)) = D ++ [p] := by rw [HS.out]; simp [h1]
        clear h1
        have H3 := Lib.hid h3
        clear h3
        go_wp2_with (first | (at_builtin; go_loud (refine wp_append_l rfl (.tmp 31) (.tmp 36) rfl slP layP w.heap.size (xs := D) (ys := [p]) (B := wr.heap.size + 1) rfl rfl O1.out rfl rfl (RdL.one wr p _ 24 rfl _ rfl) B1.out B2.out ?_); intro A2 c2 w2 hown2 hg hbl hat))
        go_roundw
        case rel => exact ⟨k + 1, A2, c2, by omega, by go_num, by rw [H3.out, List.length_append]; rfl, by rw [H3.out]; exact hown2, hb.trans (Below.trans ((Below.refl _ _).alloc hb.size _) hbl)⟩
        case measure => simp [intOf]; omega
    · go_wp2
      go_ret
      have h3 : xs.take k = xs := List.take_of_length_le (by omega)
      rw [h3] at hown ⊢
      exact ⟨A', c', rfl, hown, hb⟩

/-- What Add gives: a list and an error. -/
def addF (xs : List Pair) (p : Pair) : List Pair × Int :=
  if rightB xs && validP p then (if xs.any (fun q => excl q p) then ([], 5) else (xs ++ [p], 0)) else ([], 1)

set_option maxHeartbeats 1000000 in
theorem radd_any (xs : List Pair) (p : Pair) (A : Option Addr) (c : Nat) (w : World) (hr : RdP w w.heap.size A xs) (hm : xs.length ≤ 1000000) :
    Calls Try.prog 10 #[.slice A xs.length c, p.v] w fun e w' => ∃ A' c', e = .returned (.tuple #[.slice A' (addF xs p).1.length c', .int .i64 (addF xs p).2]) ∧ OwnP w' w.heap.size A' c' (addF xs p).1 ∧ Below w.heap.size w w' := by
  have hm2 : xs.length ≤ 9223372036854775807 := by omega
  have hb0 : Below w.heap.size w (w.alloc (.cells #[.int .i64 p.net, .int .i64 p.loc, .int .i64 p.ev, .int .i64 p.part] 24)) := (Below.refl _ _).alloc (Nat.le_refl _) _
  have hc := rright_any xs A c _ (hr.now hb0) hm2
  have HC := Lib.hid hc
  have HB := Lib.hid hb0
  clear hc hb0
  cases h1 : rightB xs
  · unfold Pair.v
    go_enter Try.func10, Try.ntmps10
    go_wp2_with (go_at_call 17; refine HC.out.mono ?_; rintro e w1 ⟨rfl, hb1⟩)
    go_ret2
    exact ⟨none, 0, by simp [addF, h1], by simp only [addF, h1, Bool.false_and, Bool.false_eq_true, if_false]; exact OwnL.nil_, HB.out.trans (hb1.mono (by first | omega | (simp; done) | (simp; omega)))⟩
  · cases h2 : validP p
    · unfold Pair.v
      go_enter Try.func10, Try.ntmps10
      go_wp2_with (first | (go_at_call 17; refine HC.out.mono ?_; rintro e w1 ⟨rfl, hb1⟩; obtain ⟨hcell, hfroz⟩ := bcell hb1) | (go_at_call 20; refine (rvalid_any p _).mono ?_; rintro e w2 ⟨rfl, hb2⟩))
      go_ret2
      exact ⟨none, 0, by simp [addF, h1, h2], by simp only [addF, h1, h2, Bool.and_false, Bool.false_eq_true, if_false]; exact OwnL.nil_, (HB.out.trans (hb1.mono (by first | omega | (simp; done) | (simp; omega)))).trans (hb2.mono (Nat.le_trans (by simp) hb1.size))⟩
    · have hA : addF xs p = if xs.any (fun q => excl q p) then ([], 5) else (xs ++ [p], 0) := by simp [addF, h1, h2]
      have HA := Lib.hid hA
      clear hA
      unfold Pair.v
      go_enter Try.func10, Try.ntmps10
      go_wp2_with (first | (go_at_call 17; refine HC.out.mono ?_; rintro e w1 ⟨rfl, hb1⟩; obtain ⟨hcell, hfroz⟩ := bcell hb1) | (go_at_call 20; refine (rvalid_any p _).mono ?_; rintro e w2 ⟨rfl, hb2⟩))
      have hW : Below (w.heap.size + 1) (w.alloc (.cells #[.int .i64 p.net, .int .i64 p.loc, .int .i64 p.ev, .int .i64 p.part] 24)) w2 := (hb1.mono (by first | omega | (simp; done) | (simp; omega))).trans (hb2.mono (Nat.le_trans (by simp) hb1.size))
      clear hb1 hb2 hcell hfroz
      go_loopw [6] (fun i wr => ∃ k : Nat, k ≤ xs.length ∧ i = .int .i64 k ∧ (xs.take k).any (fun q => excl q p) = false ∧ Below (w.heap.size + 1) (w.alloc (.cells #[.int .i64 p.net, .int .i64 p.loc, .int .i64 p.ev, .int .i64 p.part] 24)) wr) (fun i _ => xs.length - (intOf i).toNat)
      case atStart => exact ⟨0, Nat.zero_le _, rfl, rfl, hW⟩
      case round =>
        clear hW
        obtain ⟨k, hk, rfl, hf, hb⟩ := hrel
        have HF := Lib.hid hf
        clear hf
        have hbw := HB.out.trans (hb.mono (Nat.le_succ _))
        obtain ⟨e0, e1, e2, e3⟩ := box4 w _ _ _ _ _ hb
        by_cases hlt : k < xs.length
        · obtain ⟨b, off, q, rfl, hbb, hq, c0, c1, c2, c3⟩ := RdP_at (hr.now hbw) hlt
          have HQ := Lib.hid hq
          clear hq
          have hsl : w.heap.size < wr.heap.size := Nat.lt_of_lt_of_le (by simp) hb.size
          go_wp2_with fail
          go_still_tail 5, (by kernel_rfl)
          change wpList _ _ _ _ _ wr.drew
          have hb2 := hb.drew
          clear c0 c1 c2 c3 e0 e1 e2 e3 hb
          generalize wr.drew = w2 at *
          cases hx : excl q p
          · go_wp2_with (first | (go_at_call 24; refine (excl_any q p _).mono ?_; rintro e w3 ⟨rfl, hb3⟩))
            go_roundw
            case rel =>
              refine ⟨k + 1, by omega, by go_num, ?_, hb2.trans (hb3.mono (Nat.le_trans (by simp) hb2.size))⟩
              obtain ⟨_, e1⟩ := List.getElem?_eq_some_iff.1 HQ.out
              rw [List.take_succ_eq_append_getElem hlt, List.any_append, HF.out, e1]
              simp [hx]
            case measure => simp [intOf]; omega
          · go_wp2_with (first | (go_at_call 24; refine (excl_any q p _).mono ?_; rintro e w3 ⟨rfl, hb3⟩))
            go_ret2
            have hany : xs.any (fun q => excl q p) = true := by
              rw [List.any_eq_true]
              exact ⟨q, List.mem_of_getElem? HQ.out, hx⟩
            have h3 := HA.out
            rw [hany, if_pos rfl] at h3
            exact ⟨none, 0, by rw [h3]; rfl, by rw [h3]; exact OwnL.nil_, (HB.out.trans (hb2.mono (Nat.le_succ _))).trans (hb3.mono (Nat.le_trans (Nat.le_trans (Nat.le_succ _) (by simp)) hb2.size))⟩
        · have hany : xs.any (fun q => excl q p) = false := by
            have := HF.out
            rwa [List.take_of_length_le (by omega)] at this
          have h3 := HA.out
          rw [hany, if_neg (by simp)] at h3
          have H3 := Lib.hid h3
          clear h3 hany
          have hsl : w.heap.size + 1 ≤ wr.heap.size := Nat.le_trans (by simp) hb.size
          have B1 := Lib.hid (show (([] : List Pair).length + xs.length) * 32 ≤ 140737488355328 by simp; omega)
          have B2 := Lib.hid (show (([] ++ xs : List Pair).length + [p].length) * 32 ≤ 140737488355328 by simp; omega)
          have HBW := Lib.hid hb
          clear hb hbw
          go_wp2
          have hsl2 : w.heap.size < wr.heap.size := hsl
          have hbw := HBW.out
          have hrx := HB.out.trans (hbw.mono (Nat.le_succ _))
          go_region_law (first
            | (refine step_append_l rfl (.tmp 27) (.tmp 28) rfl slP layP (w.heap.size + 1) [] xs rfl rfl ?c1 rfl rfl ?c2 B1.out ?c3 ?_; (case c1 => repeat (first | with_reducible refine OwnL.drew ?_ | (with_reducible refine OwnL.empty _ _ _ ?_ _ ?_ <;> first | omega | (simp; done) | (simp; omega)) | with_reducible refine OwnL.alloc ?_ _)); (case c2 => exact ⟨_, hr.below (by repeat (first | with_reducible exact hrx | with_reducible refine Below.drew ?_ | with_reducible refine Below.alloc ?_ (by first | omega | (simp; done) | (simp; omega)) _))⟩); (case c3 => first | omega | (simp; done) | (simp; omega)); intro A2 c2 w2 hown hg hbl hat; (have hbb := Below.trans hbw (Below.trans (show Below (w.heap.size + 1) wr _ by repeat (first | with_reducible exact Below.refl _ _ | with_reducible assumption | with_reducible refine Below.drew ?_ | with_reducible refine Below.alloc ?_ (by first | omega | (simp; done) | (simp; omega)) _)) hbl)); obtain ⟨f0, f1, f2, f3⟩ := box4 w _ _ _ _ _ hbb; have hz2 := hg.size; simp at hz2; simp only [Value.ownBlock, List.nil_append] at hg hown)
            | (refine step_append_l rfl (.tmp 29) (.tmp 31) rfl slP layP (w.heap.size + 1) xs [p] rfl rfl ?c1 rfl rfl ?c2 B2.out ?c3 ?_; (case c1 => first | with_reducible exact hown | exact hown.alloc _); (case c2 => first | exact ⟨_, RdP_one (by simp; done) (by simp; done) (by simp; done) (by simp; done)⟩ | exact ⟨_, RdP_one ((grown_cell hg (by first | omega | (simp; done) | (simp; omega)) (by first | omega | (simp; done) | (simp; omega)) _).trans (by simp)) ((grown_cell hg (by first | omega | (simp; done) | (simp; omega)) (by first | omega | (simp; done) | (simp; omega)) _).trans (by simp)) ((grown_cell hg (by first | omega | (simp; done) | (simp; omega)) (by first | omega | (simp; done) | (simp; omega)) _).trans (by simp)) ((grown_cell hg (by first | omega | (simp; done) | (simp; omega)) (by first | omega | (simp; done) | (simp; omega)) _).trans (by simp))⟩); (case c3 => first | omega | (simp; done) | (simp; omega)); intro A3 c3 w3 hown3 hg3 hbl3 hat3))
          all_goals go_wp2
          all_goals go_ret2
          all_goals rw [H3.out]
          all_goals exact ⟨A3, c3, by simp [Act.put], hown3.mono (Nat.le_succ _), HB.out.trans ((Below.trans hbw (Below.trans (show Below (w.heap.size + 1) wr _ by repeat (first | with_reducible exact Below.refl _ _ | with_reducible exact hbl3 | with_reducible exact hbl | with_reducible refine Below.drew ?_ | with_reducible refine Below.alloc ?_ (by first | omega | (simp; done) | (simp; omega)) _ | (with_reducible refine Below.trans ?_ hbl3) | (with_reducible refine Below.trans ?_ hbl))) (Below.refl _ _))).mono (Nat.le_succ _))⟩
end Go.Proofs.Ytlhidlaoecjnpaa
