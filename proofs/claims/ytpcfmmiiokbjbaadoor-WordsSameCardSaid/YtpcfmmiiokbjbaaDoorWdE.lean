/- Contracts of words.Words and of the reference's Words. -/
import Derived.Test.YtpcfmmiiokbjbaaDoorWdD
namespace Go.Proofs.YtpcfmmiiokbjbaaDoor
open Go.RowKit

theorem notPart_gives (w : World) : PredAtRunes Tryd.prog 24 #[] noPart w := by
  intro W x hx _
  show Calls Tryd.prog 24 #[.int .i32 x] W _
  go_enter Tryd.func24, Tryd.ntmps24
  go_wp2_with fail
  refine (part_any x hx _).mono ?_
  rintro e w1 ⟨rfl, rfl⟩
  go_wp2_with fail
  go_ret
  exact ⟨rfl, 0, rfl⟩
theorem fields_list (l : List UInt8) : (Lib.goFieldsP noPart (bs l)).map Value.string = ((Lib.goFieldsP noPart (bs l)).map fun s => s.data.toList).flatMap strE := by
  rw [List.flatMap_map]
  induction Lib.goFieldsP noPart (bs l) with
  | nil => rfl
  | cons s r ih => rw [List.map_cons, List.flatMap_cons, ih]; rfl

theorem fold_len : ∀ (l : List UInt8) (a : List (List UInt8) × List UInt8), (wfin (l.foldl wstep a)).length ≤ (wfin a).length + l.length
  | [], a => by simp
  | c :: r, a => by
    have h := fold_len r (wstep a c)
    have h2 : (wfin (wstep a c)).length ≤ (wfin a).length + 1 := by
      unfold wstep
      split
      · unfold wfin
        simp only
        split
        · split <;> simp <;> omega
        · split <;> simp
      · unfold wfin
        rw [if_pos rfl]
        simp only
        omega
    rw [List.foldl_cons, List.length_cons]
    omega
theorem words_len (l : List UInt8) : (wordsF l).length ≤ l.length := by
  have := fold_len l ([], [])
  simpa [wordsF, wfin] using this
theorem fields_small (l : List UInt8) (hl : l.length ≤ 1000000) : ∀ s ∈ (Lib.goFieldsP noPart (bs l)).map fun s => s.data.toList, s.length ≤ 140737488355328 := fun s hs => by
  obtain ⟨t, ht, rfl⟩ := List.mem_map.1 hs
  unfold Lib.goFieldsP at ht
  obtain ⟨x, _, rfl⟩ := List.mem_map.1 ht
  rw [bs_extract, bs_data]
  simp
  omega
/-- The first k are turned. -/
def lowK (xs : List (List UInt8)) (k : Nat) : List (List UInt8) := (xs.take k).map Lib.toLowerA ++ xs.drop k
theorem lowK_len (xs : List (List UInt8)) (k : Nat) : (lowK xs k).length = xs.length := by simp [lowK]; omega
theorem lowK_set (xs : List (List UInt8)) (k : Nat) (hk : k < xs.length) : (lowK xs k).set k (Lib.toLowerA xs[k]) = lowK xs (k + 1) := by
  have hd : xs.drop k = xs[k] :: xs.drop (k + 1) := List.drop_eq_getElem_cons hk
  have e : k - ((xs.take k).map Lib.toLowerA).length = 0 := by simp; omega
  unfold lowK
  rw [List.take_succ_eq_append_getElem hk, List.map_append, List.set_append_right _ _ (by simp; omega), hd, e, List.set_cons_zero]
  simp only [List.map_cons, List.map_nil, List.append_assoc, List.cons_append, List.nil_append]
theorem lowK_get (xs : List (List UInt8)) (k : Nat) (hk : k < xs.length) : (lowK xs k)[k]'(by rw [lowK_len]; exact hk) = xs[k] := by
  unfold lowK
  rw [List.getElem_append_right (by simp; omega)]
  simp [show k - min k xs.length = 0 by omega]
set_option maxHeartbeats 1000000 in
theorem words_any (l : List UInt8) (w : World) (hl : l.length ≤ 1000000) :
    Calls Tryd.prog 10 #[.string (bs l)] w fun x w' => ∃ A c, x = .returned (.slice A (wordsF l).length c) ∧ OwnL w' w.heap.size 9 1 strE A c (wordsF l) ∧ Below w.heap.size w w' := by
  have HF := Lib.hid (Tryd.strings_FieldsFunc_runes 24 #[] (enters_of Tryd.func24 (by kernel_rfl) rfl) noPart (bs l) w (by rw [bs_size]; omega) (notPart_gives w))
  have HL := Lib.hid (fields_list l)
  have HW : Hid (((Lib.goFieldsP noPart (bs l)).map fun s => s.data.toList).map Lib.toLowerA = wordsF l) := Lib.hid (by rw [List.map_map]; exact fields_words l)
  have HA := Lib.hid (fields_ascii l)
  go_enter Tryd.func10, Tryd.ntmps10
  go_wp2_with fail
  refine HF.out.mono ?_
  rintro e w1 ⟨A, rfl, hA, ho, hb1⟩
  rw [HL.out] at ho
  have HAs : Hid (∀ s ∈ (Lib.goFieldsP noPart (bs l)).map fun s => s.data.toList, ∀ b ∈ s, b.toNat < 128) := Lib.hid (fun s hs b hb => by
    obtain ⟨t, ht, rfl⟩ := List.mem_map.1 hs
    exact HA.out t ht b hb)
  have hlen : (Lib.goFieldsP noPart (bs l)).length = ((Lib.goFieldsP noPart (bs l)).map fun s => s.data.toList).length := by simp
  rw [hlen] at ho ⊢
  have HSm : Hid (∀ s ∈ (Lib.goFieldsP noPart (bs l)).map fun s => s.data.toList, s.length ≤ 140737488355328) := Lib.hid (fun s hs => fields_small l hl s hs)
  clear hlen HF HL HA
  generalize ((Lib.goFieldsP noPart (bs l)).map fun s => s.data.toList) = xs at *
  have HO : Hid (OwnL w1 w.heap.size 9 1 strE (some ⟨A, 0, none⟩) xs.length xs) := Lib.hid ho
  have HB := Lib.hid hb1
  have hxl : xs.length ≤ 1000000 := by have h1 := congrArg List.length HW.out; have h2 := words_len l; rw [List.length_map] at h1; omega
  clear ho hb1 hA
  go_wp2_with fail
  go_loopw [9] (fun i wr => ∃ k : Nat, k ≤ xs.length ∧ i = .int .i64 k ∧ OwnL wr w.heap.size 9 1 strE (some ⟨A, 0, none⟩) xs.length (lowK xs k) ∧ Below w.heap.size w wr) (fun i _ => xs.length - (intOf i).toNat)
  case atStart => exact ⟨0, Nat.zero_le _, rfl, by simpa [lowK] using HO.out, HB.out⟩
  case round =>
    obtain ⟨k, hk, rfl, hown, hb⟩ := hrel
    have HO2 := Lib.hid hown
    have HB2 := Lib.hid hb
    clear hown hb HO HB
    by_cases hlt : k < xs.length
    · obtain ⟨b, off, hA, hbl, hc⟩ := rd_str' (HO2.out.rd strLay) (k := k) (by rw [lowK_len]; exact hlt)
      cases hA
      rw [lowK_get xs k hlt, Nat.zero_add] at hc
      have HSt := Lib.hid (lowK_set xs k hlt)
      have HAx := Lib.hid (HAs.out _ (List.getElem_mem hlt))
      have HLn := Lib.hid (lowK_len xs k)
      have HSl := Lib.hid (HSm.out _ (List.getElem_mem hlt))
      generalize xs[k] = s at *
      go_wp2_with fail
      refine (Tryd.strings_ToLower_ascii (bs s) wr (by rw [bs_size]; exact HSl.out) (fun j b hb => HAx.out b (List.mem_of_getElem? hb))).mono ?_
      rintro e w3 ⟨rfl, hb3⟩
      have HO3 := Lib.hid (HO2.out.below hb3)
      have HB3 := Lib.hid (HB2.out.trans (hb3.mono HB2.out.size))
      clear hb3 hc hbl
      go_wp2_with (first
        | ((with_reducible show wpList _ _ _ (Oper.mk _ (Op.store 9 _ _) _ _ _ _ :: _) _ _); refine wp_store_l rfl _ _ rfl slStr strLay HO3.out k (by rw [HLn.out]; exact hlt) k rfl (by omega) (Lib.toLowerA s) _ rfl rfl ?_; intro w4 hown4 hg4; have HO4 := Lib.hid hown4; have HG4 := Lib.hid hg4; clear hown4 hg4)
        | fail)
      go_roundw
      case rel => exact ⟨k + 1, by omega, by go_num, by rw [← HSt.out]; exact HO4.out, HB3.out.grown HG4.out HB3.out.size (fun j hj => (HO3.out.blk_lt hj).1)⟩
      case measure => simp [intOf]; omega
    · have HE : Hid (lowK xs k = wordsF l) := Lib.hid (by rw [← HW.out, lowK, List.take_of_length_le (by omega), List.drop_of_length_le (by omega), List.append_nil])
      have HLe : Hid (xs.length = (wordsF l).length) := Lib.hid (by rw [← HW.out]; simp)
      go_wp2_with fail
      go_ret
      refine ⟨some ⟨A, 0, none⟩, xs.length, by rw [← HLe.out]; rfl, ?_, HB2.out⟩
      rw [← HE.out]
      exact HO2.out
end Go.Proofs.YtpcfmmiiokbjbaaDoor
