/- Contract of Put of the reference. -/
import Derived.Test.YtjgeefagnddpfaaDkRC
namespace Go.Proofs.Ytjgeefagnddpfaa
open Go.RowKit

/-- j bytes of t have been written into l, from a on. -/
def stageL (l : List UInt8) (a : Nat) (t : List UInt8) (j : Nat) : List UInt8 := l.take a ++ (t.take j ++ l.drop (a + j))
theorem stage_zero (l : List UInt8) (a : Nat) (t : List UInt8) : stageL l a t 0 = l := by simp [stageL]
theorem stage_len (l : List UInt8) (a : Nat) (t : List UInt8) (j : Nat) (h : a + t.length ≤ l.length) (hj : j ≤ t.length) : (stageL l a t j).length = l.length := by
  unfold stageL
  rw [List.length_append, List.length_append, List.length_take, List.length_take, List.length_drop]
  omega
theorem stage_step (l : List UInt8) (a : Nat) (t : List UInt8) (j : Nat) (h : a + t.length ≤ l.length) (hj : j < t.length) : (stageL l a t j).set (a + j) t[j] = stageL l a t (j + 1) := by
  have hd : l.drop (a + j) = l[a + j] :: l.drop (a + (j + 1)) := List.drop_eq_getElem_cons (by omega)
  unfold stageL
  rw [hd, List.take_succ_eq_append_getElem hj]
  have h1 : (l.take a).length = a := by rw [List.length_take]; omega
  have h2 : (t.take j).length = j := by rw [List.length_take]; omega
  rw [List.set_append_right _ _ (by omega), List.set_append_right _ _ (by omega), h1, h2, show a + j - a - j = 0 by omega, List.set_cons_zero]
  simp only [List.append_assoc, List.singleton_append]
theorem pad_all (s : List UInt8) (n m : Nat) (h : m = n - s.length) : s ++ List.replicate m 0 = padL s n := by rw [h]; rfl
theorem stage_put (s : List UInt8) (a : Nat) (t : List UInt8) : stageL (padL s (a + t.length)) a t t.length = putL s a t := by
  unfold stageL putL
  rw [List.take_of_length_le (Nat.le_refl _)]
theorem ba_getL (t : ByteArray) (j : Nat) (h : j < t.size) (h2 : j < t.data.toList.length) : t.data.toList[j] = t[j] := by
  rw [Array.getElem_toList]
  rfl
set_option maxHeartbeats 1000000 in
theorem rPut_any (s t : ByteArray) (n : Nat) (w : World) (hs : s.size ≤ 1073741824) (ht : n + t.size ≤ 1073741824) :
    Calls Try.prog 61 #[.string s, .int .i64 n, .string t] w fun e w' => e = .returned (.string (putB s n t)) ∧ Below w.heap.size w w' := by
  obtain ⟨i, hi1, hi2, hi3, hi4⟩ := infoU8
  by_cases h0 : t.size = 0
  · obtain rfl := str_eq0 h0
    have hem := e0_empty
    go_enter Try.func61, Try.ntmps61
    go_wp2
    go_ret
    exact ⟨rfl, Below.refl _ _⟩
  · have hne := str_ne0 h0
    have hd0 := dlen t
    have hds := dlen s
    have HD0 := Lib.hid hd0
    have HDS := Lib.hid hds
    clear hd0 hds
    have hml : s.size ≤ maxLen := by simp only [maxLen]; omega
    go_enter Try.func61, Try.ntmps61
    go_wp2_with ((with_reducible show wpList _ _ _ (Oper.mk (some 13) _ _ _ _ _ :: _) _ _); refine wp_bytes_b rfl _ _ _ rfl Try.underlying9 Try.underlying85 Try.underlying5 s rfl hml ?_; intro c1 w1 hown hb1; have HO := Lib.hid hown; have HB := Lib.hid hb1; clear hown hb1)
    go_loopw [7] (fun v wr => ∃ (m g c : Nat), v = .slice (some ⟨g, 0, none⟩) (s.size + m) c ∧ m ≤ n + t.size - s.size ∧ OwnB wr w.heap.size 5 g c (s.data.toList ++ List.replicate m 0) ∧ Below w.heap.size w wr) (fun v _ => n + t.size - (match v with | .slice _ k _ => k | _ => 0))
    case atStart => exact ⟨0, w.heap.size, c1, rfl, Nat.zero_le _, by simpa using HO.out, HB.out⟩
    case round =>
      clear HO HB
      obtain ⟨m, g, c, rfl, hm, ho, hb⟩ := hrel
      have HO := Lib.hid ho
      have HB := Lib.hid hb
      have hz := hb.size
      have hlen : (s.data.toList ++ List.replicate m (0 : UInt8)).length = s.size + m := by rw [List.length_append, List.length_replicate, HDS.out]
      have HLen := Lib.hid hlen
      have hlt := ho.lt
      clear ho hb hlen
      by_cases hc : s.size + m < n + t.size
      · go_wp2_with (at_builtin; refine wp_append_b rfl (.tmp 21) (.tmp 22) rfl Try.underlying85 hi1 hi2 hi3 hi4 rfl HLen.out.symm (HO.out.below ((Below.refl _ _).alloc (Nat.le_refl _) _)) (0 : UInt8) rfl (by simp) (by rw [HLen.out]; omega) (by simp; omega) ?_; intro g2 c2 w2 hown hg2; have HO2 := Lib.hid hown; have HG2 := Lib.hid hg2; clear hown hg2)
        have hgl := HO.out.lo
        go_roundw
        case rel => exact ⟨m + 1, g2, c2, rfl, by omega, by rw [List.replicate_succ', ← List.append_assoc]; exact HO2.out, ((HB.out.alloc (by omega) _).grown HG2.out (by simp; omega) (fun k hk => by injection hk with hk; omega))⟩
        case measure => show n + t.size - (s.size + m + 1) < n + t.size - (s.size + m); omega
      · have HP : Hid (s.data.toList ++ List.replicate m 0 = padL s.data.toList (n + t.data.toList.length)) := Lib.hid (pad_all _ _ _ (by rw [HDS.out, HD0.out]; omega))
        rw [HP.out] at HO
        have hz1 : s.size + m = max s.size (n + t.size) := by omega
        rw [HP.out] at HLen
        obtain ⟨P, hP⟩ : ∃ P, P = padL s.data.toList (n + t.data.toList.length) := ⟨_, rfl⟩
        rw [← hP] at HO HLen
        have HP2 := Lib.hid hP
        have hPl : n + t.data.toList.length ≤ P.length := by rw [HLen.out, HD0.out]; omega
        have HPl := Lib.hid hPl
        clear HP hP hz1 hPl
        generalize s.size + m = z at *
        go_wp2
        obtain ⟨wo, rfl⟩ : ∃ x, x = wr := ⟨_, rfl⟩
        go_loopw [8] (fun v wr => ∃ j : Nat, j ≤ t.size ∧ v = .int .i64 j ∧ OwnB wr w.heap.size 5 g c (stageL P n t.data.toList j) ∧ Below w.heap.size w wr) (fun v _ => t.size - (intOf v).toNat)
        case atStart => exact ⟨0, Nat.zero_le _, rfl, by rw [stage_zero]; exact HO.out, HB.out⟩
        case round =>
          clear HO HB hlt hz
          obtain ⟨j, hj, rfl, ho, hb⟩ := hrel
          have HO := Lib.hid ho
          have HB := Lib.hid hb
          by_cases hjt : j < t.size
          · have hlj : j < t.data.toList.length := by rw [HD0.out]; exact hjt
            have hsl : (stageL P n t.data.toList j).length = z := by rw [stage_len _ _ _ _ HPl.out (by omega), HLen.out]
            have hnj : n + j < z := by have := HPl.out; rw [HLen.out, HD0.out] at this; omega
            have hcell := ho.cell (n + j) (by rw [hsl]; exact hnj)
            have hfree := ho.free (n + j) (by have := ho.len; rw [hsl] at this; omega)
            have HSet := Lib.hid (ho.set (n + j) t.data.toList[j])
            rw [stage_step _ _ _ _ HPl.out hlj, ba_getL t j hjt hlj] at HSet
            have hgl := ho.lo
            obtain ⟨u0, hu0⟩ : ∃ u, u = (stageL P n t.data.toList j)[n + j]'(by rw [hsl]; exact hnj) := ⟨_, rfl⟩
            rw [← hu0] at hcell
            clear ho hb hsl hu0
            go_wp2
            go_roundw
            case rel => exact ⟨j + 1, by omega, by go_num, HSet.out, HB.out.setCell (p := ⟨g, n + j, none⟩) hgl _⟩
            case measure => simp [intOf]; omega
          · have hjt2 : j = t.data.toList.length := by rw [HD0.out]; omega
            have HE : Hid (stageL P n t.data.toList j = putL s.data.toList n t.data.toList) := Lib.hid (by rw [hjt2, HP2.out, stage_put])
            have hzl : z = (stageL P n t.data.toList j).length := by rw [stage_len _ _ _ _ HPl.out (by omega), HLen.out]
            have HZL := Lib.hid hzl
            clear hjt2 hzl ho hb
            go_wp2_with ((with_reducible show wpList _ _ _ (Oper.mk (some 39) _ _ _ _ _ :: _) _ _); refine wp_string_b rfl _ _ _ rfl Try.underlying85 Try.underlying5 Try.underlying9 rfl HZL.out HO.out ?_)
            go_ret
            exact ⟨by rw [putB, if_neg h0, HE.out]; rfl, HB.out⟩
end Go.Proofs.Ytjgeefagnddpfaa
