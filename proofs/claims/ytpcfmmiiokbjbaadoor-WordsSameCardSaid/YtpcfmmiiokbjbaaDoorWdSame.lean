/- The walk of WordsSame. -/
import Derived.Test.YtpcfmmiiokbjbaaDoorWdTells
import Derived.Test.YtpcfmmiiokbjbaaDoorWdUp
import Derived.Test.YtpcfmmiiokbjbaaDoorWdErase
import Derived.Test.YtpcfmmiiokbjbaaDoorDetE
namespace Go.Proofs.YtpcfmmiiokbjbaaDoor
open Go.RowKit

theorem takeW_at (p : UInt8 → Bool) : ∀ (l : List UInt8) (i : Nat) (h : i < (l.takeWhile p).length), ∃ hs : i < l.length, (l.takeWhile p)[i] = l[i] ∧ p l[i] = true
  | [], i, h => by simp at h
  | c :: r, i, h => by
    cases hc : p c with
    | false => simp [List.takeWhile_cons, hc] at h
    | true =>
      cases i with
      | zero => exact ⟨by simp, by simp [List.takeWhile_cons, hc], by simpa using hc⟩
      | succ i =>
        have h' : i < (r.takeWhile p).length := by simpa [List.takeWhile_cons, hc] using h
        obtain ⟨h1, h2, h3⟩ := takeW_at p r i h'
        exact ⟨by simpa using h1, by simp [List.takeWhile_cons, hc, h2], by simpa using h3⟩
theorem takeW_stop (p : UInt8 → Bool) : ∀ (l : List UInt8) (h : (l.takeWhile p).length < l.length), p l[(l.takeWhile p).length] = false
  | [], h => by simp at h
  | c :: r, h => by
    cases hc : p c with
    | false => simp [List.takeWhile_cons, hc]
    | true =>
      have h' : (r.takeWhile p).length < r.length := by simpa [List.takeWhile_cons, hc] using h
      have := takeW_stop p r h'
      simpa [List.takeWhile_cons, hc] using this
theorem lineF_at (s : List UInt8) (most : Int) (i : Nat) (h : i < (lineF s most).length) : ∃ hs : i < s.length, (lineF s most)[i] = s[i] ∧ s[i] ≠ 10 := by
  have h1 : i < (s.takeWhile fun c => c != 10).length := by unfold lineF at h; rw [List.length_take] at h; omega
  obtain ⟨h2, h3, h4⟩ := takeW_at (fun c => c != 10) s i h1
  refine ⟨h2, ?_, by simpa using h4⟩
  rw [← h3]
  simp [lineF]
theorem lineF_stop (s : List UInt8) (most : Int) (h1 : ((lineF s most).length : Int) < most) (h2 : (lineF s most).length < s.length) : s[(lineF s most).length] = 10 := by
  have e : (lineF s most).length = (s.takeWhile fun c => c != 10).length := by
    unfold lineF at h1 ⊢
    rw [List.length_take] at h1 ⊢
    omega
  have h := takeW_stop (fun c => c != 10) s (by omega)
  simp only [e]
  simpa using h
theorem words_small : ∀ (l : List UInt8) (a : List (List UInt8) × List UInt8) (N : Nat), (∀ v ∈ a.1, v.length ≤ N) → a.2.length ≤ N → ∀ v ∈ wfin (l.foldl wstep a), v.length ≤ N + l.length
  | [], a, N, h1, h2 => by
    intro v hv
    rw [List.foldl_nil, wfin] at hv
    split at hv
    · have := h1 v hv; simp; omega
    · rcases List.mem_append.1 hv with h | h
      · have := h1 v h; simp; omega
      · simp only [List.mem_singleton] at h; subst h; simp; omega
  | c :: r, a, N, h1, h2 => by
    intro v hv
    rw [List.foldl_cons] at hv
    have := words_small r (wstep a c) (N + 1) (by
      intro u hu
      unfold wstep at hu
      split at hu
      · have := h1 u hu; omega
      · simp only at hu
        split at hu
        · have := h1 u hu; omega
        · rcases List.mem_append.1 hu with h | h
          · have := h1 u h; omega
          · simp only [List.mem_singleton] at h; subst h; omega) (by
      unfold wstep
      split
      · simp; omega
      · simp) v hv
    simp only [List.length_cons]
    omega
theorem word_small (s : List UInt8) : ∀ v ∈ wordsF s, v.length ≤ s.length := fun v hv => by
  have := words_small s ([], []) 0 (by simp) (by simp) v hv
  omega
/-- The words with a blank ahead of each. -/
def joinF (ws : List (List UInt8)) : List UInt8 := ws.flatMap fun v => 32 :: v
theorem joinF_take (ws : List (List UInt8)) (k : Nat) (hk : k < ws.length) : joinF (ws.take (k + 1)) = joinF (ws.take k) ++ 32 :: ws[k] := by
  unfold joinF
  rw [List.take_succ_eq_append_getElem hk, List.flatMap_append]
  simp
theorem joinF_len : ∀ (ws : List (List UInt8)) (N : Nat), (∀ v ∈ ws, v.length ≤ N) → (joinF ws).length ≤ ws.length * (N + 1)
  | [], N, _ => by simp [joinF]
  | v :: r, N, h => by
    have h1 := joinF_len r N (fun u hu => h u (by simp [hu]))
    have h2 := h v (by simp)
    unfold joinF at h1 ⊢
    rw [List.flatMap_cons, List.length_append, List.length_cons, List.length_cons, Nat.add_mul]
    omega
theorem words_joinF (s : List UInt8) : wordsF (joinF (wordsF s)) = wordsF s := words_join (words_ok s)
theorem find_own (s v : List UInt8) (hv : v ∈ wordsF s) : findF [s, []] v = [0] := by
  rw [findF_one (words_word (words_ok s v hv))]
  have h1 : hasW v s = true := by unfold hasW hasB; rw [List.contains_iff_mem]; exact hv
  have h2 : hasW v [] = false := by simp [hasW, hasB, wordsF, wfin]
  simp [idxs, h1, h2]
theorem words_c2 (s : List UInt8) (ws : List (List UInt8)) (hs : s.length ≤ 1000000) (h : wordsF s = ws) (w : World) :
    Calls Tryd.prog 10 #[.string (bs s)] w fun x w' => ∃ A c, x = .returned (.slice A ws.length c) ∧ RdL 1 strE w' w'.heap.size A ws ∧ Below w.heap.size w w' :=
  (words_any s w hs).mono fun x w' ⟨A, c, hx, ho, hb⟩ => ⟨A, c, h ▸ hx, h ▸ ho.rd strLay, hb⟩
theorem find_c2 (texts : List (List UInt8)) (word : List UInt8) (r : List Int) (A : Option Addr) (c : Nat) (w : World) (h : findF texts word = r) (hr : RdL 1 strE w w.heap.size A texts) (hn : texts.length ≤ 1000000) (hx : ∀ x ∈ texts, x.length ≤ 1000000) (hl : word.length ≤ 1000000) :
    Calls Tryd.prog 17 #[.slice A texts.length c, .string (bs word)] w fun x w' => ∃ A2 c2, x = .returned (.slice A2 r.length c2) ∧ RdL 1 intE w' w'.heap.size A2 r ∧ Below w.heap.size w w' :=
  (find_any texts word A c w hr hn hx hl).mono fun x w' ⟨A2, c2, hx, ho, hb⟩ => ⟨A2, c2, h ▸ hx, h ▸ ho.rd intLay, hb⟩
set_option maxRecDepth 100000 in
set_option maxHeartbeats 8000000 in
theorem same10_any (s : List UInt8) (most : Nat) (w : World) (hV : Vs w.heap.size w) (hmo : most ≤ 255) :
    Calls Tryd.prog 6 #[.string (bs s), .int .u8 most] w fun e w' => e = .returned (.bool true) ∧ Below w.heap.size w w' := by
  have HV := Lib.hid hV
  have hbz : (bs s).size = s.length := bs_size s
  have HB0 := Lib.hid (Below.refl w.heap.size w)
  clear hV
  go_enter Tryd.func6, Tryd.ntmps6
  go_wp2_with fail
  refine (small10_any _ HV.out).mono ?_
  rintro e w1 ⟨rfl, hb⟩
  have HB1 := Lib.hid (HB0.out.trans (hb.mono HB0.out.size))
  clear hb
  by_cases g1 : (400 : Int) < s.length
  · have d1 : decide ((400 : Int) < s.length) = true := by simp; omega
    go_wp2_with fail
    go_ret
    exact ⟨rfl, HB1.out⟩
  have d1 : decide ((400 : Int) < s.length) = false := by simp; omega
  have hls : s.length ≤ 400 := by omega
  have HWl := Lib.hid (words_len s)
  have HWs := Lib.hid (word_small s)
  have HWo := Lib.hid (words_ok s)
  have HFo := Lib.hid (find_own s)
  have HJo := Lib.hid (words_joinF s)
  clear g1
  go_wp2_with fail
  refine (words_any s _ (by omega)).mono ?_
  rintro e w2 ⟨A2, c2, rfl, ho, hb⟩
  have HR2 := Lib.hid (ho.rd (strLay))
  have HN2 := Lib.hid hb
  have HB2 := Lib.hid (HB1.out.trans (hb.mono HB1.out.size))
  clear hb ho
  have HUp := Lib.hid (words_up s)
  generalize wordsF s = ws at *
  go_wp2_with fail
  have hwl := HWl.out
  go_loopw [7, 8] (fun al i wr => ∃ k : Nat, k ≤ ws.length ∧ i = .int .i64 k ∧ al = .string (bs (joinF (ws.take k))) ∧ Below w2.heap.size w2 wr) (fun _ i _ => ws.length - (intOf i).toNat)
  case atStart => exact ⟨0, Nat.zero_le _, rfl, rfl, Below.refl _ _⟩
  case round =>
    obtain ⟨k, hk, rfl, rfl, hb⟩ := hrel
    have HB := Lib.hid hb
    have HJl : Hid ((joinF (ws.take k)).length ≤ 1000000) := Lib.hid (by
      have h := joinF_len (ws.take k) 400 (fun v hv => by have := HWs.out v (List.mem_of_mem_take hv); omega)
      rw [List.length_take] at h
      have : min k ws.length * (400 + 1) ≤ 400 * 401 := Nat.mul_le_mul (by omega) (by omega)
      omega)
    clear hb
    by_cases hlt : k < ws.length
    · have HRk := Lib.hid (HR2.out.now HB.out)
      obtain ⟨b, off, hA, hbl, hc⟩ := rd_str' HRk.out hlt
      subst hA
      have HSt := Lib.hid (joinF_take ws k hlt)
      have HMem : Hid (ws[k] ∈ ws) := Lib.hid (List.getElem_mem hlt)
      have HVw := Lib.hid (words_word (HWo.out _ HMem.out))
      have HVl := Lib.hid (HWs.out _ HMem.out)
      have HVf := Lib.hid (HFo.out _ HMem.out)
      generalize ws[k] = v at *
      generalize joinF (ws.take k) = al at *
      have hjl := HJl.out
      have hvl := HVl.out
      go_wp2_with (first
        | ((with_reducible show wpList _ _ _ (Oper.mk _ (Op.binOp .add 9 _ _ _) _ _ _ _ :: _) _ _); refine wp_cat rfl rfl Tryd.underlying9 rfl rfl (by first | omega | (simp; done) | (simp; omega)) ?_)
        | fail)
      refine wp_region_below [(4, fun g => .slice g.1 1 g.2, fun g w' => RdL 1 strE w' w'.heap.size g.1 [v]), (9, fun g => .slice g.1 1 1, fun g w' => RdL 1 strE w' w'.heap.size g.1 [v]), (10, fun _ => .bool true, fun _ _ => True), (14, fun g => .slice g.1 2 2, fun g w' => RdL 1 strE w' w'.heap.size g.1 [s, []]), (19, fun g => .slice g.1 1 g.2, fun g w' => RdL 1 intE w' w'.heap.size g.1 [0]), (20, fun g => .slice g.1 1 1, fun g w' => RdL 1 intE w' w'.heap.size g.1 [0]), (21, fun _ => .bool true, fun _ _ => True)] (by kernel_rfl) (by kernel_rfl) (by repeat (first | exact trivial | refine ⟨fun g wa wb hs hs' ht h => by first | exact trivial | exact h.now ht | exact h.below ht | exact ht.cell h | exact h, ?_⟩)) ?_
      rw [List.toList_toArray]
      repeat (first
        | (refine DetE.skip (by rfl) ?_; simp only [Act.put, List.setIfInBounds_toArray, List.set_cons_zero, List.set_cons_succ, List.getElem_toArray, List.getElem_cons_zero, List.getElem_cons_succ])
        | (refine DetE.read (v := ?_) (by rfl) (by rfl) ?_ ?_; rotate_left; (· (intro wq hSq hkq; have hcq := (hSq.cell (p := ⟨b, off + k, none⟩) hbl).trans hc; go_simp; try with_reducible rfl)); simp only [Act.put, List.setIfInBounds_toArray, List.set_cons_zero, List.set_cons_succ, List.getElem_toArray, List.getElem_cons_zero, List.getElem_cons_succ])
        | fail)
      refine DetE.eff _ _ (by rfl) (by rfl) (fun wq hSq hkq K hK => ?_) (fun g4 => ?_)
      · go_simp
        refine (words_c2 v [v] (by omega) HVw.out wq).mono ?_
        rintro e4 w4 ⟨A4, c4, rfl, hr4, hb4⟩
        go_wp2_with fail
        exact hK.out ((A4, c4)) _ (hSq.trans (hb4.mono hSq.size)) hb4 (hr4) _ rfl
      simp only [Act.put, List.setIfInBounds_toArray, List.set_cons_zero, List.set_cons_succ, List.getElem_toArray, List.getElem_cons_zero, List.getElem_cons_succ]
      repeat (first
        | (refine DetE.skip (by rfl) ?_; simp only [Act.put, List.setIfInBounds_toArray, List.set_cons_zero, List.set_cons_succ, List.getElem_toArray, List.getElem_cons_zero, List.getElem_cons_succ])
        | (refine DetE.read (v := ?_) (by rfl) (by rfl) ?_ ?_; rotate_left; (· (intro wq hSq hkq; have hcq := (hSq.cell (p := ⟨b, off + k, none⟩) hbl).trans hc; go_simp; try with_reducible rfl)); simp only [Act.put, List.setIfInBounds_toArray, List.set_cons_zero, List.set_cons_succ, List.getElem_toArray, List.getElem_cons_zero, List.getElem_cons_succ])
        | fail)
      refine DetE.eff _ _ (by rfl) (by rfl) (fun wq hSq hkq K hK => ?_) (fun g9 => ?_)
      · go_simp
        have hb4 := fun o => (Below.refl wq.heap.size wq).alloc (Nat.le_refl _) o
        exact hK.out ((some ⟨wq.heap.size, 0, none⟩, 0)) _ (hSq.trans ((hb4 _).mono hSq.size)) (hb4 _) (RdL.block strLay wq [v] _ _ rfl _ rfl) _ rfl
      simp only [Act.put, List.setIfInBounds_toArray, List.set_cons_zero, List.set_cons_succ, List.getElem_toArray, List.getElem_cons_zero, List.getElem_cons_succ]
      refine DetE.eff _ _ (by rfl) (by rfl) (fun wq hSq hkq K hK => ?_) (fun g10 => ?_)
      · go_simp
        refine (sameW_refl [v] g4.1 g9.1 g4.2 1 wq (hkq 4 _ rfl (by kernel_rfl)) (hkq 9 _ rfl (by kernel_rfl)) (by simp)).mono ?_
        rintro e4 w4 ⟨rfl, hb4⟩
        go_wp2_with fail
        exact hK.out ((none, 0)) _ (hSq.trans (hb4.mono hSq.size)) hb4 (trivial) _ rfl
      simp only [Act.put, List.setIfInBounds_toArray, List.set_cons_zero, List.set_cons_succ, List.getElem_toArray, List.getElem_cons_zero, List.getElem_cons_succ]
      repeat (first
        | (refine DetE.skip (by rfl) ?_; simp only [Act.put, List.setIfInBounds_toArray, List.set_cons_zero, List.set_cons_succ, List.getElem_toArray, List.getElem_cons_zero, List.getElem_cons_succ])
        | (refine DetE.read (v := ?_) (by rfl) (by rfl) ?_ ?_; rotate_left; (· (intro wq hSq hkq; skip; go_simp; try with_reducible rfl)); simp only [Act.put, List.setIfInBounds_toArray, List.set_cons_zero, List.set_cons_succ, List.getElem_toArray, List.getElem_cons_zero, List.getElem_cons_succ])
        | fail)
      refine DetE.eff _ _ (by rfl) (by rfl) (fun wq hSq hkq K hK => ?_) (fun g14 => ?_)
      · go_simp
        have hb4 := fun o => (Below.refl wq.heap.size wq).alloc (Nat.le_refl _) o
        exact hK.out ((some ⟨wq.heap.size, 0, none⟩, 0)) _ (hSq.trans ((hb4 _).mono hSq.size)) (hb4 _) (RdL.block strLay wq [s, []] _ _ rfl _ rfl) _ rfl
      simp only [Act.put, List.setIfInBounds_toArray, List.set_cons_zero, List.set_cons_succ, List.getElem_toArray, List.getElem_cons_zero, List.getElem_cons_succ]
      repeat (first
        | (refine DetE.skip (by rfl) ?_; simp only [Act.put, List.setIfInBounds_toArray, List.set_cons_zero, List.set_cons_succ, List.getElem_toArray, List.getElem_cons_zero, List.getElem_cons_succ])
        | (refine DetE.read (v := ?_) (by rfl) (by rfl) ?_ ?_; rotate_left; (· (intro wq hSq hkq; have hcq := (hSq.cell (p := ⟨b, off + k, none⟩) hbl).trans hc; go_simp; try with_reducible rfl)); simp only [Act.put, List.setIfInBounds_toArray, List.set_cons_zero, List.set_cons_succ, List.getElem_toArray, List.getElem_cons_zero, List.getElem_cons_succ])
        | fail)
      refine DetE.eff _ _ (by rfl) (by rfl) (fun wq hSq hkq K hK => ?_) (fun g19 => ?_)
      · go_simp
        refine (find_c2 [s, []] v [0] g14.1 2 wq HVf.out (hkq 14 _ rfl (by kernel_rfl)) (by simp) (by simp; omega) (by omega)).mono ?_
        rintro e4 w4 ⟨A4, c4, rfl, hr4, hb4⟩
        go_wp2_with fail
        exact hK.out ((A4, c4)) _ (hSq.trans (hb4.mono hSq.size)) hb4 (hr4) _ rfl
      simp only [Act.put, List.setIfInBounds_toArray, List.set_cons_zero, List.set_cons_succ, List.getElem_toArray, List.getElem_cons_zero, List.getElem_cons_succ]
      refine DetE.eff _ _ (by rfl) (by rfl) (fun wq hSq hkq K hK => ?_) (fun g20 => ?_)
      · go_simp
        have hb4 := fun o => (Below.refl wq.heap.size wq).alloc (Nat.le_refl _) o
        exact hK.out ((some ⟨wq.heap.size, 0, none⟩, 0)) _ (hSq.trans ((hb4 _).mono hSq.size)) (hb4 _) (RdL.block intLay wq [0] _ _ rfl _ rfl) _ rfl
      simp only [Act.put, List.setIfInBounds_toArray, List.set_cons_zero, List.set_cons_succ, List.getElem_toArray, List.getElem_cons_zero, List.getElem_cons_succ]
      refine DetE.eff _ _ (by rfl) (by rfl) (fun wq hSq hkq K hK => ?_) (fun g21 => ?_)
      · go_simp
        refine (intsW_refl [0] g19.1 g20.1 g19.2 1 wq (hkq 19 _ rfl (by kernel_rfl)) (hkq 20 _ rfl (by kernel_rfl)) (by simp)).mono ?_
        rintro e4 w4 ⟨rfl, hb4⟩
        go_wp2_with fail
        exact hK.out ((none, 0)) _ (hSq.trans (hb4.mono hSq.size)) hb4 (trivial) _ rfl
      simp only [Act.put, List.setIfInBounds_toArray, List.set_cons_zero, List.set_cons_succ, List.getElem_toArray, List.getElem_cons_zero, List.getElem_cons_succ]
      repeat (first
        | (refine DetE.skip (by rfl) ?_; simp only [Act.put, List.setIfInBounds_toArray, List.set_cons_zero, List.set_cons_succ, List.getElem_toArray, List.getElem_cons_zero, List.getElem_cons_succ])
        | (refine DetE.read (v := ?_) (by rfl) (by rfl) ?_ ?_; rotate_left; (· (intro wq hSq hkq; skip; go_simp; try with_reducible rfl)); simp only [Act.put, List.setIfInBounds_toArray, List.set_cons_zero, List.set_cons_succ, List.getElem_toArray, List.getElem_cons_zero, List.getElem_cons_succ])
        | fail)
      refine DetE.done fun wz hz hkz => ?_
      have HZ := Lib.hid (HB.out.trans (hz.mono HB.out.size))
      clear hkz hz
      go_wp2_with fail
      go_roundw
      case rel => exact ⟨k + 1, by omega, by go_num, by rw [HSt.out]; try simp, HZ.out⟩
      case measure => simp [intOf]; omega
    · have HJ2 : Hid (joinF (ws.take k) = joinF ws) := Lib.hid (by rw [List.take_of_length_le (by omega)])
      rw [HJ2.out] at HJl ⊢
      have HB3 := Lib.hid (HB2.out.trans (HB.out.mono HB2.out.size))
      have HR3 := Lib.hid (HR2.out.now HB.out)
      clear HB HR2
      go_wp2_with fail
      refine (line_any s most _ (by omega) ⟨by omega, by omega⟩).mono ?_
      rintro e w4 ⟨rfl, hb⟩
      have HN4 := Lib.hid hb
      have HB4 := Lib.hid (HB3.out.trans (hb.mono HB3.out.size))
      clear hb
      have HLa := Lib.hid (lineF_at s most)
      have HLs := Lib.hid (lineF_stop s most)
      have HLl := Lib.hid (lineF_len s most)
      have hl1 := HLl.out.1
      have hl2 := HLl.out.2
      have hmn : (most : Int).toNat = most := by simp
      rw [hmn] at hl2
      generalize lineF s most = ln at *
      have hbn : (bs ln).size = ln.length := bs_size ln
      go_wp2_with fail
      go_loopw [11] (fun i wr => ∃ n : Nat, n ≤ ln.length ∧ i = .int .i64 n ∧ Below w4.heap.size w4 wr) (fun i _ => ln.length - (intOf i).toNat)
      case atStart => exact ⟨0, Nat.zero_le _, rfl, Below.refl _ _⟩
      case round =>
        obtain ⟨n, hn, rfl, hb⟩ := hrel
        have HB := Lib.hid hb
        clear hb
        by_cases hlt2 : n < ln.length
        · obtain ⟨hs, he1, he2⟩ := HLa.out n hlt2
          have hget1 : ∀ h, (bs ln)[n]'h = s[n]'hs := fun h => he1
          have hget2 : ∀ h, (bs s)[n]'h = s[n]'hs := fun h => rfl
          generalize s[n] = c at *
          have q1 : decide (s.length ≤ n) = false := by simp; omega
          have hwr : IntKind.i64.wrap ((s.length : Int) - 1) = (s.length : Int) - 1 := by rw [IntKind.wrap_i64]; omega
          have hmn1 : min (n : Int) ((s.length : Int) - 1) = n := by omega
          have q2 : ((c.toNat : Int) == 10) = false := by
            simp only [beq_eq_false_iff_ne]
            intro h
            apply he2
            rw [← UInt8.toNat_inj]
            exact_mod_cast h
          have hcl := c.toNat_lt
          clear he1 he2
          go_wp2_with fail
          refine wp_region_det (S := Below wr.heap.size wr) (by kernel_rfl) (by kernel_rfl) ((Below.refl _ _).drew) ?_
          rw [List.toList_toArray]
          repeat (first
            | (refine Det.skip (by rfl) ?_; simp only [Act.put, List.setIfInBounds_toArray, List.set_cons_zero, List.set_cons_succ, List.getElem_toArray, List.getElem_cons_zero, List.getElem_cons_succ])
            | (refine Det.read (v := ?_) (by rfl) ?_ ?_; rotate_left; (· (intro wq hSq; skip; go_simp; try with_reducible rfl)); simp only [Act.put, List.setIfInBounds_toArray, List.set_cons_zero, List.set_cons_succ, List.getElem_toArray, List.getElem_cons_zero, List.getElem_cons_succ])
            | fail)
          refine Det.done fun wz hz => ?_
          have HZ := Lib.hid (HB.out.trans (hz.mono HB.out.size))
          clear hz
          go_wp2_with fail
          go_roundw
          case rel => exact ⟨n + 1, by omega, by go_num, HZ.out⟩
          case measure => simp [intOf]; omega
        · have hne : n = ln.length := by omega
          have HB5 := Lib.hid (HB4.out.trans (HB.out.mono HB4.out.size))
          have HRx := Lib.hid (HR3.out.now ((by
            exact HN4.out.trans (HB.out.mono HN4.out.size)) : Below _ _ _))
          have HLz := Lib.hid (show (ln.length : Int) < most → ln.length < s.length → ∃ h : ln.length < s.length, s[ln.length] = 10 from fun h1 h2 => ⟨h2, HLs.out h1 h2⟩)
          have p1 : decide (most < ln.length) = false := by simp; omega
          have HB7 : Hid (Below w.heap.size w wr) := Lib.hid HB5.out
          clear HLs HLa HB HB4 HB5 HN4 HR3
          by_cases p2 : ln.length < most ∧ ln.length < s.length
          · obtain ⟨h10, he⟩ := HLz.out (by omega) p2.2
            have hget : ∀ h, (bs s)[ln.length]'h = 10 := fun h => he
            have p3 : decide (ln.length < most) = true := by simp; omega
            have p4 : decide (ln.length < s.length) = true := by simp; omega
            have hwr : IntKind.i64.wrap ((s.length : Int) - 1) = (s.length : Int) - 1 := by rw [IntKind.wrap_i64]; omega
            have hmx : max ((s.length : Int) - 1) 0 = (s.length : Int) - 1 := by omega
            have hmi : min (ln.length : Int) ((s.length : Int) - 1) = ln.length := by omega
            clear he p2 HLz
            go_wp2_with fail
            refine (words_c2 (joinF ws) ws HJl.out HJo.out _).mono ?_
            rintro e w5 ⟨A5, c5, rfl, hr5, hb5⟩
            have HB8 := Lib.hid (HB7.out.trans (hb5.mono HB7.out.size))
            have HR8 := Lib.hid (HRx.out.now hb5)
            have HR5 := Lib.hid hr5
            clear hr5 hb5
            go_wp2_with fail
            refine (sameW_refl ws A5 A2 c5 c2 _ HR5.out HR8.out (by omega)).mono ?_
            rintro e w6 ⟨rfl, hb6⟩
            have HB9 := Lib.hid (HB8.out.trans (hb6.mono HB8.out.size))
            have HR9 := Lib.hid (HR8.out.now hb6)
            clear hb6
            go_wp2_with fail
            refine (upper_any s _ (by omega)).mono ?_
            rintro e w7 ⟨rfl, hb7⟩
            have HB10 := Lib.hid (HB9.out.trans (hb7.mono HB9.out.size))
            have HR10 := Lib.hid (HR9.out.now hb7)
            clear hb7
            go_wp2_with fail
            refine (words_c2 (s.map upB) ws (by rw [List.length_map]; omega) HUp.out _).mono ?_
            rintro e w8 ⟨A8, c8, rfl, hr8, hb8⟩
            have HB11 := Lib.hid (HB10.out.trans (hb8.mono HB10.out.size))
            have HR11 := Lib.hid (HR10.out.now hb8)
            have HR12 := Lib.hid hr8
            clear hr8 hb8
            go_wp2_with fail
            refine (sameW_refl ws A8 A2 c8 c2 _ HR12.out HR11.out (by omega)).mono ?_
            rintro e w9 ⟨rfl, hb9⟩
            have HB12 := Lib.hid (HB11.out.trans (hb9.mono HB11.out.size))
            clear hb9
            go_wp2_with fail
            go_ret
            exact ⟨rfl, HB12.out⟩
          · by_cases p5 : ln.length < most
            · have p3 : decide (ln.length < most) = true := by simp; omega
              have p4 : decide (ln.length < s.length) = false := by simp; omega
              clear p2 p5 HLz
              go_wp2_with fail
              refine (words_c2 (joinF ws) ws HJl.out HJo.out _).mono ?_
              rintro e w5 ⟨A5, c5, rfl, hr5, hb5⟩
              have HB8 := Lib.hid (HB7.out.trans (hb5.mono HB7.out.size))
              have HR8 := Lib.hid (HRx.out.now hb5)
              have HR5 := Lib.hid hr5
              clear hr5 hb5
              go_wp2_with fail
              refine (sameW_refl ws A5 A2 c5 c2 _ HR5.out HR8.out (by omega)).mono ?_
              rintro e w6 ⟨rfl, hb6⟩
              have HB9 := Lib.hid (HB8.out.trans (hb6.mono HB8.out.size))
              have HR9 := Lib.hid (HR8.out.now hb6)
              clear hb6
              go_wp2_with fail
              refine (upper_any s _ (by omega)).mono ?_
              rintro e w7 ⟨rfl, hb7⟩
              have HB10 := Lib.hid (HB9.out.trans (hb7.mono HB9.out.size))
              have HR10 := Lib.hid (HR9.out.now hb7)
              clear hb7
              go_wp2_with fail
              refine (words_c2 (s.map upB) ws (by rw [List.length_map]; omega) HUp.out _).mono ?_
              rintro e w8 ⟨A8, c8, rfl, hr8, hb8⟩
              have HB11 := Lib.hid (HB10.out.trans (hb8.mono HB10.out.size))
              have HR11 := Lib.hid (HR10.out.now hb8)
              have HR12 := Lib.hid hr8
              clear hr8 hb8
              go_wp2_with fail
              refine (sameW_refl ws A8 A2 c8 c2 _ HR12.out HR11.out (by omega)).mono ?_
              rintro e w9 ⟨rfl, hb9⟩
              have HB12 := Lib.hid (HB11.out.trans (hb9.mono HB11.out.size))
              clear hb9
              go_wp2_with fail
              go_ret
              exact ⟨rfl, HB12.out⟩
            · have p3 : decide (ln.length < most) = false := by simp; omega
              clear p2 p5 HLz
              go_wp2_with fail
              refine (words_c2 (joinF ws) ws HJl.out HJo.out _).mono ?_
              rintro e w5 ⟨A5, c5, rfl, hr5, hb5⟩
              have HB8 := Lib.hid (HB7.out.trans (hb5.mono HB7.out.size))
              have HR8 := Lib.hid (HRx.out.now hb5)
              have HR5 := Lib.hid hr5
              clear hr5 hb5
              go_wp2_with fail
              refine (sameW_refl ws A5 A2 c5 c2 _ HR5.out HR8.out (by omega)).mono ?_
              rintro e w6 ⟨rfl, hb6⟩
              have HB9 := Lib.hid (HB8.out.trans (hb6.mono HB8.out.size))
              have HR9 := Lib.hid (HR8.out.now hb6)
              clear hb6
              go_wp2_with fail
              refine (upper_any s _ (by omega)).mono ?_
              rintro e w7 ⟨rfl, hb7⟩
              have HB10 := Lib.hid (HB9.out.trans (hb7.mono HB9.out.size))
              have HR10 := Lib.hid (HR9.out.now hb7)
              clear hb7
              go_wp2_with fail
              refine (words_c2 (s.map upB) ws (by rw [List.length_map]; omega) HUp.out _).mono ?_
              rintro e w8 ⟨A8, c8, rfl, hr8, hb8⟩
              have HB11 := Lib.hid (HB10.out.trans (hb8.mono HB10.out.size))
              have HR11 := Lib.hid (HR10.out.now hb8)
              have HR12 := Lib.hid hr8
              clear hr8 hb8
              go_wp2_with fail
              refine (sameW_refl ws A8 A2 c8 c2 _ HR12.out HR11.out (by omega)).mono ?_
              rintro e w9 ⟨rfl, hb9⟩
              have HB12 := Lib.hid (HB11.out.trans (hb9.mono HB11.out.size))
              clear hb9
              go_wp2_with fail
              go_ret
              exact ⟨rfl, HB12.out⟩
theorem same10_int (s : List UInt8) (most : Int) (w : World) (hV : Vs w.heap.size w) (hmo : 0 ≤ most ∧ most ≤ 255) :
    Calls Tryd.prog 6 #[.string (bs s), .int .u8 most] w fun e w' => e = .returned (.bool true) ∧ Below w.heap.size w w' := by
  obtain ⟨n, rfl⟩ : ∃ n : Nat, most = n := ⟨most.toNat, by omega⟩
  exact same10_any s n w hV (by omega)
end Go.Proofs.YtpcfmmiiokbjbaaDoor
