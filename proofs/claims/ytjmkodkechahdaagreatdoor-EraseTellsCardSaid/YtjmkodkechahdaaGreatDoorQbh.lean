/- Contracts and plain laws, joined: ErR, ErT, ErU, ErM, ErAt, ErFs, ErPl, ErWa, ErWb, ErWc. -/
import Derived.Test.YtjmkodkechahdaaGreatDoorQbg
import Derived.Test.YtjmkodkechahdaaGreatDoorQai
/- Contracts of places.Reach and Order. -/
set_option linter.unusedSimpArgs false
set_option linter.unusedVariables false
namespace Go.Proofs.YtjmkodkechahdaaGreatDoor
open Go.RowKit
set_option maxRecDepth 100000

/-- One source of place i. -/
def rc1 (i : Nat) (m : List Bool) (f : Int) : List Bool := m.set i ((m[i]?).getD false || (m[f.toNat]?).getD false)
def reachL : Nat → List PlM → List Bool → List Bool
  | _, [], m => m
  | i, p :: r, m => reachL (i + 1) r (p.fr.foldl (rc1 i) m)
def reachM (l : List PlM) (roots : List Int) : List Bool := reachL 0 l (mkF l.length roots)
def reachP (l : List PlM) (roots : List Int) : List Int := if rightP l = true then idxF 0 (reachM l roots) else []
def orderP (l : List PlM) (some : List Int) : List Int := if rightP l = true then (idxF 0 (mkF l.length some)).reverse else []
theorem rc1_len (i : Nat) (m : List Bool) (f : Int) : (rc1 i m f).length = m.length := by simp [rc1]
theorem rcL_len (i : Nat) : ∀ (fr : List Int) (m : List Bool), (fr.foldl (rc1 i) m).length = m.length
  | [], m => rfl
  | f :: r, m => by rw [List.foldl_cons, rcL_len i r, rc1_len]
theorem reachL_len : ∀ (l : List PlM) (i : Nat) (m : List Bool), (reachL i l m).length = m.length
  | [], _, _ => rfl
  | p :: r, i, m => by rw [reachL, reachL_len r, rcL_len]
theorem reachM_len (l : List PlM) (roots : List Int) : (reachM l roots).length = l.length := by unfold reachM; rw [reachL_len, mkF_len]
theorem rightFrom_at : ∀ (l : List PlM) (i k : Nat) (p : PlM), rightFrom i l = true → l[k]? = some p → plOk (i + k) p = true
  | [], _, _, _, _, h => by simp at h
  | q :: r, i, k, p, h, hk => by
    rw [rightFrom, Bool.and_eq_true] at h
    cases k with
    | zero => simp at hk; subst hk; exact h.1
    | succ k =>
      have := rightFrom_at r (i + 1) k p h.2 (by simpa using hk)
      rwa [show i + (k + 1) = i + 1 + k by omega]
theorem frOk_at : ∀ (fr : List Int) (i la : Int) (x : Int), frOk i la fr = true → x ∈ fr → la < x ∧ x < i
  | [], _, _, _, _, h => by cases h
  | f :: r, i, la, x, h, hx => by
    rw [frOk, Bool.and_eq_true, Bool.not_eq_true', Bool.or_eq_false_iff, decide_eq_false_iff_not, decide_eq_false_iff_not] at h
    rcases List.mem_cons.1 hx with rfl | hx
    · omega
    · have := frOk_at r i f x h.2 hx
      omega
theorem right_fr {l : List PlM} (h : rightP l = true) {k : Nat} {p : PlM} (hk : l[k]? = some p) {x : Int} (hx : x ∈ p.fr) : 0 ≤ x ∧ x < k := by
  unfold rightP at h
  rw [Bool.and_eq_true] at h
  have h1 := rightFrom_at l 0 k p h.1 hk
  unfold plOk at h1
  rw [Bool.and_eq_true] at h1
  have := frOk_at p.fr _ (-1) x h1.2 hx
  omega
/-- A list of numbers of the call's own. -/
def IntsOut (xs : List Int) (w : World) (e : Ending) (w' : World) : Prop := ∃ A d, e = .returned (.slice A xs.length d) ∧ OwnL w' w.heap.size 3 1 intE A d xs ∧ Below w.heap.size w w'
set_option maxHeartbeats 4000000 in
theorem plReach_any (l : List PlM) (A : Option Addr) (c : Nat) (xs : List Int) (B : Option Addr) (d : Nat) (w : World) (h : PlsAt w A l) (hr : RdL 1 intE w w.heap.size B xs) (hx : xs.length ≤ 9223372036854775807) :
    Calls Tryz.prog 42 #[.slice A l.length c, .slice B xs.length d] w (IntsOut (reachP l xs) w) := by
  have H := Lib.hid h
  have HR := Lib.hid hr
  have hln := h.len
  clear h hr
  go_enter Tryz.func42, Tryz.ntmps42
  go_wp2_with fail
  refine (plRight_any l A c w H.out).mono ?_
  rintro e w1 ⟨rfl, hb1⟩
  have HB1 := Lib.hid hb1
  cases hrt : rightP l with
  | false =>
    have HQ : Hid (IntsOut (reachP l xs) w (.returned (.slice none 0 0)) w1) := Lib.hid ⟨none, 0, by unfold reachP; rw [hrt]; rfl, by unfold reachP; rw [hrt]; exact OwnL.nil_, hb1⟩
    clear hb1 hrt
    go_wp2_with fail
    go_ret
    exact HQ.out
  | true =>
  have HRt := Lib.hid hrt
  have HE : Hid (reachP l xs = idxF 0 (reachM l xs)) := Lib.hid (by unfold reachP; rw [if_pos hrt])
  have HR1 := Lib.hid (HR.out.now hb1)
  have H1 := Lib.hid (H.out.now hb1)
  clear hb1 hrt
  go_wp2_with fail
  refine (plMarked_any l.length A c xs B d w1 hln HR1.out hx).mono ?_
  rintro e w2 ⟨rfl, hm2, hb2⟩
  have HM2 := Lib.hid hm2
  have HB2 := Lib.hid (HB1.out.trans (hb2.mono HB1.out.size))
  have HB12 := Lib.hid hb2
  have H2 := Lib.hid (H1.out.now hb2)
  have HML : Hid (reachM l xs = reachL 0 l (mkF l.length xs)) := Lib.hid rfl
  have HMn := Lib.hid (mkF_len l.length xs)
  have hg : w1.heap.size < w2.heap.size := hm2.lt
  clear hm2 hb2
  generalize mkF l.length xs = m0 at *
  obtain ⟨g, hgg⟩ : ∃ g, g = w1.heap.size := ⟨_, rfl⟩
  rw [← hgg] at HM2 hg ⊢
  have hgw : w.heap.size ≤ g := by rw [hgg]; exact HB1.out.size
  clear hgg HB12
  go_wp2_with fail
  go_loopw [6, 7, 9, 18] (fun _ _ _ i wr => ∃ (k : Nat) (m : List Bool), k ≤ l.length ∧ i = .int .i64 k ∧ m.length = l.length ∧ reachM l xs = reachL k (l.drop k) m ∧ MkAt g m wr ∧ Turn (fun i => i = g) w2 wr) (fun _ _ _ i _ => l.length - (intOf i).toNat)
  case atStart => exact ⟨0, m0, Nat.zero_le _, rfl, HMn.out, by rw [List.drop_zero]; exact HML.out, HM2.out, Turn.refl _ _⟩
  case round =>
    obtain ⟨k, m, hk, rfl, hml, hmk, hat, htu⟩ := hrel
    have HMk := Lib.hid hmk
    have HTu := Lib.hid htu
    have HMl := Lib.hid hml
    have hBw : Below w.heap.size w wr := HB2.out.trans (htu.to_below HB2.out.size (fun i hi => by omega))
    have HBw := Lib.hid hBw
    have hPl := H.out.now hBw
    have hgl := hat.lt
    have HAt := Lib.hid hat
    clear hmk hat htu hml hBw
    by_cases hlt : k < l.length
    · have d1 : decide ((k : Int) < (l.length : Int)) = true := by simp; omega
      obtain ⟨p, hp⟩ : ∃ p, l[k]? = some p := ⟨_, List.getElem?_eq_getElem hlt⟩
      obtain ⟨b, off, rfl, hb, c0, c1, c2⟩ := rd_pl hPl.rd hp
      have hfr := hPl.fr p (List.mem_of_getElem? hp)
      have hfw := H.out.fr p (List.mem_of_getElem? hp)
      have hfl := hPl.fln p (List.mem_of_getElem? hp)
      have HIn := Lib.hid (fun x (hx : x ∈ p.fr) => right_fr HRt.out hp hx)
      have HSt : Hid (reachM l xs = reachL (k + 1) (l.drop (k + 1)) (p.fr.foldl (rc1 k) m)) := Lib.hid (by
        rw [HMk.out, List.drop_eq_getElem_cons hlt, reachL]
        rw [List.getElem?_eq_getElem hlt] at hp
        injection hp with hp
        rw [hp])
      clear hp hPl HMk
      obtain ⟨pk, pi, pf, pA, pc⟩ := p
      simp only at c0 c1 c2 hfr hfl HSt HIn hfw
      have HFw := Lib.hid hfw
      clear hfw
      go_upto_region 8 with fail
      obtain ⟨wo, hwo⟩ : ∃ x, x = wr.alloc (.cells #[.int .i64 pk, .int .i64 pi, .slice pA pf.length pc] 51) := ⟨_, rfl⟩
      have hba : Below wr.heap.size wr wo := by rw [hwo]; exact (Below.refl _ _).alloc (Nat.le_refl _) _
      have HBo := Lib.hid (HBw.out.trans (hba.mono HBw.out.size))
      have HFo := Lib.hid (hfr.now hba)
      have HAo := Lib.hid (HAt.out.now hba)
      have HTo := Lib.hid (HTu.out.trans (Turn.below hba) (fun i hi => .inl hi))
      rw [← hwo]
      clear hwo hba c0 c1 c2 HBw hfr HAt HTu
      go_loopw [9, 26] (fun _ j wi => ∃ (q : Nat) (m2 : List Bool), q ≤ pf.length ∧ j = .int .i64 q ∧ m2.length = l.length ∧ pf.foldl (rc1 k) m = (pf.drop q).foldl (rc1 k) m2 ∧ MkAt g m2 wi ∧ Turn (fun i => i = g) wo wi) (fun _ j _ => pf.length - (intOf j).toNat)
      case atStart => exact ⟨0, m, Nat.zero_le _, rfl, HMl.out, by rw [List.drop_zero], HAo.out, Turn.refl _ _⟩
      case round =>
        obtain ⟨q, m2, hq, rfl, hml2, hmk2, hat2, htu2⟩ := hrel
        have HMk2 := Lib.hid hmk2
        have HTu2 := Lib.hid htu2
        have HMl2 := Lib.hid hml2
        have hBi : Below w.heap.size w wr := HBo.out.trans (htu2.to_below HBo.out.size (fun i hi => by omega))
        have HBi := Lib.hid hBi
        have hgl2 := hat2.lt
        have HAt2 := Lib.hid hat2
        clear hmk2 hat2 htu2 hml2 hBi
        by_cases hlt2 : q < pf.length
        · have d2 : decide ((q : Int) < (pf.length : Int)) = true := by simp; omega
          obtain ⟨y, hy⟩ : ∃ y, pf[q]? = some y := ⟨_, List.getElem?_eq_getElem hlt2⟩
          obtain ⟨hy0, hyk⟩ := HIn.out y (List.mem_of_getElem? hy)
          obtain ⟨z, rfl⟩ : ∃ z : Nat, y = z := ⟨y.toNat, by omega⟩
          have hRd : RdL 1 intE wr wr.heap.size pA pf := HFw.out.now HBi.out
          obtain ⟨b2, off2, rfl, hb2, c5⟩ := rd_int3 hRd hy
          have HNx : Hid (pf.foldl (rc1 k) m = (pf.drop (q + 1)).foldl (rc1 k) (rc1 k m2 (z : Int))) := Lib.hid (by
            rw [HMk2.out, List.drop_eq_getElem_cons hlt2, List.foldl_cons]
            rw [List.getElem?_eq_getElem hlt2] at hy
            injection hy with hy
            rw [hy])
          have HLn := Lib.hid ((rc1_len k m2 (z : Int)).trans HMl2.out)
          obtain ⟨bk, hbk⟩ : ∃ bk, m2[k]? = some bk := ⟨_, List.getElem?_eq_getElem (by rw [HMl2.out]; exact hlt)⟩
          obtain ⟨bz, hbz⟩ : ∃ bz, m2[z]? = some bz := ⟨_, List.getElem?_eq_getElem (by rw [HMl2.out]; omega)⟩
          have ck := HAt2.out.c hbk
          have cz := HAt2.out.c hbz
          have fk := HAt2.out.f k
          have hst := HAt2.out.set k (bk || bz)
          have he : rc1 k m2 (z : Int) = m2.set k (bk || bz) := by unfold rc1; rw [hbk, Int.toNat_natCast, hbz]; rfl
          rw [← he] at hst
          have HSt2 := Lib.hid hst
          have HT3 := Lib.hid (HTu2.out.set g k (.bool (bk || bz)) (.inl rfl))
          have hzl : z < l.length := by omega
          clear hst he hbk hbz hy hRd HMk2 hy0 hyk
          cases bk with
          | true =>
            go_wp2_with fail
            go_roundw
            case rel => exact ⟨q + 1, _, by omega, by go_num, HLn.out, HNx.out, HSt2.out, HT3.out⟩
            case measure => simp [intOf]; omega
          | false =>
            go_wp2_with fail
            go_roundw
            case rel => exact ⟨q + 1, _, by omega, by go_num, HLn.out, HNx.out, HSt2.out, HT3.out⟩
            case measure => simp [intOf]; omega
        · obtain rfl : q = pf.length := by omega
          have d2 : decide ((pf.length : Int) < (pf.length : Int)) = false := by simp
          have HZ : Hid (reachM l xs = reachL (k + 1) (l.drop (k + 1)) m2) := Lib.hid (by rw [HSt.out, HMk2.out, List.drop_length]; rfl)
          have HT3 := Lib.hid (HTo.out.trans HTu2.out (fun i hi => .inl hi))
          clear HMk2
          go_wp2_with fail
          go_roundw
          case rel => exact ⟨k + 1, m2, by omega, by go_num, HMl2.out, HZ.out, HAt2.out, HT3.out⟩
          case measure => simp [intOf]; omega
    · obtain rfl : k = l.length := by omega
      have d1 : decide ((l.length : Int) < (l.length : Int)) = false := by simp
      have HZ : Hid (reachM l xs = m) := Lib.hid (by rw [HMk.out, List.drop_length]; rfl)
      clear HMk hPl
      go_wp2_with fail
      refine (plIndices_any g m l.length l.length wr HMl.out.symm (by rw [HMl.out]; exact hln) HAt.out).mono ?_
      rintro e w3 ⟨A3, d3, rfl, ho3, hb3⟩
      have HQ : Hid (IntsOut (reachP l xs) w (.returned (.slice A3 (idxF 0 m).length d3)) w3) := Lib.hid ⟨A3, d3, by rw [HE.out, HZ.out], by rw [HE.out, HZ.out]; exact ho3.mono HBw.out.size, HBw.out.trans (hb3.mono HBw.out.size)⟩
      clear ho3 hb3
      go_wp2_with fail
      go_ret
      exact HQ.out
theorem setCells_row {b : Nat} {t : TypeId} {z : Nat × Nat} : ∀ (vs : List Value) (o : Nat) (w : World) (pre suf : List Value), vs.length ≤ suf.length → pre.length = o → w.heap[b]? = some (.cells (pre ++ suf).toArray t z) → (w.setCells b o vs).heap[b]? = some (.cells (pre ++ (vs ++ suf.drop vs.length)).toArray t z)
  | [], o, w, pre, suf, _, _, h => h
  | v :: r, o, w, pre, suf, hs, hp, h => by
    cases suf with
    | nil => simp at hs
    | cons s suf =>
      have h1 : (w.setCell ⟨b, o, none⟩ v).heap[b]? = some (.cells ((pre ++ [v]) ++ suf).toArray t z) := by
        subst hp
        simp [World.setCell, Array.getElem?_modify, h]
      have := setCells_row r (o + 1) _ (pre ++ [v]) suf (by simpa using hs) (by simp [hp]) h1
      rw [World.setCells]
      rw [this]
      simp
theorem int_flat : ∀ xs : List Int, xs.flatMap intE = xs.map (Value.int .i64)
  | [] => rfl
  | x :: r => by rw [List.flatMap_cons, int_flat r]; rfl
theorem slRev_any (xs : List Int) (A : Option Addr) (c base : Nat) (w : World) (h : OwnL w base 3 1 intE A c xs) (hx : xs.length ≤ 1000000000) :
    Calls Tryz.prog 83 #[.slice A xs.length c] w fun e w' => e = .returned (.tuple #[]) ∧ OwnL w' base 3 1 intE A c xs.reverse ∧ Turn (fun i => slBlk A = some i) w w' := by
  by_cases h0 : xs = []
  · subst h0
    refine (Tryz.slices_Reverse_int_empty A c w).mono ?_
    rintro e w' ⟨rfl, rfl⟩
    exact ⟨rfl, h, Turn.refl _ _⟩
  · have hpos : 0 < xs.length := List.length_pos_iff.2 h0
    rcases h.2 with ⟨_, hz⟩ | ⟨g, cap, cur, hv, hb, hg, hn, hcm, hcs, htake⟩
    · omega
    · injection hv with e1 e2 e3
      subst e1 e3
      have hrd := h.rd intLayQ
      refine (Tryz.slices_Reverse_int_cells g 0 xs.length c xs w (Nat.le_refl _) (by omega) (fun j hj => ?_) (fun j hj => box_free hg _)).mono ?_
      · obtain ⟨b, off, e, _, hc⟩ := rd_int3 hrd (List.getElem?_eq_getElem hj)
        injection e with e
        injection e with e1 e2 _
        subst e1 e2
        rw [hc]
        simp [hj]
      · rintro e w' ⟨rfl, q, rfl⟩
        rw [List.take_length]
        have hln : (xs.reverse.map (Value.int .i64)).length = xs.length := by simp
        have hcur : cur.toList.length = c := by rw [Array.length_toList, hcs, Nat.mul_one]
        have hb2 : ((w.drewN q).setCells g 0 (xs.reverse.map (Value.int .i64))).heap[g]? = some (.cells ([] ++ (xs.reverse.map (Value.int .i64) ++ cur.toList.drop (xs.reverse.map (Value.int .i64)).length)).toArray 3 (0, 0)) :=
          setCells_row _ 0 (w.drewN q) [] cur.toList (by rw [hln, hcur]; exact hn) rfl (by rw [List.nil_append, Array.toArray_toList]; exact hg)
        refine ⟨rfl, ⟨by rw [int_flat]; simp, .inr ⟨g, c, _, by rw [List.length_reverse], hb, hb2, by rw [List.length_reverse]; exact hn, hcm, ?_, ?_⟩⟩, ?_⟩
        · simp only [List.nil_append, List.size_toArray, List.length_append, List.length_drop, hln, hcur]
          omega
        · rw [int_flat]
          simp only [List.nil_append]
          rw [List.take_left' (by simp)]
        · exact (Turn.below (F := fun i => slBlk (some ⟨g, 0, none⟩) = some i) (below_drewN (Below.refl w.heap.size w) q)).trans (Turn.grown (grown_setCells _ _ _ _) (fun k hk => hk)) (fun i hi => .inl hi)
theorem plOrder_any (l : List PlM) (A : Option Addr) (c : Nat) (xs : List Int) (B : Option Addr) (d : Nat) (w : World) (h : PlsAt w A l) (hr : RdL 1 intE w w.heap.size B xs) (hx : xs.length ≤ 9223372036854775807) :
    Calls Tryz.prog 41 #[.slice A l.length c, .slice B xs.length d] w (IntsOut (orderP l xs) w) := by
  have H := Lib.hid h
  have HR := Lib.hid hr
  have hln := h.len
  clear h hr
  go_enter Tryz.func41, Tryz.ntmps41
  go_wp2_with fail
  refine (plRight_any l A c w H.out).mono ?_
  rintro e w1 ⟨rfl, hb1⟩
  have HB1 := Lib.hid hb1
  cases hrt : rightP l with
  | false =>
    have HQ : Hid (IntsOut (orderP l xs) w (.returned (.slice none 0 0)) w1) := Lib.hid ⟨none, 0, by unfold orderP; rw [hrt]; rfl, by unfold orderP; rw [hrt]; exact OwnL.nil_, hb1⟩
    clear hb1 hrt
    go_wp2_with fail
    go_ret
    exact HQ.out
  | true =>
  have HE : Hid (orderP l xs = (idxF 0 (mkF l.length xs)).reverse) := Lib.hid (by unfold orderP; rw [if_pos hrt])
  have HR1 := Lib.hid (HR.out.now hb1)
  have H1 := Lib.hid (H.out.now hb1)
  clear hb1 hrt
  go_wp2_with fail
  refine (plMarked_any l.length A c xs B d w1 hln HR1.out hx).mono ?_
  rintro e w2 ⟨rfl, hm2, hb2⟩
  have HM2 := Lib.hid hm2
  have HB2 := Lib.hid (HB1.out.trans (hb2.mono HB1.out.size))
  have HMn := Lib.hid (mkF_len l.length xs)
  clear hm2 hb2
  generalize mkF l.length xs = m0 at *
  go_wp2_with fail
  refine (plIndices_any w1.heap.size m0 l.length l.length w2 HMn.out.symm (by rw [HMn.out]; exact hln) HM2.out).mono ?_
  rintro e w3 ⟨A3, d3, rfl, ho3, hb3⟩
  have HO3 := Lib.hid ho3
  have HB3 := Lib.hid (HB2.out.trans (hb3.mono HB2.out.size))
  have hil : (idxF 0 m0).length ≤ 1000000000 := by have := idxF_len m0 0; have := HMn.out; omega
  clear ho3 hb3
  generalize idxF 0 m0 = out at *
  have HRv := Lib.hid (show out.reverse.length = out.length by simp)
  go_wp2_with fail
  refine (slRev_any out A3 d3 _ w3 HO3.out hil).mono ?_
  rintro e w4 ⟨rfl, ho4, ht4⟩
  have HQ : Hid (IntsOut (orderP l xs) w (.returned (.slice A3 out.length d3)) w4) := Lib.hid ⟨A3, d3, by rw [HE.out, HRv.out], by rw [HE.out]; exact ho4.mono HB2.out.size, HB3.out.trans (ht4.to_below HB3.out.size (fun i hi => by have := (HO3.out.blk_lt hi).1; have := HB2.out.size; omega))⟩
  clear ho4 ht4
  go_wp2_with fail
  go_ret
  exact HQ.out
end Go.Proofs.YtjmkodkechahdaaGreatDoor
/- Contract of erase.Plan. -/
set_option linter.unusedSimpArgs false
set_option linter.unusedVariables false
namespace Go.Proofs.YtjmkodkechahdaaGreatDoor
open Go.RowKit
set_option maxRecDepth 100000

/-- The places of an event. -/
def rootsF (ev : Int) : Nat → List PlM → List Int
  | _, [] => []
  | i, p :: r => if p.kind = 0 ∧ p.id = ev then (i : Int) :: rootsF ev (i + 1) r else rootsF ev (i + 1) r
theorem rootsF_len (ev : Int) : ∀ (l : List PlM) (i : Nat), (rootsF ev i l).length ≤ l.length
  | [], _ => Nat.le_refl _
  | b :: r, i => by
    have := rootsF_len ev r (i + 1)
    unfold rootsF
    split <;> simp <;> omega
def planC (l : List PlM) (ev : Int) : Int := if rightP l = true then (if rootsF ev 0 l = [] then 4 else 0) else 1
def planL (l : List PlM) (ev : Int) : List Int := if planC l ev = 0 then orderP l (reachP l (rootsF ev 0 l)) else []
theorem reachP_len (l : List PlM) (xs : List Int) : (reachP l xs).length ≤ l.length := by
  unfold reachP
  split
  · have := idxF_len (reachM l xs) 0
    rw [reachM_len] at this
    exact this
  · simp
def PlanOut (l : List PlM) (ev : Int) (w : World) (e : Ending) (w' : World) : Prop := ∃ A d, e = .returned (.tuple #[.slice A (planL l ev).length d, .int .i64 (planC l ev)]) ∧ OwnL w' w.heap.size 3 1 intE A d (planL l ev) ∧ Below w.heap.size w w'
theorem plan_bad {l : List PlM} {ev : Int} {w w' : World} (h : planC l ev ≠ 0) (hb : Below w.heap.size w w') : PlanOut l ev w (.returned (.tuple #[.slice none 0 0, .int .i64 (planC l ev)])) w' := by
  have e : planL l ev = [] := by unfold planL; rw [if_neg h]
  exact ⟨none, 0, by rw [e]; rfl, by rw [e]; exact OwnL.nil_, hb⟩
set_option maxHeartbeats 4000000 in
theorem ePlan_any (l : List PlM) (ev : Int) (A : Option Addr) (c : Nat) (w : World) (h : PlsAt w A l) :
    Calls Tryz.prog 18 #[.slice A l.length c, .int .i64 ev] w (PlanOut l ev w) := by
  have H := Lib.hid h
  have hln := h.len
  clear h
  go_enter Tryz.func18, Tryz.ntmps18
  go_wp2_with fail
  refine (plRight_any l A c w H.out).mono ?_
  rintro e w1 ⟨rfl, hb1⟩
  have HB1 := Lib.hid hb1
  cases hrt : rightP l with
  | false =>
    have hc : planC l ev = 1 := by unfold planC; rw [hrt]; rfl
    have hq := plan_bad (w := w) (by rw [hc]; decide) hb1
    rw [hc] at hq
    have HQ := Lib.hid hq
    clear hb1 hrt hc hq
    go_wp2_with fail
    go_ret2
    exact HQ.out
  | true =>
  have HC : Hid (planC l ev = if rootsF ev 0 l = [] then 4 else 0) := Lib.hid (by unfold planC; rw [if_pos hrt])
  have H1 := Lib.hid (H.out.now hb1)
  clear hb1 hrt
  go_wp2_with fail
  go_loopw [6, 7, 8, 14] (fun o _ _ j wr => ∃ (k : Nat) (out : List Int) (A : Option Addr) (d : Nat), k ≤ l.length ∧ o = .slice A out.length d ∧ j = .int .i64 k ∧ out.length ≤ k ∧ rootsF ev 0 l = out ++ rootsF ev k (l.drop k) ∧ OwnL wr w1.heap.size 3 1 intE A d out ∧ Below w1.heap.size w1 wr) (fun _ _ _ j _ => l.length - (intOf j).toNat)
  case atStart => exact ⟨0, [], none, 0, Nat.zero_le _, rfl, rfl, Nat.le_refl _, by rw [List.drop_zero]; rfl, OwnL.nil_, Below.refl _ _⟩
  case round =>
    obtain ⟨k, out, A2, d, hk, rfl, rfl, hol, hix, hown, hbw⟩ := hrel
    have HIx := Lib.hid hix
    have HO := Lib.hid hown
    have HBw := Lib.hid hbw
    have hPl := H1.out.now hbw
    clear hix hown hbw
    by_cases hlt : k < l.length
    · have d1 : decide ((k : Int) < (l.length : Int)) = true := by simp; omega
      obtain ⟨p, hp⟩ : ∃ p, l[k]? = some p := ⟨_, List.getElem?_eq_getElem hlt⟩
      obtain ⟨b, off, rfl, hb, c0, c1, c2⟩ := rd_pl hPl.rd hp
      have HNx : Hid (rootsF ev 0 l = out ++ (if p.kind = 0 ∧ p.id = ev then (k : Int) :: rootsF ev (k + 1) (l.drop (k + 1)) else rootsF ev (k + 1) (l.drop (k + 1)))) := Lib.hid (by
        rw [HIx.out, List.drop_eq_getElem_cons hlt, rootsF]
        rw [List.getElem?_eq_getElem hlt] at hp
        injection hp with hp
        rw [hp])
      clear hp hPl HIx
      obtain ⟨pk, pi, pf, pA, pc⟩ := p
      simp only at c0 c1 c2 HNx
      by_cases hit : pk = 0 ∧ pi = ev
      · have HN2 : Hid (rootsF ev 0 l = (out ++ [(k : Int)]) ++ rootsF ev (k + 1) (l.drop (k + 1))) := Lib.hid (by rw [HNx.out, if_pos hit]; simp)
        have q1 : (pk == 0) = true := by simpa using hit.1
        have q2 : (pi == ev) = true := by simpa using hit.2
        clear HNx hit
        go_upto_region 8 with fail
        obtain ⟨wo, hwo⟩ : ∃ x, x = wr.alloc (.cells #[.int .i64 pk, .int .i64 pi, .slice pA pf.length pc] 51) := ⟨_, rfl⟩
        have HO2 : Hid (OwnL wo w1.heap.size 3 1 intE A2 d out) := Lib.hid (by rw [hwo]; exact HO.out.alloc _)
        have HB2 : Hid (Below w1.heap.size w1 wo) := Lib.hid (by rw [hwo]; exact HBw.out.alloc HBw.out.size _)
        rw [← hwo]
        clear hwo HO HBw c0 c1 c2
        go_wp2_with (first
          | (at_builtin; refine wp_append_l rfl (.tmp 28) (.tmp 30) rfl slIntQ intLayQ w1.heap.size (xs := out) (ys := [(k : Int)]) rfl rfl (HO2.out.alloc _) rfl rfl (RdL.one wo (k : Int) _ _ rfl _ rfl) (by simp; omega) (by have := HB2.out.size; simp; omega) ?_; intro A7 c7 w7 hown7 hg7 hb7 hat7; have HO7 := Lib.hid hown7; have HB7 := Lib.hid ((HB2.out.alloc HB2.out.size _).trans hb7); clear hown7 hg7 hb7 hat7)
          | fail)
        go_roundw
        case rel => exact ⟨k + 1, out ++ [(k : Int)], A7, c7, by omega, by simp, by go_num, by simp; omega, HN2.out, HO7.out, HB7.out⟩
        case measure => simp [intOf]; omega
      · have HN2 : Hid (rootsF ev 0 l = out ++ rootsF ev (k + 1) (l.drop (k + 1))) := Lib.hid (by rw [HNx.out, if_neg hit])
        have HO2 := Lib.hid (fun o : Obj => HO.out.alloc o)
        have HB2 := Lib.hid (fun o : Obj => HBw.out.alloc HBw.out.size o)
        clear HNx
        cases q1 : (pk == 0) with
        | true =>
          have q2 : (pi == ev) = false := by
            simp at q1
            simpa using fun e => hit ⟨q1, e⟩
          clear hit
          go_wp2_with fail
          go_roundw
          case rel => exact ⟨k + 1, out, A2, d, by omega, by first | rfl | trivial, by go_num, by omega, HN2.out, HO2.out _, HB2.out _⟩
          case measure => simp [intOf]; omega
        | false =>
          clear hit
          go_wp2_with fail
          go_roundw
          case rel => exact ⟨k + 1, out, A2, d, by omega, by first | rfl | trivial, by go_num, by omega, HN2.out, HO2.out _, HB2.out _⟩
          case measure => simp [intOf]; omega
    · obtain rfl : k = l.length := by omega
      have d1 : decide ((l.length : Int) < (l.length : Int)) = false := by simp
      have HZ : Hid (rootsF ev 0 l = out) := Lib.hid (by rw [HIx.out, List.drop_length]; simp [rootsF])
      have hBz : Below w.heap.size w wr := HB1.out.trans (HBw.out.mono HB1.out.size)
      have HBz := Lib.hid hBz
      clear HIx hBz
      by_cases h0 : out = []
      · subst h0
        have hc : planC l ev = 4 := by rw [HC.out, HZ.out]; rfl
        have hq := plan_bad (w := w) (by rw [hc]; decide) HBz.out
        rw [hc] at hq
        have HQ := Lib.hid hq
        clear hc hq hPl
        go_wp2_with fail
        go_ret2
        exact HQ.out
      · have hc : planC l ev = 0 := by rw [HC.out, HZ.out, if_neg h0]
        have HE : Hid (planC l ev = 0 ∧ planL l ev = orderP l (reachP l out)) := Lib.hid ⟨hc, by unfold planL; rw [if_pos hc, HZ.out]⟩
        have q1 : ((out.length : Int) == 0) = false := by
          have : 0 < out.length := List.length_pos_iff.2 h0
          simp; omega
        have HPl := Lib.hid hPl
        have hol2 : out.length ≤ 9223372036854775807 := by omega
        clear hc h0 HC hPl
        go_wp2_with fail
        refine (plReach_any l A c out A2 d wr HPl.out (HO.out.rd intLayQ) hol2).mono ?_
        rintro e w3 ⟨A3, d3, rfl, ho3, hb3⟩
        have HO3 := Lib.hid ho3
        have HPl3 := Lib.hid (HPl.out.now hb3)
        have HB3 := Lib.hid (HBz.out.trans (hb3.mono HBz.out.size))
        have hrl : (reachP l out).length ≤ 9223372036854775807 := by have := reachP_len l out; omega
        clear ho3 hb3
        generalize reachP l out = ro at *
        go_wp2_with fail
        refine (plOrder_any l A c ro A3 d3 w3 HPl3.out (HO3.out.rd intLayQ) hrl).mono ?_
        rintro e w4 ⟨A4, d4, rfl, ho4, hb4⟩
        have HQ : Hid (PlanOut l ev w (.returned (.tuple #[.slice A4 (orderP l ro).length d4, .int .i64 0])) w4) := Lib.hid ⟨A4, d4, by rw [HE.out.1, HE.out.2], by rw [HE.out.2]; exact ho4.mono HB3.out.size, HB3.out.trans (hb4.mono HB3.out.size)⟩
        clear ho4 hb4
        go_wp2_with fail
        go_ret2
        exact HQ.out
end Go.Proofs.YtjmkodkechahdaaGreatDoor
/- erase's functions beside other objects, on a disk that is up. -/
set_option linter.unusedSimpArgs false
set_option linter.unusedVariables false
namespace Go.Proofs.YtjmkodkechahdaaGreatDoor
open Go.RowKit
set_option maxRecDepth 100000

theorem runL_kp : ∀ (ks : List (DS → Res)) (S : DS), (∀ k ∈ ks, ∀ T : DS, (k T).2.keep = T.keep) → (runL ks S).2.keep = S.keep
  | [], _, _ => rfl
  | k :: r, S, h => by
    refine runL_step (Q := fun x => x.2.keep = S.keep) (fun _ => ?_) (fun _ => h k (by simp) S)
    rw [runL_kp r _ (fun k2 h2 => h k2 (by simp [h2]))]
    exact h k (by simp) S
theorem rewE_keep (S : DS) (f : Int) (l : List (List UInt8)) : (rewE S f l).2.keep = S.keep := by
  unfold rewE
  split
  · rfl
  · split
    · rfl
    · split
      · rfl
      · exact runL_kp _ _ (rew_keeps _ _ _)
theorem setR_keep (f : Int) (p : List UInt8) (S : DS) : (setR f p S).2.keep = S.keep := by
  unfold setR
  split
  · rfl
  · exact sync_keep _ _
theorem recS_keep (S : DS) (f : Int) : (recS S f).keep = S.keep := by
  unfold recS
  split
  · rfl
  · split
    · exact setR_keep _ _ _
    · split
      · exact setR_keep _ _ _
      · exact (trunc_keep _ _ _).trans (setR_keep _ _ _)
section
variable {w wr : World} {p : Nat} {S : DS} {D : DL} {R : Ob} {f : Int}
theorem rewrite_any2 (hV : Vs w.heap.size w) (h : St w ((dOb p S D).sep R) wr) {l : List (List UInt8)} {A : Option Addr} {c : Nat} (hr : RdL 1 strE wr wr.heap.size A l) (hl : l.length ≤ 9223372036854775807) (hf : inI64 f) (hk : S.keep.length ≤ 4194320) :
    Calls Tryz.prog 22 #[.pointer (some ⟨p, 0, none⟩), .int .i64 f, .slice A l.length c] wr fun e w' => ∃ D', e = .returned (.int .i64 (rewE S f l).1) ∧ St w ((dOb p (rewE S f l).2 D').sep R) w' := by
  refine (eRewrite_any p S D f l A c wr (h.vs hV) hr hl hf hk h.disk).mono ?_
  rintro e w' ⟨rfl, D', hu⟩
  exact ⟨D', rfl, h.upd (OUpd.left h.ok hu)⟩
theorem recover_any2 (hV : Vs w.heap.size w) (h : St w ((dOb p S D).sep R) wr) (hf : inI64 f) (hk : S.keep.length ≤ 4194320) :
    Calls Tryz.prog 21 #[.pointer (some ⟨p, 0, none⟩), .int .i64 f] wr fun e w' => ∃ D' A c, e = .returned (.tuple #[.slice A (recL S f).length c, .int .i64 (recC S f)]) ∧ St w ((dOb p (recS S f) D').sep ((slOb A c (recL S f)).sep R)) w' := by
  refine (eRecover_any p S D f wr (h.vs hV) h.disk_own hf hk h.disk).mono ?_
  rintro e w' ⟨D', A, c, rfl, hu⟩
  exact ⟨D', A, c, rfl, (h.upd (OUpd.left h.ok hu)).assoc⟩
/-- A disk that is up, and has the list l in the file f. -/
structure Gd (S : DS) (f : Int) (q : List UInt8) (l : List (List UInt8)) : Prop where
  up : Up S
  nt : Neat S f q l
  fit : fitsE l = true
  kp : S.keep.length ≤ 20
def Same3 (f : Int) (S T : DS) : Prop := ∀ g x, g ≠ f → g ≠ f + 1 → g ≠ f + 2 → Firm g x S → Firm g x T
theorem Same3.trans {f : Int} {S T U : DS} (h : Same3 f S T) (k : Same3 f T U) : Same3 f S U := fun g x h1 h2 h3 h4 => k g x h1 h2 h3 (h g x h1 h2 h3 h4)
theorem Gd.other {S T : DS} {f g : Int} {q : List UInt8} {l : List (List UInt8)} (h : Gd S g q l) (hs : Same3 f S T) (hT : Up T) (hk : T.keep.length ≤ 20) (hfg : g + 2 < f ∨ f + 2 < g) : Gd T g q l := by
  obtain ⟨n1, n2, n3, n4, n5⟩ := side_ne g q
  exact ⟨hT, ⟨⟨hs _ _ (by omega) (by omega) (by omega) h.nt.has.ptr, h.nt.has.ok, h.nt.has.nil, fun hn => hs _ _ (by omega) (by omega) (by omega) (h.nt.has.side hn)⟩, hs _ _ (by omega) (by omega) (by omega) h.nt.oth, fun hn => hs _ _ (by omega) (by omega) (by omega) (h.nt.nil hn)⟩, h.fit, hk⟩
variable {q : List UInt8} {l l2 : List (List UInt8)} {A : Option Addr} {c : Nat}
theorem rw_good (hV : Vs w.heap.size w) (h : St w ((dOb p S D).sep R) wr) (hg : Gd S f q l) (hf : 0 ≤ f ∧ f ≤ 13) (hfit : fitsE l2 = true) (hr : RdL 1 strE wr wr.heap.size A l2) :
    Calls Tryz.prog 22 #[.pointer (some ⟨p, 0, none⟩), .int .i64 f, .slice A l2.length c] wr fun e w' => ∃ S2 D2, e = .returned (.int .i64 0) ∧ St w ((dOb p S2 D2).sep R) w' ∧ Gd S2 f (nextP q) l2 ∧ Same3 f S S2 ∧ S2.keep = S.keep := by
  have hl := (fits_parts hfit).1
  have hkp := hg.kp
  refine (rewrite_any2 hV h hr (by omega) (by unfold inI64; omega) (by omega)).mono ?_
  rintro e w' ⟨D', rfl, hst⟩
  obtain ⟨h1, h2, h3, h4⟩ := rewrite_up hg.up hg.nt hf hfit
  exact ⟨_, D', by rw [h1], hst, ⟨h2, h3, hfit, by rw [rewE_keep]; exact hg.kp⟩, h4, rewE_keep _ _ _⟩
theorem rc_good (hV : Vs w.heap.size w) (h : St w ((dOb p S D).sep R) wr) (hg : Gd S f q l) (hf : 0 ≤ f ∧ f ≤ 13) :
    Calls Tryz.prog 21 #[.pointer (some ⟨p, 0, none⟩), .int .i64 f] wr fun e w' => ∃ S2 D2 A c, e = .returned (.tuple #[.slice A l.length c, .int .i64 0]) ∧ St w ((dOb p S2 D2).sep ((slOb A c l).sep R)) w' ∧ Gd S2 f q l ∧ Same3 f S S2 ∧ S2.keep = S.keep := by
  have hkp := hg.kp
  refine (recover_any2 hV h (by unfold inI64; omega) (by omega)).mono ?_
  rintro e w' ⟨D', A, c, rfl, hst⟩
  obtain ⟨h1, h2, h3, h4, h5⟩ := recover_neat hg.up hg.nt hf hg.fit
  rw [h2] at hst
  exact ⟨_, D', A, c, by rw [h1, h2], hst, ⟨h3, h4, hg.fit, by rw [recS_keep]; exact hg.kp⟩, h5, recS_keep _ _⟩
theorem file_good (h : St w ((dOb p S D).sep R) wr) (hU : Up S) {x : List UInt8} (hf : 0 ≤ f ∧ f ≤ 15) (hx : Firm f (bs x) S) : Calls Tryz.prog 23 #[.pointer (some ⟨p, 0, none⟩), .int .i64 f] wr fun e w' => e = .returned (.string (bs x)) ∧ w' = wr := by
  refine (lFile_any p S D f wr (by unfold inI64; omega) h.disk).mono ?_
  rintro e w' ⟨rfl, rfl⟩
  exact ⟨by rw [(file_up hU.up (f := f) ⟨hf.1, by omega⟩).2, hx.1, bs_list], rfl⟩
end
/-- A new disk has no list anywhere. -/
theorem Gd.new (f : Int) : Gd DS.new f [] [] := ⟨Up.new, ⟨⟨⟨rfl, fun _ h => (by cases h)⟩, .inl rfl, fun _ => rfl, fun h => absurd rfl h⟩, ⟨rfl, fun _ h => (by cases h)⟩, fun _ => ⟨rfl, fun _ h => (by cases h)⟩⟩, by
  unfold fitsE textsL encL
  simp [Lib.itoa, Lib.decDigits], by decide⟩
theorem few_fits {l : List (List UInt8)} (h : FewL l) : fitsE l = true := by
  unfold fitsE
  have h1 : (textsL l).length ≤ 1048576 := by
    have h2 := flat_bound encT 240 l (fun x hx => by
      have h3 := h.2 x hx
      have := encT_len x ⟨by omega, by omega⟩
      omega)
    have h4 := Lib.itoa_length_le (l.length : Int) (by omega) (by have := h.1; omega)
    have h5 := h.1
    simp only [textsL, encL, List.length_append, List.length_cons, List.length_nil]
    omega
  simp only [Bool.and_eq_true, decide_eq_true_eq, List.all_eq_true]
  exact ⟨by have := h.1; omega, fun s hs => by have := h.2 s hs; omega, h1⟩
end Go.Proofs.YtjmkodkechahdaaGreatDoor
/- Contract of lingualaw43.small: the examples of the documentation. -/
set_option linter.unusedSimpArgs false
set_option linter.unusedVariables false
namespace Go.Proofs.YtjmkodkechahdaaGreatDoor
open Go.RowKit
set_option maxRecDepth 100000

def smPls (A2 A3 : Option Addr) : List PlM := [⟨0, 7, [], none, 0⟩, ⟨0, 8, [], none, 0⟩, ⟨2, 0, [0, 1], A2, 2⟩, ⟨5, 0, [2], A3, 1⟩]
theorem plLay : Lay 3 PlM.cs := ⟨fun _ => rfl, fun x u hu => by
  simp only [PlM.cs, List.mem_cons, List.not_mem_nil, or_false] at hu
  rcases hu with rfl | rfl | rfl <;> rfl⟩
theorem sm_plan7 (A2 A3 : Option Addr) : planC (smPls A2 A3) 7 = 0 ∧ planL (smPls A2 A3) 7 = [3, 2, 0] := by
  have h1 : rightP (smPls A2 A3) = true := rfl
  have h2 : rootsF 7 0 (smPls A2 A3) = [0] := rfl
  have h3 : planC (smPls A2 A3) 7 = 0 := by unfold planC; rw [if_pos h1, h2]; rfl
  refine ⟨h3, ?_⟩
  unfold planL
  rw [if_pos h3, h2]
  have h4 : reachP (smPls A2 A3) [0] = [0, 2, 3] := by unfold reachP; rw [if_pos h1]; rfl
  rw [h4]
  unfold orderP
  rw [if_pos h1]
  rfl
theorem sm_plan9 (A2 A3 : Option Addr) : planC (smPls A2 A3) 9 = 4 := by
  have h1 : rightP (smPls A2 A3) = true := rfl
  have h2 : rootsF 9 0 (smPls A2 A3) = [] := rfl
  unfold planC
  rw [if_pos h1, h2]
  rfl
theorem sm_t1 : textsL [[97], [98, 99]] = [50, 91, 49, 58, 97, 44, 50, 58, 98, 99, 44, 93] := by simp [textsL, encL, encT, Lib.itoa, Lib.decDigits]
theorem sm_t2 : textsL [[100]] = [49, 91, 49, 58, 100, 44, 93] := by simp [textsL, encL, encT, Lib.itoa, Lib.decDigits]
-- the file is read: HSt the state, HG the good disk, then the law's own fact
set_option maxHeartbeats 4000000 in
theorem small43_any (w : World) (hV : Vs w.heap.size w) : Calls Tryz.prog 4 #[] w fun e w' => e = .returned (.bool true) ∧ Below w.heap.size w w' := by
  have HV := Lib.hid hV
  clear hV
  go_enter Tryz.func4, Tryz.ntmps4
  go_wp2_with fail
  refine (dNew_any w).mono ?_
  rintro e w1 ⟨rfl, hb1, D0, hd0, ho0, -⟩
  have H0 : Hid (St w ((dOb (w.heap.size + 2) DS.new D0).sep Ob.nil) w1) := Lib.hid (St.nil ⟨hd0, hb1, ho0⟩)
  generalize w.heap.size + 2 = p at *
  clear hb1 hd0 ho0
  go_wp2_with fail
  refine (rc_good HV.out H0.out (Gd.new 3) ⟨by decide, by decide⟩).mono ?_
  rintro e w2 ⟨S1, D1, A1, c1, rfl, hs1, hg1, -, -⟩
  have H1 := Lib.hid hs1
  have G1 := Lib.hid hg1
  clear hs1 hg1 H0
  go_wp2_with fail
  refine (rw_good (l2 := [[97], [98, 99]]) HV.out (H1.out.on ((Below.refl _ _).alloc (Nat.le_refl _) _)) G1.out ⟨by decide, by decide⟩ (few_fits ⟨by decide, by decide⟩) (rdBlockE strLayJ w2 [[97], [98, 99]] _ _ rfl _ rfl)).mono ?_
  rintro e w3 ⟨S2, D2, rfl, hs2, hg2, -, -⟩
  have H2 := Lib.hid hs2
  have G2 := Lib.hid hg2
  clear hs2 hg2 H1 G1
  go_wp2_with fail
  refine (rc_good HV.out H2.out G2.out ⟨by decide, by decide⟩).mono ?_
  rintro e w4 ⟨S3, D3, A3, c3, rfl, hs3, hg3, -, -⟩
  have H3 := Lib.hid hs3
  have G3 : Hid (Gd S3 3 [48] [[97], [98, 99]]) := Lib.hid hg3
  clear hs3 hg3 H2 G2
  have F3 := Lib.hid (G3.out.nt.has.ptr)
  have F4 := Lib.hid (G3.out.nt.has.side (by decide))
  have F5 := Lib.hid (G3.out.nt.oth)
  rw [sm_t1] at F4
  go_wp2_with fail
  refine (file_good (f := 3) (x := [48]) H3.out G3.out.up ⟨by decide, by decide⟩ F3.out).mono ?_
  rintro e wz ⟨rfl, hw⟩
  obtain rfl : w4 = wz := hw.symm
  rw [show bs [48] = ⟨#[48]⟩ from rfl]
  go_wp2_with fail
  refine (file_good (f := 4) (x := [50, 91, 49, 58, 97, 44, 50, 58, 98, 99, 44, 93]) H3.out G3.out.up ⟨by decide, by decide⟩ F4.out).mono ?_
  rintro e wz ⟨rfl, hw⟩
  obtain rfl : w4 = wz := hw.symm
  rw [show bs [50, 91, 49, 58, 97, 44, 50, 58, 98, 99, 44, 93] = ⟨#[50, 91, 49, 58, 97, 44, 50, 58, 98, 99, 44, 93]⟩ from rfl]
  go_wp2_with fail
  refine (file_good (f := 5) (x := []) H3.out G3.out.up ⟨by decide, by decide⟩ F5.out).mono ?_
  rintro e wz ⟨rfl, hw⟩
  obtain rfl : w4 = wz := hw.symm
  rw [show bs [] = ⟨#[]⟩ from rfl]
  clear F3 F4 F5
  go_wp2_with fail
  refine (rw_good (l2 := [[100]]) HV.out (H3.out.on ((Below.refl _ _).alloc (Nat.le_refl _) _)) G3.out ⟨by decide, by decide⟩ (few_fits ⟨by decide, by decide⟩) (rdBlockE strLayJ w4 [[100]] _ _ rfl _ rfl)).mono ?_
  rintro e w5 ⟨S4, D4, rfl, hs4, hg4, -, -⟩
  have H4 := Lib.hid hs4
  have G4 : Hid (Gd S4 3 [49] [[100]]) := Lib.hid hg4
  clear hs4 hg4 H3 G3
  have F3 := Lib.hid (G4.out.nt.has.ptr)
  have F5 := Lib.hid (G4.out.nt.has.side (by decide))
  have F4 := Lib.hid (G4.out.nt.oth)
  rw [sm_t2] at F5
  go_wp2_with fail
  refine (file_good (f := 3) (x := [49]) H4.out G4.out.up ⟨by decide, by decide⟩ F3.out).mono ?_
  rintro e wz ⟨rfl, hw⟩
  obtain rfl : w5 = wz := hw.symm
  rw [show bs [49] = ⟨#[49]⟩ from rfl]
  go_wp2_with fail
  refine (file_good (f := 4) (x := []) H4.out G4.out.up ⟨by decide, by decide⟩ F4.out).mono ?_
  rintro e wz ⟨rfl, hw⟩
  obtain rfl : w5 = wz := hw.symm
  rw [show bs [] = ⟨#[]⟩ from rfl]
  go_wp2_with fail
  refine (file_good (f := 5) (x := [49, 91, 49, 58, 100, 44, 93]) H4.out G4.out.up ⟨by decide, by decide⟩ F5.out).mono ?_
  rintro e wz ⟨rfl, hw⟩
  obtain rfl : w5 = wz := hw.symm
  rw [show bs [49, 91, 49, 58, 100, 44, 93] = ⟨#[49, 91, 49, 58, 100, 44, 93]⟩ from rfl]
  clear F3 F4 F5 G4
  go_wp2_with fail
  have hB : ∀ (o1 o2 o3 : Obj), Below w5.heap.size w5 (((w5.alloc o1).alloc o2).alloc o3) := fun o1 o2 o3 => (((Below.refl _ _).alloc (Nat.le_refl _) _).alloc (by simp) _).alloc (by simp; omega) _
  have hP : PlsAt (((w5.alloc (.cells #[.int .i64 0, .int .i64 1] 3)).alloc (.cells #[.int .i64 2] 3)).alloc (.cells #[.int .i64 0, .int .i64 7, .slice none 0 0, .int .i64 0, .int .i64 8, .slice none 0 0, .int .i64 2, .int .i64 0, .slice (some ⟨w5.heap.size, 0, none⟩) 2 2, .int .i64 5, .int .i64 0, .slice (some ⟨w5.heap.size + 1, 0, none⟩) 1 1] 51))
      (some ⟨w5.heap.size + 1 + 1, 0, none⟩) (smPls (some ⟨w5.heap.size, 0, none⟩) (some ⟨w5.heap.size + 1, 0, none⟩)) := by
    refine ⟨rdBlockE plLay _ _ _ _ rfl _ (by simp), fun x hx => ?_, by simp [smPls], fun x hx => ?_⟩
    · simp only [smPls, List.mem_cons, List.not_mem_nil, or_false] at hx
      rcases hx with rfl | rfl | rfl | rfl
      · exact RdL.nil_
      · exact RdL.nil_
      · exact (rdBlockE intLayQ w5 [0, 1] _ _ rfl _ rfl).now (((Below.refl _ _).alloc (Nat.le_refl _) _).alloc (by simp) _)
      · exact (rdBlockE intLayQ _ [2] _ _ rfl _ (by simp)).now ((Below.refl _ _).alloc (Nat.le_refl _) _)
    · simp only [smPls, List.mem_cons, List.not_mem_nil, or_false] at hx
      rcases hx with rfl | rfl | rfl | rfl <;> simp
  have H5 := Lib.hid (H4.out.on (hB (.cells #[.int .i64 0, .int .i64 1] 3) (.cells #[.int .i64 2] 3) (.cells #[.int .i64 0, .int .i64 7, .slice none 0 0, .int .i64 0, .int .i64 8, .slice none 0 0, .int .i64 2, .int .i64 0, .slice (some ⟨w5.heap.size, 0, none⟩) 2 2, .int .i64 5, .int .i64 0, .slice (some ⟨w5.heap.size + 1, 0, none⟩) 1 1] 51)))
  have HP := Lib.hid hP
  have K7 := Lib.hid (sm_plan7 (some ⟨w5.heap.size, 0, none⟩) (some ⟨w5.heap.size + 1, 0, none⟩))
  have K9 := Lib.hid (sm_plan9 (some ⟨w5.heap.size, 0, none⟩) (some ⟨w5.heap.size + 1, 0, none⟩))
  have HLn : Hid ((smPls (some ⟨w5.heap.size, 0, none⟩) (some ⟨w5.heap.size + 1, 0, none⟩)).length = 4) := Lib.hid rfl
  clear hP hB H4
  generalize ((w5.alloc (.cells #[.int .i64 0, .int .i64 1] 3)).alloc (.cells #[.int .i64 2] 3)).alloc (.cells #[.int .i64 0, .int .i64 7, .slice none 0 0, .int .i64 0, .int .i64 8, .slice none 0 0, .int .i64 2, .int .i64 0, .slice (some ⟨w5.heap.size, 0, none⟩) 2 2, .int .i64 5, .int .i64 0, .slice (some ⟨w5.heap.size + 1, 0, none⟩) 1 1] 51) = w6 at *
  generalize smPls (some ⟨w5.heap.size, 0, none⟩) (some ⟨w5.heap.size + 1, 0, none⟩) = pls at *
  have C7 := Lib.hid (ePlan_any pls 7 (some ⟨w5.heap.size + 1 + 1, 0, none⟩) 4 w6 HP.out)
  rw [HLn.out] at C7
  refine C7.out.mono ?_
  rintro e w7 ⟨A7, c7, rfl, ho7, hb7⟩
  rw [K7.out.1, K7.out.2] at *
  have H7 := Lib.hid (H5.out.on hb7)
  have HP7 := Lib.hid (HP.out.now hb7)
  have HO7 := Lib.hid ho7
  have C9 := Lib.hid (ePlan_any pls 9 (some ⟨w5.heap.size + 1 + 1, 0, none⟩) 4 w7 HP7.out)
  rw [HLn.out] at C9
  clear hb7 ho7 H5 C7 HP
  go_wp2_with fail
  refine C9.out.mono ?_
  rintro e w8 ⟨A8, c8, rfl, -, hb8⟩
  rw [K9.out] at *
  have H8 := Lib.hid (H7.out.on hb8)
  have HO8 := Lib.hid (HO7.out.below hb8)
  clear hb8 H7 HO7 C9 HP7
  generalize (planL pls 9).length = n9 at *
  go_wp2_with fail
  have hba : ∀ o : Obj, Below w8.heap.size w8 (w8.alloc o) := fun o => (Below.refl _ _).alloc (Nat.le_refl _) _
  refine (strs_any [[97], [98, 99]] [[97], [98, 99]] A3 (some ⟨w8.heap.size, 0, none⟩) c3 2 _ (slOb.rd (H8.out.on (hba _)).ok.1.2.1.1) (rdBlockE strLayJ w8 [[97], [98, 99]] _ _ rfl _ rfl) (by decide) (by decide)).mono ?_
  rintro e w9 ⟨rfl, hb9⟩
  rw [show (([[97], [98, 99]] : List (List UInt8)) == [[97], [98, 99]]) = true from by decide]
  have H9 := Lib.hid ((H8.out.on (hba _)).on hb9)
  have HO9 := Lib.hid ((HO8.out.below (hba _)).below hb9)
  clear hb9 hba H8 HO8
  go_wp2_with fail
  have hba : ∀ o : Obj, Below w9.heap.size w9 (w9.alloc o) := fun o => (Below.refl _ _).alloc (Nat.le_refl _) _
  refine (same41_any [3, 2, 0] [3, 2, 0] A7 (some ⟨w9.heap.size, 0, none⟩) c7 3 _ ((HO9.out.below (hba _)).rd intLayQ) (rdBlockE intLayQ w9 [3, 2, 0] _ _ rfl _ rfl) (by decide) (by decide)).mono ?_
  rintro e w10 ⟨rfl, hb10⟩
  rw [show (([3, 2, 0] : List Int) == [3, 2, 0]) = true from by decide]
  have H10 := Lib.hid ((H9.out.on (hba _)).on hb10)
  clear hb10 hba H9 HO9
  go_wp2_with fail
  go_ret
  exact ⟨rfl, H10.out.bl⟩
end Go.Proofs.YtjmkodkechahdaaGreatDoor
/- The walk of EraseAtomic. -/
set_option linter.unusedSimpArgs false
set_option linter.unusedVariables false
namespace Go.Proofs.YtjmkodkechahdaaGreatDoor
open Go.RowKit
set_option maxRecDepth 100000

theorem rd_blkI {w : World} {A : Option Addr} {xs : List Int} (h : RdL 1 intC w w.heap.size A xs) (hne : xs ≠ []) {i : Nat} (hi : slBlk A = some i) : i < w.heap.size := by
  have hl : 0 < xs.length := List.length_pos_iff.2 hne
  obtain ⟨b, off, e, hb, _⟩ := h.at_ hl
  rw [e] at hi
  have := Option.some.inj hi
  simp only at this
  omega
section
variable {w wr : World} {p : Nat} {S : DS} {D : DL} {R : Ob}
theorem St.notOwn (h : St w ((dOb p S D).sep R) wr) {A : Option Addr} {xs : List Int} (hr : RdL 1 intC w w.heap.size A xs) : xs ≠ [] → ∀ i, slBlk A = some i → ¬ D.own p i := fun hne i hi ho => by
  have h1 := rd_blkI hr hne hi
  have h2 := h.disk_own i ho
  omega
end
theorem rewE_run {S : DS} {f : Int} {q : List UInt8} {l l2 : List (List UInt8)} (h : Has S f q l) (hd : S.down = false) (hf : 0 ≤ f ∧ f ≤ 13) (hfit : fitsE l2 = true) : rewE S f l2 = runL (rewL f q (textsL l2)) S := by
  obtain ⟨ho, hs⟩ := open_up2 hd hf h.ptr h.ok
  unfold rewE
  rw [if_neg (by omega), hfit, if_neg (by decide), ho, if_neg (by decide), hs]
-- atTailA Q | LS | FEW : what follows the second Rewrite; P5: Up, Has .. Q LS, the other file; HWho : LS = now, or LS = old and the code is not 0
-- atStrSame LS | atStrOther : the tests of the list that is recovered
-- atTailB Q | LS : the rest of the law
-- atCode : the second Rewrite failed
/-- The state behind the first list. -/
structure At0 (S : DS) (at_ : Int) (old : List (List UInt8)) : Prop where
  g : Gd S at_ [48] old
  o : Firm (at_ + 3) (bs [111, 116, 104, 101, 114]) S
theorem at_first {at_ : Int} (h : 0 ≤ at_ ∧ at_ ≤ 12) : Gd ((DS.new.write (at_ + 3) 0 (bs [111, 116, 104, 101, 114])).sync (at_ + 3)) at_ [] [] ∧ Firm (at_ + 3) (bs [111, 116, 104, 101, 114]) ((DS.new.write (at_ + 3) 0 (bs [111, 116, 104, 101, 114])).sync (at_ + 3)) := by
  obtain ⟨_, _, a, b, c⟩ := up_fresh Up.new (g := at_ + 3) ⟨by omega, by omega⟩ ⟨rfl, fun _ h => (by cases h)⟩ [111, 116, 104, 101, 114] (by decide) (by decide)
  have hf : ∀ k, k ≠ at_ + 3 → Firm k e0 ((DS.new.write (at_ + 3) 0 (bs [111, 116, 104, 101, 114])).sync (at_ + 3)) := fun k hk => c k e0 hk ⟨rfl, fun _ h => (by cases h)⟩
  have hg := Gd.new at_
  refine ⟨⟨a, ⟨⟨hf _ (by omega), .inl rfl, fun _ => rfl, fun h => absurd rfl h⟩, hf _ (by unfold othF; simp), fun _ => hf _ (by unfold nowF; simp)⟩, hg.fit, by rw [sync_keep, write_keep]; decide⟩, b⟩
end Go.Proofs.YtjmkodkechahdaaGreatDoor
/- The walk of EraseFirst. -/
set_option linter.unusedSimpArgs false
set_option linter.unusedVariables false
namespace Go.Proofs.YtjmkodkechahdaaGreatDoor
open Go.RowKit
set_option maxRecDepth 100000

section
variable {S : DS} {f : Int} {p : List UInt8} {l l2 : List (List UInt8)}
/-- Rewrite on a disk that is up, whatever stands in the other side. -/
theorem rewrite_fair (h : Up S) (hh : Has S f p l) (hnil : p = [] → Firm (nowF f p) e0 S) (hf : 0 ≤ f ∧ f ≤ 13) (hfit : fitsE l2 = true) : (rewE S f l2).1 = 0 ∧ Up (rewE S f l2).2 ∧ Neat (rewE S f l2).2 f (nextP p) l2 := by
  have htl := (fits_parts hfit).2.2
  obtain ⟨n1, n2, n3, n4, n5⟩ := side_ne f p
  obtain ⟨h1, h2⟩ := rew_up h hf p (textsL l2) htl
  rw [rewE_run hh h.up hf hfit]
  refine ⟨h1, h2, ?_⟩
  rcases rew_out hh hf hfit with ⟨_, a, b, c⟩ | ⟨a, _⟩
  · refine ⟨a, ?_, fun e => absurd e (next_ne p)⟩
    rw [oth_next f hh.ok]
    by_cases hp : p = []
    · exact rew_firm hf (hnil hp) _ htl n1 (fun e => n3 e) (fun hq => absurd hp hq)
    · exact c hp
  · omega
end
section
variable {w wr : World} {p : Nat} {S : DS} {D : DL} {R a b : Ob} {f : Int} {q : List UInt8} {l l2 : List (List UInt8)} {A : Option Addr} {c : Nat}
theorem rw_fair (hV : Vs w.heap.size w) (h : St w ((dOb p S D).sep R) wr) (hu : Up S) (hh : Has S f q l) (hnil : q = [] → Firm (nowF f q) e0 S) (hkp : S.keep.length ≤ 20) (hf : 0 ≤ f ∧ f ≤ 13) (hfit : fitsE l2 = true) (hr : RdL 1 strE wr wr.heap.size A l2) :
    Calls Tryz.prog 22 #[.pointer (some ⟨p, 0, none⟩), .int .i64 f, .slice A l2.length c] wr fun e w' => ∃ S2 D2, e = .returned (.int .i64 0) ∧ St w ((dOb p S2 D2).sep R) w' ∧ Gd S2 f (nextP q) l2 := by
  have hl := (fits_parts hfit).1
  refine (rewrite_any2 hV h hr (by omega) (by unfold inI64; omega) (by omega)).mono ?_
  rintro e w' ⟨D', rfl, hst⟩
  obtain ⟨h1, h2, h3⟩ := rewrite_fair hu hh hnil hf hfit
  exact ⟨_, D', by rw [h1], hst, ⟨h2, h3, hfit, by rw [rewE_keep]; exact hkp⟩⟩
theorem St.rot (h : St w (a.sep (b.sep R)) wr) : St w (b.sep (R.sep a)) wr := h.swap.assoc
end
-- fsTailA Q | LS | FITS | WORLD : what follows the first Rewrite, up to the list that is recovered
-- fsTailB Q | LS : the rest of the law
-- fsSame LS | fsOther : the test of the list
-- fsCode : Rewrite failed
end Go.Proofs.YtjmkodkechahdaaGreatDoor
/- The plain law of ErasePlans: what a plan holds. -/
set_option linter.unusedSimpArgs false
set_option linter.unusedVariables false
namespace Go.Proofs.YtjmkodkechahdaaGreatDoor
open Go.RowKit

theorem mk1_get (n : Nat) (m : List Bool) (x : Int) (k : Nat) (b : Bool) (hk : k < n) (hm : m[k]? = some b) : (mk1 n m x)[k]? = some (b || decide (x = (k : Int))) := by
  have hl : k < m.length := (List.getElem?_eq_some_iff.1 hm).1
  unfold mk1
  split
  next h =>
    rw [List.getElem?_set]
    by_cases e : x.toNat = k
    · have e2 : x = (k : Int) := by omega
      rw [if_pos e, if_pos (by omega)]; simp [e2]
    · have e2 : ¬ x = (k : Int) := by omega
      rw [if_neg e, hm]; simp [e2]
  next h =>
    have e2 : ¬ x = (k : Int) := by omega
    rw [hm]; simp [e2]
theorem mkL_get (n k : Nat) (hk : k < n) : ∀ (xs : List Int) (m : List Bool) (b : Bool), m[k]? = some b → (xs.foldl (mk1 n) m)[k]? = some (b || decide ((k : Int) ∈ xs))
  | [], m, b, h => by simpa using h
  | x :: r, m, b, h => by
    rw [List.foldl_cons, mkL_get n k hk r _ _ (mk1_get n m x k b hk h)]
    by_cases e : x = (k : Int)
    · simp [e]
    · have e2 : ¬ (k : Int) = x := fun h => e h.symm
      simp [e, e2]
theorem mkF_get (n k : Nat) (hk : k < n) (xs : List Int) : (mkF n xs)[k]? = some (decide ((k : Int) ∈ xs)) := by
  unfold mkF
  rw [mkL_get n k hk xs _ false (by simp [hk])]
  simp
theorem mem_idxF : ∀ (m : List Bool) (i : Nat) (x : Int), x ∈ idxF i m ↔ ∃ k : Nat, m[k]? = some true ∧ x = (i + k : Nat)
  | [], i, x => by simp [idxF]
  | b :: r, i, x => by
    have ih := mem_idxF r (i + 1) x
    have hr : (∃ k : Nat, r[k]? = some true ∧ x = (i + 1 + k : Nat)) ↔ ∃ k : Nat, (b :: r)[k + 1]? = some true ∧ x = (i + (k + 1) : Nat) := by
      simp only [List.getElem?_cons_succ]
      constructor
      · rintro ⟨k, h, e⟩; exact ⟨k, h, by omega⟩
      · rintro ⟨k, h, e⟩; exact ⟨k, h, by omega⟩
    unfold idxF
    split
    next hb =>
      rw [List.mem_cons, ih, hr]
      constructor
      · rintro (h | ⟨k, h⟩)
        · exact ⟨0, by simp [hb], by omega⟩
        · exact ⟨k + 1, h⟩
      · rintro ⟨k, h⟩
        cases k with
        | zero => left; have := h.2; omega
        | succ k => exact .inr ⟨k, h⟩
    next hb =>
      rw [ih, hr]
      constructor
      · rintro ⟨k, h⟩; exact ⟨k + 1, h⟩
      · rintro ⟨k, h⟩
        cases k with
        | zero => have := h.1; simp at this; exact absurd this hb
        | succ k => exact ⟨k, h⟩
theorem idxF_asc : ∀ (m : List Bool) (i : Nat), (idxF i m).Pairwise (· < ·)
  | [], i => by simp [idxF]
  | b :: r, i => by
    unfold idxF
    split
    · refine List.pairwise_cons.2 ⟨fun x hx => ?_, idxF_asc r (i + 1)⟩
      obtain ⟨k, _, e⟩ := (mem_idxF r (i + 1) x).1 hx
      omega
    · exact idxF_asc r (i + 1)
theorem mem_rootsF (ev : Int) : ∀ (l : List PlM) (i : Nat) (x : Int), x ∈ rootsF ev i l ↔ ∃ (k : Nat) (p : PlM), l[k]? = some p ∧ (p.kind = 0 ∧ p.id = ev) ∧ x = (i + k : Nat)
  | [], i, x => by simp [rootsF]
  | q :: r, i, x => by
    have ih := mem_rootsF ev r (i + 1) x
    unfold rootsF
    split
    next hb =>
      rw [List.mem_cons, ih]
      constructor
      · rintro (h | ⟨k, p, h1, h2, h3⟩)
        · exact ⟨0, q, by simp, hb, by omega⟩
        · exact ⟨k + 1, p, by simpa using h1, h2, by omega⟩
      · rintro ⟨k, p, h1, h2, h3⟩
        cases k with
        | zero => left; omega
        | succ k => exact .inr ⟨k, p, by simpa using h1, h2, by omega⟩
    next hb =>
      rw [ih]
      constructor
      · rintro ⟨k, p, h1, h2, h3⟩; exact ⟨k + 1, p, by simpa using h1, h2, by omega⟩
      · rintro ⟨k, p, h1, h2, h3⟩
        cases k with
        | zero => simp at h1; subst h1; exact absurd h2 hb
        | succ k => exact ⟨k, p, by simpa using h1, h2, by omega⟩
theorem rc1_other (i : Nat) (m : List Bool) (f : Int) (j : Nat) (h : j ≠ i) : (rc1 i m f)[j]? = m[j]? := by
  unfold rc1
  rw [List.getElem?_set, if_neg (fun e => h e.symm)]
theorem rcL_other (i j : Nat) (h : j ≠ i) : ∀ (fr : List Int) (m : List Bool), (fr.foldl (rc1 i) m)[j]? = m[j]?
  | [], m => rfl
  | f :: r, m => by rw [List.foldl_cons, rcL_other i j h r, rc1_other i m f j h]
theorem rcL_at (i : Nat) : ∀ (fr : List Int) (m : List Bool) (b : Bool), (∀ f ∈ fr, 0 ≤ f ∧ f < (i : Int)) → m[i]? = some b → (fr.foldl (rc1 i) m)[i]? = some (b || fr.any (fun f => (m[f.toNat]?).getD false))
  | [], m, b, _, h => by simpa using h
  | f :: r, m, b, hf, h => by
    have hl : i < m.length := (List.getElem?_eq_some_iff.1 h).1
    have h1 : (rc1 i m f)[i]? = some (b || (m[f.toNat]?).getD false) := by
      unfold rc1
      rw [List.getElem?_set, if_pos rfl, if_pos hl, h]
      rfl
    rw [List.foldl_cons, rcL_at i r _ _ (fun g hg => hf g (List.mem_cons_of_mem _ hg)) h1, List.any_cons, Bool.or_assoc]
    congr 2
    have : ∀ g ∈ r, ((rc1 i m f)[g.toNat]?).getD false = (m[g.toNat]?).getD false := fun g hg => by
      have := hf g (List.mem_cons_of_mem _ hg)
      rw [rc1_other i m f g.toNat (by omega)]
    rw [Bool.eq_iff_iff]
    simp only [Bool.or_eq_true, List.any_eq_true]
    constructor
    · rintro (h | ⟨g, hg, h⟩)
      · exact .inl h
      · exact .inr ⟨g, hg, by rwa [this g hg] at h⟩
    · rintro (h | ⟨g, hg, h⟩)
      · exact .inl h
      · exact .inr ⟨g, hg, by rwa [this g hg]⟩
theorem reachL_low : ∀ (l : List PlM) (i : Nat) (m : List Bool) (j : Nat), j < i → (reachL i l m)[j]? = m[j]?
  | [], i, m, j, h => rfl
  | p :: r, i, m, j, h => by rw [reachL, reachL_low r (i + 1) _ j (by omega), rcL_other i j (by omega)]
theorem reachL_at : ∀ (l : List PlM) (i : Nat) (m : List Bool) (k : Nat) (p : PlM) (b : Bool), (∀ (k : Nat) (p : PlM), l[k]? = some p → ∀ f ∈ p.fr, 0 ≤ f ∧ f < ((i + k : Nat) : Int)) → l[k]? = some p → m[i + k]? = some b →
    (reachL i l m)[i + k]? = some (b || p.fr.any (fun f => ((reachL i l m)[f.toNat]?).getD false))
  | [], i, m, k, p, b, _, h, _ => by simp at h
  | q :: r, i, m, k, p, b, hf, h, hm => by
    cases k with
    | zero =>
      simp only [List.getElem?_cons_zero, Option.some.injEq] at h
      subst h
      have hq := hf 0 q (by simp)
      have e1 : ∀ f ∈ q.fr, ((reachL i (q :: r) m)[f.toNat]?).getD false = (m[f.toNat]?).getD false := fun f hfm => by
        have := hq f hfm
        rw [reachL_low (q :: r) i m f.toNat (by omega)]
      have e2 : q.fr.any (fun f => ((reachL i (q :: r) m)[f.toNat]?).getD false) = q.fr.any (fun f => (m[f.toNat]?).getD false) := by
        rw [Bool.eq_iff_iff]
        simp only [List.any_eq_true]
        constructor
        · rintro ⟨g, hg, h⟩; exact ⟨g, hg, by rwa [e1 g hg] at h⟩
        · rintro ⟨g, hg, h⟩; exact ⟨g, hg, by rwa [e1 g hg]⟩
      rw [e2, reachL, reachL_low r (i + 1) _ (i + 0) (by omega)]
      exact rcL_at i q.fr m b (fun f hfm => by have := hq f hfm; omega) hm
    | succ k =>
      have ih := reachL_at r (i + 1) (q.fr.foldl (rc1 i) m) k p b (fun k p hk f hfm => by
        have := hf (k + 1) p (by simpa using hk) f hfm
        omega) (by simpa using h) (by rw [rcL_other i _ (by omega)]; rw [show i + 1 + k = i + (k + 1) by omega]; exact hm)
      rw [show i + (k + 1) = i + 1 + k by omega]
      exact ih
/-- What a plan holds: the event's places and what is reached from them, the later ones first. -/
structure PlanOk (l : List PlM) (ev : Int) (P : List Int) : Prop where
  rng : ∀ x ∈ P, 0 ≤ x ∧ x < l.length
  desc : P.Pairwise (· > ·)
  mem : ∀ (k : Nat) (p : PlM), l[k]? = some p → ((k : Int) ∈ P ↔ (p.kind = 0 ∧ p.id = ev) ∨ ∃ f ∈ p.fr, f ∈ P)
theorem plan_ok {l : List PlM} {ev : Int} (h : planC l ev = 0) : rightP l = true ∧ rootsF ev 0 l ≠ [] ∧ PlanOk l ev (planL l ev) := by
  have hr : rightP l = true := by
    unfold planC at h
    split at h
    next hr => exact hr
    next => cases h
  have hn : rootsF ev 0 l ≠ [] := by
    unfold planC at h
    rw [if_pos hr] at h
    intro e
    rw [if_pos e] at h
    cases h
  refine ⟨hr, hn, ?_⟩
  obtain ⟨M, hM⟩ : ∃ M, M = reachM l (rootsF ev 0 l) := ⟨_, rfl⟩
  have hMl : M.length = l.length := by rw [hM, reachM_len]
  have e1 : planL l ev = (idxF 0 (mkF l.length (idxF 0 M))).reverse := by
    unfold planL orderP reachP
    rw [if_pos h, if_pos hr, if_pos hr, hM]
  have hget : ∀ (k : Nat), k < l.length → ∃ b, M[k]? = some b := fun k hk => ⟨_, List.getElem?_eq_getElem (by omega)⟩
  have hmem : ∀ x, x ∈ planL l ev ↔ ∃ k : Nat, M[k]? = some true ∧ x = (k : Int) := fun x => by
    rw [e1, List.mem_reverse, mem_idxF]
    constructor
    · rintro ⟨k, h1, h2⟩
      have hk : k < l.length := by have := (List.getElem?_eq_some_iff.1 h1).1; rwa [mkF_len] at this
      rw [mkF_get _ _ hk] at h1
      have h3 : (k : Int) ∈ idxF 0 M := by simpa using h1
      obtain ⟨k2, h4, h5⟩ := (mem_idxF M 0 _).1 h3
      obtain rfl : k = k2 := by omega
      exact ⟨k, h4, by omega⟩
    · rintro ⟨k, h1, h2⟩
      have hk : k < l.length := by have := (List.getElem?_eq_some_iff.1 h1).1; omega
      refine ⟨k, ?_, by omega⟩
      rw [mkF_get _ _ hk]
      have : (k : Int) ∈ idxF 0 M := (mem_idxF M 0 _).2 ⟨k, h1, by omega⟩
      simp [this]
  refine ⟨fun x hx => ?_, ?_, fun k p hk => ?_⟩
  · obtain ⟨k, h1, rfl⟩ := (hmem x).1 hx
    have := (List.getElem?_eq_some_iff.1 h1).1
    omega
  · rw [e1, List.pairwise_reverse]
    exact idxF_asc _ 0
  · have hkl : k < l.length := (List.getElem?_eq_some_iff.1 hk).1
    have hfr : ∀ (k : Nat) (p : PlM), l[k]? = some p → ∀ f ∈ p.fr, 0 ≤ f ∧ f < ((0 + k : Nat) : Int) := fun k p hk f hf => by
      have := right_fr hr hk hf
      omega
    have hat := reachL_at l 0 (mkF l.length (rootsF ev 0 l)) k p _ hfr hk (by rw [Nat.zero_add]; exact mkF_get _ _ hkl _)
    rw [Nat.zero_add] at hat
    have hat2 : M[k]? = some (decide ((k : Int) ∈ rootsF ev 0 l) || p.fr.any fun f => (M[f.toNat]?).getD false) := by rw [hM]; exact hat
    have hroot : (k : Int) ∈ rootsF ev 0 l ↔ p.kind = 0 ∧ p.id = ev := by
      rw [mem_rootsF]
      constructor
      · rintro ⟨k2, p2, h1, h2, h3⟩
        obtain rfl : k = k2 := by omega
        rw [hk] at h1
        injection h1 with h1
        rw [h1]; exact h2
      · intro h2; exact ⟨k, p, hk, h2, by omega⟩
    have hfm : ∀ f ∈ p.fr, ((M[f.toNat]?).getD false = true ↔ f ∈ planL l ev) := fun f hf => by
      have h1 := hfr k p hk f hf
      rw [hmem]
      constructor
      · intro h2
        refine ⟨f.toNat, ?_, by omega⟩
        cases h3 : M[f.toNat]? with
        | none => rw [h3] at h2; cases h2
        | some b => rw [h3] at h2; simp at h2; rw [h2]
      · rintro ⟨k2, h2, h3⟩
        rw [show f.toNat = k2 by omega, h2]
        rfl
    rw [hmem]
    constructor
    · rintro ⟨k2, h1, h2⟩
      obtain rfl : k = k2 := by omega
      rw [hat2] at h1
      have h3 : (decide ((k : Int) ∈ rootsF ev 0 l) || p.fr.any fun f => (M[f.toNat]?).getD false) = true := by injection h1
      rw [Bool.or_eq_true, decide_eq_true_iff, hroot, List.any_eq_true] at h3
      rcases h3 with h3 | ⟨f, hf, h4⟩
      · exact .inl h3
      · exact .inr ⟨f, hf, (hfm f hf).1 h4⟩
    · intro h1
      refine ⟨k, ?_, rfl⟩
      rw [hat2]
      have h3 : (decide ((k : Int) ∈ rootsF ev 0 l) || p.fr.any fun f => (M[f.toNat]?).getD false) = true := by
        rw [Bool.or_eq_true, decide_eq_true_iff, hroot, List.any_eq_true]
        rcases h1 with h1 | ⟨f, hf, h4⟩
        · exact .inl h1
        · exact .inr ⟨f, hf, (hfm f hf).2 h4⟩
      rw [h3]
/-- The positions in the plan: what the law has written down after k of its entries. -/
structure AtP (n : Nat) (P : List Int) (k : Nat) (T : List Int) : Prop where
  len : T.length = n
  pos : ∀ (j : Nat) (t : Int), T[j]? = some t → (0 ≤ t ∧ t < k ∧ P[t.toNat]? = some (j : Int)) ∨ (t = -1 ∧ ∀ s, s < k → P[s]? ≠ some (j : Int))
theorem AtP.start (n : Nat) (P : List Int) : AtP n P 0 (List.replicate n (-1)) := by
  refine ⟨by simp, fun j t h => .inr ⟨?_, fun s hs => absurd hs (by omega)⟩⟩
  rw [List.getElem?_replicate] at h
  split at h
  · injection h with h; exact h.symm
  · cases h
theorem desc_inj {P : List Int} (h : P.Pairwise (· > ·)) {a b : Nat} {x : Int} (ha : P[a]? = some x) (hb : P[b]? = some x) : a = b := by
  obtain ⟨ha1, ha2⟩ := List.getElem?_eq_some_iff.1 ha
  obtain ⟨hb1, hb2⟩ := List.getElem?_eq_some_iff.1 hb
  have hp := List.pairwise_iff_getElem.1 h
  rcases Nat.lt_trichotomy a b with h1 | h1 | h1
  · have := hp a b ha1 hb1 h1; omega
  · exact h1
  · have := hp b a hb1 ha1 h1; omega
theorem AtP.fresh {n : Nat} {P : List Int} {k : Nat} {T : List Int} (h : AtP n P k T) (hd : P.Pairwise (· > ·)) {x : Nat} (hx : P[k]? = some (x : Int)) {t : Int} (ht : T[x]? = some t) : t = -1 := by
  rcases h.pos x t ht with ⟨h1, h2, h3⟩ | ⟨h1, _⟩
  · have := desc_inj hd hx h3; omega
  · exact h1
theorem AtP.step {n : Nat} {P : List Int} {k : Nat} {T : List Int} (h : AtP n P k T) {x : Nat} (hx : P[k]? = some (x : Int)) : AtP n P (k + 1) (T.set x k) := by
  refine ⟨by rw [List.length_set]; exact h.len, fun j t ht => ?_⟩
  rw [List.getElem?_set] at ht
  split at ht
  next e =>
    subst e
    split at ht
    next e2 =>
      injection ht with ht
      subst ht
      exact .inl ⟨by omega, by omega, hx⟩
    next => cases ht
  next e =>
    rcases h.pos j t ht with ⟨h1, h2, h3⟩ | ⟨h1, h2⟩
    · exact .inl ⟨h1, by omega, h3⟩
    · refine .inr ⟨h1, fun s hs he => ?_⟩
      by_cases hsk : s = k
      · subst hsk
        rw [hx] at he
        injection he with he
        omega
      · exact h2 s (by omega) he
theorem AtP.is {n : Nat} {P T : List Int} (h : AtP n P P.length T) {j : Nat} {t : Int} (ht : T[j]? = some t) : (0 ≤ t) ↔ (j : Int) ∈ P := by
  rcases h.pos j t ht with ⟨h1, h2, h3⟩ | ⟨h1, h2⟩
  · exact ⟨fun _ => List.mem_of_getElem? h3, fun _ => h1⟩
  · refine ⟨fun h => by omega, fun hm => ?_⟩
    obtain ⟨s, hs, e⟩ := List.mem_iff_getElem.1 hm
    exact absurd (by rw [List.getElem?_eq_getElem hs, e]) (h2 s hs)
theorem AtP.order {n : Nat} {P T : List Int} (h : AtP n P P.length T) (hd : P.Pairwise (· > ·)) {i f : Nat} {a b : Int} (hi : T[i]? = some a) (hf : T[f]? = some b) (hfi : f < i) (ha : 0 ≤ a) (hb : 0 ≤ b) : ¬ b < a := by
  intro hlt
  rcases h.pos i a hi with ⟨h1, h2, h3⟩ | ⟨h1, _⟩
  · rcases h.pos f b hf with ⟨k1, k2, k3⟩ | ⟨k1, _⟩
    · obtain ⟨a1, a2⟩ := List.getElem?_eq_some_iff.1 h3
      obtain ⟨b1, b2⟩ := List.getElem?_eq_some_iff.1 k3
      have := List.pairwise_iff_getElem.1 hd b.toNat a.toNat b1 a1 (by omega)
      omega
    · omega
  · omega
/-- Places as they come, of any number. -/
structure PlsRaw (w : World) (A : Option Addr) (l : List PlM) : Prop where
  rd : RdL 3 PlM.cs w w.heap.size A l
  fr : ∀ p ∈ l, RdL 1 intE w w.heap.size p.A p.fr
  len : l.length ≤ 9223372036854775807
  fln : ∀ p ∈ l, p.fr.length ≤ 9223372036854775807
theorem PlsRaw.now {w w' : World} {A : Option Addr} {l : List PlM} (h : PlsRaw w A l) (hb : Below w.heap.size w w') : PlsRaw w' A l := ⟨h.rd.now hb, fun p hp => (h.fr p hp).now hb, h.len, h.fln⟩
theorem PlsRaw.pls {w : World} {A : Option Addr} {l : List PlM} (h : PlsRaw w A l) (hl : l.length ≤ 1000000000) : PlsAt w A l := ⟨h.rd, h.fr, hl, h.fln⟩
end Go.Proofs.YtjmkodkechahdaaGreatDoor
/- Contracts of linguaref41.Has and Right. -/
set_option linter.unusedSimpArgs false
set_option linter.unusedVariables false
namespace Go.Proofs.YtjmkodkechahdaaGreatDoor
open Go.RowKit
set_option maxRecDepth 100000
set_option maxHeartbeats 2000000 in
theorem rHas41_any (xs : List Int) (n : Int) (A : Option Addr) (c : Nat) (w : World) (h : RdL 1 intE w w.heap.size A xs) (hx : xs.length ≤ 9223372036854775807) : Calls Tryz.prog 84 #[.slice A xs.length c, .int .i64 n] w fun e w' => e = .returned (.bool (decide (n ∈ xs))) ∧ w = w' := by
  have H := Lib.hid h
  clear h
  go_enter Tryz.func84, Tryz.ntmps84
  go_wp2_with fail
  go_loopw [5] (fun i wr => ∃ k : Nat, k ≤ xs.length ∧ i = .int .i64 k ∧ Hid (decide (n ∈ xs) = decide (n ∈ xs.drop k)) ∧ w = wr) (fun i _ => xs.length - (intOf i).toNat)
  case atStart => exact ⟨0, Nat.zero_le _, rfl, Lib.hid (by rw [List.drop_zero]), rfl⟩
  case round =>
    obtain ⟨k, hk, rfl, HK, rfl⟩ := hrel
    by_cases hlt : k < xs.length
    · have d1 : decide ((k : Int) < (xs.length : Int)) = true := by simp; omega
      obtain ⟨y, hy⟩ : ∃ y, xs[k]? = some y := ⟨_, List.getElem?_eq_getElem hlt⟩
      obtain ⟨b, off, rfl, hb, c5⟩ := rd_int3 H.out hy
      have HN : Hid (decide (n ∈ xs) = decide (n = y ∨ n ∈ xs.drop (k + 1))) := Lib.hid (by
        rw [HK.out, List.drop_eq_getElem_cons hlt]
        rw [List.getElem?_eq_getElem hlt] at hy
        injection hy with hy
        rw [hy]
        simp)
      clear hy HK
      cases q1 : (y == n) with
      | true =>
        have HZ : Hid (decide (n ∈ xs) = true) := Lib.hid (by
          rw [HN.out]
          simp at q1
          simp [q1])
        go_wp2_with fail
        go_ret
        exact ⟨by rw [HZ.out]; rfl, rfl⟩
      | false =>
        have HZ : Hid (decide (n ∈ xs) = decide (n ∈ xs.drop (k + 1))) := Lib.hid (by
          rw [HN.out]
          simp at q1
          have : ¬ n = y := fun e => q1 e.symm
          simp [this])
        go_wp2_with fail
        go_roundw
        case rel => exact ⟨k + 1, by omega, by go_num, HZ, by trivial⟩
        case measure => simp [intOf]; omega
    · obtain rfl : k = xs.length := by omega
      have d1 : decide ((xs.length : Int) < (xs.length : Int)) = false := by simp
      have HZ : Hid (decide (n ∈ xs) = false) := Lib.hid (by rw [HK.out, List.drop_length]; simp)
      go_wp2_with fail
      go_ret
      exact ⟨by rw [HZ.out]; rfl, rfl⟩
set_option maxHeartbeats 4000000 in
theorem rRight41_any (l : List PlM) (A : Option Addr) (c : Nat) (w : World) (h : PlsAt w A l) : Calls Tryz.prog 43 #[.slice A l.length c] w fun e w' => e = .returned (.bool (rightP l)) ∧ Below w.heap.size w w' := by
  have H := Lib.hid h
  have hln := h.len
  have HR : Hid (rightP l = (rightFrom 0 l && decide (l.length ≤ 100000))) := Lib.hid rfl
  clear h
  go_enter Tryz.func43, Tryz.ntmps43
  go_wp2_with fail
  go_loopw [3] (fun i wr => ∃ k : Nat, k ≤ l.length ∧ i = .int .i64 k ∧ rightFrom 0 l = rightFrom k (l.drop k) ∧ Below w.heap.size w wr) (fun i _ => l.length - (intOf i).toNat)
  case atStart => exact ⟨0, Nat.zero_le _, rfl, by rw [List.drop_zero], Below.refl _ _⟩
  case round =>
    obtain ⟨k, hk, rfl, hf, hbw⟩ := hrel
    have HFk := Lib.hid hf
    have HBw := Lib.hid hbw
    have hPl := H.out.now hbw
    clear hf hbw
    by_cases hlt : k < l.length
    · have d1 : decide ((k : Int) < (l.length : Int)) = true := by simp; omega
      obtain ⟨p, hp⟩ : ∃ p, l[k]? = some p := ⟨_, List.getElem?_eq_getElem hlt⟩
      obtain ⟨b, off, rfl, hb, c0, c1, c2⟩ := rd_pl hPl.rd hp
      have HFr := Lib.hid (hPl.fr p (List.mem_of_getElem? hp))
      have hfl := hPl.fln p (List.mem_of_getElem? hp)
      have HSt : Hid (rightFrom 0 l = (plOk k p && rightFrom (k + 1) (l.drop (k + 1)))) := Lib.hid (by
        rw [HFk.out, List.drop_eq_getElem_cons hlt, rightFrom]
        rw [List.getElem?_eq_getElem hlt] at hp
        injection hp with hp
        rw [hp])
      have HOk : Hid (plOk k p = (!(decide (p.kind < 0) || (decide (8 ≤ p.kind) || (decide (p.id < 0) || decide (1099511627776 < p.id)))) && frOk k (-1) p.fr)) := Lib.hid rfl
      clear hp hPl HFk
      obtain ⟨pk, pi, pf, pA, pc⟩ := p
      simp only at c0 c1 c2 HFr hfl HOk
      have HBad : Hid (plOk k ⟨pk, pi, pf, pA, pc⟩ = false → rightP l = false) := Lib.hid (fun h => by rw [HR.out, HSt.out, h]; rfl)
      cases q1 : decide (pk < 0) with
      | true =>
        have HZ := Lib.hid (HBad.out (by rw [HOk.out, q1]; rfl))
        go_wp2_with fail
        go_ret
        exact ⟨by rw [HZ.out]; rfl, HBw.out.alloc HBw.out.size _⟩
      | false =>
      cases q2 : decide (8 ≤ pk) with
      | true =>
        have HZ := Lib.hid (HBad.out (by rw [HOk.out, q1, q2]; rfl))
        go_wp2_with fail
        go_ret
        exact ⟨by rw [HZ.out]; rfl, HBw.out.alloc HBw.out.size _⟩
      | false =>
      cases q3 : decide (pi < 0) with
      | true =>
        have HZ := Lib.hid (HBad.out (by rw [HOk.out, q1, q2, q3]; rfl))
        go_wp2_with fail
        go_ret
        exact ⟨by rw [HZ.out]; rfl, HBw.out.alloc HBw.out.size _⟩
      | false =>
      cases q4 : decide (1099511627776 < pi) with
      | true =>
        have HZ := Lib.hid (HBad.out (by rw [HOk.out, q1, q2, q3, q4]; rfl))
        go_wp2_with fail
        go_ret
        exact ⟨by rw [HZ.out]; rfl, HBw.out.alloc HBw.out.size _⟩
      | false =>
        have HOk2 : Hid (plOk k ⟨pk, pi, pf, pA, pc⟩ = frOk k (-1) pf) := Lib.hid (by rw [HOk.out, q1, q2, q3, q4]; rfl)
        clear HOk
        go_upto_region 9 with fail
        obtain ⟨wo, hwo⟩ : ∃ x, x = wr.alloc (.cells #[.int .i64 pk, .int .i64 pi, .slice pA pf.length pc] 51) := ⟨_, rfl⟩
        have hBo : Below w.heap.size w wo := by rw [hwo]; exact HBw.out.alloc HBw.out.size _
        have hFo : RdL 1 intE wo wo.heap.size pA pf := by rw [hwo]; exact HFr.out.now ((Below.refl _ _).alloc (Nat.le_refl _) _)
        have hblk : wo.heap[wr.heap.size]? = some (.cells #[.int .i64 pk, .int .i64 pi, .slice pA pf.length pc] 51 (0, 0)) := by rw [hwo]; exact (MapKept.heap_alloc wr _).1
        have HBo := Lib.hid hBo
        have HFo := Lib.hid hFo
        rw [← hwo]
        have e2 := box_cell hblk 2 _ rfl
        have hbl := box_lt hblk
        generalize wr.heap.size = bk at *
        clear hwo hBo hFo hblk c0 c1 c2 HBw HFr q1 q2 q3 q4
        go_loopw [5, 6] (fun la j wi => ∃ (m : Nat) (x : Int), m ≤ pf.length ∧ la = .int .i64 x ∧ j = .int .i64 m ∧ frOk k (-1) pf = frOk k x (pf.drop m) ∧ wo = wi) (fun _ j _ => pf.length - (intOf j).toNat)
        case atStart => exact ⟨0, -1, Nat.zero_le _, rfl, rfl, by rw [List.drop_zero], rfl⟩
        case round =>
          obtain ⟨m, x, hm, rfl, rfl, hfr, rfl⟩ := hrel
          have HFr2 := Lib.hid hfr
          clear hfr
          by_cases hlt2 : m < pf.length
          · have d2 : decide ((m : Int) < (pf.length : Int)) = true := by simp; omega
            obtain ⟨y, hy⟩ : ∃ y, pf[m]? = some y := ⟨_, List.getElem?_eq_getElem hlt2⟩
            obtain ⟨b2, off2, rfl, hb2, c5⟩ := rd_int3 HFo.out hy
            have HNx : Hid (frOk k (-1) pf = (!(decide (y ≤ x) || decide ((k : Int) ≤ y)) && frOk k y (pf.drop (m + 1)))) := Lib.hid (by
              rw [HFr2.out, List.drop_eq_getElem_cons hlt2, frOk]
              rw [List.getElem?_eq_getElem hlt2] at hy
              injection hy with hy
              rw [hy])
            clear hy HFr2
            cases q1 : decide (y ≤ x) with
            | true =>
              have HZ := Lib.hid (HBad.out (by rw [HOk2.out, HNx.out, q1]; rfl))
              go_wp2_with fail
              go_ret
              exact ⟨by rw [HZ.out]; rfl, HBo.out⟩
            | false =>
            cases q2 : decide ((k : Int) ≤ y) with
            | true =>
              have HZ := Lib.hid (HBad.out (by rw [HOk2.out, HNx.out, q1, q2]; rfl))
              go_wp2_with fail
              go_ret
              exact ⟨by rw [HZ.out]; rfl, HBo.out⟩
            | false =>
              have HN2 : Hid (frOk k (-1) pf = frOk k y (pf.drop (m + 1))) := Lib.hid (by rw [HNx.out, q1, q2]; rfl)
              clear HNx
              go_wp2_with fail
              go_roundw
              case rel => exact ⟨m + 1, y, by omega, rfl, by go_num, HN2.out, by trivial⟩
              case measure => simp [intOf]; omega
          · obtain rfl : m = pf.length := by omega
            have d2 : decide ((pf.length : Int) < (pf.length : Int)) = false := by simp
            have HOk3 : Hid (rightFrom 0 l = rightFrom (k + 1) (l.drop (k + 1))) := Lib.hid (by rw [HSt.out, HOk2.out, HFr2.out, List.drop_length]; rfl)
            clear HFr2
            go_wp2_with fail
            go_roundw
            case rel => exact ⟨k + 1, by omega, by go_num, HOk3.out, HBo.out⟩
            case measure => simp [intOf]; omega
    · obtain rfl : k = l.length := by omega
      have d1 : decide ((l.length : Int) < (l.length : Int)) = false := by simp
      have HZ : Hid (rightP l = decide ((l.length : Int) ≤ 100000)) := Lib.hid (by
        rw [HR.out, HFk.out, List.drop_length]
        rw [show rightFrom l.length [] = true from rfl, Bool.true_and, Bool.eq_iff_iff]
        simp; omega)
      clear HFk hPl
      go_wp2_with fail
      go_ret
      exact ⟨by rw [HZ.out]; rfl, HBw.out⟩
end Go.Proofs.YtjmkodkechahdaaGreatDoor
/- Contract of linguaref41.Order. -/
set_option linter.unusedSimpArgs false
set_option linter.unusedVariables false
namespace Go.Proofs.YtjmkodkechahdaaGreatDoor
open Go.RowKit
set_option maxRecDepth 100000
set_option maxHeartbeats 4000000 in
theorem rOrder41_any (l : List PlM) (A : Option Addr) (c : Nat) (xs : List Int) (B : Option Addr) (d : Nat) (w : World) (h : PlsAt w A l) (hr : RdL 1 intE w w.heap.size B xs) (hx : xs.length ≤ 9223372036854775807) :
    Calls Tryz.prog 44 #[.slice A l.length c, .slice B xs.length d] w (IntsOut (orderP l xs) w) := by
  have H := Lib.hid h
  have HR := Lib.hid hr
  have hln := h.len
  clear h hr
  go_enter Tryz.func44, Tryz.ntmps44
  go_wp2_with fail
  refine (rRight41_any l A c w H.out).mono ?_
  rintro e w1 ⟨rfl, hb1⟩
  have HB1 := Lib.hid hb1
  cases hrt : rightP l with
  | false =>
    have HQ : Hid (IntsOut (orderP l xs) w (.returned (.slice none 0 0)) w1) := Lib.hid ⟨none, 0, by unfold orderP; rw [hrt]; rfl, by unfold orderP; rw [hrt]; exact OwnL.nil_, hb1⟩
    clear hb1 hrt
    go_wp2_with fail
    go_ret
    exact HQ.out
  | true =>
  have HE : Hid (orderP l xs = (idxF 0 (mkF l.length xs)).reverse) := Lib.hid (by unfold orderP; rw [if_pos hrt])
  clear hb1 hrt
  have HMl := Lib.hid (mkF_len l.length xs)
  have HMg := Lib.hid (fun k hk => mkF_get l.length k hk xs)
  generalize mkF l.length xs = m at *
  go_wp2_with fail
  go_loopw [5, 6] (fun o i wr => ∃ (j : Nat) (out : List Int) (A2 : Option Addr) (d2 : Nat), j ≤ l.length ∧ o = .slice A2 out.length d2 ∧ i = .int .i64 ((j : Int) - 1) ∧ out.length ≤ l.length - j ∧ Hid (out = (idxF j (m.drop j)).reverse ∧ OwnL wr w1.heap.size 3 1 intE A2 d2 out ∧ Below w1.heap.size w1 wr)) (fun _ i _ => (intOf i + 1).toNat)
  case atStart => exact ⟨l.length, [], none, 0, Nat.le_refl _, rfl, by first | rfl | go_num, by simp, Lib.hid ⟨by rw [List.drop_of_length_le (by rw [HMl.out]; exact Nat.le_refl _)]; rfl, OwnL.nil_, Below.refl _ _⟩⟩
  case round =>
    obtain ⟨j, out, A2, d2, hj, rfl, rfl, hol, HK⟩ := hrel
    cases j with
    | zero =>
      have d1 : decide ((0 : Int) ≤ ((0 : Nat) : Int) - 1) = false := by simp
      have HQ : Hid (IntsOut (orderP l xs) w (.returned (.slice A2 out.length d2)) wr) := Lib.hid ⟨A2, d2, by rw [HE.out, HK.out.1]; rfl, by rw [HE.out]; have h1 := HK.out.2.1.mono HB1.out.size; rwa [HK.out.1] at h1, HB1.out.trans (HK.out.2.2.mono HB1.out.size)⟩
      clear HK
      go_wp2_with fail
      go_ret
      exact HQ.out
    | succ k =>
      rw [show ((k + 1 : Nat) : Int) - 1 = (k : Int) by omega]
      have hlt : k < l.length := by omega
      have d1 : decide ((0 : Int) ≤ (k : Int)) = true := by simp
      have HN : Hid (idxF k (m.drop k) = if decide ((k : Int) ∈ xs) = true then (k : Int) :: idxF (k + 1) (m.drop (k + 1)) else idxF (k + 1) (m.drop (k + 1))) := Lib.hid (by
        have hk : k < m.length := by rw [HMl.out]; exact hlt
        have h1 := HMg.out k hlt
        rw [List.getElem?_eq_getElem hk] at h1
        injection h1 with h1
        rw [List.drop_eq_getElem_cons hk, idxF, h1])
      go_wp2_with fail
      refine (rHas41_any xs k B d wr (HR.out.now (HB1.out.trans (HK.out.2.2.mono HB1.out.size))) hx).mono ?_
      rintro e wz ⟨rfl, hw⟩
      obtain rfl := hw
      cases q1 : decide ((k : Int) ∈ xs) with
      | true =>
        have HN2 : Hid (out ++ [(k : Int)] = (idxF k (m.drop k)).reverse) := Lib.hid (by rw [HN.out, q1, if_pos rfl, List.reverse_cons, HK.out.1])
        have HO2 := Lib.hid HK.out.2.1
        have HB2 := Lib.hid HK.out.2.2
        clear HN HK q1
        go_wp2_with (first
          | (at_builtin; refine wp_append_l rfl (.tmp 20) (.tmp 22) rfl slIntQ intLayQ w1.heap.size (xs := out) (ys := [(k : Int)]) rfl rfl (HO2.out.alloc _) rfl rfl (RdL.one wr (k : Int) _ _ rfl _ rfl) (by simp; omega) (by have := HB2.out.size; simp; omega) ?_; intro A7 c7 w7 hown7 hg7 hb7 hat7; have HO7 := Lib.hid hown7; have HB7 := Lib.hid ((HB2.out.alloc HB2.out.size _).trans hb7); clear hown7 hg7 hb7 hat7)
          | fail)
        go_roundw
        case rel => exact ⟨k, out ++ [(k : Int)], A7, c7, by omega, by simp, by first | rfl | go_num, by simp; omega, Lib.hid ⟨HN2.out, HO7.out, HB7.out⟩⟩
        case measure => simp [intOf]
      | false =>
        have HN2 : Hid (out = (idxF k (m.drop k)).reverse) := Lib.hid (by rw [HN.out, q1, if_neg (by decide)]; exact HK.out.1)
        have HO2 := Lib.hid HK.out.2
        clear HN HK q1
        go_wp2_with fail
        go_roundw
        case rel => exact ⟨k, out, A2, d2, by omega, by first | rfl | trivial, by first | rfl | go_num, by omega, Lib.hid ⟨HN2.out, HO2.out⟩⟩
        case measure => simp [intOf]
end Go.Proofs.YtjmkodkechahdaaGreatDoor
/- Contract of linguaref41.Reach. -/
set_option linter.unusedSimpArgs false
set_option linter.unusedVariables false
namespace Go.Proofs.YtjmkodkechahdaaGreatDoor
open Go.RowKit
set_option maxRecDepth 100000
theorem idxF_take : ∀ (M : List Bool) (i k : Nat) (b : Bool), M[k]? = some b → idxF i (M.take (k + 1)) = idxF i (M.take k) ++ (if b = true then [((i + k : Nat) : Int)] else [])
  | [], i, k, b, h => by simp at h
  | a :: r, i, 0, b, h => by
    simp only [List.getElem?_cons_zero, Option.some.injEq] at h
    subst h
    simp [idxF]
  | a :: r, i, k + 1, b, h => by
    have ih := idxF_take r (i + 1) k b (by simpa using h)
    rw [List.take_succ_cons, List.take_succ_cons, idxF, idxF, ih, show i + 1 + k = i + (k + 1) by omega]
    split <;> simp
theorem reach_get {l : List PlM} {roots : List Int} (hr : rightP l = true) {k : Nat} {p : PlM} (hk : l[k]? = some p) :
    (reachM l roots)[k]? = some (decide ((k : Int) ∈ roots) || p.fr.any (fun f => decide (f ∈ idxF 0 ((reachM l roots).take k)))) := by
  have hkl : k < l.length := (List.getElem?_eq_some_iff.1 hk).1
  have hfr : ∀ (k : Nat) (p : PlM), l[k]? = some p → ∀ f ∈ p.fr, 0 ≤ f ∧ f < ((0 + k : Nat) : Int) := fun k p hk f hf => by
    have := right_fr hr hk hf
    omega
  have hat := reachL_at l 0 (mkF l.length roots) k p _ hfr hk (by rw [Nat.zero_add]; exact mkF_get _ _ hkl _)
  rw [Nat.zero_add] at hat
  have e : ∀ f ∈ p.fr, (((reachL 0 l (mkF l.length roots))[f.toNat]?).getD false = true ↔ f ∈ idxF 0 ((reachM l roots).take k)) := fun f hf => by
    have h1 := hfr k p hk f hf
    rw [mem_idxF]
    have h3 : ((reachM l roots).take k)[f.toNat]? = (reachL 0 l (mkF l.length roots))[f.toNat]? := by
      rw [List.getElem?_take, if_pos (by omega)]; rfl
    constructor
    · intro h2
      refine ⟨f.toNat, ?_, by omega⟩
      rw [h3]
      cases h4 : (reachL 0 l (mkF l.length roots))[f.toNat]? with
      | none => rw [h4] at h2; cases h2
      | some b => rw [h4] at h2; simp at h2; rw [h2]
    · rintro ⟨k2, h2, h4⟩
      obtain rfl : f.toNat = k2 := by omega
      rw [h3] at h2
      rw [h2]; rfl
  have e2 : (p.fr.any fun f => ((reachL 0 l (mkF l.length roots))[f.toNat]?).getD false) = p.fr.any (fun f => decide (f ∈ idxF 0 ((reachM l roots).take k))) := by
    rw [Bool.eq_iff_iff]
    simp only [List.any_eq_true, decide_eq_true_iff]
    constructor
    · rintro ⟨f, hf, h⟩; exact ⟨f, hf, (e f hf).1 h⟩
    · rintro ⟨f, hf, h⟩; exact ⟨f, hf, (e f hf).2 h⟩
  rw [← e2]
  exact hat
set_option maxHeartbeats 4000000 in
theorem rReach41_any (l : List PlM) (A : Option Addr) (c : Nat) (xs : List Int) (B : Option Addr) (d : Nat) (w : World) (h : PlsAt w A l) (hr : RdL 1 intE w w.heap.size B xs) (hx : xs.length ≤ 9223372036854775807) :
    Calls Tryz.prog 45 #[.slice A l.length c, .slice B xs.length d] w (IntsOut (reachP l xs) w) := by
  have H := Lib.hid h
  have HR := Lib.hid hr
  have hln := h.len
  clear h hr
  go_enter Tryz.func45, Tryz.ntmps45
  go_wp2_with fail
  refine (rRight41_any l A c w H.out).mono ?_
  rintro e w1 ⟨rfl, hb1⟩
  have HB1 := Lib.hid hb1
  cases hrt : rightP l with
  | false =>
    have HQ : Hid (IntsOut (reachP l xs) w (.returned (.slice none 0 0)) w1) := Lib.hid ⟨none, 0, by unfold reachP; rw [hrt]; rfl, by unfold reachP; rw [hrt]; exact OwnL.nil_, hb1⟩
    clear hb1 hrt
    go_wp2_with fail
    go_ret
    exact HQ.out
  | true =>
  have HE : Hid (reachP l xs = idxF 0 (reachM l xs)) := Lib.hid (by unfold reachP; rw [if_pos hrt])
  have HMg := Lib.hid (fun k p hk => reach_get (roots := xs) (k := k) (p := p) hrt hk)
  clear hb1 hrt
  have HMl := Lib.hid (reachM_len l xs)
  generalize reachM l xs = m at *
  go_wp2_with fail
  go_loopw [5, 6, 7, 8] (fun o i _ _ wr => ∃ (k : Nat) (out : List Int) (A2 : Option Addr) (d2 : Nat), k ≤ l.length ∧ o = .slice A2 out.length d2 ∧ i = .int .i64 k ∧ out.length ≤ k ∧ Hid (out = idxF 0 (m.take k) ∧ OwnL wr w1.heap.size 3 1 intE A2 d2 out ∧ Below w1.heap.size w1 wr)) (fun _ i _ _ _ => l.length - (intOf i).toNat)
  case atStart => exact ⟨0, [], none, 0, Nat.zero_le _, rfl, rfl, Nat.le_refl _, Lib.hid ⟨rfl, OwnL.nil_, Below.refl _ _⟩⟩
  case round =>
    obtain ⟨k, out, A2, d2, hk, rfl, rfl, hol, HK⟩ := hrel
    by_cases hlt : k < l.length
    · have d1 : decide ((k : Int) < (l.length : Int)) = true := by simp; omega
      obtain ⟨p, hp⟩ : ∃ p, l[k]? = some p := ⟨_, List.getElem?_eq_getElem hlt⟩
      have HPl := Lib.hid (H.out.now (HB1.out.trans (HK.out.2.2.mono HB1.out.size)))
      obtain ⟨b, off, rfl, hb, c0, c1, c2⟩ := rd_pl HPl.out.rd hp
      have HFr := Lib.hid (HPl.out.fr p (List.mem_of_getElem? hp))
      have hfl := HPl.out.fln p (List.mem_of_getElem? hp)
      have HG : Hid (m[k]? = some (decide ((k : Int) ∈ xs) || p.fr.any (fun f => decide (f ∈ out)))) := Lib.hid (by rw [HK.out.1]; exact HMg.out k p hp)
      clear hp HPl
      obtain ⟨pk, pi, pf, pA, pc⟩ := p
      simp only at c0 c1 c2 HFr hfl HG
      go_wp2_with fail
      refine (rHas41_any xs k B d wr (HR.out.now (HB1.out.trans (HK.out.2.2.mono HB1.out.size))) hx).mono ?_
      rintro e wz ⟨rfl, hw⟩
      obtain rfl := hw
      go_wp2_with fail
      go_loopw [7, 8] (fun fb j wi => ∃ kk : Nat, kk ≤ pf.length ∧ j = .int .i64 kk ∧ fb = .bool (decide ((k : Int) ∈ xs) || (pf.take kk).any (fun f => decide (f ∈ out))) ∧ wr = wi) (fun _ j _ => pf.length - (intOf j).toNat)
      case atStart => exact ⟨0, Nat.zero_le _, rfl, by simp, rfl⟩
      case round =>
        obtain ⟨kk, hkk, rfl, rfl, rfl⟩ := hrel
        by_cases hlt2 : kk < pf.length
        · have dd : decide ((kk : Int) < (pf.length : Int)) = true := by simp; omega
          obtain ⟨f, hf⟩ : ∃ f, pf[kk]? = some f := ⟨_, List.getElem?_eq_getElem hlt2⟩
          obtain ⟨b3, off3, rfl, hb3, c5⟩ := rd_int3 HFr.out hf
          have HNy : Hid ((decide ((k : Int) ∈ xs) || (pf.take (kk + 1)).any (fun f => decide (f ∈ out))) = ((decide ((k : Int) ∈ xs) || (pf.take kk).any (fun f => decide (f ∈ out))) || decide (f ∈ out))) := Lib.hid (by
            rw [List.take_add_one, hf, List.any_append, Bool.or_assoc]
            simp)
          clear hf
          generalize (decide ((k : Int) ∈ xs) || (pf.take kk).any (fun f => decide (f ∈ out))) = fb at *
          cases fb with
          | true =>
            go_wp2_with fail
            go_roundw
            case rel => exact ⟨kk + 1, by omega, by go_num, by rw [HNy.out]; rfl, by trivial⟩
            case measure => simp [intOf]; omega
          | false =>
            go_wp2_with fail
            refine (rHas41_any out f A2 d2 wr (HK.out.2.1.rd intLayQ) (by omega)).mono ?_
            rintro e wz ⟨rfl, hw⟩
            obtain rfl := hw
            go_wp2_with fail
            go_roundw
            case rel => exact ⟨kk + 1, by omega, by go_num, by rw [HNy.out]; rfl, by trivial⟩
            case measure => simp [intOf]; omega
        · obtain rfl : kk = pf.length := by omega
          have dd : decide ((pf.length : Int) < (pf.length : Int)) = false := by simp
          have HG2 : Hid (m[k]? = some (decide ((k : Int) ∈ xs) || (pf.take pf.length).any (fun f => decide (f ∈ out)))) := Lib.hid (by rw [List.take_length]; exact HG.out)
          have HO2 := Lib.hid HK.out.2.1
          have HB2 := Lib.hid HK.out.2.2
          clear HG
          generalize (decide ((k : Int) ∈ xs) || (pf.take pf.length).any (fun f => decide (f ∈ out))) = fb at *
          cases fb with
          | true =>
            have HN2 : Hid (out ++ [(k : Int)] = idxF 0 (m.take (k + 1))) := Lib.hid (by rw [idxF_take m 0 k true HG2.out, HK.out.1]; simp)
            clear HK HG2
            go_wp2_with (first
              | (at_builtin; refine wp_append_l rfl (.tmp 45) (.tmp 47) rfl slIntQ intLayQ w1.heap.size (xs := out) (ys := [(k : Int)]) rfl rfl (HO2.out.alloc _) rfl rfl (RdL.one wr (k : Int) _ _ rfl _ rfl) (by simp; omega) (by have := HB2.out.size; simp; omega) ?_; intro A7 c7 w7 hown7 hg7 hb7 hat7; have HO7 := Lib.hid hown7; have HB7 := Lib.hid ((HB2.out.alloc HB2.out.size _).trans hb7); clear hown7 hg7 hb7 hat7)
              | fail)
            go_roundw
            case rel => exact ⟨k + 1, out ++ [(k : Int)], A7, c7, by omega, by simp, by go_num, by simp; omega, Lib.hid ⟨HN2.out, HO7.out, HB7.out⟩⟩
            case measure => simp [intOf]; omega
          | false =>
            have HN2 : Hid (out = idxF 0 (m.take (k + 1))) := Lib.hid (by rw [idxF_take m 0 k false HG2.out, HK.out.1]; simp)
            clear HK HG2
            go_wp2_with fail
            go_roundw
            case rel => exact ⟨k + 1, out, A2, d2, by omega, by first | rfl | trivial, by go_num, by omega, Lib.hid ⟨HN2.out, HO2.out, HB2.out⟩⟩
            case measure => simp [intOf]; omega
    · obtain rfl : k = l.length := by omega
      have d1 : decide ((l.length : Int) < (l.length : Int)) = false := by simp
      have HQ : Hid (IntsOut (reachP l xs) w (.returned (.slice A2 out.length d2)) wr) := Lib.hid (by
        have e1 : out = idxF 0 m := by have := HK.out.1; rwa [List.take_of_length_le (by rw [HMl.out]; exact Nat.le_refl _)] at this
        have e2 : reachP l xs = out := by rw [HE.out, e1]
        rw [e2]
        exact ⟨A2, d2, rfl, HK.out.2.1.mono HB1.out.size, HB1.out.trans (HK.out.2.2.mono HB1.out.size)⟩)
      clear HK
      go_wp2_with fail
      go_ret
      exact HQ.out
end Go.Proofs.YtjmkodkechahdaaGreatDoor
