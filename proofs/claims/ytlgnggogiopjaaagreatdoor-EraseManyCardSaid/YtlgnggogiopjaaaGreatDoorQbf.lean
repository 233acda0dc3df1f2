/- Contracts and plain laws, joined: ErR, ErT, ErU, ErM, ErAt. -/
import Derived.Test.YtlgnggogiopjaaaGreatDoorQbe
import Derived.Test.YtlgnggogiopjaaaGreatDoorQai
/- Contracts of places.Reach and Order. -/
set_option linter.unusedSimpArgs false
set_option linter.unusedVariables false
namespace Go.Proofs.YtlgnggogiopjaaaGreatDoor
open Go.RowKit
set_option maxRecDepth 100000

/-- One source of place i. -/
def rc1 (i : Nat) (m : List Bool) (f : Int) : List Bool := m.set i ((m[i]?).getD false || (m[f.toNat]?).getD false)
def reachL : Nat → List PlM → List Bool → List Bool
  | _, [], m => m
  | i, p :: r, m => reachL (i + 1) r (p.fr.foldl (rc1 i) m)
def reachM (l : List PlM) (roots : List Int) : List Bool := reachL 0 l (mkF l.length roots)
def reachP (l : List PlM) (roots : List Int) : List Int := if rightP l = true then idxF 0 (reachM l roots) else []
def orderP (l : List PlM) (some : List Int) : List Int := if rightP l = true then (idxF 0 (mkF l.length some)).reverse else []
theorem rc1_len (i : Nat) (m : List Bool) (f : Int) : (rc1 i m f).length = m.length := by simp [rc1]
theorem rcL_len (i : Nat) : ∀ (fr : List Int) (m : List Bool), (fr.foldl (rc1 i) m).length = m.length
  | [], m => rfl
  | f :: r, m => by rw [List.foldl_cons, rcL_len i r, rc1_len]
theorem reachL_len : ∀ (l : List PlM) (i : Nat) (m : List Bool), (reachL i l m).length = m.length
  | [], _, _ => rfl
  | p :: r, i, m => by rw [reachL, reachL_len r, rcL_len]
theorem reachM_len (l : List PlM) (roots : List Int) : (reachM l roots).length = l.length := by unfold reachM; rw [reachL_len, mkF_len]
theorem rightFrom_at : ∀ (l : List PlM) (i k : Nat) (p : PlM), rightFrom i l = true → l[k]? = some p → plOk (i + k) p = true
  | [], _, _, _, _, h => by simp at h
  | q :: r, i, k, p, h, hk => by
    rw [rightFrom, Bool.and_eq_true] at h
    cases k with
    | zero => simp at hk; subst hk; exact h.1
    | succ k =>
      have := rightFrom_at r (i + 1) k p h.2 (by simpa using hk)
      rwa [show i + (k + 1) = i + 1 + k by omega]
theorem frOk_at : ∀ (fr : List Int) (i la : Int) (x : Int), frOk i la fr = true → x ∈ fr → la < x ∧ x < i
  | [], _, _, _, _, h => by cases h
  | f :: r, i, la, x, h, hx => by
    rw [frOk, Bool.and_eq_true, Bool.not_eq_true', Bool.or_eq_false_iff, decide_eq_false_iff_not, decide_eq_false_iff_not] at h
    rcases List.mem_cons.1 hx with rfl | hx
    · omega
    · have := frOk_at r i f x h.2 hx
      omega
theorem right_fr {l : List PlM} (h : rightP l = true) {k : Nat} {p : PlM} (hk : l[k]? = some p) {x : Int} (hx : x ∈ p.fr) : 0 ≤ x ∧ x < k := by
  unfold rightP at h
  rw [Bool.and_eq_true] at h
  have h1 := rightFrom_at l 0 k p h.1 hk
  unfold plOk at h1
  rw [Bool.and_eq_true] at h1
  have := frOk_at p.fr _ (-1) x h1.2 hx
  omega
/-- A list of numbers of the call's own. -/
def IntsOut (xs : List Int) (w : World) (e : Ending) (w' : World) : Prop := ∃ A d, e = .returned (.slice A xs.length d) ∧ OwnL w' w.heap.size 3 1 intE A d xs ∧ Below w.heap.size w w'
set_option maxHeartbeats 4000000 in
theorem plReach_any (l : List PlM) (A : Option Addr) (c : Nat) (xs : List Int) (B : Option Addr) (d : Nat) (w : World) (h : PlsAt w A l) (hr : RdL 1 intE w w.heap.size B xs) (hx : xs.length ≤ 9223372036854775807) :
    Calls Tryz.prog 40 #[.slice A l.length c, .slice B xs.length d] w (IntsOut (reachP l xs) w) := by
  have H := Lib.hid h
  have HR := Lib.hid hr
  have hln := h.len
  clear h hr
  go_enter Tryz.func40, Tryz.ntmps40
  go_wp2_with fail
  refine (plRight_any l A c w H.out).mono ?_
  rintro e w1 ⟨rfl, hb1⟩
  have HB1 := Lib.hid hb1
  cases hrt : rightP l with
  | false =>
    have HQ : Hid (IntsOut (reachP l xs) w (.returned (.slice none 0 0)) w1) := Lib.hid ⟨none, 0, by unfold reachP; rw [hrt]; rfl, by unfold reachP; rw [hrt]; exact OwnL.nil_, hb1⟩
    clear hb1 hrt
    go_wp2_with fail
    go_ret
    exact HQ.out
  | true =>
  have HRt := Lib.hid hrt
  have HE : Hid (reachP l xs = idxF 0 (reachM l xs)) := Lib.hid (by unfold reachP; rw [if_pos hrt])
  have HR1 := Lib.hid (HR.out.now hb1)
  have H1 := Lib.hid (H.out.now hb1)
  clear hb1 hrt
  go_wp2_with fail
  refine (plMarked_any l.length A c xs B d w1 hln HR1.out hx).mono ?_
  rintro e w2 ⟨rfl, hm2, hb2⟩
  have HM2 := Lib.hid hm2
  have HB2 := Lib.hid (HB1.out.trans (hb2.mono HB1.out.size))
  have HB12 := Lib.hid hb2
  have H2 := Lib.hid (H1.out.now hb2)
  have HML : Hid (reachM l xs = reachL 0 l (mkF l.length xs)) := Lib.hid rfl
  have HMn := Lib.hid (mkF_len l.length xs)
  have hg : w1.heap.size < w2.heap.size := hm2.lt
  clear hm2 hb2
  generalize mkF l.length xs = m0 at *
  obtain ⟨g, hgg⟩ : ∃ g, g = w1.heap.size := ⟨_, rfl⟩
  rw [← hgg] at HM2 hg ⊢
  have hgw : w.heap.size ≤ g := by rw [hgg]; exact HB1.out.size
  clear hgg HB12
  go_wp2_with fail
  go_loopw [6, 7, 9, 18] (fun _ _ _ i wr => ∃ (k : Nat) (m : List Bool), k ≤ l.length ∧ i = .int .i64 k ∧ m.length = l.length ∧ reachM l xs = reachL k (l.drop k) m ∧ MkAt g m wr ∧ Turn (fun i => i = g) w2 wr) (fun _ _ _ i _ => l.length - (intOf i).toNat)
  case atStart => exact ⟨0, m0, Nat.zero_le _, rfl, HMn.out, by rw [List.drop_zero]; exact HML.out, HM2.out, Turn.refl _ _⟩
  case round =>
    obtain ⟨k, m, hk, rfl, hml, hmk, hat, htu⟩ := hrel
    have HMk := Lib.hid hmk
    have HTu := Lib.hid htu
    have HMl := Lib.hid hml
    have hBw : Below w.heap.size w wr := HB2.out.trans (htu.to_below HB2.out.size (fun i hi => by omega))
    have HBw := Lib.hid hBw
    have hPl := H.out.now hBw
    have hgl := hat.lt
    have HAt := Lib.hid hat
    clear hmk hat htu hml hBw
    by_cases hlt : k < l.length
    · have d1 : decide ((k : Int) < (l.length : Int)) = true := by simp; omega
      obtain ⟨p, hp⟩ : ∃ p, l[k]? = some p := ⟨_, List.getElem?_eq_getElem hlt⟩
      obtain ⟨b, off, rfl, hb, c0, c1, c2⟩ := rd_pl hPl.rd hp
      have hfr := hPl.fr p (List.mem_of_getElem? hp)
      have hfw := H.out.fr p (List.mem_of_getElem? hp)
      have hfl := hPl.fln p (List.mem_of_getElem? hp)
      have HIn := Lib.hid (fun x (hx : x ∈ p.fr) => right_fr HRt.out hp hx)
      have HSt : Hid (reachM l xs = reachL (k + 1) (l.drop (k + 1)) (p.fr.foldl (rc1 k) m)) := Lib.hid (by
        rw [HMk.out, List.drop_eq_getElem_cons hlt, reachL]
        rw [List.getElem?_eq_getElem hlt] at hp
        injection hp with hp
        rw [hp])
      clear hp hPl HMk
      obtain ⟨pk, pi, pf, pA, pc⟩ := p
      simp only at c0 c1 c2 hfr hfl HSt HIn hfw
      have HFw := Lib.hid hfw
      clear hfw
      go_upto_region 8 with fail
      obtain ⟨wo, hwo⟩ : ∃ x, x = wr.alloc (.cells #[.int .i64 pk, .int .i64 pi, .slice pA pf.length pc] 31) := ⟨_, rfl⟩
      have hba : Below wr.heap.size wr wo := by rw [hwo]; exact (Below.refl _ _).alloc (Nat.le_refl _) _
      have HBo := Lib.hid (HBw.out.trans (hba.mono HBw.out.size))
      have HFo := Lib.hid (hfr.now hba)
      have HAo := Lib.hid (HAt.out.now hba)
      have HTo := Lib.hid (HTu.out.trans (Turn.below hba) (fun i hi => .inl hi))
      rw [← hwo]
      clear hwo hba c0 c1 c2 HBw hfr HAt HTu
      go_loopw [9, 26] (fun _ j wi => ∃ (q : Nat) (m2 : List Bool), q ≤ pf.length ∧ j = .int .i64 q ∧ m2.length = l.length ∧ pf.foldl (rc1 k) m = (pf.drop q).foldl (rc1 k) m2 ∧ MkAt g m2 wi ∧ Turn (fun i => i = g) wo wi) (fun _ j _ => pf.length - (intOf j).toNat)
      case atStart => exact ⟨0, m, Nat.zero_le _, rfl, HMl.out, by rw [List.drop_zero], HAo.out, Turn.refl _ _⟩
      case round =>
        obtain ⟨q, m2, hq, rfl, hml2, hmk2, hat2, htu2⟩ := hrel
        have HMk2 := Lib.hid hmk2
        have HTu2 := Lib.hid htu2
        have HMl2 := Lib.hid hml2
        have hBi : Below w.heap.size w wr := HBo.out.trans (htu2.to_below HBo.out.size (fun i hi => by omega))
        have HBi := Lib.hid hBi
        have hgl2 := hat2.lt
        have HAt2 := Lib.hid hat2
        clear hmk2 hat2 htu2 hml2 hBi
        by_cases hlt2 : q < pf.length
        · have d2 : decide ((q : Int) < (pf.length : Int)) = true := by simp; omega
          obtain ⟨y, hy⟩ : ∃ y, pf[q]? = some y := ⟨_, List.getElem?_eq_getElem hlt2⟩
          obtain ⟨hy0, hyk⟩ := HIn.out y (List.mem_of_getElem? hy)
          obtain ⟨z, rfl⟩ : ∃ z : Nat, y = z := ⟨y.toNat, by omega⟩
          have hRd : RdL 1 intE wr wr.heap.size pA pf := HFw.out.now HBi.out
          obtain ⟨b2, off2, rfl, hb2, c5⟩ := rd_int3 hRd hy
          have HNx : Hid (pf.foldl (rc1 k) m = (pf.drop (q + 1)).foldl (rc1 k) (rc1 k m2 (z : Int))) := Lib.hid (by
            rw [HMk2.out, List.drop_eq_getElem_cons hlt2, List.foldl_cons]
            rw [List.getElem?_eq_getElem hlt2] at hy
            injection hy with hy
            rw [hy])
          have HLn := Lib.hid ((rc1_len k m2 (z : Int)).trans HMl2.out)
          obtain ⟨bk, hbk⟩ : ∃ bk, m2[k]? = some bk := ⟨_, List.getElem?_eq_getElem (by rw [HMl2.out]; exact hlt)⟩
          obtain ⟨bz, hbz⟩ : ∃ bz, m2[z]? = some bz := ⟨_, List.getElem?_eq_getElem (by rw [HMl2.out]; omega)⟩
          have ck := HAt2.out.c hbk
          have cz := HAt2.out.c hbz
          have fk := HAt2.out.f k
          have hst := HAt2.out.set k (bk || bz)
          have he : rc1 k m2 (z : Int) = m2.set k (bk || bz) := by unfold rc1; rw [hbk, Int.toNat_natCast, hbz]; rfl
          rw [← he] at hst
          have HSt2 := Lib.hid hst
          have HT3 := Lib.hid (HTu2.out.set g k (.bool (bk || bz)) (.inl rfl))
          have hzl : z < l.length := by omega
          clear hst he hbk hbz hy hRd HMk2 hy0 hyk
          cases bk with
          | true =>
            go_wp2_with fail
            go_roundw
            case rel => exact ⟨q + 1, _, by omega, by go_num, HLn.out, HNx.out, HSt2.out, HT3.out⟩
            case measure => simp [intOf]; omega
          | false =>
            go_wp2_with fail
            go_roundw
            case rel => exact ⟨q + 1, _, by omega, by go_num, HLn.out, HNx.out, HSt2.out, HT3.out⟩
            case measure => simp [intOf]; omega
        · obtain rfl : q = pf.length := by omega
          have d2 : decide ((pf.length : Int) < (pf.length : Int)) = false := by simp
          have HZ : Hid (reachM l xs = reachL (k + 1) (l.drop (k + 1)) m2) := Lib.hid (by rw [HSt.out, HMk2.out, List.drop_length]; rfl)
          have HT3 := Lib.hid (HTo.out.trans HTu2.out (fun i hi => .inl hi))
          clear HMk2
          go_wp2_with fail
          go_roundw
          case rel => exact ⟨k + 1, m2, by omega, by go_num, HMl2.out, HZ.out, HAt2.out, HT3.out⟩
          case measure => simp [intOf]; omega
    · obtain rfl : k = l.length := by omega
      have d1 : decide ((l.length : Int) < (l.length : Int)) = false := by simp
      have HZ : Hid (reachM l xs = m) := Lib.hid (by rw [HMk.out, List.drop_length]; rfl)
      clear HMk hPl
      go_wp2_with fail
      refine (plIndices_any g m l.length l.length wr HMl.out.symm (by rw [HMl.out]; exact hln) HAt.out).mono ?_
      rintro e w3 ⟨A3, d3, rfl, ho3, hb3⟩
      have HQ : Hid (IntsOut (reachP l xs) w (.returned (.slice A3 (idxF 0 m).length d3)) w3) := Lib.hid ⟨A3, d3, by rw [HE.out, HZ.out], by rw [HE.out, HZ.out]; exact ho3.mono HBw.out.size, HBw.out.trans (hb3.mono HBw.out.size)⟩
      clear ho3 hb3
      go_wp2_with fail
      go_ret
      exact HQ.out
theorem setCells_row {b : Nat} {t : TypeId} {z : Nat × Nat} : ∀ (vs : List Value) (o : Nat) (w : World) (pre suf : List Value), vs.length ≤ suf.length → pre.length = o → w.heap[b]? = some (.cells (pre ++ suf).toArray t z) → (w.setCells b o vs).heap[b]? = some (.cells (pre ++ (vs ++ suf.drop vs.length)).toArray t z)
  | [], o, w, pre, suf, _, _, h => h
  | v :: r, o, w, pre, suf, hs, hp, h => by
    cases suf with
    | nil => simp at hs
    | cons s suf =>
      have h1 : (w.setCell ⟨b, o, none⟩ v).heap[b]? = some (.cells ((pre ++ [v]) ++ suf).toArray t z) := by
        subst hp
        simp [World.setCell, Array.getElem?_modify, h]
      have := setCells_row r (o + 1) _ (pre ++ [v]) suf (by simpa using hs) (by simp [hp]) h1
      rw [World.setCells]
      rw [this]
      simp
theorem int_flat : ∀ xs : List Int, xs.flatMap intE = xs.map (Value.int .i64)
  | [] => rfl
  | x :: r => by rw [List.flatMap_cons, int_flat r]; rfl
theorem slRev_any (xs : List Int) (A : Option Addr) (c base : Nat) (w : World) (h : OwnL w base 3 1 intE A c xs) (hx : xs.length ≤ 1000000000) :
    Calls Tryz.prog 82 #[.slice A xs.length c] w fun e w' => e = .returned (.tuple #[]) ∧ OwnL w' base 3 1 intE A c xs.reverse ∧ Turn (fun i => slBlk A = some i) w w' := by
  by_cases h0 : xs = []
  · subst h0
    refine (Tryz.slices_Reverse_int_empty A c w).mono ?_
    rintro e w' ⟨rfl, rfl⟩
    exact ⟨rfl, h, Turn.refl _ _⟩
  · have hpos : 0 < xs.length := List.length_pos_iff.2 h0
    rcases h.2 with ⟨_, hz⟩ | ⟨g, cap, cur, hv, hb, hg, hn, hcm, hcs, htake⟩
    · omega
    · injection hv with e1 e2 e3
      subst e1 e3
      have hrd := h.rd intLayQ
      refine (Tryz.slices_Reverse_int_cells g 0 xs.length c xs w (Nat.le_refl _) (by omega) (fun j hj => ?_) (fun j hj => box_free hg _)).mono ?_
      · obtain ⟨b, off, e, _, hc⟩ := rd_int3 hrd (List.getElem?_eq_getElem hj)
        injection e with e
        injection e with e1 e2 _
        subst e1 e2
        rw [hc]
        simp [hj]
      · rintro e w' ⟨rfl, q, rfl⟩
        rw [List.take_length]
        have hln : (xs.reverse.map (Value.int .i64)).length = xs.length := by simp
        have hcur : cur.toList.length = c := by rw [Array.length_toList, hcs, Nat.mul_one]
        have hb2 : ((w.drewN q).setCells g 0 (xs.reverse.map (Value.int .i64))).heap[g]? = some (.cells ([] ++ (xs.reverse.map (Value.int .i64) ++ cur.toList.drop (xs.reverse.map (Value.int .i64)).length)).toArray 3 (0, 0)) :=
          setCells_row _ 0 (w.drewN q) [] cur.toList (by rw [hln, hcur]; exact hn) rfl (by rw [List.nil_append, Array.toArray_toList]; exact hg)
        refine ⟨rfl, ⟨by rw [int_flat]; simp, .inr ⟨g, c, _, by rw [List.length_reverse], hb, hb2, by rw [List.length_reverse]; exact hn, hcm, ?_, ?_⟩⟩, ?_⟩
        · simp only [List.nil_append, List.size_toArray, List.length_append, List.length_drop, hln, hcur]
          omega
        · rw [int_flat]
          simp only [List.nil_append]
          rw [List.take_left' (by simp)]
        · exact (Turn.below (F := fun i => slBlk (some ⟨g, 0, none⟩) = some i) (below_drewN (Below.refl w.heap.size w) q)).trans (Turn.grown (grown_setCells _ _ _ _) (fun k hk => hk)) (fun i hi => .inl hi)
theorem plOrder_any (l : List PlM) (A : Option Addr) (c : Nat) (xs : List Int) (B : Option Addr) (d : Nat) (w : World) (h : PlsAt w A l) (hr : RdL 1 intE w w.heap.size B xs) (hx : xs.length ≤ 9223372036854775807) :
    Calls Tryz.prog 39 #[.slice A l.length c, .slice B xs.length d] w (IntsOut (orderP l xs) w) := by
  have H := Lib.hid h
  have HR := Lib.hid hr
  have hln := h.len
  clear h hr
  go_enter Tryz.func39, Tryz.ntmps39
  go_wp2_with fail
  refine (plRight_any l A c w H.out).mono ?_
  rintro e w1 ⟨rfl, hb1⟩
  have HB1 := Lib.hid hb1
  cases hrt : rightP l with
  | false =>
    have HQ : Hid (IntsOut (orderP l xs) w (.returned (.slice none 0 0)) w1) := Lib.hid ⟨none, 0, by unfold orderP; rw [hrt]; rfl, by unfold orderP; rw [hrt]; exact OwnL.nil_, hb1⟩
    clear hb1 hrt
    go_wp2_with fail
    go_ret
    exact HQ.out
  | true =>
  have HE : Hid (orderP l xs = (idxF 0 (mkF l.length xs)).reverse) := Lib.hid (by unfold orderP; rw [if_pos hrt])
  have HR1 := Lib.hid (HR.out.now hb1)
  have H1 := Lib.hid (H.out.now hb1)
  clear hb1 hrt
  go_wp2_with fail
  refine (plMarked_any l.length A c xs B d w1 hln HR1.out hx).mono ?_
  rintro e w2 ⟨rfl, hm2, hb2⟩
  have HM2 := Lib.hid hm2
  have HB2 := Lib.hid (HB1.out.trans (hb2.mono HB1.out.size))
  have HMn := Lib.hid (mkF_len l.length xs)
  clear hm2 hb2
  generalize mkF l.length xs = m0 at *
  go_wp2_with fail
  refine (plIndices_any w1.heap.size m0 l.length l.length w2 HMn.out.symm (by rw [HMn.out]; exact hln) HM2.out).mono ?_
  rintro e w3 ⟨A3, d3, rfl, ho3, hb3⟩
  have HO3 := Lib.hid ho3
  have HB3 := Lib.hid (HB2.out.trans (hb3.mono HB2.out.size))
  have hil : (idxF 0 m0).length ≤ 1000000000 := by have := idxF_len m0 0; have := HMn.out; omega
  clear ho3 hb3
  generalize idxF 0 m0 = out at *
  have HRv := Lib.hid (show out.reverse.length = out.length by simp)
  go_wp2_with fail
  refine (slRev_any out A3 d3 _ w3 HO3.out hil).mono ?_
  rintro e w4 ⟨rfl, ho4, ht4⟩
  have HQ : Hid (IntsOut (orderP l xs) w (.returned (.slice A3 out.length d3)) w4) := Lib.hid ⟨A3, d3, by rw [HE.out, HRv.out], by rw [HE.out]; exact ho4.mono HB2.out.size, HB3.out.trans (ht4.to_below HB3.out.size (fun i hi => by have := (HO3.out.blk_lt hi).1; have := HB2.out.size; omega))⟩
  clear ho4 ht4
  go_wp2_with fail
  go_ret
  exact HQ.out
end Go.Proofs.YtlgnggogiopjaaaGreatDoor
/- Contract of erase.Plan. -/
set_option linter.unusedSimpArgs false
set_option linter.unusedVariables false
namespace Go.Proofs.YtlgnggogiopjaaaGreatDoor
open Go.RowKit
set_option maxRecDepth 100000

/-- The places of an event. -/
def rootsF (ev : Int) : Nat → List PlM → List Int
  | _, [] => []
  | i, p :: r => if p.kind = 0 ∧ p.id = ev then (i : Int) :: rootsF ev (i + 1) r else rootsF ev (i + 1) r
theorem rootsF_len (ev : Int) : ∀ (l : List PlM) (i : Nat), (rootsF ev i l).length ≤ l.length
  | [], _ => Nat.le_refl _
  | b :: r, i => by
    have := rootsF_len ev r (i + 1)
    unfold rootsF
    split <;> simp <;> omega
def planC (l : List PlM) (ev : Int) : Int := if rightP l = true then (if rootsF ev 0 l = [] then 4 else 0) else 1
def planL (l : List PlM) (ev : Int) : List Int := if planC l ev = 0 then orderP l (reachP l (rootsF ev 0 l)) else []
theorem reachP_len (l : List PlM) (xs : List Int) : (reachP l xs).length ≤ l.length := by
  unfold reachP
  split
  · have := idxF_len (reachM l xs) 0
    rw [reachM_len] at this
    exact this
  · simp
def PlanOut (l : List PlM) (ev : Int) (w : World) (e : Ending) (w' : World) : Prop := ∃ A d, e = .returned (.tuple #[.slice A (planL l ev).length d, .int .i64 (planC l ev)]) ∧ OwnL w' w.heap.size 3 1 intE A d (planL l ev) ∧ Below w.heap.size w w'
theorem plan_bad {l : List PlM} {ev : Int} {w w' : World} (h : planC l ev ≠ 0) (hb : Below w.heap.size w w') : PlanOut l ev w (.returned (.tuple #[.slice none 0 0, .int .i64 (planC l ev)])) w' := by
  have e : planL l ev = [] := by unfold planL; rw [if_neg h]
  exact ⟨none, 0, by rw [e]; rfl, by rw [e]; exact OwnL.nil_, hb⟩
set_option maxHeartbeats 4000000 in
theorem ePlan_any (l : List PlM) (ev : Int) (A : Option Addr) (c : Nat) (w : World) (h : PlsAt w A l) :
    Calls Tryz.prog 11 #[.slice A l.length c, .int .i64 ev] w (PlanOut l ev w) := by
  have H := Lib.hid h
  have hln := h.len
  clear h
  go_enter Tryz.func11, Tryz.ntmps11
  go_wp2_with fail
  refine (plRight_any l A c w H.out).mono ?_
  rintro e w1 ⟨rfl, hb1⟩
  have HB1 := Lib.hid hb1
  cases hrt : rightP l with
  | false =>
    have hc : planC l ev = 1 := by unfold planC; rw [hrt]; rfl
    have hq := plan_bad (w := w) (by rw [hc]; decide) hb1
    rw [hc] at hq
    have HQ := Lib.hid hq
    clear hb1 hrt hc hq
    go_wp2_with fail
    go_ret2
    exact HQ.out
  | true =>
  have HC : Hid (planC l ev = if rootsF ev 0 l = [] then 4 else 0) := Lib.hid (by unfold planC; rw [if_pos hrt])
  have H1 := Lib.hid (H.out.now hb1)
  clear hb1 hrt
  go_wp2_with fail
  go_loopw [6, 7, 8, 14] (fun o _ _ j wr => ∃ (k : Nat) (out : List Int) (A : Option Addr) (d : Nat), k ≤ l.length ∧ o = .slice A out.length d ∧ j = .int .i64 k ∧ out.length ≤ k ∧ rootsF ev 0 l = out ++ rootsF ev k (l.drop k) ∧ OwnL wr w1.heap.size 3 1 intE A d out ∧ Below w1.heap.size w1 wr) (fun _ _ _ j _ => l.length - (intOf j).toNat)
  case atStart => exact ⟨0, [], none, 0, Nat.zero_le _, rfl, rfl, Nat.le_refl _, by rw [List.drop_zero]; rfl, OwnL.nil_, Below.refl _ _⟩
  case round =>
    obtain ⟨k, out, A2, d, hk, rfl, rfl, hol, hix, hown, hbw⟩ := hrel
    have HIx := Lib.hid hix
    have HO := Lib.hid hown
    have HBw := Lib.hid hbw
    have hPl := H1.out.now hbw
    clear hix hown hbw
    by_cases hlt : k < l.length
    · have d1 : decide ((k : Int) < (l.length : Int)) = true := by simp; omega
      obtain ⟨p, hp⟩ : ∃ p, l[k]? = some p := ⟨_, List.getElem?_eq_getElem hlt⟩
      obtain ⟨b, off, rfl, hb, c0, c1, c2⟩ := rd_pl hPl.rd hp
      have HNx : Hid (rootsF ev 0 l = out ++ (if p.kind = 0 ∧ p.id = ev then (k : Int) :: rootsF ev (k + 1) (l.drop (k + 1)) else rootsF ev (k + 1) (l.drop (k + 1)))) := Lib.hid (by
        rw [HIx.out, List.drop_eq_getElem_cons hlt, rootsF]
        rw [List.getElem?_eq_getElem hlt] at hp
        injection hp with hp
        rw [hp])
      clear hp hPl HIx
      obtain ⟨pk, pi, pf, pA, pc⟩ := p
      simp only at c0 c1 c2 HNx
      by_cases hit : pk = 0 ∧ pi = ev
      · have HN2 : Hid (rootsF ev 0 l = (out ++ [(k : Int)]) ++ rootsF ev (k + 1) (l.drop (k + 1))) := Lib.hid (by rw [HNx.out, if_pos hit]; simp)
        have q1 : (pk == 0) = true := by simpa using hit.1
        have q2 : (pi == ev) = true := by simpa using hit.2
        clear HNx hit
        go_upto_region 8 with fail
        obtain ⟨wo, hwo⟩ : ∃ x, x = wr.alloc (.cells #[.int .i64 pk, .int .i64 pi, .slice pA pf.length pc] 31) := ⟨_, rfl⟩
        have HO2 : Hid (OwnL wo w1.heap.size 3 1 intE A2 d out) := Lib.hid (by rw [hwo]; exact HO.out.alloc _)
        have HB2 : Hid (Below w1.heap.size w1 wo) := Lib.hid (by rw [hwo]; exact HBw.out.alloc HBw.out.size _)
        rw [← hwo]
        clear hwo HO HBw c0 c1 c2
        go_wp2_with (first
          | (at_builtin; refine wp_append_l rfl (.tmp 28) (.tmp 30) rfl slIntQ intLayQ w1.heap.size (xs := out) (ys := [(k : Int)]) rfl rfl (HO2.out.alloc _) rfl rfl (RdL.one wo (k : Int) _ _ rfl _ rfl) (by simp; omega) (by have := HB2.out.size; simp; omega) ?_; intro A7 c7 w7 hown7 hg7 hb7 hat7; have HO7 := Lib.hid hown7; have HB7 := Lib.hid ((HB2.out.alloc HB2.out.size _).trans hb7); clear hown7 hg7 hb7 hat7)
          | fail)
        go_roundw
        case rel => exact ⟨k + 1, out ++ [(k : Int)], A7, c7, by omega, by simp, by go_num, by simp; omega, HN2.out, HO7.out, HB7.out⟩
        case measure => simp [intOf]; omega
      · have HN2 : Hid (rootsF ev 0 l = out ++ rootsF ev (k + 1) (l.drop (k + 1))) := Lib.hid (by rw [HNx.out, if_neg hit])
        have HO2 := Lib.hid (fun o : Obj => HO.out.alloc o)
        have HB2 := Lib.hid (fun o : Obj => HBw.out.alloc HBw.out.size o)
        clear HNx
        cases q1 : (pk == 0) with
        | true =>
          have q2 : (pi == ev) = false := by
            simp at q1
            simpa using fun e => hit ⟨q1, e⟩
          clear hit
          go_wp2_with fail
          go_roundw
          case rel => exact ⟨k + 1, out, A2, d, by omega, by first | rfl | trivial, by go_num, by omega, HN2.out, HO2.out _, HB2.out _⟩
          case measure => simp [intOf]; omega
        | false =>
          clear hit
          go_wp2_with fail
          go_roundw
          case rel => exact ⟨k + 1, out, A2, d, by omega, by first | rfl | trivial, by go_num, by omega, HN2.out, HO2.out _, HB2.out _⟩
          case measure => simp [intOf]; omega
    · obtain rfl : k = l.length := by omega
      have d1 : decide ((l.length : Int) < (l.length : Int)) = false := by simp
      have HZ : Hid (rootsF ev 0 l = out) := Lib.hid (by rw [HIx.out, List.drop_length]; simp [rootsF])
      have hBz : Below w.heap.size w wr := HB1.out.trans (HBw.out.mono HB1.out.size)
      have HBz := Lib.hid hBz
      clear HIx hBz
      by_cases h0 : out = []
      · subst h0
        have hc : planC l ev = 4 := by rw [HC.out, HZ.out]; rfl
        have hq := plan_bad (w := w) (by rw [hc]; decide) HBz.out
        rw [hc] at hq
        have HQ := Lib.hid hq
        clear hc hq hPl
        go_wp2_with fail
        go_ret2
        exact HQ.out
      · have hc : planC l ev = 0 := by rw [HC.out, HZ.out, if_neg h0]
        have HE : Hid (planC l ev = 0 ∧ planL l ev = orderP l (reachP l out)) := Lib.hid ⟨hc, by unfold planL; rw [if_pos hc, HZ.out]⟩
        have q1 : ((out.length : Int) == 0) = false := by
          have : 0 < out.length := List.length_pos_iff.2 h0
          simp; omega
        have HPl := Lib.hid hPl
        have hol2 : out.length ≤ 9223372036854775807 := by omega
        clear hc h0 HC hPl
        go_wp2_with fail
        refine (plReach_any l A c out A2 d wr HPl.out (HO.out.rd intLayQ) hol2).mono ?_
        rintro e w3 ⟨A3, d3, rfl, ho3, hb3⟩
        have HO3 := Lib.hid ho3
        have HPl3 := Lib.hid (HPl.out.now hb3)
        have HB3 := Lib.hid (HBz.out.trans (hb3.mono HBz.out.size))
        have hrl : (reachP l out).length ≤ 9223372036854775807 := by have := reachP_len l out; omega
        clear ho3 hb3
        generalize reachP l out = ro at *
        go_wp2_with fail
        refine (plOrder_any l A c ro A3 d3 w3 HPl3.out (HO3.out.rd intLayQ) hrl).mono ?_
        rintro e w4 ⟨A4, d4, rfl, ho4, hb4⟩
        have HQ : Hid (PlanOut l ev w (.returned (.tuple #[.slice A4 (orderP l ro).length d4, .int .i64 0])) w4) := Lib.hid ⟨A4, d4, by rw [HE.out.1, HE.out.2], by rw [HE.out.2]; exact ho4.mono HB3.out.size, HB3.out.trans (hb4.mono HB3.out.size)⟩
        clear ho4 hb4
        go_wp2_with fail
        go_ret2
        exact HQ.out
end Go.Proofs.YtlgnggogiopjaaaGreatDoor
/- erase's functions beside other objects, on a disk that is up. -/
set_option linter.unusedSimpArgs false
set_option linter.unusedVariables false
namespace Go.Proofs.YtlgnggogiopjaaaGreatDoor
open Go.RowKit
set_option maxRecDepth 100000

theorem runL_kp : ∀ (ks : List (DS → Res)) (S : DS), (∀ k ∈ ks, ∀ T : DS, (k T).2.keep = T.keep) → (runL ks S).2.keep = S.keep
  | [], _, _ => rfl
  | k :: r, S, h => by
    refine runL_step (Q := fun x => x.2.keep = S.keep) (fun _ => ?_) (fun _ => h k (by simp) S)
    rw [runL_kp r _ (fun k2 h2 => h k2 (by simp [h2]))]
    exact h k (by simp) S
theorem rewE_keep (S : DS) (f : Int) (l : List (List UInt8)) : (rewE S f l).2.keep = S.keep := by
  unfold rewE
  split
  · rfl
  · split
    · rfl
    · split
      · rfl
      · exact runL_kp _ _ (rew_keeps _ _ _)
theorem setR_keep (f : Int) (p : List UInt8) (S : DS) : (setR f p S).2.keep = S.keep := by
  unfold setR
  split
  · rfl
  · exact sync_keep _ _
theorem recS_keep (S : DS) (f : Int) : (recS S f).keep = S.keep := by
  unfold recS
  split
  · rfl
  · split
    · exact setR_keep _ _ _
    · split
      · exact setR_keep _ _ _
      · exact (trunc_keep _ _ _).trans (setR_keep _ _ _)
section
variable {w wr : World} {p : Nat} {S : DS} {D : DL} {R : Ob} {f : Int}
theorem rewrite_any2 (hV : Vs w.heap.size w) (h : St w ((dOb p S D).sep R) wr) {l : List (List UInt8)} {A : Option Addr} {c : Nat} (hr : RdL 1 strE wr wr.heap.size A l) (hl : l.length ≤ 9223372036854775807) (hf : inI64 f) (hk : S.keep.length ≤ 4194320) :
    Calls Tryz.prog 16 #[.pointer (some ⟨p, 0, none⟩), .int .i64 f, .slice A l.length c] wr fun e w' => ∃ D', e = .returned (.int .i64 (rewE S f l).1) ∧ St w ((dOb p (rewE S f l).2 D').sep R) w' := by
  refine (eRewrite_any p S D f l A c wr (h.vs hV) hr hl hf hk h.disk).mono ?_
  rintro e w' ⟨rfl, D', hu⟩
  exact ⟨D', rfl, h.upd (OUpd.left h.ok hu)⟩
theorem recover_any2 (hV : Vs w.heap.size w) (h : St w ((dOb p S D).sep R) wr) (hf : inI64 f) (hk : S.keep.length ≤ 4194320) :
    Calls Tryz.prog 18 #[.pointer (some ⟨p, 0, none⟩), .int .i64 f] wr fun e w' => ∃ D' A c, e = .returned (.tuple #[.slice A (recL S f).length c, .int .i64 (recC S f)]) ∧ St w ((dOb p (recS S f) D').sep ((slOb A c (recL S f)).sep R)) w' := by
  refine (eRecover_any p S D f wr (h.vs hV) h.disk_own hf hk h.disk).mono ?_
  rintro e w' ⟨D', A, c, rfl, hu⟩
  exact ⟨D', A, c, rfl, (h.upd (OUpd.left h.ok hu)).assoc⟩
/-- A disk that is up, and has the list l in the file f. -/
structure Gd (S : DS) (f : Int) (q : List UInt8) (l : List (List UInt8)) : Prop where
  up : Up S
  nt : Neat S f q l
  fit : fitsE l = true
  kp : S.keep.length ≤ 20
def Same3 (f : Int) (S T : DS) : Prop := ∀ g x, g ≠ f → g ≠ f + 1 → g ≠ f + 2 → Firm g x S → Firm g x T
theorem Same3.trans {f : Int} {S T U : DS} (h : Same3 f S T) (k : Same3 f T U) : Same3 f S U := fun g x h1 h2 h3 h4 => k g x h1 h2 h3 (h g x h1 h2 h3 h4)
theorem Gd.other {S T : DS} {f g : Int} {q : List UInt8} {l : List (List UInt8)} (h : Gd S g q l) (hs : Same3 f S T) (hT : Up T) (hk : T.keep.length ≤ 20) (hfg : g + 2 < f ∨ f + 2 < g) : Gd T g q l := by
  obtain ⟨n1, n2, n3, n4, n5⟩ := side_ne g q
  exact ⟨hT, ⟨⟨hs _ _ (by omega) (by omega) (by omega) h.nt.has.ptr, h.nt.has.ok, h.nt.has.nil, fun hn => hs _ _ (by omega) (by omega) (by omega) (h.nt.has.side hn)⟩, hs _ _ (by omega) (by omega) (by omega) h.nt.oth, fun hn => hs _ _ (by omega) (by omega) (by omega) (h.nt.nil hn)⟩, h.fit, hk⟩
variable {q : List UInt8} {l l2 : List (List UInt8)} {A : Option Addr} {c : Nat}
theorem rw_good (hV : Vs w.heap.size w) (h : St w ((dOb p S D).sep R) wr) (hg : Gd S f q l) (hf : 0 ≤ f ∧ f ≤ 13) (hfit : fitsE l2 = true) (hr : RdL 1 strE wr wr.heap.size A l2) :
    Calls Tryz.prog 16 #[.pointer (some ⟨p, 0, none⟩), .int .i64 f, .slice A l2.length c] wr fun e w' => ∃ S2 D2, e = .returned (.int .i64 0) ∧ St w ((dOb p S2 D2).sep R) w' ∧ Gd S2 f (nextP q) l2 ∧ Same3 f S S2 ∧ S2.keep = S.keep := by
  have hl := (fits_parts hfit).1
  have hkp := hg.kp
  refine (rewrite_any2 hV h hr (by omega) (by unfold inI64; omega) (by omega)).mono ?_
  rintro e w' ⟨D', rfl, hst⟩
  obtain ⟨h1, h2, h3, h4⟩ := rewrite_up hg.up hg.nt hf hfit
  exact ⟨_, D', by rw [h1], hst, ⟨h2, h3, hfit, by rw [rewE_keep]; exact hg.kp⟩, h4, rewE_keep _ _ _⟩
theorem rc_good (hV : Vs w.heap.size w) (h : St w ((dOb p S D).sep R) wr) (hg : Gd S f q l) (hf : 0 ≤ f ∧ f ≤ 13) :
    Calls Tryz.prog 18 #[.pointer (some ⟨p, 0, none⟩), .int .i64 f] wr fun e w' => ∃ S2 D2 A c, e = .returned (.tuple #[.slice A l.length c, .int .i64 0]) ∧ St w ((dOb p S2 D2).sep ((slOb A c l).sep R)) w' ∧ Gd S2 f q l ∧ Same3 f S S2 ∧ S2.keep = S.keep := by
  have hkp := hg.kp
  refine (recover_any2 hV h (by unfold inI64; omega) (by omega)).mono ?_
  rintro e w' ⟨D', A, c, rfl, hst⟩
  obtain ⟨h1, h2, h3, h4, h5⟩ := recover_neat hg.up hg.nt hf hg.fit
  rw [h2] at hst
  exact ⟨_, D', A, c, by rw [h1, h2], hst, ⟨h3, h4, hg.fit, by rw [recS_keep]; exact hg.kp⟩, h5, recS_keep _ _⟩
theorem kp_good (hV : Vs w.heap.size w) (h : St w ((dOb p S D).sep R) wr) (hg : Gd S f q l) (hf : 0 ≤ f ∧ f ≤ 13) (hr : RdL 1 strE wr wr.heap.size A l) :
    Calls Tryz.prog 20 #[.pointer (some ⟨p, 0, none⟩), .int .i64 f, .slice A l.length c] wr fun e w' => e = .returned (.bool true) ∧ Below wr.heap.size wr w' := by
  obtain ⟨h1, h2, _⟩ := fits_parts hg.fit
  have h3 := tot_bound 20000 l h2
  refine (lKept_any p S D f l A c wr (h.vs hV) hf hr (by omega) (by omega) h.disk).mono ?_
  rintro e w' ⟨rfl, hb⟩
  exact ⟨by rw [hg.nt.kept hg.up.up hf], hb⟩
theorem file_good (h : St w ((dOb p S D).sep R) wr) (hU : Up S) {x : List UInt8} (hf : 0 ≤ f ∧ f ≤ 15) (hx : Firm f (bs x) S) : Calls Tryz.prog 26 #[.pointer (some ⟨p, 0, none⟩), .int .i64 f] wr fun e w' => e = .returned (.string (bs x)) ∧ w' = wr := by
  refine (lFile_any p S D f wr (by unfold inI64; omega) h.disk).mono ?_
  rintro e w' ⟨rfl, rfl⟩
  exact ⟨by rw [(file_up hU.up (f := f) ⟨hf.1, by omega⟩).2, hx.1, bs_list], rfl⟩
end
/-- A new disk has no list anywhere. -/
theorem Gd.new (f : Int) : Gd DS.new f [] [] := ⟨Up.new, ⟨⟨⟨rfl, fun _ h => (by cases h)⟩, .inl rfl, fun _ => rfl, fun h => absurd rfl h⟩, ⟨rfl, fun _ h => (by cases h)⟩, fun _ => ⟨rfl, fun _ h => (by cases h)⟩⟩, by
  unfold fitsE textsL encL
  simp [Lib.itoa, Lib.decDigits], by decide⟩
theorem few_fits {l : List (List UInt8)} (h : FewL l) : fitsE l = true := by
  unfold fitsE
  have h1 : (textsL l).length ≤ 1048576 := by
    have h2 := flat_bound encT 240 l (fun x hx => by
      have h3 := h.2 x hx
      have := encT_len x ⟨by omega, by omega⟩
      omega)
    have h4 := Lib.itoa_length_le (l.length : Int) (by omega) (by have := h.1; omega)
    have h5 := h.1
    simp only [textsL, encL, List.length_append, List.length_cons, List.length_nil]
    omega
  simp only [Bool.and_eq_true, decide_eq_true_eq, List.all_eq_true]
  exact ⟨by have := h.1; omega, fun s hs => by have := h.2 s hs; omega, h1⟩
end Go.Proofs.YtlgnggogiopjaaaGreatDoor
/- Contract of lingualaw43.small: the examples of the documentation. -/
set_option linter.unusedSimpArgs false
set_option linter.unusedVariables false
namespace Go.Proofs.YtlgnggogiopjaaaGreatDoor
open Go.RowKit
set_option maxRecDepth 100000

def smPls (A2 A3 : Option Addr) : List PlM := [⟨0, 7, [], none, 0⟩, ⟨0, 8, [], none, 0⟩, ⟨2, 0, [0, 1], A2, 2⟩, ⟨5, 0, [2], A3, 1⟩]
theorem plLay : Lay 3 PlM.cs := ⟨fun _ => rfl, fun x u hu => by
  simp only [PlM.cs, List.mem_cons, List.not_mem_nil, or_false] at hu
  rcases hu with rfl | rfl | rfl <;> rfl⟩
theorem sm_plan7 (A2 A3 : Option Addr) : planC (smPls A2 A3) 7 = 0 ∧ planL (smPls A2 A3) 7 = [3, 2, 0] := by
  have h1 : rightP (smPls A2 A3) = true := rfl
  have h2 : rootsF 7 0 (smPls A2 A3) = [0] := rfl
  have h3 : planC (smPls A2 A3) 7 = 0 := by unfold planC; rw [if_pos h1, h2]; rfl
  refine ⟨h3, ?_⟩
  unfold planL
  rw [if_pos h3, h2]
  have h4 : reachP (smPls A2 A3) [0] = [0, 2, 3] := by unfold reachP; rw [if_pos h1]; rfl
  rw [h4]
  unfold orderP
  rw [if_pos h1]
  rfl
theorem sm_plan9 (A2 A3 : Option Addr) : planC (smPls A2 A3) 9 = 4 := by
  have h1 : rightP (smPls A2 A3) = true := rfl
  have h2 : rootsF 9 0 (smPls A2 A3) = [] := rfl
  unfold planC
  rw [if_pos h1, h2]
  rfl
theorem sm_t1 : textsL [[97], [98, 99]] = [50, 91, 49, 58, 97, 44, 50, 58, 98, 99, 44, 93] := by simp [textsL, encL, encT, Lib.itoa, Lib.decDigits]
theorem sm_t2 : textsL [[100]] = [49, 91, 49, 58, 100, 44, 93] := by simp [textsL, encL, encT, Lib.itoa, Lib.decDigits]
-- the file is read: HSt the state, HG the good disk, then the law's own fact
set_option maxHeartbeats 4000000 in
theorem small43_any (w : World) (hV : Vs w.heap.size w) : Calls Tryz.prog 9 #[] w fun e w' => e = .returned (.bool true) ∧ Below w.heap.size w w' := by
  have HV := Lib.hid hV
  clear hV
  go_enter Tryz.func9, Tryz.ntmps9
  go_wp2_with fail
  refine (dNew_any w).mono ?_
  rintro e w1 ⟨rfl, hb1, D0, hd0, ho0, -⟩
  have H0 : Hid (St w ((dOb (w.heap.size + 2) DS.new D0).sep Ob.nil) w1) := Lib.hid (St.nil ⟨hd0, hb1, ho0⟩)
  generalize w.heap.size + 2 = p at *
  clear hb1 hd0 ho0
  go_wp2_with fail
  refine (rc_good HV.out H0.out (Gd.new 3) ⟨by decide, by decide⟩).mono ?_
  rintro e w2 ⟨S1, D1, A1, c1, rfl, hs1, hg1, -, -⟩
  have H1 := Lib.hid hs1
  have G1 := Lib.hid hg1
  clear hs1 hg1 H0
  go_wp2_with fail
  refine (rw_good (l2 := [[97], [98, 99]]) HV.out (H1.out.on ((Below.refl _ _).alloc (Nat.le_refl _) _)) G1.out ⟨by decide, by decide⟩ (few_fits ⟨by decide, by decide⟩) (rdBlockE strLayJ w2 [[97], [98, 99]] _ _ rfl _ rfl)).mono ?_
  rintro e w3 ⟨S2, D2, rfl, hs2, hg2, -, -⟩
  have H2 := Lib.hid hs2
  have G2 := Lib.hid hg2
  clear hs2 hg2 H1 G1
  go_wp2_with fail
  refine (rc_good HV.out H2.out G2.out ⟨by decide, by decide⟩).mono ?_
  rintro e w4 ⟨S3, D3, A3, c3, rfl, hs3, hg3, -, -⟩
  have H3 := Lib.hid hs3
  have G3 : Hid (Gd S3 3 [48] [[97], [98, 99]]) := Lib.hid hg3
  clear hs3 hg3 H2 G2
  have F3 := Lib.hid (G3.out.nt.has.ptr)
  have F4 := Lib.hid (G3.out.nt.has.side (by decide))
  have F5 := Lib.hid (G3.out.nt.oth)
  rw [sm_t1] at F4
  go_wp2_with fail
  refine (file_good (f := 3) (x := [48]) H3.out G3.out.up ⟨by decide, by decide⟩ F3.out).mono ?_
  rintro e wz ⟨rfl, hw⟩
  obtain rfl : w4 = wz := hw.symm
  rw [show bs [48] = ⟨#[48]⟩ from rfl]
  go_wp2_with fail
  refine (file_good (f := 4) (x := [50, 91, 49, 58, 97, 44, 50, 58, 98, 99, 44, 93]) H3.out G3.out.up ⟨by decide, by decide⟩ F4.out).mono ?_
  rintro e wz ⟨rfl, hw⟩
  obtain rfl : w4 = wz := hw.symm
  rw [show bs [50, 91, 49, 58, 97, 44, 50, 58, 98, 99, 44, 93] = ⟨#[50, 91, 49, 58, 97, 44, 50, 58, 98, 99, 44, 93]⟩ from rfl]
  go_wp2_with fail
  refine (file_good (f := 5) (x := []) H3.out G3.out.up ⟨by decide, by decide⟩ F5.out).mono ?_
  rintro e wz ⟨rfl, hw⟩
  obtain rfl : w4 = wz := hw.symm
  rw [show bs [] = ⟨#[]⟩ from rfl]
  clear F3 F4 F5
  go_wp2_with fail
  refine (rw_good (l2 := [[100]]) HV.out (H3.out.on ((Below.refl _ _).alloc (Nat.le_refl _) _)) G3.out ⟨by decide, by decide⟩ (few_fits ⟨by decide, by decide⟩) (rdBlockE strLayJ w4 [[100]] _ _ rfl _ rfl)).mono ?_
  rintro e w5 ⟨S4, D4, rfl, hs4, hg4, -, -⟩
  have H4 := Lib.hid hs4
  have G4 : Hid (Gd S4 3 [49] [[100]]) := Lib.hid hg4
  clear hs4 hg4 H3 G3
  have F3 := Lib.hid (G4.out.nt.has.ptr)
  have F5 := Lib.hid (G4.out.nt.has.side (by decide))
  have F4 := Lib.hid (G4.out.nt.oth)
  rw [sm_t2] at F5
  go_wp2_with fail
  refine (file_good (f := 3) (x := [49]) H4.out G4.out.up ⟨by decide, by decide⟩ F3.out).mono ?_
  rintro e wz ⟨rfl, hw⟩
  obtain rfl : w5 = wz := hw.symm
  rw [show bs [49] = ⟨#[49]⟩ from rfl]
  go_wp2_with fail
  refine (file_good (f := 4) (x := []) H4.out G4.out.up ⟨by decide, by decide⟩ F4.out).mono ?_
  rintro e wz ⟨rfl, hw⟩
  obtain rfl : w5 = wz := hw.symm
  rw [show bs [] = ⟨#[]⟩ from rfl]
  go_wp2_with fail
  refine (file_good (f := 5) (x := [49, 91, 49, 58, 100, 44, 93]) H4.out G4.out.up ⟨by decide, by decide⟩ F5.out).mono ?_
  rintro e wz ⟨rfl, hw⟩
  obtain rfl : w5 = wz := hw.symm
  rw [show bs [49, 91, 49, 58, 100, 44, 93] = ⟨#[49, 91, 49, 58, 100, 44, 93]⟩ from rfl]
  clear F3 F4 F5 G4
  go_wp2_with fail
  have hB : ∀ (o1 o2 o3 : Obj), Below w5.heap.size w5 (((w5.alloc o1).alloc o2).alloc o3) := fun o1 o2 o3 => (((Below.refl _ _).alloc (Nat.le_refl _) _).alloc (by simp) _).alloc (by simp; omega) _
  have hP : PlsAt (((w5.alloc (.cells #[.int .i64 0, .int .i64 1] 3)).alloc (.cells #[.int .i64 2] 3)).alloc (.cells #[.int .i64 0, .int .i64 7, .slice none 0 0, .int .i64 0, .int .i64 8, .slice none 0 0, .int .i64 2, .int .i64 0, .slice (some ⟨w5.heap.size, 0, none⟩) 2 2, .int .i64 5, .int .i64 0, .slice (some ⟨w5.heap.size + 1, 0, none⟩) 1 1] 31))
      (some ⟨w5.heap.size + 1 + 1, 0, none⟩) (smPls (some ⟨w5.heap.size, 0, none⟩) (some ⟨w5.heap.size + 1, 0, none⟩)) := by
    refine ⟨rdBlockE plLay _ _ _ _ rfl _ (by simp), fun x hx => ?_, by simp [smPls], fun x hx => ?_⟩
    · simp only [smPls, List.mem_cons, List.not_mem_nil, or_false] at hx
      rcases hx with rfl | rfl | rfl | rfl
      · exact RdL.nil_
      · exact RdL.nil_
      · exact (rdBlockE intLayQ w5 [0, 1] _ _ rfl _ rfl).now (((Below.refl _ _).alloc (Nat.le_refl _) _).alloc (by simp) _)
      · exact (rdBlockE intLayQ _ [2] _ _ rfl _ (by simp)).now ((Below.refl _ _).alloc (Nat.le_refl _) _)
    · simp only [smPls, List.mem_cons, List.not_mem_nil, or_false] at hx
      rcases hx with rfl | rfl | rfl | rfl <;> simp
  have H5 := Lib.hid (H4.out.on (hB (.cells #[.int .i64 0, .int .i64 1] 3) (.cells #[.int .i64 2] 3) (.cells #[.int .i64 0, .int .i64 7, .slice none 0 0, .int .i64 0, .int .i64 8, .slice none 0 0, .int .i64 2, .int .i64 0, .slice (some ⟨w5.heap.size, 0, none⟩) 2 2, .int .i64 5, .int .i64 0, .slice (some ⟨w5.heap.size + 1, 0, none⟩) 1 1] 31)))
  have HP := Lib.hid hP
  have K7 := Lib.hid (sm_plan7 (some ⟨w5.heap.size, 0, none⟩) (some ⟨w5.heap.size + 1, 0, none⟩))
  have K9 := Lib.hid (sm_plan9 (some ⟨w5.heap.size, 0, none⟩) (some ⟨w5.heap.size + 1, 0, none⟩))
  have HLn : Hid ((smPls (some ⟨w5.heap.size, 0, none⟩) (some ⟨w5.heap.size + 1, 0, none⟩)).length = 4) := Lib.hid rfl
  clear hP hB H4
  generalize ((w5.alloc (.cells #[.int .i64 0, .int .i64 1] 3)).alloc (.cells #[.int .i64 2] 3)).alloc (.cells #[.int .i64 0, .int .i64 7, .slice none 0 0, .int .i64 0, .int .i64 8, .slice none 0 0, .int .i64 2, .int .i64 0, .slice (some ⟨w5.heap.size, 0, none⟩) 2 2, .int .i64 5, .int .i64 0, .slice (some ⟨w5.heap.size + 1, 0, none⟩) 1 1] 31) = w6 at *
  generalize smPls (some ⟨w5.heap.size, 0, none⟩) (some ⟨w5.heap.size + 1, 0, none⟩) = pls at *
  have C7 := Lib.hid (ePlan_any pls 7 (some ⟨w5.heap.size + 1 + 1, 0, none⟩) 4 w6 HP.out)
  rw [HLn.out] at C7
  refine C7.out.mono ?_
  rintro e w7 ⟨A7, c7, rfl, ho7, hb7⟩
  rw [K7.out.1, K7.out.2] at *
  have H7 := Lib.hid (H5.out.on hb7)
  have HP7 := Lib.hid (HP.out.now hb7)
  have HO7 := Lib.hid ho7
  have C9 := Lib.hid (ePlan_any pls 9 (some ⟨w5.heap.size + 1 + 1, 0, none⟩) 4 w7 HP7.out)
  rw [HLn.out] at C9
  clear hb7 ho7 H5 C7 HP
  go_wp2_with fail
  refine C9.out.mono ?_
  rintro e w8 ⟨A8, c8, rfl, -, hb8⟩
  rw [K9.out] at *
  have H8 := Lib.hid (H7.out.on hb8)
  have HO8 := Lib.hid (HO7.out.below hb8)
  clear hb8 H7 HO7 C9 HP7
  generalize (planL pls 9).length = n9 at *
  go_wp2_with fail
  have hba : ∀ o : Obj, Below w8.heap.size w8 (w8.alloc o) := fun o => (Below.refl _ _).alloc (Nat.le_refl _) _
  refine (strs_any [[97], [98, 99]] [[97], [98, 99]] A3 (some ⟨w8.heap.size, 0, none⟩) c3 2 _ (slOb.rd (H8.out.on (hba _)).ok.1.2.1.1) (rdBlockE strLayJ w8 [[97], [98, 99]] _ _ rfl _ rfl) (by decide) (by decide)).mono ?_
  rintro e w9 ⟨rfl, hb9⟩
  rw [show (([[97], [98, 99]] : List (List UInt8)) == [[97], [98, 99]]) = true from by decide]
  have H9 := Lib.hid ((H8.out.on (hba _)).on hb9)
  have HO9 := Lib.hid ((HO8.out.below (hba _)).below hb9)
  clear hb9 hba H8 HO8
  go_wp2_with fail
  have hba : ∀ o : Obj, Below w9.heap.size w9 (w9.alloc o) := fun o => (Below.refl _ _).alloc (Nat.le_refl _) _
  refine (same41_any [3, 2, 0] [3, 2, 0] A7 (some ⟨w9.heap.size, 0, none⟩) c7 3 _ ((HO9.out.below (hba _)).rd intLayQ) (rdBlockE intLayQ w9 [3, 2, 0] _ _ rfl _ rfl) (by decide) (by decide)).mono ?_
  rintro e w10 ⟨rfl, hb10⟩
  rw [show (([3, 2, 0] : List Int) == [3, 2, 0]) = true from by decide]
  have H10 := Lib.hid ((H9.out.on (hba _)).on hb10)
  clear hb10 hba H9 HO9
  go_wp2_with fail
  go_ret
  exact ⟨rfl, H10.out.bl⟩
end Go.Proofs.YtlgnggogiopjaaaGreatDoor
/- The walk of EraseAtomic. -/
set_option linter.unusedSimpArgs false
set_option linter.unusedVariables false
namespace Go.Proofs.YtlgnggogiopjaaaGreatDoor
open Go.RowKit
set_option maxRecDepth 100000

theorem rd_blkI {w : World} {A : Option Addr} {xs : List Int} (h : RdL 1 intC w w.heap.size A xs) (hne : xs ≠ []) {i : Nat} (hi : slBlk A = some i) : i < w.heap.size := by
  have hl : 0 < xs.length := List.length_pos_iff.2 hne
  obtain ⟨b, off, e, hb, _⟩ := h.at_ hl
  rw [e] at hi
  have := Option.some.inj hi
  simp only at this
  omega
section
variable {w wr : World} {p : Nat} {S : DS} {D : DL} {R : Ob}
theorem St.notOwn (h : St w ((dOb p S D).sep R) wr) {A : Option Addr} {xs : List Int} (hr : RdL 1 intC w w.heap.size A xs) : xs ≠ [] → ∀ i, slBlk A = some i → ¬ D.own p i := fun hne i hi ho => by
  have h1 := rd_blkI hr hne hi
  have h2 := h.disk_own i ho
  omega
end
theorem rewE_run {S : DS} {f : Int} {q : List UInt8} {l l2 : List (List UInt8)} (h : Has S f q l) (hd : S.down = false) (hf : 0 ≤ f ∧ f ≤ 13) (hfit : fitsE l2 = true) : rewE S f l2 = runL (rewL f q (textsL l2)) S := by
  obtain ⟨ho, hs⟩ := open_up2 hd hf h.ptr h.ok
  unfold rewE
  rw [if_neg (by omega), hfit, if_neg (by decide), ho, if_neg (by decide), hs]
-- atTailA Q | LS | FEW : what follows the second Rewrite; P5: Up, Has .. Q LS, the other file; HWho : LS = now, or LS = old and the code is not 0
-- atStrSame LS | atStrOther : the tests of the list that is recovered
-- atTailB Q | LS : the rest of the law
-- atCode : the second Rewrite failed
/-- The state behind the first list. -/
structure At0 (S : DS) (at_ : Int) (old : List (List UInt8)) : Prop where
  g : Gd S at_ [48] old
  o : Firm (at_ + 3) (bs [111, 116, 104, 101, 114]) S
theorem at_first {at_ : Int} (h : 0 ≤ at_ ∧ at_ ≤ 12) : Gd ((DS.new.write (at_ + 3) 0 (bs [111, 116, 104, 101, 114])).sync (at_ + 3)) at_ [] [] ∧ Firm (at_ + 3) (bs [111, 116, 104, 101, 114]) ((DS.new.write (at_ + 3) 0 (bs [111, 116, 104, 101, 114])).sync (at_ + 3)) := by
  obtain ⟨_, _, a, b, c⟩ := up_fresh Up.new (g := at_ + 3) ⟨by omega, by omega⟩ ⟨rfl, fun _ h => (by cases h)⟩ [111, 116, 104, 101, 114] (by decide) (by decide)
  have hf : ∀ k, k ≠ at_ + 3 → Firm k e0 ((DS.new.write (at_ + 3) 0 (bs [111, 116, 104, 101, 114])).sync (at_ + 3)) := fun k hk => c k e0 hk ⟨rfl, fun _ h => (by cases h)⟩
  have hg := Gd.new at_
  refine ⟨⟨a, ⟨⟨hf _ (by omega), .inl rfl, fun _ => rfl, fun h => absurd rfl h⟩, hf _ (by unfold othF; simp), fun _ => hf _ (by unfold nowF; simp)⟩, hg.fit, by rw [sync_keep, write_keep]; decide⟩, b⟩
set_option maxHeartbeats 8000000 in
theorem atomic_any (old now : List (List UInt8)) (keep more : List Int) (A0 A1 A4 A6 : Option Addr) (c0 c1 c4 c6 : Nat) (x n lose : Int) (w : World) (hV : Vs w.heap.size w) (hr0 : RdL 1 strE w w.heap.size A0 old) (hr1 : RdL 1 strE w w.heap.size A1 now)
    (hr4 : RdL 1 intC w w.heap.size A4 keep) (hr6 : RdL 1 intC w w.heap.size A6 more) (h0 : old.length ≤ 9223372036854775807) (h1 : now.length ≤ 9223372036854775807) (hki : ∀ k ∈ keep, inI64 k) (hx : 0 ≤ x ∧ x ≤ 255) (hn : inI64 n) (hl : inI64 lose) :
    Calls Tryz.prog 5 #[.slice A0 old.length c0, .slice A1 now.length c1, .int .u8 x, .int .i64 n, .slice A4 keep.length c4, .int .i64 lose, .slice A6 more.length c6] w fun e w' => e = .returned (.bool true) ∧ Below w.heap.size w w' := by
  have HV := Lib.hid hV
  have R0 := Lib.hid hr0
  have R1 := Lib.hid hr1
  have R4 := Lib.hid hr4
  have R6 := Lib.hid hr6
  have HKi := Lib.hid hki
  have HN := Lib.hid hn
  have HL := Lib.hid hl
  clear hV hr0 hr1 hr4 hr6 hki hn hl
  go_enter Tryz.func5, Tryz.ntmps5
  go_wp2_with fail
  refine (small43_any w HV.out).mono ?_
  rintro e w1 ⟨rfl, hb1⟩
  have HB1 := Lib.hid hb1
  go_wp2_with fail
  refine (rFewR_any old A0 c0 w1 (R0.out.now hb1) h0).mono ?_
  rintro e wz ⟨b0, rfl, hf0, hw⟩
  obtain rfl := hw
  cases b0 with
  | false =>
    go_wp2_with fail
    go_ret
    exact ⟨rfl, HB1.out⟩
  | true =>
  have F0 := Lib.hid (hf0 rfl)
  clear hf0
  go_wp2_with fail
  refine (rFewR_any now A1 c1 w1 (R1.out.now hb1) h1).mono ?_
  rintro e wz ⟨b0, rfl, hf0, hw⟩
  obtain rfl := hw
  cases b0 with
  | false =>
    go_wp2_with fail
    go_ret
    exact ⟨rfl, HB1.out⟩
  | true =>
  have F1 := Lib.hid (hf0 rfl)
  clear hf0
  cases q1 : decide ((20 : Int) < (keep.length : Int)) with
  | true =>
    go_wp2_with fail
    go_ret
    exact ⟨rfl, HB1.out⟩
  | false =>
  cases q2 : decide ((20 : Int) < (more.length : Int)) with
  | true =>
    go_wp2_with fail
    go_ret
    exact ⟨rfl, HB1.out⟩
  | false =>
  have hk20 : keep.length ≤ 20 := by simp at q1; omega
  have hm20 : more.length ≤ 20 := by simp at q2; omega
  go_wp2_with fail
  refine (dNew_any w1).mono ?_
  rintro e w2 ⟨rfl, hb2, D0, hd0, ho0, -⟩
  have hz1 := HB1.out.size
  have H0 : Hid (St w ((dOb (w1.heap.size + 2) DS.new D0).sep Ob.nil) w2) := Lib.hid (St.nil ⟨hd0, HB1.out.trans (hb2.mono hz1), fun i hi => Nat.le_trans hz1 (ho0 i hi)⟩)
  generalize w1.heap.size + 2 = p at *
  clear hb2 hd0 ho0 HB1 hz1 hb1 q1 q2
  go_upto_region 8 with fail
  have hat : 0 ≤ x % 13 ∧ x % 13 ≤ 12 := by omega
  generalize x % 13 = at_ at *
  have w3 : IntKind.i64.wrap (at_ + 3) = at_ + 3 := by rw [IntKind.wrap_i64]; omega
  go_wp2_with fail
  refine (dWrite_any p DS.new D0 w2 (at_ + 3) 0 (bs [111, 116, 104, 101, 114]) (by unfold inI64; omega) (by unfold inI64; omega) (by decide) (by decide) H0.out.disk).mono ?_
  rintro e w3' ⟨rfl, hu⟩
  obtain ⟨D1, hst⟩ := H0.out.dupd hu
  have H1 := Lib.hid hst
  have hk1 : (DS.new.write (at_ + 3) 0 (bs [111, 116, 104, 101, 114])).keep.length ≤ 4194320 := by rw [write_keep]; decide
  clear hu hst H0
  go_wp2_with fail
  refine (dSync_any p _ D1 w3' (at_ + 3) (by unfold inI64; omega) hk1 H1.out.disk).mono ?_
  rintro e w4 ⟨rfl, hu⟩
  obtain ⟨D2, hst⟩ := H1.out.dupd hu
  have H2 := Lib.hid hst
  have G1 := Lib.hid (at_first hat)
  clear hu hst H1 hk1
  generalize (DS.new.write (at_ + 3) 0 (bs [111, 116, 104, 101, 114])).sync (at_ + 3) = S1 at *
  generalize DS.new.writeC (at_ + 3) 0 (bs [111, 116, 104, 101, 114]) = cz1 at *
  generalize (DS.new.write (at_ + 3) 0 (bs [111, 116, 104, 101, 114])).syncC (at_ + 3) = cz2 at *
  go_wp2_with fail
  refine (rw_good HV.out H2.out G1.out.1 (by omega) (few_fits F0.out) (R0.out.now H2.out.bl)).mono ?_
  rintro e w5 ⟨S2, D3, rfl, hst, hg2, hs2, -⟩
  have H3 := Lib.hid hst
  have G2 : Hid (Gd S2 at_ [48] old) := Lib.hid hg2
  have O2 := Lib.hid (hs2 _ _ (by omega) (by omega) (by omega) G1.out.2)
  clear hst hg2 hs2 H2 G1
  have hkl : keep.length ≤ 4194320 := by omega
  go_wp2_with fail
  refine (dArm_any p S2 D3 w5 n HN.out keep A4 keep.length c4 rfl (R4.out.now H3.out.bl) hkl HKi.out H3.out.disk).mono ?_
  rintro e w6 ⟨rfl, hu⟩
  obtain ⟨D3b, hst⟩ := H3.out.dupd hu
  have H3b := Lib.hid hst
  clear hu hst H3
  go_wp2_with fail
  refine (dLose_any p _ D3b w6 lose HL.out H3b.out.disk).mono ?_
  rintro e w6b ⟨rfl, hu⟩
  obtain ⟨D3c, hst⟩ := H3b.out.dupd hu
  have H3c := Lib.hid hst
  have h3 : Has ((S2.arm n keep).lose lose) at_ [48] old ∧ ((S2.arm n keep).lose lose).down = false ∧ Firm (at_ + 3) (bs [111, 116, 104, 101, 114]) ((S2.arm n keep).lose lose) ∧ ((S2.arm n keep).lose lose).keep.length ≤ 4194320 ∧ ((S2.arm n keep).lose lose).wf :=
    ⟨G2.out.nt.has.same rfl rfl, G2.out.up.up, firm_same O2.out rfl rfl, hkl, DS.lose_wf (DS.arm_wf G2.out.up.wf n keep HN.out HKi.out) lose HL.out⟩
  clear hu hst H3b G2 O2
  generalize (S2.arm n keep).lose lose = S3 at *
  obtain ⟨h3a, h3d, h3o, h3k, h3w⟩ := h3
  have hrun := rewE_run h3a h3d (f := at_) (by omega) (few_fits F1.out)
  have hro := rew_out h3a (f := at_) (by omega) (few_fits F1.out)
  have hrf := rew_firm (p := [48]) (f := at_) (by omega) h3o (textsL now) (fits_parts (few_fits F1.out)).2.2 (by omega) (by unfold othF; simp) (fun _ => by unfold nowF; simp)
  have hrw := rew_wf (f := at_) h3w [48] (textsL now)
  rw [← hrun] at hro hrf hrw
  have HRo := Lib.hid hro
  have HRf := Lib.hid hrf
  have HRw := Lib.hid hrw
  have HRk := Lib.hid (show (rewE S3 at_ now).2.keep.length ≤ 4194320 by rw [rewE_keep]; exact h3k)
  clear hrun hro hrf hrw h3a h3d h3o h3w
  go_wp2_with fail
  refine (rewrite_any2 HV.out H3c.out (R1.out.now H3c.out.bl) h1 (f := at_) (by unfold inI64; omega) h3k).mono ?_
  rintro e w7 ⟨D4, rfl, hst⟩
  have H4 := Lib.hid hst
  clear hst H3c h3k
  generalize rewE S3 at_ now = r at *
  obtain ⟨er, S4⟩ := r
  simp only at H4 HRf HRw HRk ⊢
  have HAg := Lib.hid (rew_again HRo.out more)
  have HUp := Lib.hid (again_up HRw.out more)
  have HOf := Lib.hid (again_firm HRf.out more)
  have hRo := HRo.out
  simp only at HAg HUp HOf
  unfold RewOut at hRo
  simp only at hRo
  clear HRo HRf HRw
  rcases hRo with ⟨rfl, hA, hB, hC⟩ | ⟨hcode, -⟩
  · have hN : Neat S4 at_ [49] now := ⟨hA, hC (by decide), fun h => absurd h (by decide)⟩
    have hkpt := Lib.hid (hN.kept hB (by omega))
    have P5 : Hid (Up ((((S4.arm 0 []).lose 0).crash more).start) ∧ Has ((((S4.arm 0 []).lose 0).crash more).start) at_ [49] now ∧ Firm (at_ + 3) (bs [111, 116, 104, 101, 114]) ((((S4.arm 0 []).lose 0).crash more).start)) := Lib.hid ⟨HUp.out, by
      rcases HAg.out with ⟨_, h⟩ | ⟨h, _⟩
      · exact h
      · omega, HOf.out⟩
    clear hA hB hC hN HAg HUp HOf HRk
    go_wp2_with fail
    obtain ⟨z1, z2, _⟩ := fits_parts (few_fits F1.out)
    have z3 := tot_bound 20000 now z2
    refine (lKept_any p S4 D4 at_ now A1 c1 w7 (H4.out.vs HV.out) (by omega) (R1.out.now H4.out.bl) (by omega) (by omega) H4.out.disk).mono ?_
    rintro e w7b ⟨rfl, hb7⟩
    rw [hkpt.out]
    have H4b := Lib.hid (H4.out.on hb7)
    clear hb7 H4 hkpt z1 z2 z3
    have H4 := Lib.hid H4b.out
    clear H4b
    go_wp2_with fail
    refine (dArm_any p S4 D4 w7b 0 (by unfold inI64; omega) [] none 0 0 rfl RdL.nil_ (by decide) (fun _ h => (by cases h)) H4.out.disk).mono ?_
    rintro e w8 ⟨rfl, hu⟩
    obtain ⟨D5, hst⟩ := H4.out.dupd hu
    have H5 := Lib.hid hst
    clear hu hst
    go_wp2_with fail
    refine (dLose_any p _ D5 w8 0 (by unfold inI64; omega) H5.out.disk).mono ?_
    rintro e w9 ⟨rfl, hu⟩
    obtain ⟨D6, hst⟩ := H5.out.dupd hu
    have H6 := Lib.hid hst
    clear hu hst H5
    go_wp2_with fail
    refine (dCrash_any p _ D6 w9 more A6 c6 (R6.out.now H6.out.bl) (by omega) (H6.out.notOwn R6.out) H6.out.disk).mono ?_
    rintro e w10 ⟨rfl, hu⟩
    obtain ⟨D7, hst⟩ := H6.out.dupd hu
    have H7 := Lib.hid hst
    clear hu hst H6
    go_wp2_with fail
    refine (dStart_any p _ D7 w10 H7.out.disk).mono ?_
    rintro e w11 ⟨rfl, hu⟩
    obtain ⟨D8, hst⟩ := H7.out.dupd hu
    have H8 := Lib.hid hst
    have hkp : ((((S4.arm 0 []).lose 0).crash more).start).keep.length ≤ 20 := by
      show (DS.crash _ more).keep.length ≤ 20
      rw [crash_keep]
      exact Nat.zero_le _
    have HKp := Lib.hid hkp
    clear hu hst H7 H4 hkp
    generalize (((S4.arm 0 []).lose 0).crash more).start = S5 at *
    obtain ⟨hc6, hl6, hu6, hh6, he6, hk6⟩ := recover_up P5.out.1 P5.out.2.1 (by omega) (few_fits F1.out)
    have hg6 : Gd (recS S5 at_) at_ [49] now := ⟨hu6, ⟨hh6, he6, fun h => absurd h (by decide)⟩, few_fits F1.out, by rw [recS_keep]; exact HKp.out⟩
    have ho6 : Firm (at_ + 3) (bs [111, 116, 104, 101, 114]) (recS S5 at_) := hk6 _ _ (by omega) (by have := (side_ne at_ [49]).2.2.2.2; omega) P5.out.2.2
    have G6 := Lib.hid hg6
    have O6 := Lib.hid ho6
    have HC6 := Lib.hid hc6
    have HL6 := Lib.hid hl6
    have hk5 := HKp.out
    clear hc6 hl6 hu6 hh6 he6 hk6 hg6 ho6
    go_wp2_with fail
    refine (recover_any2 HV.out H8.out (f := at_) (by unfold inI64; omega) (by omega)).mono ?_
    rintro e w12 ⟨D9, A9, c9, rfl, hst⟩
    rw [HL6.out] at hst
    rw [HC6.out, HL6.out]
    have H9 := Lib.hid hst
    clear hst H8 HC6 HL6 hk5 HKp P5
    generalize recS S5 at_ = S6 at *
    have hll : (now).length ≤ 9223372036854775807 := by have := (F1.out).1; omega
    go_wp2_with fail
    refine (strs_any now now A9 A1 c9 c1 w12 (slOb.rd H9.out.ok.1.2.1.1) (R1.out.now H9.out.bl) hll hll).mono ?_
    rintro e w13 ⟨rfl, hb13⟩
    rw [show ((now) == (now)) = true from by simp]
    have H10 := Lib.hid (H9.out.on hb13)
    clear hb13 H9
    go_wp2_with fail
    refine (kp_good HV.out H10.out G6.out (by omega) (slOb.rd H10.out.ok.1.2.1.1)).mono ?_
    rintro e w14 ⟨rfl, hb14⟩
    have H11 := Lib.hid (H10.out.on hb14)
    clear hb14 H10
    go_wp2_with fail
    refine (dCrash_any p _ D9 w14 keep A4 c4 (R4.out.now H11.out.bl) (by omega) (H11.out.notOwn R4.out) H11.out.disk).mono ?_
    rintro e w15 ⟨rfl, hu⟩
    obtain ⟨D10, hst⟩ := H11.out.dupd hu
    have H12 := Lib.hid hst
    clear hu hst H11
    go_wp2_with fail
    refine (dStart_any p _ D10 w15 H12.out.disk).mono ?_
    rintro e w16 ⟨rfl, hu⟩
    obtain ⟨D11, hst⟩ := H12.out.dupd hu
    have H13 := Lib.hid hst
    have G7 : Hid (Gd ((S6.crash keep).start) at_ [49] now) := Lib.hid ⟨up_crash G6.out.up keep, G6.out.nt.crash keep, G6.out.fit, by show (DS.crash S6 keep).keep.length ≤ 20; rw [crash_keep]; exact G6.out.kp⟩
    have O7 := Lib.hid (crash_firm O6.out keep)
    clear hu hst H12 G6 O6
    generalize (S6.crash keep).start = S7 at *
    go_wp2_with fail
    refine (rc_good HV.out H13.out G7.out (by omega)).mono ?_
    rintro e w17 ⟨S8, D12, A12, c12, rfl, hst, hg8, hs8, -⟩
    have H14 := Lib.hid hst
    have G8 := Lib.hid hg8
    have O8 := Lib.hid (hs8 _ _ (by omega) (by omega) (by omega) O7.out)
    clear hst hg8 hs8 H13 G7 O7
    go_wp2_with fail
    refine (strs_any now now A12 A9 c12 c9 w17 (slOb.rd H14.out.ok.1.2.1.1) (slOb.rd H14.out.ok.1.2.1.2.1.1) hll hll).mono ?_
    rintro e w18 ⟨rfl, hb18⟩
    rw [show ((now) == (now)) = true from by simp]
    have H15 := Lib.hid (H14.out.on hb18)
    clear hb18 H14
    go_wp2_with fail
    refine (kp_good HV.out H15.out G8.out (by omega) (slOb.rd H15.out.ok.1.2.1.2.1.1)).mono ?_
    rintro e w19 ⟨rfl, hb19⟩
    have H16 := Lib.hid (H15.out.on hb19)
    clear hb19 H15
    go_wp2_with fail
    refine (file_good (f := at_ + 3) (x := [111, 116, 104, 101, 114]) H16.out G8.out.up (by omega) O8.out).mono ?_
    rintro e wz ⟨rfl, hw⟩
    obtain rfl : w19 = wz := hw.symm
    rw [show bs [111, 116, 104, 101, 114] = ⟨#[111, 116, 104, 101, 114]⟩ from rfl]
    go_wp2_with fail
    go_ret
    exact ⟨rfl, H16.out.bl⟩
  · have HAg2 : Hid (Has ((((S4.arm 0 []).lose 0).crash more).start) at_ [48] old ∨ Has ((((S4.arm 0 []).lose 0).crash more).start) at_ [49] now) := Lib.hid (by
      rcases HAg.out with ⟨h, _⟩ | ⟨_, h⟩
      · omega
      · exact h)
    clear HAg HRk
    rcases hcode with rfl | rfl
    · skip
      rcases HAg2.out with hh | hh
      · have P5 : Hid (Up ((((S4.arm 0 []).lose 0).crash more).start) ∧ Has ((((S4.arm 0 []).lose 0).crash more).start) at_ [48] old ∧ Firm (at_ + 3) (bs [111, 116, 104, 101, 114]) ((((S4.arm 0 []).lose 0).crash more).start)) := Lib.hid ⟨HUp.out, hh, HOf.out⟩
        clear hh HAg2 HUp HOf
        by_cases hon : old = now
        · subst hon
          skip
          go_wp2_with fail
          refine (dArm_any p S4 D4 w7 0 (by unfold inI64; omega) [] none 0 0 rfl RdL.nil_ (by decide) (fun _ h => (by cases h)) H4.out.disk).mono ?_
          rintro e w8 ⟨rfl, hu⟩
          obtain ⟨D5, hst⟩ := H4.out.dupd hu
          have H5 := Lib.hid hst
          clear hu hst
          go_wp2_with fail
          refine (dLose_any p _ D5 w8 0 (by unfold inI64; omega) H5.out.disk).mono ?_
          rintro e w9 ⟨rfl, hu⟩
          obtain ⟨D6, hst⟩ := H5.out.dupd hu
          have H6 := Lib.hid hst
          clear hu hst H5
          go_wp2_with fail
          refine (dCrash_any p _ D6 w9 more A6 c6 (R6.out.now H6.out.bl) (by omega) (H6.out.notOwn R6.out) H6.out.disk).mono ?_
          rintro e w10 ⟨rfl, hu⟩
          obtain ⟨D7, hst⟩ := H6.out.dupd hu
          have H7 := Lib.hid hst
          clear hu hst H6
          go_wp2_with fail
          refine (dStart_any p _ D7 w10 H7.out.disk).mono ?_
          rintro e w11 ⟨rfl, hu⟩
          obtain ⟨D8, hst⟩ := H7.out.dupd hu
          have H8 := Lib.hid hst
          have hkp : ((((S4.arm 0 []).lose 0).crash more).start).keep.length ≤ 20 := by
            show (DS.crash _ more).keep.length ≤ 20
            rw [crash_keep]
            exact Nat.zero_le _
          have HKp := Lib.hid hkp
          clear hu hst H7 H4 hkp
          generalize (((S4.arm 0 []).lose 0).crash more).start = S5 at *
          obtain ⟨hc6, hl6, hu6, hh6, he6, hk6⟩ := recover_up P5.out.1 P5.out.2.1 (by omega) (few_fits F0.out)
          have hg6 : Gd (recS S5 at_) at_ [48] old := ⟨hu6, ⟨hh6, he6, fun h => absurd h (by decide)⟩, few_fits F0.out, by rw [recS_keep]; exact HKp.out⟩
          have ho6 : Firm (at_ + 3) (bs [111, 116, 104, 101, 114]) (recS S5 at_) := hk6 _ _ (by omega) (by have := (side_ne at_ [48]).2.2.2.2; omega) P5.out.2.2
          have G6 := Lib.hid hg6
          have O6 := Lib.hid ho6
          have HC6 := Lib.hid hc6
          have HL6 := Lib.hid hl6
          have hk5 := HKp.out
          clear hc6 hl6 hu6 hh6 he6 hk6 hg6 ho6
          go_wp2_with fail
          refine (recover_any2 HV.out H8.out (f := at_) (by unfold inI64; omega) (by omega)).mono ?_
          rintro e w12 ⟨D9, A9, c9, rfl, hst⟩
          rw [HL6.out] at hst
          rw [HC6.out, HL6.out]
          have H9 := Lib.hid hst
          clear hst H8 HC6 HL6 hk5 HKp P5
          generalize recS S5 at_ = S6 at *
          have hll : (old).length ≤ 9223372036854775807 := by have := (F0.out).1; omega
          go_wp2_with fail
          refine (strs_any old old A9 A1 c9 c1 w12 (slOb.rd H9.out.ok.1.2.1.1) (R1.out.now H9.out.bl) hll hll).mono ?_
          rintro e w13 ⟨rfl, hb13⟩
          rw [show ((old) == (old)) = true from by simp]
          have H10 := Lib.hid (H9.out.on hb13)
          clear hb13 H9
          go_wp2_with fail
          refine (kp_good HV.out H10.out G6.out (by omega) (slOb.rd H10.out.ok.1.2.1.1)).mono ?_
          rintro e w14 ⟨rfl, hb14⟩
          have H11 := Lib.hid (H10.out.on hb14)
          clear hb14 H10
          go_wp2_with fail
          refine (dCrash_any p _ D9 w14 keep A4 c4 (R4.out.now H11.out.bl) (by omega) (H11.out.notOwn R4.out) H11.out.disk).mono ?_
          rintro e w15 ⟨rfl, hu⟩
          obtain ⟨D10, hst⟩ := H11.out.dupd hu
          have H12 := Lib.hid hst
          clear hu hst H11
          go_wp2_with fail
          refine (dStart_any p _ D10 w15 H12.out.disk).mono ?_
          rintro e w16 ⟨rfl, hu⟩
          obtain ⟨D11, hst⟩ := H12.out.dupd hu
          have H13 := Lib.hid hst
          have G7 : Hid (Gd ((S6.crash keep).start) at_ [48] old) := Lib.hid ⟨up_crash G6.out.up keep, G6.out.nt.crash keep, G6.out.fit, by show (DS.crash S6 keep).keep.length ≤ 20; rw [crash_keep]; exact G6.out.kp⟩
          have O7 := Lib.hid (crash_firm O6.out keep)
          clear hu hst H12 G6 O6
          generalize (S6.crash keep).start = S7 at *
          go_wp2_with fail
          refine (rc_good HV.out H13.out G7.out (by omega)).mono ?_
          rintro e w17 ⟨S8, D12, A12, c12, rfl, hst, hg8, hs8, -⟩
          have H14 := Lib.hid hst
          have G8 := Lib.hid hg8
          have O8 := Lib.hid (hs8 _ _ (by omega) (by omega) (by omega) O7.out)
          clear hst hg8 hs8 H13 G7 O7
          go_wp2_with fail
          refine (strs_any old old A12 A9 c12 c9 w17 (slOb.rd H14.out.ok.1.2.1.1) (slOb.rd H14.out.ok.1.2.1.2.1.1) hll hll).mono ?_
          rintro e w18 ⟨rfl, hb18⟩
          rw [show ((old) == (old)) = true from by simp]
          have H15 := Lib.hid (H14.out.on hb18)
          clear hb18 H14
          go_wp2_with fail
          refine (kp_good HV.out H15.out G8.out (by omega) (slOb.rd H15.out.ok.1.2.1.2.1.1)).mono ?_
          rintro e w19 ⟨rfl, hb19⟩
          have H16 := Lib.hid (H15.out.on hb19)
          clear hb19 H15
          go_wp2_with fail
          refine (file_good (f := at_ + 3) (x := [111, 116, 104, 101, 114]) H16.out G8.out.up (by omega) O8.out).mono ?_
          rintro e wz ⟨rfl, hw⟩
          obtain rfl : w19 = wz := hw.symm
          rw [show bs [111, 116, 104, 101, 114] = ⟨#[111, 116, 104, 101, 114]⟩ from rfl]
          go_wp2_with fail
          go_ret
          exact ⟨rfl, H16.out.bl⟩
        · skip
          go_wp2_with fail
          refine (dArm_any p S4 D4 w7 0 (by unfold inI64; omega) [] none 0 0 rfl RdL.nil_ (by decide) (fun _ h => (by cases h)) H4.out.disk).mono ?_
          rintro e w8 ⟨rfl, hu⟩
          obtain ⟨D5, hst⟩ := H4.out.dupd hu
          have H5 := Lib.hid hst
          clear hu hst
          go_wp2_with fail
          refine (dLose_any p _ D5 w8 0 (by unfold inI64; omega) H5.out.disk).mono ?_
          rintro e w9 ⟨rfl, hu⟩
          obtain ⟨D6, hst⟩ := H5.out.dupd hu
          have H6 := Lib.hid hst
          clear hu hst H5
          go_wp2_with fail
          refine (dCrash_any p _ D6 w9 more A6 c6 (R6.out.now H6.out.bl) (by omega) (H6.out.notOwn R6.out) H6.out.disk).mono ?_
          rintro e w10 ⟨rfl, hu⟩
          obtain ⟨D7, hst⟩ := H6.out.dupd hu
          have H7 := Lib.hid hst
          clear hu hst H6
          go_wp2_with fail
          refine (dStart_any p _ D7 w10 H7.out.disk).mono ?_
          rintro e w11 ⟨rfl, hu⟩
          obtain ⟨D8, hst⟩ := H7.out.dupd hu
          have H8 := Lib.hid hst
          have hkp : ((((S4.arm 0 []).lose 0).crash more).start).keep.length ≤ 20 := by
            show (DS.crash _ more).keep.length ≤ 20
            rw [crash_keep]
            exact Nat.zero_le _
          have HKp := Lib.hid hkp
          clear hu hst H7 H4 hkp
          generalize (((S4.arm 0 []).lose 0).crash more).start = S5 at *
          obtain ⟨hc6, hl6, hu6, hh6, he6, hk6⟩ := recover_up P5.out.1 P5.out.2.1 (by omega) (few_fits F0.out)
          have hg6 : Gd (recS S5 at_) at_ [48] old := ⟨hu6, ⟨hh6, he6, fun h => absurd h (by decide)⟩, few_fits F0.out, by rw [recS_keep]; exact HKp.out⟩
          have ho6 : Firm (at_ + 3) (bs [111, 116, 104, 101, 114]) (recS S5 at_) := hk6 _ _ (by omega) (by have := (side_ne at_ [48]).2.2.2.2; omega) P5.out.2.2
          have G6 := Lib.hid hg6
          have O6 := Lib.hid ho6
          have HC6 := Lib.hid hc6
          have HL6 := Lib.hid hl6
          have hk5 := HKp.out
          clear hc6 hl6 hu6 hh6 he6 hk6 hg6 ho6
          go_wp2_with fail
          refine (recover_any2 HV.out H8.out (f := at_) (by unfold inI64; omega) (by omega)).mono ?_
          rintro e w12 ⟨D9, A9, c9, rfl, hst⟩
          rw [HL6.out] at hst
          rw [HC6.out, HL6.out]
          have H9 := Lib.hid hst
          clear hst H8 HC6 HL6 hk5 HKp P5
          generalize recS S5 at_ = S6 at *
          have hll : (old).length ≤ 9223372036854775807 := by have := (F0.out).1; omega
          go_wp2_with fail
          refine (strs_any old now A9 A1 c9 c1 w12 (slOb.rd H9.out.ok.1.2.1.1) (R1.out.now H9.out.bl) hll h1).mono ?_
          rintro e w13 ⟨rfl, hb13⟩
          rw [show (old == now) = false from by simpa using hon]
          have H9b := Lib.hid (H9.out.on hb13)
          clear hb13 H9
          go_wp2_with fail
          refine (strs_any old old A9 A0 c9 c0 w13 (slOb.rd H9b.out.ok.1.2.1.1) (R0.out.now H9b.out.bl) hll hll).mono ?_
          rintro e w13b ⟨rfl, hb13⟩
          rw [show (old == old) = true from by simp]
          have H10 := Lib.hid (H9b.out.on hb13)
          clear hb13 H9b
          go_wp2_with fail
          refine (kp_good HV.out H10.out G6.out (by omega) (slOb.rd H10.out.ok.1.2.1.1)).mono ?_
          rintro e w14 ⟨rfl, hb14⟩
          have H11 := Lib.hid (H10.out.on hb14)
          clear hb14 H10
          go_wp2_with fail
          refine (dCrash_any p _ D9 w14 keep A4 c4 (R4.out.now H11.out.bl) (by omega) (H11.out.notOwn R4.out) H11.out.disk).mono ?_
          rintro e w15 ⟨rfl, hu⟩
          obtain ⟨D10, hst⟩ := H11.out.dupd hu
          have H12 := Lib.hid hst
          clear hu hst H11
          go_wp2_with fail
          refine (dStart_any p _ D10 w15 H12.out.disk).mono ?_
          rintro e w16 ⟨rfl, hu⟩
          obtain ⟨D11, hst⟩ := H12.out.dupd hu
          have H13 := Lib.hid hst
          have G7 : Hid (Gd ((S6.crash keep).start) at_ [48] old) := Lib.hid ⟨up_crash G6.out.up keep, G6.out.nt.crash keep, G6.out.fit, by show (DS.crash S6 keep).keep.length ≤ 20; rw [crash_keep]; exact G6.out.kp⟩
          have O7 := Lib.hid (crash_firm O6.out keep)
          clear hu hst H12 G6 O6
          generalize (S6.crash keep).start = S7 at *
          go_wp2_with fail
          refine (rc_good HV.out H13.out G7.out (by omega)).mono ?_
          rintro e w17 ⟨S8, D12, A12, c12, rfl, hst, hg8, hs8, -⟩
          have H14 := Lib.hid hst
          have G8 := Lib.hid hg8
          have O8 := Lib.hid (hs8 _ _ (by omega) (by omega) (by omega) O7.out)
          clear hst hg8 hs8 H13 G7 O7
          go_wp2_with fail
          refine (strs_any old old A12 A9 c12 c9 w17 (slOb.rd H14.out.ok.1.2.1.1) (slOb.rd H14.out.ok.1.2.1.2.1.1) hll hll).mono ?_
          rintro e w18 ⟨rfl, hb18⟩
          rw [show ((old) == (old)) = true from by simp]
          have H15 := Lib.hid (H14.out.on hb18)
          clear hb18 H14
          go_wp2_with fail
          refine (kp_good HV.out H15.out G8.out (by omega) (slOb.rd H15.out.ok.1.2.1.2.1.1)).mono ?_
          rintro e w19 ⟨rfl, hb19⟩
          have H16 := Lib.hid (H15.out.on hb19)
          clear hb19 H15
          go_wp2_with fail
          refine (file_good (f := at_ + 3) (x := [111, 116, 104, 101, 114]) H16.out G8.out.up (by omega) O8.out).mono ?_
          rintro e wz ⟨rfl, hw⟩
          obtain rfl : w19 = wz := hw.symm
          rw [show bs [111, 116, 104, 101, 114] = ⟨#[111, 116, 104, 101, 114]⟩ from rfl]
          go_wp2_with fail
          go_ret
          exact ⟨rfl, H16.out.bl⟩
      · have P5 : Hid (Up ((((S4.arm 0 []).lose 0).crash more).start) ∧ Has ((((S4.arm 0 []).lose 0).crash more).start) at_ [49] now ∧ Firm (at_ + 3) (bs [111, 116, 104, 101, 114]) ((((S4.arm 0 []).lose 0).crash more).start)) := Lib.hid ⟨HUp.out, hh, HOf.out⟩
        clear hh HAg2 HUp HOf
        go_wp2_with fail
        refine (dArm_any p S4 D4 w7 0 (by unfold inI64; omega) [] none 0 0 rfl RdL.nil_ (by decide) (fun _ h => (by cases h)) H4.out.disk).mono ?_
        rintro e w8 ⟨rfl, hu⟩
        obtain ⟨D5, hst⟩ := H4.out.dupd hu
        have H5 := Lib.hid hst
        clear hu hst
        go_wp2_with fail
        refine (dLose_any p _ D5 w8 0 (by unfold inI64; omega) H5.out.disk).mono ?_
        rintro e w9 ⟨rfl, hu⟩
        obtain ⟨D6, hst⟩ := H5.out.dupd hu
        have H6 := Lib.hid hst
        clear hu hst H5
        go_wp2_with fail
        refine (dCrash_any p _ D6 w9 more A6 c6 (R6.out.now H6.out.bl) (by omega) (H6.out.notOwn R6.out) H6.out.disk).mono ?_
        rintro e w10 ⟨rfl, hu⟩
        obtain ⟨D7, hst⟩ := H6.out.dupd hu
        have H7 := Lib.hid hst
        clear hu hst H6
        go_wp2_with fail
        refine (dStart_any p _ D7 w10 H7.out.disk).mono ?_
        rintro e w11 ⟨rfl, hu⟩
        obtain ⟨D8, hst⟩ := H7.out.dupd hu
        have H8 := Lib.hid hst
        have hkp : ((((S4.arm 0 []).lose 0).crash more).start).keep.length ≤ 20 := by
          show (DS.crash _ more).keep.length ≤ 20
          rw [crash_keep]
          exact Nat.zero_le _
        have HKp := Lib.hid hkp
        clear hu hst H7 H4 hkp
        generalize (((S4.arm 0 []).lose 0).crash more).start = S5 at *
        obtain ⟨hc6, hl6, hu6, hh6, he6, hk6⟩ := recover_up P5.out.1 P5.out.2.1 (by omega) (few_fits F1.out)
        have hg6 : Gd (recS S5 at_) at_ [49] now := ⟨hu6, ⟨hh6, he6, fun h => absurd h (by decide)⟩, few_fits F1.out, by rw [recS_keep]; exact HKp.out⟩
        have ho6 : Firm (at_ + 3) (bs [111, 116, 104, 101, 114]) (recS S5 at_) := hk6 _ _ (by omega) (by have := (side_ne at_ [49]).2.2.2.2; omega) P5.out.2.2
        have G6 := Lib.hid hg6
        have O6 := Lib.hid ho6
        have HC6 := Lib.hid hc6
        have HL6 := Lib.hid hl6
        have hk5 := HKp.out
        clear hc6 hl6 hu6 hh6 he6 hk6 hg6 ho6
        go_wp2_with fail
        refine (recover_any2 HV.out H8.out (f := at_) (by unfold inI64; omega) (by omega)).mono ?_
        rintro e w12 ⟨D9, A9, c9, rfl, hst⟩
        rw [HL6.out] at hst
        rw [HC6.out, HL6.out]
        have H9 := Lib.hid hst
        clear hst H8 HC6 HL6 hk5 HKp P5
        generalize recS S5 at_ = S6 at *
        have hll : (now).length ≤ 9223372036854775807 := by have := (F1.out).1; omega
        go_wp2_with fail
        refine (strs_any now now A9 A1 c9 c1 w12 (slOb.rd H9.out.ok.1.2.1.1) (R1.out.now H9.out.bl) hll hll).mono ?_
        rintro e w13 ⟨rfl, hb13⟩
        rw [show ((now) == (now)) = true from by simp]
        have H10 := Lib.hid (H9.out.on hb13)
        clear hb13 H9
        go_wp2_with fail
        refine (kp_good HV.out H10.out G6.out (by omega) (slOb.rd H10.out.ok.1.2.1.1)).mono ?_
        rintro e w14 ⟨rfl, hb14⟩
        have H11 := Lib.hid (H10.out.on hb14)
        clear hb14 H10
        go_wp2_with fail
        refine (dCrash_any p _ D9 w14 keep A4 c4 (R4.out.now H11.out.bl) (by omega) (H11.out.notOwn R4.out) H11.out.disk).mono ?_
        rintro e w15 ⟨rfl, hu⟩
        obtain ⟨D10, hst⟩ := H11.out.dupd hu
        have H12 := Lib.hid hst
        clear hu hst H11
        go_wp2_with fail
        refine (dStart_any p _ D10 w15 H12.out.disk).mono ?_
        rintro e w16 ⟨rfl, hu⟩
        obtain ⟨D11, hst⟩ := H12.out.dupd hu
        have H13 := Lib.hid hst
        have G7 : Hid (Gd ((S6.crash keep).start) at_ [49] now) := Lib.hid ⟨up_crash G6.out.up keep, G6.out.nt.crash keep, G6.out.fit, by show (DS.crash S6 keep).keep.length ≤ 20; rw [crash_keep]; exact G6.out.kp⟩
        have O7 := Lib.hid (crash_firm O6.out keep)
        clear hu hst H12 G6 O6
        generalize (S6.crash keep).start = S7 at *
        go_wp2_with fail
        refine (rc_good HV.out H13.out G7.out (by omega)).mono ?_
        rintro e w17 ⟨S8, D12, A12, c12, rfl, hst, hg8, hs8, -⟩
        have H14 := Lib.hid hst
        have G8 := Lib.hid hg8
        have O8 := Lib.hid (hs8 _ _ (by omega) (by omega) (by omega) O7.out)
        clear hst hg8 hs8 H13 G7 O7
        go_wp2_with fail
        refine (strs_any now now A12 A9 c12 c9 w17 (slOb.rd H14.out.ok.1.2.1.1) (slOb.rd H14.out.ok.1.2.1.2.1.1) hll hll).mono ?_
        rintro e w18 ⟨rfl, hb18⟩
        rw [show ((now) == (now)) = true from by simp]
        have H15 := Lib.hid (H14.out.on hb18)
        clear hb18 H14
        go_wp2_with fail
        refine (kp_good HV.out H15.out G8.out (by omega) (slOb.rd H15.out.ok.1.2.1.2.1.1)).mono ?_
        rintro e w19 ⟨rfl, hb19⟩
        have H16 := Lib.hid (H15.out.on hb19)
        clear hb19 H15
        go_wp2_with fail
        refine (file_good (f := at_ + 3) (x := [111, 116, 104, 101, 114]) H16.out G8.out.up (by omega) O8.out).mono ?_
        rintro e wz ⟨rfl, hw⟩
        obtain rfl : w19 = wz := hw.symm
        rw [show bs [111, 116, 104, 101, 114] = ⟨#[111, 116, 104, 101, 114]⟩ from rfl]
        go_wp2_with fail
        go_ret
        exact ⟨rfl, H16.out.bl⟩
    · skip
      rcases HAg2.out with hh | hh
      · have P5 : Hid (Up ((((S4.arm 0 []).lose 0).crash more).start) ∧ Has ((((S4.arm 0 []).lose 0).crash more).start) at_ [48] old ∧ Firm (at_ + 3) (bs [111, 116, 104, 101, 114]) ((((S4.arm 0 []).lose 0).crash more).start)) := Lib.hid ⟨HUp.out, hh, HOf.out⟩
        clear hh HAg2 HUp HOf
        by_cases hon : old = now
        · subst hon
          skip
          go_wp2_with fail
          refine (dArm_any p S4 D4 w7 0 (by unfold inI64; omega) [] none 0 0 rfl RdL.nil_ (by decide) (fun _ h => (by cases h)) H4.out.disk).mono ?_
          rintro e w8 ⟨rfl, hu⟩
          obtain ⟨D5, hst⟩ := H4.out.dupd hu
          have H5 := Lib.hid hst
          clear hu hst
          go_wp2_with fail
          refine (dLose_any p _ D5 w8 0 (by unfold inI64; omega) H5.out.disk).mono ?_
          rintro e w9 ⟨rfl, hu⟩
          obtain ⟨D6, hst⟩ := H5.out.dupd hu
          have H6 := Lib.hid hst
          clear hu hst H5
          go_wp2_with fail
          refine (dCrash_any p _ D6 w9 more A6 c6 (R6.out.now H6.out.bl) (by omega) (H6.out.notOwn R6.out) H6.out.disk).mono ?_
          rintro e w10 ⟨rfl, hu⟩
          obtain ⟨D7, hst⟩ := H6.out.dupd hu
          have H7 := Lib.hid hst
          clear hu hst H6
          go_wp2_with fail
          refine (dStart_any p _ D7 w10 H7.out.disk).mono ?_
          rintro e w11 ⟨rfl, hu⟩
          obtain ⟨D8, hst⟩ := H7.out.dupd hu
          have H8 := Lib.hid hst
          have hkp : ((((S4.arm 0 []).lose 0).crash more).start).keep.length ≤ 20 := by
            show (DS.crash _ more).keep.length ≤ 20
            rw [crash_keep]
            exact Nat.zero_le _
          have HKp := Lib.hid hkp
          clear hu hst H7 H4 hkp
          generalize (((S4.arm 0 []).lose 0).crash more).start = S5 at *
          obtain ⟨hc6, hl6, hu6, hh6, he6, hk6⟩ := recover_up P5.out.1 P5.out.2.1 (by omega) (few_fits F0.out)
          have hg6 : Gd (recS S5 at_) at_ [48] old := ⟨hu6, ⟨hh6, he6, fun h => absurd h (by decide)⟩, few_fits F0.out, by rw [recS_keep]; exact HKp.out⟩
          have ho6 : Firm (at_ + 3) (bs [111, 116, 104, 101, 114]) (recS S5 at_) := hk6 _ _ (by omega) (by have := (side_ne at_ [48]).2.2.2.2; omega) P5.out.2.2
          have G6 := Lib.hid hg6
          have O6 := Lib.hid ho6
          have HC6 := Lib.hid hc6
          have HL6 := Lib.hid hl6
          have hk5 := HKp.out
          clear hc6 hl6 hu6 hh6 he6 hk6 hg6 ho6
          go_wp2_with fail
          refine (recover_any2 HV.out H8.out (f := at_) (by unfold inI64; omega) (by omega)).mono ?_
          rintro e w12 ⟨D9, A9, c9, rfl, hst⟩
          rw [HL6.out] at hst
          rw [HC6.out, HL6.out]
          have H9 := Lib.hid hst
          clear hst H8 HC6 HL6 hk5 HKp P5
          generalize recS S5 at_ = S6 at *
          have hll : (old).length ≤ 9223372036854775807 := by have := (F0.out).1; omega
          go_wp2_with fail
          refine (strs_any old old A9 A1 c9 c1 w12 (slOb.rd H9.out.ok.1.2.1.1) (R1.out.now H9.out.bl) hll hll).mono ?_
          rintro e w13 ⟨rfl, hb13⟩
          rw [show ((old) == (old)) = true from by simp]
          have H10 := Lib.hid (H9.out.on hb13)
          clear hb13 H9
          go_wp2_with fail
          refine (kp_good HV.out H10.out G6.out (by omega) (slOb.rd H10.out.ok.1.2.1.1)).mono ?_
          rintro e w14 ⟨rfl, hb14⟩
          have H11 := Lib.hid (H10.out.on hb14)
          clear hb14 H10
          go_wp2_with fail
          refine (dCrash_any p _ D9 w14 keep A4 c4 (R4.out.now H11.out.bl) (by omega) (H11.out.notOwn R4.out) H11.out.disk).mono ?_
          rintro e w15 ⟨rfl, hu⟩
          obtain ⟨D10, hst⟩ := H11.out.dupd hu
          have H12 := Lib.hid hst
          clear hu hst H11
          go_wp2_with fail
          refine (dStart_any p _ D10 w15 H12.out.disk).mono ?_
          rintro e w16 ⟨rfl, hu⟩
          obtain ⟨D11, hst⟩ := H12.out.dupd hu
          have H13 := Lib.hid hst
          have G7 : Hid (Gd ((S6.crash keep).start) at_ [48] old) := Lib.hid ⟨up_crash G6.out.up keep, G6.out.nt.crash keep, G6.out.fit, by show (DS.crash S6 keep).keep.length ≤ 20; rw [crash_keep]; exact G6.out.kp⟩
          have O7 := Lib.hid (crash_firm O6.out keep)
          clear hu hst H12 G6 O6
          generalize (S6.crash keep).start = S7 at *
          go_wp2_with fail
          refine (rc_good HV.out H13.out G7.out (by omega)).mono ?_
          rintro e w17 ⟨S8, D12, A12, c12, rfl, hst, hg8, hs8, -⟩
          have H14 := Lib.hid hst
          have G8 := Lib.hid hg8
          have O8 := Lib.hid (hs8 _ _ (by omega) (by omega) (by omega) O7.out)
          clear hst hg8 hs8 H13 G7 O7
          go_wp2_with fail
          refine (strs_any old old A12 A9 c12 c9 w17 (slOb.rd H14.out.ok.1.2.1.1) (slOb.rd H14.out.ok.1.2.1.2.1.1) hll hll).mono ?_
          rintro e w18 ⟨rfl, hb18⟩
          rw [show ((old) == (old)) = true from by simp]
          have H15 := Lib.hid (H14.out.on hb18)
          clear hb18 H14
          go_wp2_with fail
          refine (kp_good HV.out H15.out G8.out (by omega) (slOb.rd H15.out.ok.1.2.1.2.1.1)).mono ?_
          rintro e w19 ⟨rfl, hb19⟩
          have H16 := Lib.hid (H15.out.on hb19)
          clear hb19 H15
          go_wp2_with fail
          refine (file_good (f := at_ + 3) (x := [111, 116, 104, 101, 114]) H16.out G8.out.up (by omega) O8.out).mono ?_
          rintro e wz ⟨rfl, hw⟩
          obtain rfl : w19 = wz := hw.symm
          rw [show bs [111, 116, 104, 101, 114] = ⟨#[111, 116, 104, 101, 114]⟩ from rfl]
          go_wp2_with fail
          go_ret
          exact ⟨rfl, H16.out.bl⟩
        · skip
          go_wp2_with fail
          refine (dArm_any p S4 D4 w7 0 (by unfold inI64; omega) [] none 0 0 rfl RdL.nil_ (by decide) (fun _ h => (by cases h)) H4.out.disk).mono ?_
          rintro e w8 ⟨rfl, hu⟩
          obtain ⟨D5, hst⟩ := H4.out.dupd hu
          have H5 := Lib.hid hst
          clear hu hst
          go_wp2_with fail
          refine (dLose_any p _ D5 w8 0 (by unfold inI64; omega) H5.out.disk).mono ?_
          rintro e w9 ⟨rfl, hu⟩
          obtain ⟨D6, hst⟩ := H5.out.dupd hu
          have H6 := Lib.hid hst
          clear hu hst H5
          go_wp2_with fail
          refine (dCrash_any p _ D6 w9 more A6 c6 (R6.out.now H6.out.bl) (by omega) (H6.out.notOwn R6.out) H6.out.disk).mono ?_
          rintro e w10 ⟨rfl, hu⟩
          obtain ⟨D7, hst⟩ := H6.out.dupd hu
          have H7 := Lib.hid hst
          clear hu hst H6
          go_wp2_with fail
          refine (dStart_any p _ D7 w10 H7.out.disk).mono ?_
          rintro e w11 ⟨rfl, hu⟩
          obtain ⟨D8, hst⟩ := H7.out.dupd hu
          have H8 := Lib.hid hst
          have hkp : ((((S4.arm 0 []).lose 0).crash more).start).keep.length ≤ 20 := by
            show (DS.crash _ more).keep.length ≤ 20
            rw [crash_keep]
            exact Nat.zero_le _
          have HKp := Lib.hid hkp
          clear hu hst H7 H4 hkp
          generalize (((S4.arm 0 []).lose 0).crash more).start = S5 at *
          obtain ⟨hc6, hl6, hu6, hh6, he6, hk6⟩ := recover_up P5.out.1 P5.out.2.1 (by omega) (few_fits F0.out)
          have hg6 : Gd (recS S5 at_) at_ [48] old := ⟨hu6, ⟨hh6, he6, fun h => absurd h (by decide)⟩, few_fits F0.out, by rw [recS_keep]; exact HKp.out⟩
          have ho6 : Firm (at_ + 3) (bs [111, 116, 104, 101, 114]) (recS S5 at_) := hk6 _ _ (by omega) (by have := (side_ne at_ [48]).2.2.2.2; omega) P5.out.2.2
          have G6 := Lib.hid hg6
          have O6 := Lib.hid ho6
          have HC6 := Lib.hid hc6
          have HL6 := Lib.hid hl6
          have hk5 := HKp.out
          clear hc6 hl6 hu6 hh6 he6 hk6 hg6 ho6
          go_wp2_with fail
          refine (recover_any2 HV.out H8.out (f := at_) (by unfold inI64; omega) (by omega)).mono ?_
          rintro e w12 ⟨D9, A9, c9, rfl, hst⟩
          rw [HL6.out] at hst
          rw [HC6.out, HL6.out]
          have H9 := Lib.hid hst
          clear hst H8 HC6 HL6 hk5 HKp P5
          generalize recS S5 at_ = S6 at *
          have hll : (old).length ≤ 9223372036854775807 := by have := (F0.out).1; omega
          go_wp2_with fail
          refine (strs_any old now A9 A1 c9 c1 w12 (slOb.rd H9.out.ok.1.2.1.1) (R1.out.now H9.out.bl) hll h1).mono ?_
          rintro e w13 ⟨rfl, hb13⟩
          rw [show (old == now) = false from by simpa using hon]
          have H9b := Lib.hid (H9.out.on hb13)
          clear hb13 H9
          go_wp2_with fail
          refine (strs_any old old A9 A0 c9 c0 w13 (slOb.rd H9b.out.ok.1.2.1.1) (R0.out.now H9b.out.bl) hll hll).mono ?_
          rintro e w13b ⟨rfl, hb13⟩
          rw [show (old == old) = true from by simp]
          have H10 := Lib.hid (H9b.out.on hb13)
          clear hb13 H9b
          go_wp2_with fail
          refine (kp_good HV.out H10.out G6.out (by omega) (slOb.rd H10.out.ok.1.2.1.1)).mono ?_
          rintro e w14 ⟨rfl, hb14⟩
          have H11 := Lib.hid (H10.out.on hb14)
          clear hb14 H10
          go_wp2_with fail
          refine (dCrash_any p _ D9 w14 keep A4 c4 (R4.out.now H11.out.bl) (by omega) (H11.out.notOwn R4.out) H11.out.disk).mono ?_
          rintro e w15 ⟨rfl, hu⟩
          obtain ⟨D10, hst⟩ := H11.out.dupd hu
          have H12 := Lib.hid hst
          clear hu hst H11
          go_wp2_with fail
          refine (dStart_any p _ D10 w15 H12.out.disk).mono ?_
          rintro e w16 ⟨rfl, hu⟩
          obtain ⟨D11, hst⟩ := H12.out.dupd hu
          have H13 := Lib.hid hst
          have G7 : Hid (Gd ((S6.crash keep).start) at_ [48] old) := Lib.hid ⟨up_crash G6.out.up keep, G6.out.nt.crash keep, G6.out.fit, by show (DS.crash S6 keep).keep.length ≤ 20; rw [crash_keep]; exact G6.out.kp⟩
          have O7 := Lib.hid (crash_firm O6.out keep)
          clear hu hst H12 G6 O6
          generalize (S6.crash keep).start = S7 at *
          go_wp2_with fail
          refine (rc_good HV.out H13.out G7.out (by omega)).mono ?_
          rintro e w17 ⟨S8, D12, A12, c12, rfl, hst, hg8, hs8, -⟩
          have H14 := Lib.hid hst
          have G8 := Lib.hid hg8
          have O8 := Lib.hid (hs8 _ _ (by omega) (by omega) (by omega) O7.out)
          clear hst hg8 hs8 H13 G7 O7
          go_wp2_with fail
          refine (strs_any old old A12 A9 c12 c9 w17 (slOb.rd H14.out.ok.1.2.1.1) (slOb.rd H14.out.ok.1.2.1.2.1.1) hll hll).mono ?_
          rintro e w18 ⟨rfl, hb18⟩
          rw [show ((old) == (old)) = true from by simp]
          have H15 := Lib.hid (H14.out.on hb18)
          clear hb18 H14
          go_wp2_with fail
          refine (kp_good HV.out H15.out G8.out (by omega) (slOb.rd H15.out.ok.1.2.1.2.1.1)).mono ?_
          rintro e w19 ⟨rfl, hb19⟩
          have H16 := Lib.hid (H15.out.on hb19)
          clear hb19 H15
          go_wp2_with fail
          refine (file_good (f := at_ + 3) (x := [111, 116, 104, 101, 114]) H16.out G8.out.up (by omega) O8.out).mono ?_
          rintro e wz ⟨rfl, hw⟩
          obtain rfl : w19 = wz := hw.symm
          rw [show bs [111, 116, 104, 101, 114] = ⟨#[111, 116, 104, 101, 114]⟩ from rfl]
          go_wp2_with fail
          go_ret
          exact ⟨rfl, H16.out.bl⟩
      · have P5 : Hid (Up ((((S4.arm 0 []).lose 0).crash more).start) ∧ Has ((((S4.arm 0 []).lose 0).crash more).start) at_ [49] now ∧ Firm (at_ + 3) (bs [111, 116, 104, 101, 114]) ((((S4.arm 0 []).lose 0).crash more).start)) := Lib.hid ⟨HUp.out, hh, HOf.out⟩
        clear hh HAg2 HUp HOf
        go_wp2_with fail
        refine (dArm_any p S4 D4 w7 0 (by unfold inI64; omega) [] none 0 0 rfl RdL.nil_ (by decide) (fun _ h => (by cases h)) H4.out.disk).mono ?_
        rintro e w8 ⟨rfl, hu⟩
        obtain ⟨D5, hst⟩ := H4.out.dupd hu
        have H5 := Lib.hid hst
        clear hu hst
        go_wp2_with fail
        refine (dLose_any p _ D5 w8 0 (by unfold inI64; omega) H5.out.disk).mono ?_
        rintro e w9 ⟨rfl, hu⟩
        obtain ⟨D6, hst⟩ := H5.out.dupd hu
        have H6 := Lib.hid hst
        clear hu hst H5
        go_wp2_with fail
        refine (dCrash_any p _ D6 w9 more A6 c6 (R6.out.now H6.out.bl) (by omega) (H6.out.notOwn R6.out) H6.out.disk).mono ?_
        rintro e w10 ⟨rfl, hu⟩
        obtain ⟨D7, hst⟩ := H6.out.dupd hu
        have H7 := Lib.hid hst
        clear hu hst H6
        go_wp2_with fail
        refine (dStart_any p _ D7 w10 H7.out.disk).mono ?_
        rintro e w11 ⟨rfl, hu⟩
        obtain ⟨D8, hst⟩ := H7.out.dupd hu
        have H8 := Lib.hid hst
        have hkp : ((((S4.arm 0 []).lose 0).crash more).start).keep.length ≤ 20 := by
          show (DS.crash _ more).keep.length ≤ 20
          rw [crash_keep]
          exact Nat.zero_le _
        have HKp := Lib.hid hkp
        clear hu hst H7 H4 hkp
        generalize (((S4.arm 0 []).lose 0).crash more).start = S5 at *
        obtain ⟨hc6, hl6, hu6, hh6, he6, hk6⟩ := recover_up P5.out.1 P5.out.2.1 (by omega) (few_fits F1.out)
        have hg6 : Gd (recS S5 at_) at_ [49] now := ⟨hu6, ⟨hh6, he6, fun h => absurd h (by decide)⟩, few_fits F1.out, by rw [recS_keep]; exact HKp.out⟩
        have ho6 : Firm (at_ + 3) (bs [111, 116, 104, 101, 114]) (recS S5 at_) := hk6 _ _ (by omega) (by have := (side_ne at_ [49]).2.2.2.2; omega) P5.out.2.2
        have G6 := Lib.hid hg6
        have O6 := Lib.hid ho6
        have HC6 := Lib.hid hc6
        have HL6 := Lib.hid hl6
        have hk5 := HKp.out
        clear hc6 hl6 hu6 hh6 he6 hk6 hg6 ho6
        go_wp2_with fail
        refine (recover_any2 HV.out H8.out (f := at_) (by unfold inI64; omega) (by omega)).mono ?_
        rintro e w12 ⟨D9, A9, c9, rfl, hst⟩
        rw [HL6.out] at hst
        rw [HC6.out, HL6.out]
        have H9 := Lib.hid hst
        clear hst H8 HC6 HL6 hk5 HKp P5
        generalize recS S5 at_ = S6 at *
        have hll : (now).length ≤ 9223372036854775807 := by have := (F1.out).1; omega
        go_wp2_with fail
        refine (strs_any now now A9 A1 c9 c1 w12 (slOb.rd H9.out.ok.1.2.1.1) (R1.out.now H9.out.bl) hll hll).mono ?_
        rintro e w13 ⟨rfl, hb13⟩
        rw [show ((now) == (now)) = true from by simp]
        have H10 := Lib.hid (H9.out.on hb13)
        clear hb13 H9
        go_wp2_with fail
        refine (kp_good HV.out H10.out G6.out (by omega) (slOb.rd H10.out.ok.1.2.1.1)).mono ?_
        rintro e w14 ⟨rfl, hb14⟩
        have H11 := Lib.hid (H10.out.on hb14)
        clear hb14 H10
        go_wp2_with fail
        refine (dCrash_any p _ D9 w14 keep A4 c4 (R4.out.now H11.out.bl) (by omega) (H11.out.notOwn R4.out) H11.out.disk).mono ?_
        rintro e w15 ⟨rfl, hu⟩
        obtain ⟨D10, hst⟩ := H11.out.dupd hu
        have H12 := Lib.hid hst
        clear hu hst H11
        go_wp2_with fail
        refine (dStart_any p _ D10 w15 H12.out.disk).mono ?_
        rintro e w16 ⟨rfl, hu⟩
        obtain ⟨D11, hst⟩ := H12.out.dupd hu
        have H13 := Lib.hid hst
        have G7 : Hid (Gd ((S6.crash keep).start) at_ [49] now) := Lib.hid ⟨up_crash G6.out.up keep, G6.out.nt.crash keep, G6.out.fit, by show (DS.crash S6 keep).keep.length ≤ 20; rw [crash_keep]; exact G6.out.kp⟩
        have O7 := Lib.hid (crash_firm O6.out keep)
        clear hu hst H12 G6 O6
        generalize (S6.crash keep).start = S7 at *
        go_wp2_with fail
        refine (rc_good HV.out H13.out G7.out (by omega)).mono ?_
        rintro e w17 ⟨S8, D12, A12, c12, rfl, hst, hg8, hs8, -⟩
        have H14 := Lib.hid hst
        have G8 := Lib.hid hg8
        have O8 := Lib.hid (hs8 _ _ (by omega) (by omega) (by omega) O7.out)
        clear hst hg8 hs8 H13 G7 O7
        go_wp2_with fail
        refine (strs_any now now A12 A9 c12 c9 w17 (slOb.rd H14.out.ok.1.2.1.1) (slOb.rd H14.out.ok.1.2.1.2.1.1) hll hll).mono ?_
        rintro e w18 ⟨rfl, hb18⟩
        rw [show ((now) == (now)) = true from by simp]
        have H15 := Lib.hid (H14.out.on hb18)
        clear hb18 H14
        go_wp2_with fail
        refine (kp_good HV.out H15.out G8.out (by omega) (slOb.rd H15.out.ok.1.2.1.2.1.1)).mono ?_
        rintro e w19 ⟨rfl, hb19⟩
        have H16 := Lib.hid (H15.out.on hb19)
        clear hb19 H15
        go_wp2_with fail
        refine (file_good (f := at_ + 3) (x := [111, 116, 104, 101, 114]) H16.out G8.out.up (by omega) O8.out).mono ?_
        rintro e wz ⟨rfl, hw⟩
        obtain rfl : w19 = wz := hw.symm
        rw [show bs [111, 116, 104, 101, 114] = ⟨#[111, 116, 104, 101, 114]⟩ from rfl]
        go_wp2_with fail
        go_ret
        exact ⟨rfl, H16.out.bl⟩
end Go.Proofs.YtlgnggogiopjaaaGreatDoor
