/- Contracts of settle and add of a disk of the reference. -/
import Derived.Test.YtjgeefagnddpfaaDkRE
namespace Go.Proofs.Ytjgeefagnddpfaa
open Go.RowKit

def qwo (l : List (Int × Int)) (f : Int) : List (Int × Int) := l.filter (fun y => !(y.1 == f))
theorem qwo_step (l : List (Int × Int)) (f : Int) (k : Nat) (hk : k < l.length) : qwo (l.take (k + 1)) f = if (l[k].1 == f) = false then qwo (l.take k) f ++ [l[k]] else qwo (l.take k) f := by
  unfold qwo
  rw [filter_step _ _ _ hk]
  cases h : (l[k].1 == f) <;> simp
theorem qwo_len (l : List (Int × Int)) (f : Int) (k : Nat) : (qwo (l.take k) f).length ≤ l.length := by
  unfold qwo
  refine Nat.le_trans (List.length_filter_le _ _) ?_
  rw [List.length_take]
  omega
set_option maxHeartbeats 2000000 in
theorem rSettle_any (p : Nat) (S : DS) (L : RL) (w : World) (f : Int) (s : ByteArray) (h : RK w p S L) (hf : 0 ≤ f ∧ f < 16) (hs : s.size ≤ 16777216) :
    Calls Try.prog 51 #[.pointer (some ⟨p, 0, none⟩), .int .i64 f, .string s] w fun e w' => e = .returned (.tuple #[]) ∧ RUpd p (S.settle f s) L w w' := by
  have HS := Lib.hid (rSet_any p S L w (f, (s, s)) h hf hs hs)
  have hql := h.wf.qlen
  clear h
  go_enter Try.func51, Try.ntmps51
  go_wp2_with fail
  refine HS.out.mono ?_
  rintro e w1 ⟨rfl, L1, d1, t1, o1, k1⟩
  have D1 := Lib.hid d1
  have T1 := Lib.hid t1
  have HQ := Lib.hid (d1.queue.rd secLay)
  have hp := box_lt d1.box
  have c1 := d1.c1
  have hw : (S.settle f s).wf := by
    have h1 := DS.settle_wf d1.wf f s hf hs
    have e : (DS.mk (updF S.files f (s, s)) S.queue S.lost S.down S.armed S.keep).settle f s = S.settle f s := by
      unfold DS.settle
      congr 1
      funext g
      unfold updF
      by_cases hg : g = f <;> simp [hg]
    rw [e] at h1
    exact h1
  have HW := Lib.hid hw
  clear d1 t1 hw
  go_wp2
  go_loopw [6, 7] (fun o i wr => ∃ (k : Nat) (A' : Option Addr) (c' : Nat), k ≤ S.queue.length ∧ i = .int .i64 k ∧ o = .slice A' (qwo (S.queue.take k) f).length c' ∧ OwnL wr w1.heap.size 78 2 secC A' c' (qwo (S.queue.take k) f) ∧ Below w1.heap.size w1 wr) (fun _ i _ => S.queue.length - (intOf i).toNat)
  case atStart => exact ⟨0, none, 0, Nat.zero_le _, rfl, rfl, OwnL.nil_, Below.refl _ _⟩
  case round =>
    obtain ⟨k, A', c', hk, rfl, rfl, ho, hb⟩ := hrel
    have HO := Lib.hid ho
    have HB := Lib.hid hb
    have hz := hb.size
    have hc1 : wr.cell? ⟨p, 1, none⟩ = some (.slice L1.qA S.queue.length L1.qc) := (hb.cell (p := ⟨p, 1, none⟩) hp).trans c1
    have hfl := qwo_len S.queue f k
    clear ho c1
    by_cases hlt : k < S.queue.length
    · obtain ⟨b, off, hA, hbb, e1, e2⟩ := (HQ.out.below hb).sec hlt
      rw [hA] at hc1
      have HSt := Lib.hid (qwo_step S.queue f k hlt)
      clear hb
      generalize S.queue[k] = y at *
      cases hv : (y.1 == f)
      · rw [hv, if_pos rfl] at HSt
        have hv2 : (y.1 != f) = true := by unfold bne; rw [hv]; rfl
        go_wp2_with (at_builtin; refine wp_append_l rfl (.tmp 33) (.tmp 41) rfl slRSec secLay w1.heap.size (xs := qwo (S.queue.take k) f) (ys := [y]) rfl rfl (HO.out.alloc _) rfl rfl (RdL.one wr y _ _ rfl _ rfl) (by simp; omega) (by simp; omega) ?_; intro A2 c2 w2 hown hg hb2 hat; have HO2 := Lib.hid hown; have HB2 := Lib.hid hb2; clear hown hg hb2 hat)
        go_roundw
        case rel => exact ⟨k + 1, A2, c2, by omega, by go_num, by rw [HSt.out]; simp, by rw [HSt.out]; exact HO2.out, (HB.out.alloc (by omega) _).trans HB2.out⟩
        case measure => simp [intOf]; omega
      · rw [hv, if_neg (by simp)] at HSt
        have hv2 : (y.1 != f) = false := by unfold bne; rw [hv]; rfl
        go_wp2
        go_roundw
        case rel => exact ⟨k + 1, A', c', by omega, by go_num, by rw [HSt.out], by rw [HSt.out]; exact HO.out, HB.out⟩
        case measure => simp [intOf]; omega
    · have HE : Hid (qwo (S.queue.take k) f = (S.settle f s).queue) := Lib.hid (by rw [List.take_of_length_le (by omega)]; rfl)
      have hbp := (hb.block p hp).trans D1.out.box
      have HBP := Lib.hid hbp
      have cz := fun j => box_free hbp j
      clear hbp
      rw [HE.out] at HO
      simp only [HE.out]
      go_wp2
      go_end0
      refine ⟨rfl, RUpd.trans T1.out o1 k1 ?_⟩
      have hT : Turn (fun i => i = p ∨ slBlk L1.qA = some i) w1 (wr.setCell ⟨p, 1, none⟩ (.slice A' (S.settle f s).queue.length c')) := (Turn.below HB.out).set p 1 _ (.inl (.inl rfl))
      refine RK.renew D1.out hT L1.fl L1.fA L1.fc (S.settle f s).queue A' c' (updF S.files f (s, s)) S.down S.armed HW.out (heap_setCell_same _ p 1 _ _ _ HBP.out)
        (D1.out.files.turn (fun i hi hl => (heap_setCell_other _ _ _ _ (show i ≠ p from D1.out.fp i hi)).trans (HB.out.block i hl))) D1.out.fn D1.out.fok ((HO.out.turn (fun i hi hl => heap_setCell_other _ _ _ _ (by have := (HO.out.blk_lt hi).1; show i ≠ p; omega))).mono (Nat.zero_le _))
        (fun i hi => .inl hi) (fun i hi => .inr (HO.out.blk_lt hi).1) (fun i hi hfi => by have := (HO.out.blk_lt hi).1; have := (D1.out.files.blk_lt hfi).2; omega)
/-- One sector more is pending. -/
theorem RK.pushed {w w4 w5 : World} {p : Nat} {S : DS} {L : RL} (d : RK w p S L) (x : Int × Int) (hx : 0 ≤ x.1 ∧ x.1 < 16 ∧ 0 ≤ x.2 ∧ x.2 ≤ 262144) (hn : x ∉ S.queue) (o : Obj) (A2 : Option Addr) (c2 : Nat) (hown : OwnL w4 0 78 2 secC A2 c2 (S.queue ++ [x]))
    (hg : (w.alloc o).grownBy w4 (slBlk L.qA)) (hat : slBlk A2 = slBlk L.qA ∨ slBlk A2 = some (w.alloc o).heap.size) (hbox : w4.heap[p]? = some (.cells (refV S L) 60 (0, 0))) (hw5 : w5 = w4.setCell ⟨p, 1, none⟩ (.slice A2 (S.queue ++ [x]).length c2)) :
    RUpd p (DS.mk S.files (S.queue ++ [x]) S.lost S.down S.armed S.keep) L w w5 := by
  have hp := d.lt p (.inl rfl)
  have hsz : (w.alloc o).heap.size = w.heap.size + 1 := by simp
  have hA2 : ∀ i, slBlk A2 = some i → slBlk L.qA = some i ∨ w.heap.size ≤ i := by
    intro i hi
    rcases hat with h | h
    · exact .inl (by rw [← h, hi])
    · rw [hi, hsz] at h
      have := Option.some.inj h
      exact .inr (by omega)
  have hA3 : ∀ i, slBlk A2 = some i → i ≠ p := by
    intro i hi
    rcases hA2 i hi with h | h
    · exact (d.qp i h).1
    · omega
  subst hw5
  have hT : Turn (fun i => i = p ∨ slBlk L.qA = some i) w (w4.setCell ⟨p, 1, none⟩ (.slice A2 (S.queue ++ [x]).length c2)) :=
    (((Turn.refl (fun i => i = p ∨ slBlk L.qA = some i) w).alloc o).trans (Turn.grown (F := fun i => slBlk L.qA = some i) hg (fun k hk => hk)) (fun i hi => .inl (.inr hi))).set p 1 _ (.inl (.inl rfl))
  refine RK.renew d hT L.fl L.fA L.fc (S.queue ++ [x]) A2 c2 S.files S.down S.armed (addq_wf d.wf x hx hn) (heap_setCell_same _ p 1 _ _ _ hbox)
    (d.files.turn (fun i hi hl => hT.block i hl (fun h => by
      rcases h with h | h
      · exact d.fp i hi h
      · exact (d.qp i h).2 hi))) d.fn d.fok (hown.turn (fun i hi hl => heap_setCell_other _ _ _ _ (hA3 i hi))) (fun i hi => .inl hi) hA2 (fun i hi hfi => ?_)
  rcases hA2 i hi with h | h
  · exact (d.qp i h).2 hfi
  · have := (d.files.blk_lt hfi).2
    omega
set_option maxHeartbeats 4000000 in
theorem rAdd_any (p : Nat) (S : DS) (L : RL) (w : World) (f a : Int) (s : ByteArray) (h : RK w p S L) (hf : 0 ≤ f ∧ f < 16) (hfit : fitsB a s = true) :
    Calls Try.prog 54 #[.pointer (some ⟨p, 0, none⟩), .int .i64 f, .int .i64 a, .string s] w fun e w' => e = .returned (.tuple #[]) ∧ RUpd p (S.wadd f a s) L w w' := by
  obtain ⟨q1, q2⟩ := fits_ok hfit
  clear hfit
  have H := Lib.hid h
  by_cases h2 : s.size = 0
  · obtain rfl := str_eq0 h2
    have hem := e0_empty
    have hw : S.wadd f a e0 = S := by unfold DS.wadd; rw [if_pos h2]
    rw [hw]
    clear hw h
    go_enter Try.func54, Try.ntmps54
    go_wp2
    try simp only [Exit.inBlock, Exit.then]
    refine bodyPost_ret (results_none rfl _ _ _) rfl ?_
    exact ⟨rfl, RUpd.refl H.out⟩
  · have hem := str_ne0 h2
    have HG := Lib.hid (rGet_any p S L w f h)
    have hnow := h.wf.now f
    have hlast := h.wf.last f
    obtain ⟨x0, hx0⟩ : ∃ x, x = S.files f := ⟨_, rfl⟩
    rw [← hx0] at HG hnow hlast
    obtain ⟨x1, hx1⟩ : ∃ x, x = putB x0.1 a.toNat s := ⟨_, rfl⟩
    have hsz1 := putB_size x0.1 a.toNat s h2
    rw [← hx1] at hsz1
    have HP := Lib.hid (fun w => hx1 ▸ rPut_i x0.1 s a w q1 (by omega) (by omega))
    have hS1 : S.wadd f a s = ⟨updF S.files f (x1, x0.2), addQ S.queue f (a / 64) ((a + s.size - 1) / 64 - a / 64 + 1).toNat, S.lost, S.down, S.armed, S.keep⟩ := by
      unfold DS.wadd
      rw [if_neg h2, ← hx0, hx1]
    have HS1 := Lib.hid hS1
    have h1s : x1.size ≤ 16777216 := by omega
    clear hx1 hx0 h hS1 hsz1
    have hp := box_lt H.out.box
    have hlo : 0 ≤ a / 64 := by omega
    go_enter Try.func54, Try.ntmps54
    go_wp2_with fail
    refine HG.out.mono ?_
    rintro e w1 ⟨rfl, hb1⟩
    have HB1 := Lib.hid hb1
    have hz1 := hb1.size
    clear hb1
    go_wp2_with fail
    refine (HP.out _).mono ?_
    rintro e w2 ⟨rfl, hb2⟩
    have hn2 := box_new hb2
    have b0 := box_cell hn2 0 _ rfl
    have b1 := box_cell hn2 1 _ rfl
    have b2 := box_cell hn2 2 _ rfl
    have bz := fun j => box_free hn2 j
    have HB2 := Lib.hid ((HB1.out.alloc (by omega) _).trans (hb2.mono (by simp; omega)))
    clear hn2 hb2
    go_wp2_with fail
    have hb3 : Below w.heap.size w (w2.setCell ⟨w1.heap.size, 1, none⟩ (.string x1)) := HB2.out.setCell (p := ⟨w1.heap.size, 1, none⟩) (by show w.heap.size ≤ w1.heap.size; omega) _
    refine (rSet_any p S L _ (f, (x1, x0.2)) (H.out.below hb3) hf h1s hlast).mono ?_
    rintro e w3 ⟨rfl, hu3⟩
    have HU3 := Lib.hid (RUpd.behind hb3 hu3)
    clear hb3 hu3 b0 b1 b2 bz
    go_wp2
    go_loopw [9] (fun n wr => ∃ (k : Int) (q : List (Int × Int)), n = .int .i64 k ∧ a / 64 ≤ k ∧ k ≤ (a + s.size - 1) / 64 + 1 ∧ addQ q f k ((a + s.size - 1) / 64 - k + 1).toNat = addQ S.queue f (a / 64) ((a + s.size - 1) / 64 - a / 64 + 1).toNat ∧
      RUpd p ⟨updF S.files f (x1, x0.2), q, S.lost, S.down, S.armed, S.keep⟩ L w wr) (fun n _ => ((a + s.size - 1) / 64 + 1 - intOf n).toNat)
    case atStart => exact ⟨a / 64, S.queue, rfl, Int.le_refl _, by omega, rfl, HU3.out⟩
    case round =>
      clear HU3
      obtain ⟨k, q, rfl, hk1, hk2, hq, hU⟩ := hrel
      have HQ := Lib.hid hq
      clear hq
      by_cases hlt : k ≤ (a + s.size - 1) / 64
      · obtain ⟨L', d, tt, oo, kk⟩ := hU
        have D := Lib.hid d
        have TT := Lib.hid tt
        have hpl := box_lt d.box
        have hql := d.wf.qlen
        simp only at hql
        have hstep : addQ (if (f, k) ∈ q then q else q ++ [(f, k)]) f (k + 1) ((a + s.size - 1) / 64 - (k + 1) + 1).toNat = addQ S.queue f (a / 64) ((a + s.size - 1) / 64 - a / 64 + 1).toNat := by
          rw [← HQ.out, show ((a + s.size - 1) / 64 - k + 1).toNat = ((a + s.size - 1) / 64 - (k + 1) + 1).toNat + 1 by omega, addQ]
        have HSt := Lib.hid hstep
        have HPe := Lib.hid (rPending_any p _ L' wr f k d)
        have c1 := d.c1
        have cz := fun j => box_free d.box j
        simp only at c1
        clear d tt hstep
        by_cases hin : (f, k) ∈ q
        · rw [if_pos hin] at HSt
          rw [show decide ((f, k) ∈ (DS.mk (updF S.files f (x1, x0.2)) q S.lost S.down S.armed S.keep).queue) = true from by simpa using hin] at HPe
          go_wp2_with (go_at_call 62; refine HPe.out.mono ?_; rintro e wx ⟨rfl, rfl⟩)
          go_roundw
          case rel => exact ⟨k + 1, q, by go_num, by omega, by omega, HSt.out, L', D.out, TT.out, oo, kk⟩
          case measure => simp [intOf]; omega
        · rw [if_neg hin] at HSt
          rw [show decide ((f, k) ∈ (DS.mk (updF S.files f (x1, x0.2)) q S.lost S.down S.armed S.keep).queue) = false from by simpa using hin] at HPe
          go_wp2_with fail
          refine HPe.out.mono ?_
          rintro e wx ⟨rfl, rfl⟩
          have hQA : ∀ i, slBlk L'.qA = some i → i ≠ p := fun i hi => (D.out.qp i hi).1
          have HQA := Lib.hid hQA
          clear hQA
          go_wp2_with (at_builtin; refine wp_append_l rfl (.tmp 45) (.tmp 49) rfl slRSec secLay 0 (xs := q) (ys := [(f, k)]) rfl rfl (D.out.queue.alloc _) rfl rfl (RdL.one wr (f, k) _ _ rfl _ rfl) (by simp; omega) (by simp) ?_; intro A2 c2 w4 hown hg hb4 hat; simp only [own_blk] at hg hat; have hbx := (hg.block p (by simp; omega) (fun e => HQA.out p e.symm rfl)).trans ((Below.heap_alloc _ _ p hpl).trans D.out.box); have c11 := box_cell hbx 1 _ rfl; have cz1 := fun j => box_free hbx j; have HX := Lib.hid hbx; have HO2 := Lib.hid hown; have HG := Lib.hid hg; have HA := Lib.hid hat; clear hown hg hb4 hat hbx)
          go_roundw
          case rel =>
            refine ⟨k + 1, q ++ [(f, k)], by go_num, by omega, by omega, HSt.out, RUpd.trans TT.out oo kk (RK.pushed D.out (f, k) ⟨hf.1, hf.2, by simp only; omega, by simp only; omega⟩ hin _ A2 c2 HO2.out HG.out HA.out HX.out ?_)⟩
            simp
          case measure => simp [intOf]; omega
      · have hk : ((a + s.size - 1) / 64 - k + 1).toNat = 0 := by omega
        have hq := HQ.out
        rw [hk, addQ] at hq
        have HEnd := Lib.hid hq
        have HU := Lib.hid hU
        clear hq hU
        go_wp2
        go_end0
        rw [HS1.out, ← HEnd.out]
        exact ⟨rfl, HU.out⟩
end Go.Proofs.Ytjgeefagnddpfaa
