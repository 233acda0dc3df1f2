/- Contracts and plain laws, joined: DkG. -/
import Derived.Test.YtjmkodkechahdaaGreatDoorQan
import Derived.Test.YtjmkodkechahdaaGreatDoorQag
import Derived.Deep.RegionHeld3
import Derived.Deep.DrawnRows
/- Contract of write. -/
set_option linter.unusedSimpArgs false
set_option linter.unusedVariables false
namespace Go.Proofs.YtjmkodkechahdaaGreatDoor
open Go.RowKit
set_option maxRecDepth 100000

theorem updfile_wf {S : DS} (h : S.wf) (f : Int) (x : FileT) (hf : 0 ≤ f ∧ f < 16) (h1 : x.1.size ≤ 16777216) (h2 : x.2.size ≤ 16777216) : (DS.mk (updF S.files f x) S.queue S.lost S.down S.armed S.keep).wf := by
  refine ⟨fun g hg => ?_, fun g => ?_, fun g => ?_, h.q, h.nd, h.lost0, h.lost1, h.armed0, h.armed1, h.keep⟩
  · show updF _ _ _ g = _
    rw [updF, if_neg (by omega)]
    exact h.out g hg
  · show (updF _ _ _ g).1.size ≤ _
    unfold updF
    split
    · exact h1
    · exact h.now g
  · show (updF _ _ _ g).2.size ≤ _
    unfold updF
    split
    · exact h2
    · exact h.last g
theorem addq_wf {S : DS} (h : S.wf) (x : Int × Int) (hx : 0 ≤ x.1 ∧ x.1 < 16 ∧ 0 ≤ x.2 ∧ x.2 ≤ 262144) (hn : x ∉ S.queue) : (DS.mk S.files (S.queue ++ [x]) S.lost S.down S.armed S.keep).wf := by
  refine ⟨h.out, h.now, h.last, fun p hp => ?_, ?_, h.lost0, h.lost1, h.armed0, h.armed1, h.keep⟩
  · rw [List.mem_append, List.mem_singleton] at hp
    rcases hp with hp | rfl
    · exact h.q p hp
    · exact hx
  · rw [List.nodup_append]
    refine ⟨h.nd, by simp, fun y hy z hz => ?_⟩
    rw [List.mem_singleton] at hz
    subst hz
    rintro rfl
    exact hn hy
/-- d.files[f] = x, behind reads that made new blocks. -/
theorem DK.write1 {w W2 : World} {p : Nat} {S : DS} {L : DL} (h : DK w p S L) (hb : Below w.heap.size w W2) (f : Int) (x : FileT) (hf : 0 ≤ f ∧ f < 16) (h1 : x.1.size ≤ 16777216) (h2 : x.2.size ≤ 16777216) :
    ∃ w3, (Instr.mapUpdate 53 (.map (some L.bf)) (.int .i64 f) (.agg #[.string x.1, .string x.2])).run Tryz.prog W2 = .ok () w3 ∧ W2.grownBy w3 (some L.bf) ∧ w3.heap.size = W2.heap.size ∧ Upd p (DS.mk (updF S.files f x) S.queue S.lost S.down S.armed S.keep) L w w3 := by
  have hh := h.below hb
  obtain ⟨w3, r, hg, hz, m, hm, hS⟩ := hh.storeF f (by unfold inI64; omega) x
  have hl := fun i hi => hh.lt i hi
  refine ⟨w3, r, hg, hz, h.same ((Turn.below hb).trans (Turn.grown (F := fun i => i = L.bf) hg (fun k hk => by injection hk with hk; exact hk.symm)) (fun i hi => .inl (.inr (.inl hi)))) _ (updfile_wf h.wf f x hf h1 h2) ?_ ⟨m, hm, hS⟩ ?_ ?_ rfl⟩
  · exact (hg.block p (hl p (.inl rfl)) (fun e => h.pf (Option.some.inj e))).trans hh.box
  · exact hh.queue.turn (fun i hi hl => hg.block i hl (fun e => (h.qp i hi).2.1 (Option.some.inj e)))
  · exact hh.set.of_block (hg.block L.bs (hl _ (.inr (.inr (.inl rfl)))) (fun e => h.fs (Option.some.inj e).symm))
theorem setF_push (q : List (Int × Int)) (x : Int × Int) : (fun y => if y = x then some true else setF q y) = setF (q ++ [x]) := by
  funext y
  unfold setF
  by_cases hy : y = x
  · subst hy
    simp
  · simp [hy]
/-- One sector more is pending. -/
theorem DK.pushed {W w2 w3 w4 w5 : World} {p : Nat} {S : DS} {L : DL} (d : DK W p S L) (x : Int × Int) (hx : 0 ≤ x.1 ∧ x.1 < 16 ∧ 0 ≤ x.2 ∧ x.2 ≤ 262144) (hn : x ∉ S.queue) (A2 : Option Addr) (c2 : Nat) (hown2 : OwnL w2 0 93 2 secC A2 c2 (S.queue ++ [x]))
    (hg2 : W.grownBy w2 (slBlk L.qA)) (hat : slBlk A2 = slBlk L.qA ∨ slBlk A2 = some W.heap.size) (hw3 : w3 = w2.setCell ⟨p, 1, none⟩ (.slice A2 (S.queue ++ [x]).length c2)) (hg4 : w3.grownBy w4 (some L.bs)) (hg5 : w4.grownBy w5 (some L.bs))
    (hm5 : MapF w5 L.bs okS secV Value.bool (fun y => if y = x then some true else setF S.queue y)) : Upd p (DS.mk S.files (S.queue ++ [x]) S.lost S.down S.armed S.keep) L W w5 := by
  have hp := d.lt p (.inl rfl)
  have hbf := d.lt L.bf (.inr (.inl rfl))
  have hbs := d.lt L.bs (.inr (.inr (.inl rfl)))
  have hz2 := hg2.size
  have hz3 : w3.heap.size = w2.heap.size := by rw [hw3]; simp [World.setCell]
  have hz4 := hg4.size
  have hz5 := hg5.size
  have hA2 : ∀ i, slBlk A2 = some i → i ≠ p ∧ i ≠ L.bf ∧ i ≠ L.bs := by
    intro i hi
    rcases hat with h | h
    · exact d.qp i (by rw [← h, hi])
    · rw [hi] at h
      have := Option.some.inj h
      omega
  have o3 : ∀ i, i < w2.heap.size → i ≠ p → w3.heap[i]? = w2.heap[i]? := fun i hi hne => by rw [hw3]; exact heap_setCell_other _ ⟨p, 1, none⟩ _ _ hne
  have o5 : ∀ i, i < w3.heap.size → i ≠ L.bs → w5.heap[i]? = w3.heap[i]? := fun i hi hne =>
    (hg5.block i (by omega) (fun e => hne (Option.some.inj e))).trans (hg4.block i hi (fun e => hne (Option.some.inj e)))
  have hbox2 : w2.heap[p]? = some (.cells (diskV S L) 57 (0, 0)) := (hg2.block p hp (fun e => (d.qp p e.symm).1 rfl)).trans d.box
  have hbox3 : w3.heap[p]? = some (.cells (diskV (DS.mk S.files (S.queue ++ [x]) S.lost S.down S.armed S.keep) ⟨L.bf, L.bs, A2, c2, L.kA, L.kc⟩) 57 (0, 0)) := by rw [hw3]; exact heap_setCell_same _ _ _ _ _ _ hbox2
  have t2 : Turn (L.own p) W w2 := Turn.grown hg2 (fun k hk => .inr (.inr (.inr hk)))
  have t3 : Turn (L.own p) W w3 := by rw [hw3]; exact t2.set p 1 _ (.inl (.inl rfl))
  have t5 : Turn (L.own p) W w5 := (t3.trans (Turn.grown (F := fun i => i = L.bs) hg4 (fun k hk => (Option.some.inj hk).symm)) (fun i hi => .inl (.inr (.inr (.inl hi))))).trans (Turn.grown (F := fun i => i = L.bs) hg5 (fun k hk => (Option.some.inj hk).symm)) (fun i hi => .inl (.inr (.inr (.inl hi))))
  have hkp : ∀ i, slBlk L.kA = some i → i ≠ p ∧ i ≠ L.bf ∧ i ≠ L.bs ∧ slBlk A2 ≠ some i := by
    intro i hi
    have h1 := d.kp i hi
    have h2 := d.kl i hi
    refine ⟨fun e => h1 (.inl e), fun e => h1 (.inr (.inl e)), fun e => h1 (.inr (.inr (.inl e))), fun e => ?_⟩
    rcases hat with h | h
    · exact h1 (.inr (.inr (.inr (by rw [← h, e]))))
    · rw [e] at h
      have := Option.some.inj h
      omega
  obtain ⟨m, hm, hf⟩ := d.files
  refine ⟨⟨L.bf, L.bs, A2, c2, L.kA, L.kc⟩, ⟨addq_wf d.wf x hx hn, (o5 p (by omega) d.ps).trans hbox3, ⟨m, ?_, hf⟩, ?_, by rw [setF_push] at hm5; exact hm5, d.keep.turn (fun i hi hl => t5.block i hl (fun ho => d.kp i hi ho)) t5.size, d.pf, d.ps, d.fs, hA2, ?_, fun i hi => Nat.lt_of_lt_of_le (d.kl i hi) t5.size⟩, t5, ?_, fun i hi => .inl hi⟩
  · exact hm.of_block ((o5 _ (by omega) d.fs).trans ((o3 _ (by omega) (fun e => d.pf e.symm)).trans (hg2.block _ hbf (fun e => (d.qp _ e.symm).2.1 rfl))))
  · exact hown2.turn (fun i hi hl => (o5 i (by omega) (hA2 i hi).2.2).trans (o3 i hl (hA2 i hi).1))
  · rintro i hi (h | h | h | h)
    · exact (hkp i hi).1 h
    · exact (hkp i hi).2.1 h
    · exact (hkp i hi).2.2.1 h
    · exact (hkp i hi).2.2.2 h
  · rintro i (h | h | h | h)
    · exact .inl (.inl h)
    · exact .inl (.inr (.inl h))
    · exact .inl (.inr (.inr (.inl h)))
    · rcases hat with h1 | h1
      · exact .inl (.inr (.inr (.inr (by rw [← h1]; exact h))))
      · rw [show slBlk A2 = some i from h] at h1
        exact .inr (by rw [Option.some.inj h1]; exact Nat.le_refl _)
set_option maxHeartbeats 4000000 in
theorem dwrite_any (p : Nat) (S : DS) (L : DL) (w : World) (f a : Int) (s : ByteArray) (hf : inI64 f) (ha : inI64 a) (hs : s.size ≤ 1073741824) (h : DK w p S L) :
    Calls Tryz.prog 65 #[.pointer (some ⟨p, 0, none⟩), .int .i64 f, .int .i64 a, .string s] w fun e w' => e = .returned (.int .i64 (S.wcode f a s)) ∧ Upd p (S.wr f a s) L w w' := by
  have H := Lib.hid h
  have HMay := Lib.hid (dMay_any p S L w f h)
  unfold inI64 at ha
  clear h
  by_cases h0 : S.may f = 0
  · rw [h0] at HMay
    by_cases h1 : fitsB a s = true
    · have hc : S.wcode f a s = 0 := by
        have := fits_ok h1
        unfold DS.wcode
        rw [if_neg (by omega), if_neg (by omega), if_pos h1]
      have hr : S.wr f a s = S.wadd f a s := by unfold DS.wr; rw [if_pos hc]
      obtain ⟨q1, q2⟩ := fits_ok h1
      obtain ⟨_, m1, m2⟩ := may_ok h0
      rw [hc, hr]
      clear hc hr
      by_cases h2 : s.size = 0
      · obtain rfl := str_eq0 h2
        have hem := e0_empty
        have hw : S.wadd f a e0 = S := by unfold DS.wadd; rw [if_pos h2]
        rw [hw]
        clear hw
        go_enter Tryz.func65, Tryz.ntmps65
        go_wp2_with (go_at_call 37; refine HMay.out.mono ?_; rintro e w1 ⟨rfl, hw⟩; obtain rfl := hw.symm)
        all_goals first
          | (exfalso; omega)
          | (go_ret; exact ⟨rfl, Upd.refl H.out⟩)
      · have hem := str_ne0 h2
        have hl := H.out.look f hf
        have c0 := H.out.c0
        have hnow := H.out.wf.now f
        have hlast := H.out.wf.last f
        obtain ⟨x1, hx1⟩ : ∃ x, x = putB (S.files f).1 a.toNat s := ⟨_, rfl⟩
        have hsz1 := putB_size (S.files f).1 a.toNat s h2
        rw [← hx1] at hsz1
        have HP := Lib.hid (fun w => hx1 ▸ dput_any (S.files f).1 s a w q1 (by omega) (by omega))
        have HX1 := Lib.hid hx1
        clear hx1
        generalize hx0 : S.files f = x0 at *
        go_enter Tryz.func65, Tryz.ntmps65
        go_wp2_with (first
          | (go_at_call 37; refine HMay.out.mono ?_; rintro e w1 ⟨rfl, hw⟩; obtain rfl := hw.symm)
          | (go_at_call 67; refine (HP.out _).mono ?_; rintro e w1 ⟨rfl, hb1⟩; have hn1 := box_new hb1; have b0 := box_cell hn1 0 _ rfl; have b1 := box_cell hn1 1 _ rfl; have bz := fun j => box_free hn1 j; have HN1 := Lib.hid hn1; have HB1 := Lib.hid hb1; clear hn1 hb1))
        rename_i w1 _ _
        obtain ⟨W2, hW2⟩ : ∃ W2, W2 = w1.setCell ⟨w.heap.size, 0, none⟩ (.string x1) := ⟨_, rfl⟩
        have hbW : Below w.heap.size w W2.drew := by
          rw [hW2]
          exact ((((Below.refl w.heap.size w).alloc (Nat.le_refl _) _).trans (HB1.out.mono (by simp))).setCell (p := ⟨w.heap.size, 0, none⟩) (Nat.le_refl _) _).drew
        obtain ⟨w3, r3, hg3, hz3, hU3⟩ := H.out.write1 hbW f (x1, x0.2) ⟨m1, m2⟩ (by simp only; omega) hlast
        rw [← hW2]
        have hh2 : DK W2 p S L := (H.out.below hbW).turn (fun i _ => rfl) (Nat.le_refl _)
        have c0' := hh2.c0
        have hbx : W2.heap[w.heap.size]? = some (.cells #[.string x1, .string x0.2] 70 (0, 0)) := by rw [hW2]; exact heap_setCell_same _ _ _ _ _ _ HN1.out
        have e0' := box_cell hbx 0 _ rfl
        have e1' := box_cell hbx 1 _ rfl
        clear hh2 hbx hW2
        have hS1 : S.wadd f a s = ⟨updF S.files f (x1, x0.2), addQ S.queue f (a / 64) ((a + s.size - 1) / 64 - a / 64 + 1).toNat, S.lost, S.down, S.armed, S.keep⟩ := by
          unfold DS.wadd
          rw [if_neg h2, hx0, HX1.out]
        have HS1 := Lib.hid hS1
        have HU3 := Lib.hid hU3
        clear hS1 hU3 hz3 hg3 hbW
        go_region
        go_wp2
        have hlo : 0 ≤ a / 64 := by omega
        go_loopw [11, 12] (fun n _ wr => ∃ (k : Int) (q : List (Int × Int)), n = .int .i64 k ∧ a / 64 ≤ k ∧ k ≤ (a + s.size - 1) / 64 + 1 ∧ addQ q f k ((a + s.size - 1) / 64 - k + 1).toNat = addQ S.queue f (a / 64) ((a + s.size - 1) / 64 - a / 64 + 1).toNat ∧
          Upd p ⟨updF S.files f (x1, x0.2), q, S.lost, S.down, S.armed, S.keep⟩ L w wr) (fun n _ _ => ((a + s.size - 1) / 64 + 1 - intOf n).toNat)
        case atStart => exact ⟨a / 64, S.queue, rfl, Int.le_refl _, by omega, rfl, HU3.out⟩
        case round =>
          obtain ⟨k, q, rfl, hk1, hk2, hq, hU⟩ := hrel
          have HQ := Lib.hid hq
          clear hq
          by_cases hlt : k ≤ (a + s.size - 1) / 64
          · obtain ⟨L', d, tt, oo, kk⟩ := hU
            have D := Lib.hid d
            have TT := Lib.hid tt
            have hpl := box_lt d.box
            have hkf : okS (f, k) := by
              unfold okS inI64
              simp only
              omega
            have hstep : addQ (if (f, k) ∈ q then q else q ++ [(f, k)]) f (k + 1) ((a + s.size - 1) / 64 - (k + 1) + 1).toNat = addQ S.queue f (a / 64) ((a + s.size - 1) / 64 - a / 64 + 1).toNat := by
              rw [← HQ.out, show ((a + s.size - 1) / 64 - k + 1).toNat = ((a + s.size - 1) / 64 - (k + 1) + 1).toNat + 1 by omega, addQ]
            have HSt := Lib.hid hstep
            have hd1 : DK ((wr.alloc (.cells #[.int .i64 f, .int .i64 k] 93)).drew) p ⟨updF S.files f (x1, x0.2), q, S.lost, S.down, S.armed, S.keep⟩ L' := (d.below (((Below.refl _ _).alloc (Nat.le_refl _) _).drew))
            have D1 := Lib.hid hd1
            have g2 := hd1.c2
            have hlk := hd1.lookS (f, k) hkf
            clear d tt hstep hd1 r3
            by_cases hin : (f, k) ∈ q
            · rw [if_pos hin] at HSt
              rw [show decide ((f, k) ∈ (DS.mk (updF S.files f (x1, x0.2)) q S.lost S.down S.armed S.keep).queue) = true from by simpa using hin] at hlk
              go_wp2_with fail
              go_region
              go_wp2
              go_roundw
              case rel => exact ⟨k + 1, q, by go_num, by omega, by omega, HSt.out, L', D1.out, (TT.out.alloc _).drew, oo, kk⟩
              case measure => simp [intOf]; omega
            · rw [if_neg hin] at HSt
              rw [show decide ((f, k) ∈ (DS.mk (updF S.files f (x1, x0.2)) q S.lost S.down S.armed S.keep).queue) = false from by simpa using hin] at hlk
              go_wp2_with fail
              go_region
              go_wp2_with fail
              obtain ⟨W18, hW18⟩ : ∃ W, W = ((wr.alloc (.cells #[.int .i64 f, .int .i64 k] 93)).drew).drew := ⟨_, rfl⟩
              have D18 : Hid (DK W18 p ⟨updF S.files f (x1, x0.2), q, S.lost, S.down, S.armed, S.keep⟩ L') := Lib.hid (by rw [hW18]; exact D1.out.turn (fun i _ => rfl) (Nat.le_refl _))
              have X18 : Hid (W18.heap[wr.heap.size]? = some (.cells #[.int .i64 f, .int .i64 k] 93 (0, 0))) := Lib.hid (by rw [hW18]; exact (MapKept.heap_alloc wr _).1)
              have hz18 : W18.heap.size = wr.heap.size + 1 := by rw [hW18]; simp
              have s1c := D18.out.c1
              have hps : p < W18.heap.size := by omega
              refine wp_region_held_drew (S := fun wq => wq.cell? ⟨p, 2, none⟩ = some (.map (some L'.bs)) ∧ wq.cell? ⟨wr.heap.size, 0, none⟩ = some (.int .i64 f) ∧ wq.cell? ⟨wr.heap.size, 1, none⟩ = some (.int .i64 k)) (by kernel_rfl) ?_ (fun hHeld => ?_)
              · rw [← hW18]
                exact ⟨D18.out.c2, box_cell X18.out 0 _ rfl, box_cell X18.out 1 _ rfl⟩
              rw [← hW18] at hHeld ⊢
              have T18 : Hid (Turn (L.own p) w W18) := Lib.hid (by rw [hW18]; exact ((TT.out.alloc _).drew).drew)
              clear hW18
              refine wpAnyH_take (i := 0) (v := ?_) rfl (by kernel_rfl) (by kernel_rfl) (by kernel_rfl) (fun _ _ _ h => h) (Or.inl ⟨by rfl, ?_⟩) (by assumption) ?_
              rotate_left
              · rintro wq ⟨s2, s0, s1⟩
                go_simp
                try with_reducible rfl
              simp only [Act.put, List.setIfInBounds_toArray, List.set_cons_zero, List.set_cons_succ, List.getElem_toArray, List.getElem_cons_zero]
              refine wpAnyH_take (i := 1) (v := ?_) rfl (by kernel_rfl) (by kernel_rfl) (by kernel_rfl) (fun _ _ _ h => h) (Or.inl ⟨by rfl, ?_⟩) (by assumption) ?_
              rotate_left
              · rintro wq ⟨s2, s0, s1⟩
                go_simp
                try with_reducible rfl
              simp only [Act.put, List.setIfInBounds_toArray, List.set_cons_zero, List.set_cons_succ, List.getElem_toArray, List.getElem_cons_zero, List.getElem_cons_succ]
              refine wpAnyH_take (i := 2) (v := ?_) rfl (by kernel_rfl) (by kernel_rfl) (by kernel_rfl) (fun _ _ _ h => h) (Or.inl ⟨by rfl, ?_⟩) (by assumption) ?_
              rotate_left
              · rintro wq ⟨s2, s0, s1⟩
                go_simp
                try with_reducible rfl
              simp only [Act.put, List.setIfInBounds_toArray, List.set_cons_zero, List.set_cons_succ, List.getElem_toArray, List.getElem_cons_zero, List.getElem_cons_succ]
              refine wpAnyH_take (i := 3) (v := ?_) rfl (by kernel_rfl) (by kernel_rfl) (by kernel_rfl) (fun _ _ _ h => h) (Or.inl ⟨by rfl, ?_⟩) (by assumption) ?_
              rotate_left
              · rintro wq ⟨s2, s0, s1⟩
                go_simp
                try with_reducible rfl
              simp only [Act.put, List.setIfInBounds_toArray, List.set_cons_zero, List.set_cons_succ, List.getElem_toArray, List.getElem_cons_zero, List.getElem_cons_succ]
              refine wpAnyH_take (i := 4) (v := ?_) rfl (by kernel_rfl) (by kernel_rfl) (by kernel_rfl) (fun _ _ _ h => h) (Or.inl ⟨by rfl, ?_⟩) (by assumption) ?_
              rotate_left
              · rintro wq ⟨s2, s0, s1⟩
                go_simp
                try with_reducible rfl
              simp only [Act.put, List.setIfInBounds_toArray, List.set_cons_zero, List.set_cons_succ, List.getElem_toArray, List.getElem_cons_zero, List.getElem_cons_succ]
              refine wpAnyH_take (i := 5) (v := ?_) rfl (by kernel_rfl) (by kernel_rfl) (by kernel_rfl) (fun _ _ _ h => h) (Or.inl ⟨by rfl, ?_⟩) (by assumption) ?_
              rotate_left
              · rintro wq ⟨s2, s0, s1⟩
                go_simp
                try with_reducible rfl
              simp only [Act.put, List.setIfInBounds_toArray, List.set_cons_zero, List.set_cons_succ, List.getElem_toArray, List.getElem_cons_zero, List.getElem_cons_succ]
              refine wpAnyH_take (i := 6) (v := ?_) rfl (by kernel_rfl) (by kernel_rfl) (by kernel_rfl) (fun _ _ _ h => h) (Or.inl ⟨by rfl, ?_⟩) (by assumption) ?_
              rotate_left
              · rintro wq ⟨s2, s0, s1⟩
                go_simp
                try with_reducible rfl
              simp only [Act.put, List.setIfInBounds_toArray, List.set_cons_zero, List.set_cons_succ, List.getElem_toArray, List.getElem_cons_zero, List.getElem_cons_succ]
              refine wpAnyH_take (i := 7) (v := ?_) rfl (by kernel_rfl) (by kernel_rfl) (by kernel_rfl) (fun _ _ _ h => h) (Or.inl ⟨by rfl, ?_⟩) (by assumption) ?_
              rotate_left
              · rintro wq ⟨s2, s0, s1⟩
                go_simp
                try with_reducible rfl
              simp only [Act.put, List.setIfInBounds_toArray, List.set_cons_zero, List.set_cons_succ, List.getElem_toArray, List.getElem_cons_zero, List.getElem_cons_succ]
              refine wpAnyH_take (i := 8) (v := ?_) rfl (by kernel_rfl) (by kernel_rfl) (by kernel_rfl) (fun _ _ _ h => h) (Or.inl ⟨by rfl, ?_⟩) (by assumption) ?_
              rotate_left
              · rintro wq ⟨s2, s0, s1⟩
                go_simp
                try with_reducible rfl
              simp only [Act.put, List.setIfInBounds_toArray, List.set_cons_zero, List.set_cons_succ, List.getElem_toArray, List.getElem_cons_zero, List.getElem_cons_succ]
              refine wpAnyH_take (i := 10) (v := ?_) rfl (by kernel_rfl) (by kernel_rfl) (by kernel_rfl) (fun _ _ _ h => h) (Or.inl ⟨by rfl, ?_⟩) (by assumption) ?_
              rotate_left
              · rintro wq ⟨s2, s0, s1⟩
                go_simp
                try with_reducible rfl
              simp only [Act.put, List.setIfInBounds_toArray, List.set_cons_zero, List.set_cons_succ, List.getElem_toArray, List.getElem_cons_zero, List.getElem_cons_succ]
              refine wpAnyH_ready (rs := [9, 11]) (by kernel_rfl) (by simp) ?_
              refine AllReadyH.cons rfl (fun K hK => ?_) (AllReadyH.cons rfl (fun K hK => ?_) AllReadyH.nil)
              · skip
                go_simp
                refine hK.out _ _ hHeld ?_
                clear hK K hHeld
                intro hHeld
                refine wpAnyH_ready (rs := [11]) (by kernel_rfl) (by simp) ?_
                refine AllReadyH.cons rfl (fun K hK => ?_) AllReadyH.nil
                go_simp
                obtain ⟨W19, hW19⟩ : ∃ W, W = W18.alloc (.cells #[.int .i64 f, .int .i64 k] 93) := ⟨_, rfl⟩
                have hb19 : Below W18.heap.size W18 W19 := by rw [hW19]; exact (Below.refl _ _).alloc (Nat.le_refl _) _
                have D19 := Lib.hid (D18.out.below hb19)
                have T19 := Lib.hid (T18.out.trans (Turn.below (F := fun _ => False) hb19) (fun _ h => h.elim))
                have X19 := Lib.hid ((hb19.block wr.heap.size (by omega)).trans X18.out)
                have hz19 : W19.heap.size = W18.heap.size + 1 := by rw [hW19]; simp
                rw [← hW19]
                clear hb19
                refine hK.out _ _ ⟨D19.out.c2, box_cell X19.out 0 _ rfl, box_cell X19.out 1 _ rfl⟩ ?_
                clear hK K hHeld
                intro hHeld
                have HRd : Hid (RdL 2 secC W19 (W18.heap.size + 1) (some ⟨wr.heap.size + 1, 0, none⟩) [(f, k)]) := Lib.hid (by rw [hW19]; exact RdL.one W18 (f, k) _ _ rfl _ hz18.symm)
                clear hW19
                refine wpAnyH_ready (rs := [12]) (by kernel_rfl) (by simp) ?_
                refine AllReadyH.cons rfl (fun K hK => ?_) AllReadyH.nil
                refine step_append_l rfl (.tmp 84) (.tmp 86) rfl slSec secLay 0 q [(f, k)] rfl rfl D19.out.queue rfl rfl ⟨_, HRd.out⟩ (by have := D19.out.wf.qlen; simp only at this; simp; omega) (Nat.zero_le _) ?_
                intro A2 c2 w2 hown2 hg2 hbl2 hat2
                simp only [own_blk] at hg2 hat2
                have HO2 := Lib.hid hown2
                have HG2 := Lib.hid hg2
                have HA2 := Lib.hid hat2
                clear hown2 hbl2 hat2
                have hp19 := D19.out.lt p (.inl rfl)
                have hbs19 := D19.out.lt L'.bs (.inr (.inr (.inl rfl)))
                have hz2 := hg2.size
                have hq19 : ∀ i, slBlk L'.qA = some i → i ≠ wr.heap.size := fun i hi e => by
                  have := (D.out.queue.blk_lt hi).2
                  omega
                have B2 := Lib.hid ((hg2.block p hp19 (fun e => (D19.out.qp p e.symm).1 rfl)).trans D19.out.box)
                have X2 := Lib.hid ((hg2.block wr.heap.size (by omega) (fun e => hq19 wr.heap.size e.symm rfl)).trans X19.out)
                have s1c2 : w2.cell? ⟨p, 1, none⟩ = some (.slice L'.qA q.length L'.qc) := box_cell B2.out 1 _ rfl
                have s1z2 := fun j => box_free B2.out j
                refine hK.out _ _ ⟨box_cell B2.out 2 _ rfl, box_cell X2.out 0 _ rfl, box_cell X2.out 1 _ rfl⟩ ?_
                clear hK K hHeld hg2
                intro hHeld
                refine wpAnyH_take (i := 13) (v := ?_) rfl (by kernel_rfl) (by kernel_rfl) (by kernel_rfl) (fun _ _ _ h => h) (Or.inl ⟨by rfl, ?_⟩) (by assumption) ?_
                rotate_left
                · rintro wq ⟨s2, s0, s1⟩
                  go_simp
                  try with_reducible rfl
                simp only [Act.put, List.setIfInBounds_toArray, List.set_cons_zero, List.set_cons_succ, List.getElem_toArray, List.getElem_cons_zero, List.getElem_cons_succ]
                refine wpAnyH_take (i := 14) (v := ?_) rfl (by kernel_rfl) (by kernel_rfl) (by kernel_rfl) (fun _ _ _ h => h) (Or.inl ⟨by rfl, ?_⟩) (by assumption) ?_
                rotate_left
                · rintro wq ⟨s2, s0, s1⟩
                  go_simp
                  try with_reducible rfl
                simp only [Act.put, List.setIfInBounds_toArray, List.set_cons_zero, List.set_cons_succ, List.getElem_toArray, List.getElem_cons_zero, List.getElem_cons_succ]
                refine wpAnyH_ready (rs := [15]) (by kernel_rfl) (by simp) ?_
                refine AllReadyH.cons rfl (fun K hK => ?_) AllReadyH.nil
                go_simp
                obtain ⟨w3, hw3⟩ : ∃ W, W = w2.setCell ⟨p, 1, none⟩ (.slice A2 (q.length + 1) c2) := ⟨_, rfl⟩
                have HW3 : Hid (w3 = w2.setCell ⟨p, 1, none⟩ (.slice A2 (q ++ [(f, k)]).length c2)) := Lib.hid (by rw [hw3]; simp)
                have hz3 : w3.heap.size = w2.heap.size := by rw [hw3]; simp [World.setCell]
                have o3 : Hid (∀ i, i ≠ p → w3.heap[i]? = w2.heap[i]?) := Lib.hid (fun i hi => by rw [hw3]; exact heap_setCell_other _ ⟨p, 1, none⟩ _ _ hi)
                have b3 := heap_setCell_same w2 p 1 _ _ (.slice A2 (q.length + 1) c2) B2.out
                rw [← hw3] at b3
                have B3 := Lib.hid b3
                have X3 := Lib.hid ((o3.out wr.heap.size (by omega)).trans X2.out)
                have M3 := Lib.hid ((D19.out.set.of_block (HG2.out.block L'.bs hbs19 (fun e => (D19.out.qp L'.bs e.symm).2.2 rfl))).of_block (o3.out L'.bs (fun e => D19.out.ps e.symm)))
                rw [← hw3]
                clear hw3 s1c2 s1z2 b3
                refine hK.out _ _ ⟨box_cell B3.out 2 _ rfl, box_cell X3.out 0 _ rfl, box_cell X3.out 1 _ rfl⟩ ?_
                clear hK K hHeld
                intro hHeld
                obtain ⟨cc, w4, rE, hg4, hz4, hnx⟩ := M3.out.entry keyS Tryz.underlying54 zeroBool (f, k) hkf (by unfold setF; rw [if_neg hin])
                obtain ⟨w5, rS, hm5, hg5, hz5⟩ := hnx w4 true rfl
                simp only [secV] at rE
                clear hnx
                have hps4 := D19.out.ps
                have B4 := Lib.hid ((hg4.block p (by omega) (fun e => hps4 (Option.some.inj e))).trans B3.out)
                have hbsr : L'.bs ≠ wr.heap.size := fun e => by have := D.out.lt L'.bs (.inr (.inr (.inl rfl))); omega
                have X4 := Lib.hid ((hg4.block wr.heap.size (by omega) (fun e => hbsr (Option.some.inj e).symm)).trans X3.out)
                have HU5 := Lib.hid (D19.out.pushed (f, k) ⟨m1, m2, by omega, by simp only; omega⟩ hin A2 c2 HO2.out HG2.out HA2.out HW3.out hg4 hg5 hm5)
                have B5 := Lib.hid ((hg5.block p (by omega) (fun e => hps4 (Option.some.inj e))).trans B4.out)
                have X5 := Lib.hid ((hg5.block wr.heap.size (by omega) (fun e => hbsr (Option.some.inj e).symm)).trans X4.out)
                clear hg4 hg5 hm5
                refine wpAnyH_ready (rs := [16]) (by kernel_rfl) (by simp) ?_
                refine AllReadyH.cons rfl (fun K hK => ?_) AllReadyH.nil
                go_simp
                refine hK.out _ _ ⟨box_cell B4.out 2 _ rfl, box_cell X4.out 0 _ rfl, box_cell X4.out 1 _ rfl⟩ ?_
                clear hK K hHeld
                intro hHeld
                refine wpAnyH_take (i := 17) (v := ?_) rfl (by kernel_rfl) (by kernel_rfl) (by kernel_rfl) (fun _ _ _ h => h) (Or.inl ⟨by rfl, ?_⟩) (by assumption) ?_
                rotate_left
                · rintro wq ⟨s2, s0, s1⟩
                  go_simp
                  try with_reducible rfl
                simp only [Act.put, List.setIfInBounds_toArray, List.set_cons_zero, List.set_cons_succ, List.getElem_toArray, List.getElem_cons_zero, List.getElem_cons_succ]
                refine wpAnyH_ready (rs := [18]) (by kernel_rfl) (by simp) ?_
                refine AllReadyH.cons rfl (fun K hK => ?_) AllReadyH.nil
                go_simp
                refine hK.out _ _ ⟨box_cell B5.out 2 _ rfl, box_cell X5.out 0 _ rfl, box_cell X5.out 1 _ rfl⟩ ?_
                clear hK K hHeld
                intro hHeld
                refine wpAnyH_done (by kernel_rfl) ?_ _
                clear hHeld
                go_wp2
                go_roundw
                case rel => exact ⟨k + 1, q ++ [(f, k)], by go_num, by omega, by omega, HSt.out, Upd.trans T19.out oo kk HU5.out⟩
                case measure => simp [intOf]; omega
              · skip
                go_simp
                obtain ⟨W19, hW19⟩ : ∃ W, W = W18.alloc (.cells #[.int .i64 f, .int .i64 k] 93) := ⟨_, rfl⟩
                have hb19 : Below W18.heap.size W18 W19 := by rw [hW19]; exact (Below.refl _ _).alloc (Nat.le_refl _) _
                have D19 := Lib.hid (D18.out.below hb19)
                have T19 := Lib.hid (T18.out.trans (Turn.below (F := fun _ => False) hb19) (fun _ h => h.elim))
                have X19 := Lib.hid ((hb19.block wr.heap.size (by omega)).trans X18.out)
                have hz19 : W19.heap.size = W18.heap.size + 1 := by rw [hW19]; simp
                rw [← hW19]
                clear hb19
                refine hK.out _ _ ⟨D19.out.c2, box_cell X19.out 0 _ rfl, box_cell X19.out 1 _ rfl⟩ ?_
                clear hK K hHeld
                intro hHeld
                have HRd : Hid (RdL 2 secC W19 (W18.heap.size + 1) (some ⟨wr.heap.size + 1, 0, none⟩) [(f, k)]) := Lib.hid (by rw [hW19]; exact RdL.one W18 (f, k) _ _ rfl _ hz18.symm)
                clear hW19
                have s1c19 := D19.out.c1
                refine wpAnyH_ready (rs := [9]) (by kernel_rfl) (by simp) ?_
                refine AllReadyH.cons rfl (fun K hK => ?_) AllReadyH.nil
                go_simp
                refine hK.out _ _ hHeld ?_
                clear hK K hHeld
                intro hHeld
                clear s1c19
                refine wpAnyH_ready (rs := [12]) (by kernel_rfl) (by simp) ?_
                refine AllReadyH.cons rfl (fun K hK => ?_) AllReadyH.nil
                refine step_append_l rfl (.tmp 84) (.tmp 86) rfl slSec secLay 0 q [(f, k)] rfl rfl D19.out.queue rfl rfl ⟨_, HRd.out⟩ (by have := D19.out.wf.qlen; simp only at this; simp; omega) (Nat.zero_le _) ?_
                intro A2 c2 w2 hown2 hg2 hbl2 hat2
                simp only [own_blk] at hg2 hat2
                have HO2 := Lib.hid hown2
                have HG2 := Lib.hid hg2
                have HA2 := Lib.hid hat2
                clear hown2 hbl2 hat2
                have hp19 := D19.out.lt p (.inl rfl)
                have hbs19 := D19.out.lt L'.bs (.inr (.inr (.inl rfl)))
                have hz2 := hg2.size
                have hq19 : ∀ i, slBlk L'.qA = some i → i ≠ wr.heap.size := fun i hi e => by
                  have := (D.out.queue.blk_lt hi).2
                  omega
                have B2 := Lib.hid ((hg2.block p hp19 (fun e => (D19.out.qp p e.symm).1 rfl)).trans D19.out.box)
                have X2 := Lib.hid ((hg2.block wr.heap.size (by omega) (fun e => hq19 wr.heap.size e.symm rfl)).trans X19.out)
                have s1c2 : w2.cell? ⟨p, 1, none⟩ = some (.slice L'.qA q.length L'.qc) := box_cell B2.out 1 _ rfl
                have s1z2 := fun j => box_free B2.out j
                refine hK.out _ _ ⟨box_cell B2.out 2 _ rfl, box_cell X2.out 0 _ rfl, box_cell X2.out 1 _ rfl⟩ ?_
                clear hK K hHeld hg2
                intro hHeld
                refine wpAnyH_take (i := 13) (v := ?_) rfl (by kernel_rfl) (by kernel_rfl) (by kernel_rfl) (fun _ _ _ h => h) (Or.inl ⟨by rfl, ?_⟩) (by assumption) ?_
                rotate_left
                · rintro wq ⟨s2, s0, s1⟩
                  go_simp
                  try with_reducible rfl
                simp only [Act.put, List.setIfInBounds_toArray, List.set_cons_zero, List.set_cons_succ, List.getElem_toArray, List.getElem_cons_zero, List.getElem_cons_succ]
                refine wpAnyH_take (i := 14) (v := ?_) rfl (by kernel_rfl) (by kernel_rfl) (by kernel_rfl) (fun _ _ _ h => h) (Or.inl ⟨by rfl, ?_⟩) (by assumption) ?_
                rotate_left
                · rintro wq ⟨s2, s0, s1⟩
                  go_simp
                  try with_reducible rfl
                simp only [Act.put, List.setIfInBounds_toArray, List.set_cons_zero, List.set_cons_succ, List.getElem_toArray, List.getElem_cons_zero, List.getElem_cons_succ]
                refine wpAnyH_ready (rs := [15]) (by kernel_rfl) (by simp) ?_
                refine AllReadyH.cons rfl (fun K hK => ?_) AllReadyH.nil
                go_simp
                obtain ⟨w3, hw3⟩ : ∃ W, W = w2.setCell ⟨p, 1, none⟩ (.slice A2 (q.length + 1) c2) := ⟨_, rfl⟩
                have HW3 : Hid (w3 = w2.setCell ⟨p, 1, none⟩ (.slice A2 (q ++ [(f, k)]).length c2)) := Lib.hid (by rw [hw3]; simp)
                have hz3 : w3.heap.size = w2.heap.size := by rw [hw3]; simp [World.setCell]
                have o3 : Hid (∀ i, i ≠ p → w3.heap[i]? = w2.heap[i]?) := Lib.hid (fun i hi => by rw [hw3]; exact heap_setCell_other _ ⟨p, 1, none⟩ _ _ hi)
                have b3 := heap_setCell_same w2 p 1 _ _ (.slice A2 (q.length + 1) c2) B2.out
                rw [← hw3] at b3
                have B3 := Lib.hid b3
                have X3 := Lib.hid ((o3.out wr.heap.size (by omega)).trans X2.out)
                have M3 := Lib.hid ((D19.out.set.of_block (HG2.out.block L'.bs hbs19 (fun e => (D19.out.qp L'.bs e.symm).2.2 rfl))).of_block (o3.out L'.bs (fun e => D19.out.ps e.symm)))
                rw [← hw3]
                clear hw3 s1c2 s1z2 b3
                refine hK.out _ _ ⟨box_cell B3.out 2 _ rfl, box_cell X3.out 0 _ rfl, box_cell X3.out 1 _ rfl⟩ ?_
                clear hK K hHeld
                intro hHeld
                obtain ⟨cc, w4, rE, hg4, hz4, hnx⟩ := M3.out.entry keyS Tryz.underlying54 zeroBool (f, k) hkf (by unfold setF; rw [if_neg hin])
                obtain ⟨w5, rS, hm5, hg5, hz5⟩ := hnx w4 true rfl
                simp only [secV] at rE
                clear hnx
                have hps4 := D19.out.ps
                have B4 := Lib.hid ((hg4.block p (by omega) (fun e => hps4 (Option.some.inj e))).trans B3.out)
                have hbsr : L'.bs ≠ wr.heap.size := fun e => by have := D.out.lt L'.bs (.inr (.inr (.inl rfl))); omega
                have X4 := Lib.hid ((hg4.block wr.heap.size (by omega) (fun e => hbsr (Option.some.inj e).symm)).trans X3.out)
                have HU5 := Lib.hid (D19.out.pushed (f, k) ⟨m1, m2, by omega, by simp only; omega⟩ hin A2 c2 HO2.out HG2.out HA2.out HW3.out hg4 hg5 hm5)
                have B5 := Lib.hid ((hg5.block p (by omega) (fun e => hps4 (Option.some.inj e))).trans B4.out)
                have X5 := Lib.hid ((hg5.block wr.heap.size (by omega) (fun e => hbsr (Option.some.inj e).symm)).trans X4.out)
                clear hg4 hg5 hm5
                refine wpAnyH_ready (rs := [16]) (by kernel_rfl) (by simp) ?_
                refine AllReadyH.cons rfl (fun K hK => ?_) AllReadyH.nil
                go_simp
                refine hK.out _ _ ⟨box_cell B4.out 2 _ rfl, box_cell X4.out 0 _ rfl, box_cell X4.out 1 _ rfl⟩ ?_
                clear hK K hHeld
                intro hHeld
                refine wpAnyH_take (i := 17) (v := ?_) rfl (by kernel_rfl) (by kernel_rfl) (by kernel_rfl) (fun _ _ _ h => h) (Or.inl ⟨by rfl, ?_⟩) (by assumption) ?_
                rotate_left
                · rintro wq ⟨s2, s0, s1⟩
                  go_simp
                  try with_reducible rfl
                simp only [Act.put, List.setIfInBounds_toArray, List.set_cons_zero, List.set_cons_succ, List.getElem_toArray, List.getElem_cons_zero, List.getElem_cons_succ]
                refine wpAnyH_ready (rs := [18]) (by kernel_rfl) (by simp) ?_
                refine AllReadyH.cons rfl (fun K hK => ?_) AllReadyH.nil
                go_simp
                refine hK.out _ _ ⟨box_cell B5.out 2 _ rfl, box_cell X5.out 0 _ rfl, box_cell X5.out 1 _ rfl⟩ ?_
                clear hK K hHeld
                intro hHeld
                refine wpAnyH_done (by kernel_rfl) ?_ _
                clear hHeld
                go_wp2
                go_roundw
                case rel => exact ⟨k + 1, q ++ [(f, k)], by go_num, by omega, by omega, HSt.out, Upd.trans T19.out oo kk HU5.out⟩
                case measure => simp [intOf]; omega
          · go_wp2
            go_ret
            have hk : ((a + s.size - 1) / 64 - k + 1).toNat = 0 := by omega
            have hq := HQ.out
            rw [hk, addQ] at hq
            rw [HS1.out, ← hq]
            exact ⟨rfl, hU⟩
    · by_cases h2 : a < 0
      · have hc : S.wcode f a s = 1 := by unfold DS.wcode; rw [if_neg (by omega), if_pos h2]
        have hr : S.wr f a s = S := by unfold DS.wr; rw [if_neg (by rw [hc]; omega)]
        rw [hr, hc]
        clear hc hr
        go_enter Tryz.func65, Tryz.ntmps65
        go_wp2_with (go_at_call 37; refine HMay.out.mono ?_; rintro e w1 ⟨rfl, hw⟩; obtain rfl := hw.symm)
        go_ret
        exact ⟨rfl, Upd.refl H.out⟩
      · have hc : S.wcode f a s = 6 := by unfold DS.wcode; rw [if_neg (by omega), if_neg h2, if_neg h1]
        have hr : S.wr f a s = S := by unfold DS.wr; rw [if_neg (by rw [hc]; omega)]
        rw [hr, hc]
        have h3 : ¬ (a ≤ 16777216 ∧ a + s.size ≤ 16777216) := by
          intro h
          refine h1 ?_
          unfold fitsB
          simp
          omega
        clear hc hr h1
        go_enter Tryz.func65, Tryz.ntmps65
        go_wp2_with (go_at_call 37; refine HMay.out.mono ?_; rintro e w1 ⟨rfl, hw⟩; obtain rfl := hw.symm)
        all_goals first
          | (exfalso; omega)
          | (go_ret; exact ⟨rfl, Upd.refl H.out⟩)
  · have hc : S.wcode f a s = S.may f := by unfold DS.wcode; rw [if_pos h0]
    have hr : S.wr f a s = S := by unfold DS.wr; rw [if_neg (by rw [hc]; exact h0)]
    rw [hr, hc]
    have h2 : (S.may f == 0) = false := by simpa using h0
    clear hc hr h0
    generalize S.may f = c at *
    go_enter Tryz.func65, Tryz.ntmps65
    go_wp2_with (go_at_call 37; refine HMay.out.mono ?_; rintro e w1 ⟨rfl, hw⟩; obtain rfl := hw.symm)
    go_ret
    exact ⟨rfl, Upd.refl H.out⟩
end Go.Proofs.YtjmkodkechahdaaGreatDoor
