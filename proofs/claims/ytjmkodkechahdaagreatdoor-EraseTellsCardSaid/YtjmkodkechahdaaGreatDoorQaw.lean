/- Contracts and plain laws, joined: DkRG, DkRH, DkRI. -/
import Derived.Test.YtjmkodkechahdaaGreatDoorQav
import Derived.Test.YtjmkodkechahdaaGreatDoorQas
/- Contract of Crash of a disk of the reference. -/
set_option linter.unusedSimpArgs false
set_option linter.unusedVariables false
namespace Go.Proofs.YtjmkodkechahdaaGreatDoor
open Go.RowKit
set_option maxRecDepth 100000

def lastR (x : RFile) : RFile := (x.1, (x.2.2, x.2.2))
def lasts (l : List RFile) : List RFile := l.map lastR
theorem lasts_len (l : List RFile) : (lasts l).length = l.length := by unfold lasts; rw [List.length_map]
theorem rfun_last (l : List RFile) : rfun (lasts l) = lastF (rfun l) := by
  funext f
  have h : ((fun x : RFile => x.1 == f) ∘ lastR) = (fun x => x.1 == f) := rfl
  show rfun (l.map lastR) f = ((rfun l f).2, (rfun l f).2)
  unfold rfun
  rw [List.find?_map, h]
  generalize l.find? (fun x => x.1 == f) = o
  cases o <;> rfl
theorem RFok.last {l : List RFile} (h : RFok l) : RFok (lasts l) := by
  refine ⟨?_, fun x hx => ?_⟩
  · unfold lasts
    rw [List.map_map]
    exact h.nd
  · obtain ⟨y, hy, rfl⟩ := List.mem_map.1 hx
    exact h.r y hy
theorem last_step (l : List RFile) (k : Nat) (hk : k < l.length) : lasts (l.take (k + 1)) = lasts (l.take k) ++ [lastR l[k]] := by
  unfold lasts
  rw [List.take_succ_eq_append_getElem hk, List.map_append]
  rfl
set_option maxRecDepth 100000 in
set_option maxHeartbeats 4000000 in
theorem rCrash_any (p : Nat) (S : DS) (L : RL) (w : World) (keep : List Int) (A : Option Addr) (c : Nat) (hr : RdL 1 intC w w.heap.size A keep) (hm : keep.length ≤ 4194320) (hA : keep ≠ [] → ∀ i, slBlk A = some i → ¬ L.own p i) (h : RK w p S L) :
    Calls Tryz.prog 35 #[.pointer (some ⟨p, 0, none⟩), .slice A keep.length c] w fun e w' => e = .returned (.tuple #[]) ∧ RUpd p (S.crash keep) L w w' := by
  have H := Lib.hid h
  have HR := Lib.hid hr
  have c3 := h.c3
  have c4 := h.c4
  have cz := fun j => box_free h.box j
  have hql := h.wf.qlen
  clear h hr
  cases hd : S.down
  · rw [hd] at c3
    go_enter Tryz.func35, Tryz.ntmps35
    go_wp2_with fail
    obtain ⟨W1, hW1⟩ : ∃ W, W = (w.setCell ⟨p, 3, none⟩ (.bool true)).setCell ⟨p, 4, none⟩ (.int .i64 0) := ⟨_, rfl⟩
    have hb1 : W1.heap[p]? = some (.cells (refV ⟨S.files, S.queue, S.lost, true, 0, S.keep⟩ L) 61 (0, 0)) := by
      have h1 := heap_setCell_same _ p 4 _ _ (.int .i64 0) (heap_setCell_same _ p 3 _ _ (.bool true) H.out.box)
      rw [← hW1] at h1
      exact h1
    have hg1 : w.grownBy W1 (some p) := by
      rw [hW1]
      exact (grown_set w p 3 (.bool true)).andThen (grown_set _ p 4 _) (fun j h => .inr h.symm.symm)
    have hw1 : (DS.mk S.files S.queue S.lost true 0 S.keep).wf := ⟨H.out.wf.out, H.out.wf.now, H.out.wf.last, H.out.wf.q, H.out.wf.nd, H.out.wf.lost0, H.out.wf.lost1, by simp, by simp [inI64], H.out.wf.keep⟩
    have U1 := Lib.hid (RK.scal H.out S.lost true 0 hw1 hb1 hg1)
    rw [← hW1]
    have HNil := Lib.hid (survQ_nil (S.queue.drop 0) 0)
    clear hW1 hb1 hg1 cz c3 c4 hw1
    go_loopw [4] (fun i wr => ∃ (k : Nat) (F : Int → FileT), k ≤ S.queue.length ∧ i = .int .i64 k ∧ survQ keep k (S.queue.drop k) F = survQ keep 0 S.queue S.files ∧ RUpd p ⟨F, S.queue, S.lost, true, 0, S.keep⟩ L w wr) (fun i _ => S.queue.length - (intOf i).toNat)
    case atStart => exact ⟨0, S.files, Nat.zero_le _, rfl, rfl, U1.out⟩
    case round =>
      clear U1
      obtain ⟨k, F, hk, rfl, hs, hu⟩ := hrel
      have HS := Lib.hid hs
      have HU := Lib.hid hu
      obtain ⟨L', d, tt, oo, kk⟩ := hu
      have D := Lib.hid d
      have TT := Lib.hid tt
      have c1 := d.c1
      have hpl := box_lt d.box
      simp only at c1
      clear hs tt
      by_cases hlt : k < S.queue.length ∧ 0 < keep.length
      · obtain ⟨hlt, hk0⟩ := hlt
        obtain ⟨g, off, hqA, hg, e0', e1'⟩ := (d.queue.rd secLay).sec hlt
        have hqa : L'.qA = some ⟨g, off, none⟩ := hqA
        rw [hqa] at c1
        have hqk := D.out.wf.q S.queue[k] (List.getElem_mem hlt)
        have hst := survQ_step keep S.queue k hlt F
        rw [HS.out] at hst
        have HSt := Lib.hid hst
        have hmod : k % keep.length < keep.length := Nat.mod_lt _ hk0
        obtain ⟨b1, o1, hA1, hb1, hcell⟩ := (HR.out.at_ hmod)
        have kc1 : wr.cell? ⟨b1, o1 + k % keep.length, none⟩ = some (.int .i64 keep[k % keep.length]) := by
          have h1 := hcell 0 _ rfl
          rw [Nat.mul_one, Nat.add_zero] at h1
          rw [← h1]
          exact World.cell?_of_block (TT.out.block b1 hb1 (hA (fun h => by rw [h] at hk0; simp at hk0) b1 (by rw [hA1]; rfl)))
        have hkb := keepBit_at keep k hmod
        rw [hkb] at HSt
        have HSv := Lib.hid (rSurvive_any p _ L' wr S.queue[k] d hqk)
        subst hA1
        clear hcell hkb hst hqA d
        simp only at e0' e1'
        generalize keep[k % keep.length] = kv at *
        generalize S.queue[k] = x at *
        have hk1 : decide (0 < (keep.length : Int)) = true := by simp; omega
        cases hbit : (kv % 2 == 1)
        · have hbb : (bits BinOp.and IntKind.i64 kv 1 == 1) = false := by rw [and1]; exact hbit
          rw [hbit] at HSt
          go_wp2
          go_roundw
          case rel => exact ⟨k + 1, F, by omega, by go_num, HSt.out.symm, HU.out⟩
          case measure => simp [intOf]; omega
        · have hbb : (bits BinOp.and IntKind.i64 kv 1 == 1) = true := by rw [and1]; exact hbit
          rw [hbit, if_pos rfl] at HSt
          go_wp2_with (go_at_call 80; refine HSv.out.mono ?_; rintro e w2 ⟨rfl, hu2⟩)
          go_roundw
          case rel => exact ⟨k + 1, _, by omega, by go_num, HSt.out.symm, RUpd.trans TT.out oo kk hu2⟩
          case measure => simp [intOf]; omega
      · obtain ⟨wo, rfl⟩ : ∃ x, x = wr := ⟨_, rfl⟩
        have hF : survQ keep 0 S.queue S.files = F := by
          rw [← HS.out]
          by_cases h1 : k < S.queue.length
          · have : keep = [] := List.eq_nil_of_length_eq_zero (by omega)
            rw [this, survQ_nil]
          · rw [List.drop_eq_nil_of_le (by omega)]
            rfl
        have HF := Lib.hid hF
        clear hF
        have hok := d.fok.len
        have c0 := d.c0
        have HRf := Lib.hid (d.files.rd rfLay)
        clear d hk
        by_cases hlt1 : k < S.queue.length
        · have hk1 : decide (0 < (keep.length : Int)) = false := decide_eq_false (by omega)
          have hk2 : decide (0 < keep.length) = false := decide_eq_false (by omega)
          go_wp2
          go_loopw [5, 6] (fun o i w2 => ∃ (j : Nat) (A' : Option Addr) (c' : Nat), j ≤ L'.fl.length ∧ i = .int .i64 j ∧ o = .slice A' (lasts (L'.fl.take j)).length c' ∧ OwnL w2 wo.heap.size 72 3 rfC A' c' (lasts (L'.fl.take j)) ∧ Below wo.heap.size wo w2) (fun _ i _ => L'.fl.length - (intOf i).toNat)
          case atStart => exact ⟨0, none, 0, Nat.zero_le _, rfl, rfl, OwnL.nil_, Below.refl _ _⟩
          case round =>
            obtain ⟨j, A', c', hj, rfl, rfl, ho, hb⟩ := hrel
            have HO := Lib.hid ho
            have HB := Lib.hid hb
            have hz := hb.size
            have hc0 : wr.cell? ⟨p, 0, none⟩ = some (.slice L'.fA L'.fl.length L'.fc) := (hb.cell (p := ⟨p, 0, none⟩) hpl).trans c0
            have hfl : (lasts (L'.fl.take j)).length ≤ 16 := by rw [lasts_len, List.length_take]; omega
            clear ho c0
            by_cases hlt2 : j < L'.fl.length
            · obtain ⟨b, off, hA2, hbb, n0, n1, n2⟩ := (HRf.out.below hb).rf hlt2
              have hfa : L'.fA = some ⟨b, off, none⟩ := hA2
              rw [hfa] at hc0
              have HSt := Lib.hid (last_step L'.fl j hlt2)
              clear hA2 n1
              generalize L'.fl[j] = y at *
              have hj0 : (0 : Int) ≤ (j : Int) := by omega
              have hj1 : (j : Int) < (L'.fl.length : Int) := by omega
              go_wp2_with fail
              refine wp_region_held_drew (S := fun wq => wq.cell? ⟨p, 0, none⟩ = some (.slice (some ⟨b, off, none⟩) L'.fl.length L'.fc) ∧ wq.cell? ⟨b, off + j * 3, none⟩ = some (.int .i64 y.1) ∧ wq.cell? ⟨b, off + j * 3 + 2, none⟩ = some (.string y.2.2)) (by kernel_rfl) ⟨hc0, n0, n2⟩ (fun hHeld => ?_)
              refine wpAnyH_take (i := 0) (v := ?_) rfl (by kernel_rfl) (by kernel_rfl) (by kernel_rfl) (fun _ _ _ h => h) (Or.inl ⟨by rfl, ?_⟩) (by assumption) ?_
              rotate_left
              · rintro wq ⟨s2, s0, s1⟩
                go_simp
                try with_reducible rfl
              simp only [Act.put, List.setIfInBounds_toArray, List.set_cons_zero, List.set_cons_succ, List.getElem_toArray, List.getElem_cons_zero]
              refine wpAnyH_take (i := 1) (v := ?_) rfl (by kernel_rfl) (by kernel_rfl) (by kernel_rfl) (fun _ _ _ h => h) (Or.inl ⟨by rfl, ?_⟩) (by assumption) ?_
              rotate_left
              · rintro wq ⟨s2, s0, s1⟩
                go_simp
                try with_reducible rfl
              simp only [Act.put, List.setIfInBounds_toArray, List.set_cons_zero, List.set_cons_succ, List.getElem_toArray, List.getElem_cons_zero, List.getElem_cons_succ]
              refine wpAnyH_take (i := 2) (v := ?_) rfl (by kernel_rfl) (by kernel_rfl) (by kernel_rfl) (fun _ _ _ h => h) (Or.inl ⟨by rfl, ?_⟩) (by assumption) ?_
              rotate_left
              · rintro wq ⟨s2, s0, s1⟩
                go_simp
                try with_reducible rfl
              simp only [Act.put, List.setIfInBounds_toArray, List.set_cons_zero, List.set_cons_succ, List.getElem_toArray, List.getElem_cons_zero, List.getElem_cons_succ]
              refine wpAnyH_take (i := 3) (v := ?_) rfl (by kernel_rfl) (by kernel_rfl) (by kernel_rfl) (fun _ _ _ h => h) (Or.inl ⟨by rfl, ?_⟩) (by assumption) ?_
              rotate_left
              · rintro wq ⟨s2, s0, s1⟩
                go_simp
                try with_reducible rfl
              simp only [Act.put, List.setIfInBounds_toArray, List.set_cons_zero, List.set_cons_succ, List.getElem_toArray, List.getElem_cons_zero, List.getElem_cons_succ]
              refine wpAnyH_take (i := 4) (v := ?_) rfl (by kernel_rfl) (by kernel_rfl) (by kernel_rfl) (fun _ _ _ h => h) (Or.inl ⟨by rfl, ?_⟩) (by assumption) ?_
              rotate_left
              · rintro wq ⟨s2, s0, s1⟩
                go_simp
                try with_reducible rfl
              simp only [Act.put, List.setIfInBounds_toArray, List.set_cons_zero, List.set_cons_succ, List.getElem_toArray, List.getElem_cons_zero, List.getElem_cons_succ]
              refine wpAnyH_take (i := 5) (v := ?_) rfl (by kernel_rfl) (by kernel_rfl) (by kernel_rfl) (fun _ _ _ h => h) (Or.inl ⟨by rfl, ?_⟩) (by assumption) ?_
              rotate_left
              · rintro wq ⟨s2, s0, s1⟩
                go_simp
                try with_reducible rfl
              simp only [Act.put, List.setIfInBounds_toArray, List.set_cons_zero, List.set_cons_succ, List.getElem_toArray, List.getElem_cons_zero, List.getElem_cons_succ]
              refine wpAnyH_take (i := 6) (v := ?_) rfl (by kernel_rfl) (by kernel_rfl) (by kernel_rfl) (fun _ _ _ h => h) (Or.inl ⟨by rfl, ?_⟩) (by assumption) ?_
              rotate_left
              · rintro wq ⟨s2, s0, s1⟩
                go_simp
                try with_reducible rfl
              simp only [Act.put, List.setIfInBounds_toArray, List.set_cons_zero, List.set_cons_succ, List.getElem_toArray, List.getElem_cons_zero, List.getElem_cons_succ]
              refine wpAnyH_take (i := 7) (v := ?_) rfl (by kernel_rfl) (by kernel_rfl) (by kernel_rfl) (fun _ _ _ h => h) (Or.inl ⟨by rfl, ?_⟩) (by assumption) ?_
              rotate_left
              · rintro wq ⟨s2, s0, s1⟩
                go_simp
                try with_reducible rfl
              simp only [Act.put, List.setIfInBounds_toArray, List.set_cons_zero, List.set_cons_succ, List.getElem_toArray, List.getElem_cons_zero, List.getElem_cons_succ]
              refine wpAnyH_take (i := 8) (v := ?_) rfl (by kernel_rfl) (by kernel_rfl) (by kernel_rfl) (fun _ _ _ h => h) (Or.inl ⟨by rfl, ?_⟩) (by assumption) ?_
              rotate_left
              · rintro wq ⟨s2, s0, s1⟩
                go_simp
                try with_reducible rfl
              simp only [Act.put, List.setIfInBounds_toArray, List.set_cons_zero, List.set_cons_succ, List.getElem_toArray, List.getElem_cons_zero, List.getElem_cons_succ]
              refine wpAnyH_take (i := 9) (v := ?_) rfl (by kernel_rfl) (by kernel_rfl) (by kernel_rfl) (fun _ _ _ h => h) (Or.inl ⟨by rfl, ?_⟩) (by assumption) ?_
              rotate_left
              · rintro wq ⟨s2, s0, s1⟩
                go_simp
                try with_reducible rfl
              simp only [Act.put, List.setIfInBounds_toArray, List.set_cons_zero, List.set_cons_succ, List.getElem_toArray, List.getElem_cons_zero, List.getElem_cons_succ]
              refine wpAnyH_take (i := 10) (v := ?_) rfl (by kernel_rfl) (by kernel_rfl) (by kernel_rfl) (fun _ _ _ h => h) (Or.inl ⟨by rfl, ?_⟩) (by assumption) ?_
              rotate_left
              · rintro wq ⟨s2, s0, s1⟩
                go_simp
                try with_reducible rfl
              simp only [Act.put, List.setIfInBounds_toArray, List.set_cons_zero, List.set_cons_succ, List.getElem_toArray, List.getElem_cons_zero, List.getElem_cons_succ]
              refine wpAnyH_take (i := 11) (v := ?_) rfl (by kernel_rfl) (by kernel_rfl) (by kernel_rfl) (fun _ _ _ h => h) (Or.inl ⟨by rfl, ?_⟩) (by assumption) ?_
              rotate_left
              · rintro wq ⟨s2, s0, s1⟩
                go_simp
                try with_reducible rfl
              simp only [Act.put, List.setIfInBounds_toArray, List.set_cons_zero, List.set_cons_succ, List.getElem_toArray, List.getElem_cons_zero, List.getElem_cons_succ]
              refine wpAnyH_take (i := 12) (v := ?_) rfl (by kernel_rfl) (by kernel_rfl) (by kernel_rfl) (fun _ _ _ h => h) (Or.inl ⟨by rfl, ?_⟩) (by assumption) ?_
              rotate_left
              · rintro wq ⟨s2, s0, s1⟩
                go_simp
                try with_reducible rfl
              simp only [Act.put, List.setIfInBounds_toArray, List.set_cons_zero, List.set_cons_succ, List.getElem_toArray, List.getElem_cons_zero, List.getElem_cons_succ]
              refine wpAnyH_take (i := 13) (v := ?_) rfl (by kernel_rfl) (by kernel_rfl) (by kernel_rfl) (fun _ _ _ h => h) (Or.inl ⟨by rfl, ?_⟩) (by assumption) ?_
              rotate_left
              · rintro wq ⟨s2, s0, s1⟩
                go_simp
                try with_reducible rfl
              simp only [Act.put, List.setIfInBounds_toArray, List.set_cons_zero, List.set_cons_succ, List.getElem_toArray, List.getElem_cons_zero, List.getElem_cons_succ]
              refine wpAnyH_take (i := 14) (v := ?_) rfl (by kernel_rfl) (by kernel_rfl) (by kernel_rfl) (fun _ _ _ h => h) (Or.inl ⟨by rfl, ?_⟩) (by assumption) ?_
              rotate_left
              · rintro wq ⟨s2, s0, s1⟩
                go_simp
                try with_reducible rfl
              simp only [Act.put, List.setIfInBounds_toArray, List.set_cons_zero, List.set_cons_succ, List.getElem_toArray, List.getElem_cons_zero, List.getElem_cons_succ]
              refine wpAnyH_take (i := 15) (v := ?_) rfl (by kernel_rfl) (by kernel_rfl) (by kernel_rfl) (fun _ _ _ h => h) (Or.inl ⟨by rfl, ?_⟩) (by assumption) ?_
              rotate_left
              · rintro wq ⟨s2, s0, s1⟩
                go_simp
                try with_reducible rfl
              simp only [Act.put, List.setIfInBounds_toArray, List.set_cons_zero, List.set_cons_succ, List.getElem_toArray, List.getElem_cons_zero, List.getElem_cons_succ]
              refine wpAnyH_take (i := 16) (v := ?_) rfl (by kernel_rfl) (by kernel_rfl) (by kernel_rfl) (fun _ _ _ h => h) (Or.inl ⟨by rfl, ?_⟩) (by assumption) ?_
              rotate_left
              · rintro wq ⟨s2, s0, s1⟩
                go_simp
                try with_reducible rfl
              simp only [Act.put, List.setIfInBounds_toArray, List.set_cons_zero, List.set_cons_succ, List.getElem_toArray, List.getElem_cons_zero, List.getElem_cons_succ]
              refine wpAnyH_take (i := 17) (v := ?_) rfl (by kernel_rfl) (by kernel_rfl) (by kernel_rfl) (fun _ _ _ h => h) (Or.inl ⟨by rfl, ?_⟩) (by assumption) ?_
              rotate_left
              · rintro wq ⟨s2, s0, s1⟩
                go_simp
                try with_reducible rfl
              simp only [Act.put, List.setIfInBounds_toArray, List.set_cons_zero, List.set_cons_succ, List.getElem_toArray, List.getElem_cons_zero, List.getElem_cons_succ]
              refine wpAnyH_take (i := 18) (v := ?_) rfl (by kernel_rfl) (by kernel_rfl) (by kernel_rfl) (fun _ _ _ h => h) (Or.inl ⟨by rfl, ?_⟩) (by assumption) ?_
              rotate_left
              · rintro wq ⟨s2, s0, s1⟩
                go_simp
                try with_reducible rfl
              simp only [Act.put, List.setIfInBounds_toArray, List.set_cons_zero, List.set_cons_succ, List.getElem_toArray, List.getElem_cons_zero, List.getElem_cons_succ]
              refine wpAnyH_take (i := 19) (v := ?_) rfl (by kernel_rfl) (by kernel_rfl) (by kernel_rfl) (fun _ _ _ h => h) (Or.inl ⟨by rfl, ?_⟩) (by assumption) ?_
              rotate_left
              · rintro wq ⟨s2, s0, s1⟩
                go_simp
                try with_reducible rfl
              simp only [Act.put, List.setIfInBounds_toArray, List.set_cons_zero, List.set_cons_succ, List.getElem_toArray, List.getElem_cons_zero, List.getElem_cons_succ]
              refine wpAnyH_take (i := 20) (v := ?_) rfl (by kernel_rfl) (by kernel_rfl) (by kernel_rfl) (fun _ _ _ h => h) (Or.inl ⟨by rfl, ?_⟩) (by assumption) ?_
              rotate_left
              · rintro wq ⟨s2, s0, s1⟩
                go_simp
                try with_reducible rfl
              simp only [Act.put, List.setIfInBounds_toArray, List.set_cons_zero, List.set_cons_succ, List.getElem_toArray, List.getElem_cons_zero, List.getElem_cons_succ]
              refine wpAnyH_take (i := 21) (v := ?_) rfl (by kernel_rfl) (by kernel_rfl) (by kernel_rfl) (fun _ _ _ h => h) (Or.inl ⟨by rfl, ?_⟩) (by assumption) ?_
              rotate_left
              · rintro wq ⟨s2, s0, s1⟩
                go_simp
                try with_reducible rfl
              simp only [Act.put, List.setIfInBounds_toArray, List.set_cons_zero, List.set_cons_succ, List.getElem_toArray, List.getElem_cons_zero, List.getElem_cons_succ]
              refine wpAnyH_take (i := 22) (v := ?_) rfl (by kernel_rfl) (by kernel_rfl) (by kernel_rfl) (fun _ _ _ h => h) (Or.inl ⟨by rfl, ?_⟩) (by assumption) ?_
              rotate_left
              · rintro wq ⟨s2, s0, s1⟩
                go_simp
                try with_reducible rfl
              simp only [Act.put, List.setIfInBounds_toArray, List.set_cons_zero, List.set_cons_succ, List.getElem_toArray, List.getElem_cons_zero, List.getElem_cons_succ]
              refine wpAnyH_take (i := 23) (v := ?_) rfl (by kernel_rfl) (by kernel_rfl) (by kernel_rfl) (fun _ _ _ h => h) (Or.inl ⟨by rfl, ?_⟩) (by assumption) ?_
              rotate_left
              · rintro wq ⟨s2, s0, s1⟩
                go_simp
                try with_reducible rfl
              simp only [Act.put, List.setIfInBounds_toArray, List.set_cons_zero, List.set_cons_succ, List.getElem_toArray, List.getElem_cons_zero, List.getElem_cons_succ]
              refine wpAnyH_take (i := 24) (v := ?_) rfl (by kernel_rfl) (by kernel_rfl) (by kernel_rfl) (fun _ _ _ h => h) (Or.inl ⟨by rfl, ?_⟩) (by assumption) ?_
              rotate_left
              · rintro wq ⟨s2, s0, s1⟩
                go_simp
                try with_reducible rfl
              simp only [Act.put, List.setIfInBounds_toArray, List.set_cons_zero, List.set_cons_succ, List.getElem_toArray, List.getElem_cons_zero, List.getElem_cons_succ]
              refine wpAnyH_take (i := 25) (v := ?_) rfl (by kernel_rfl) (by kernel_rfl) (by kernel_rfl) (fun _ _ _ h => h) (Or.inl ⟨by rfl, ?_⟩) (by assumption) ?_
              rotate_left
              · rintro wq ⟨s2, s0, s1⟩
                go_simp
                try with_reducible rfl
              simp only [Act.put, List.setIfInBounds_toArray, List.set_cons_zero, List.set_cons_succ, List.getElem_toArray, List.getElem_cons_zero, List.getElem_cons_succ]
              refine wpAnyH_ready (rs := [26]) (by kernel_rfl) (by simp) ?_
              refine AllReadyH.cons rfl (fun K hK => ?_) AllReadyH.nil
              go_simp
              obtain ⟨W5, hW5⟩ : ∃ W, W = (wr.alloc (.cells #[.int .i64 y.1, .string y.2.2, .string y.2.2] 72)).drew := ⟨_, rfl⟩
              have hb5 : Below wr.heap.size wr W5 := by rw [hW5]; exact ((Below.refl _ _).alloc (Nat.le_refl _) _).drew
              have HO5 : Hid (OwnL W5 wo.heap.size 72 3 rfC A' c' (lasts (L'.fl.take j))) := Lib.hid (HO.out.below hb5)
              have HR5 : Hid (RdL 3 rfC W5 (wr.heap.size + 1) (some ⟨wr.heap.size, 0, none⟩) [lastR y]) := Lib.hid (by rw [hW5]; exact RdL.one wr (lastR y) _ _ rfl _ rfl)
              have HB5 := Lib.hid (HB.out.trans (hb5.mono hz))
              have hz5 := HB5.out.size
              have hc5 : W5.cell? ⟨p, 0, none⟩ = some (.slice (some ⟨b, off, none⟩) L'.fl.length L'.fc) := (hb5.cell (p := ⟨p, 0, none⟩) (by show p < _; omega)).trans hc0
              have n05 : W5.cell? ⟨b, off + j * 3, none⟩ = some (.int .i64 y.1) := (hb5.cell (p := ⟨b, _, none⟩) (by show b < _; omega)).trans n0
              have n25 : W5.cell? ⟨b, off + j * 3 + 2, none⟩ = some (.string y.2.2) := (hb5.cell (p := ⟨b, _, none⟩) (by show b < _; omega)).trans n2
              rw [← hW5]
              clear hW5 hb5
              refine hK.out _ _ ⟨hc5, n05, n25⟩ ?_
              clear hK K hHeld hc0 n0 n2
              intro hHeld
              refine wpAnyH_ready (rs := [27]) (by kernel_rfl) (by simp) ?_
              refine AllReadyH.cons rfl (fun K hK => ?_) AllReadyH.nil
              refine step_append_l rfl (.tmp 58) (.tmp 84) rfl slRFile rfLay wo.heap.size (lasts (L'.fl.take j)) [lastR y] rfl rfl HO5.out rfl rfl ⟨_, HR5.out⟩ (by simp only [List.length_singleton]; omega) hz5 ?_
              intro A2 c2 w6 hown6 hg6 hbl6 hat6
              have HO6 := Lib.hid hown6
              have HB6 := Lib.hid (HB5.out.trans hbl6)
              have hc6 := (hbl6.cell (p := ⟨p, 0, none⟩) hpl).trans hc5
              have n06 := (hbl6.cell (p := ⟨b, off + j * 3, none⟩) hbb).trans n05
              have n26 := (hbl6.cell (p := ⟨b, off + j * 3 + 2, none⟩) hbb).trans n25
              refine hK.out _ _ ⟨hc6, n06, n26⟩ ?_
              clear hK K hHeld hown6 hg6 hbl6 hat6 hc5 n05 n25
              intro hHeld
              refine wpAnyH_take (i := 28) (v := ?_) rfl (by kernel_rfl) (by kernel_rfl) (by kernel_rfl) (fun _ _ _ h => h) (Or.inl ⟨by rfl, ?_⟩) (by assumption) ?_
              rotate_left
              · rintro wq ⟨s2, s0, s1⟩
                go_simp
                try with_reducible rfl
              simp only [Act.put, List.setIfInBounds_toArray, List.set_cons_zero, List.set_cons_succ, List.getElem_toArray, List.getElem_cons_zero, List.getElem_cons_succ]
              refine wpAnyH_done (by kernel_rfl) ?_ _
              clear hHeld
              go_wp2
              go_roundw
              case rel => exact ⟨j + 1, A2, c2, by omega, by go_num, by rw [HSt.out]; simp, by rw [HSt.out]; exact HO6.out, HB6.out⟩
              case measure => simp [intOf]; omega
            · have HE : Hid (lasts (L'.fl.take j) = lasts L'.fl) := Lib.hid (by rw [List.take_of_length_le (by omega)])
              have hbp := (hb.block p hpl).trans D.out.box
              have cz := fun i => box_free hbp i
              have c00 := box_cell hbp 0 _ rfl
              have c01 := box_cell hbp 1 _ rfl
              have HBP := Lib.hid hbp
              rw [HE.out] at HO
              simp only [HE.out]
              clear hbp hb
              go_wp2_with fail
              go_end0
              have hcr : S.crash keep = ⟨lastF F, [], S.lost, true, 0, S.keep⟩ := by unfold DS.crash; rw [if_neg (by rw [hd]; simp), HF.out]
              have hcw := DS.crash_wf H.out.wf keep
              rw [hcr] at hcw ⊢
              refine ⟨rfl, RUpd.trans TT.out oo kk ?_⟩
              exact RK.renew D.out (((Turn.below HB.out).set p 0 _ (.inl (.inl rfl))).set p 1 _ (.inl (.inl rfl))) (lasts L'.fl) A' c' [] none 0 (lastF F) true 0 hcw (heap_setCell_same _ p 1 _ _ _ (heap_setCell_same _ p 0 _ _ _ HBP.out))
                ((HO.out.turn (fun i hi hl => (heap_setCell_other _ _ _ _ (by have := (HO.out.blk_lt hi).1; show i ≠ p; omega)).trans (heap_setCell_other _ _ _ _ (by have := (HO.out.blk_lt hi).1; show i ≠ p; omega)))).mono (Nat.zero_le _)) (by rw [rfun_last, ← D.out.fn]) D.out.fok.last OwnL.nil_ (fun i hi => .inr (HO.out.blk_lt hi).1) (fun i hi => by cases hi) (fun i hi => by cases hi)
        · skip
          go_wp2
          go_loopw [5, 6] (fun o i w2 => ∃ (j : Nat) (A' : Option Addr) (c' : Nat), j ≤ L'.fl.length ∧ i = .int .i64 j ∧ o = .slice A' (lasts (L'.fl.take j)).length c' ∧ OwnL w2 wo.heap.size 72 3 rfC A' c' (lasts (L'.fl.take j)) ∧ Below wo.heap.size wo w2) (fun _ i _ => L'.fl.length - (intOf i).toNat)
          case atStart => exact ⟨0, none, 0, Nat.zero_le _, rfl, rfl, OwnL.nil_, Below.refl _ _⟩
          case round =>
            obtain ⟨j, A', c', hj, rfl, rfl, ho, hb⟩ := hrel
            have HO := Lib.hid ho
            have HB := Lib.hid hb
            have hz := hb.size
            have hc0 : wr.cell? ⟨p, 0, none⟩ = some (.slice L'.fA L'.fl.length L'.fc) := (hb.cell (p := ⟨p, 0, none⟩) hpl).trans c0
            have hfl : (lasts (L'.fl.take j)).length ≤ 16 := by rw [lasts_len, List.length_take]; omega
            clear ho c0
            by_cases hlt2 : j < L'.fl.length
            · obtain ⟨b, off, hA2, hbb, n0, n1, n2⟩ := (HRf.out.below hb).rf hlt2
              have hfa : L'.fA = some ⟨b, off, none⟩ := hA2
              rw [hfa] at hc0
              have HSt := Lib.hid (last_step L'.fl j hlt2)
              clear hA2 n1
              generalize L'.fl[j] = y at *
              have hj0 : (0 : Int) ≤ (j : Int) := by omega
              have hj1 : (j : Int) < (L'.fl.length : Int) := by omega
              go_wp2_with fail
              refine wp_region_held_drew (S := fun wq => wq.cell? ⟨p, 0, none⟩ = some (.slice (some ⟨b, off, none⟩) L'.fl.length L'.fc) ∧ wq.cell? ⟨b, off + j * 3, none⟩ = some (.int .i64 y.1) ∧ wq.cell? ⟨b, off + j * 3 + 2, none⟩ = some (.string y.2.2)) (by kernel_rfl) ⟨hc0, n0, n2⟩ (fun hHeld => ?_)
              refine wpAnyH_take (i := 0) (v := ?_) rfl (by kernel_rfl) (by kernel_rfl) (by kernel_rfl) (fun _ _ _ h => h) (Or.inl ⟨by rfl, ?_⟩) (by assumption) ?_
              rotate_left
              · rintro wq ⟨s2, s0, s1⟩
                go_simp
                try with_reducible rfl
              simp only [Act.put, List.setIfInBounds_toArray, List.set_cons_zero, List.set_cons_succ, List.getElem_toArray, List.getElem_cons_zero]
              refine wpAnyH_take (i := 1) (v := ?_) rfl (by kernel_rfl) (by kernel_rfl) (by kernel_rfl) (fun _ _ _ h => h) (Or.inl ⟨by rfl, ?_⟩) (by assumption) ?_
              rotate_left
              · rintro wq ⟨s2, s0, s1⟩
                go_simp
                try with_reducible rfl
              simp only [Act.put, List.setIfInBounds_toArray, List.set_cons_zero, List.set_cons_succ, List.getElem_toArray, List.getElem_cons_zero, List.getElem_cons_succ]
              refine wpAnyH_take (i := 2) (v := ?_) rfl (by kernel_rfl) (by kernel_rfl) (by kernel_rfl) (fun _ _ _ h => h) (Or.inl ⟨by rfl, ?_⟩) (by assumption) ?_
              rotate_left
              · rintro wq ⟨s2, s0, s1⟩
                go_simp
                try with_reducible rfl
              simp only [Act.put, List.setIfInBounds_toArray, List.set_cons_zero, List.set_cons_succ, List.getElem_toArray, List.getElem_cons_zero, List.getElem_cons_succ]
              refine wpAnyH_take (i := 3) (v := ?_) rfl (by kernel_rfl) (by kernel_rfl) (by kernel_rfl) (fun _ _ _ h => h) (Or.inl ⟨by rfl, ?_⟩) (by assumption) ?_
              rotate_left
              · rintro wq ⟨s2, s0, s1⟩
                go_simp
                try with_reducible rfl
              simp only [Act.put, List.setIfInBounds_toArray, List.set_cons_zero, List.set_cons_succ, List.getElem_toArray, List.getElem_cons_zero, List.getElem_cons_succ]
              refine wpAnyH_take (i := 4) (v := ?_) rfl (by kernel_rfl) (by kernel_rfl) (by kernel_rfl) (fun _ _ _ h => h) (Or.inl ⟨by rfl, ?_⟩) (by assumption) ?_
              rotate_left
              · rintro wq ⟨s2, s0, s1⟩
                go_simp
                try with_reducible rfl
              simp only [Act.put, List.setIfInBounds_toArray, List.set_cons_zero, List.set_cons_succ, List.getElem_toArray, List.getElem_cons_zero, List.getElem_cons_succ]
              refine wpAnyH_take (i := 5) (v := ?_) rfl (by kernel_rfl) (by kernel_rfl) (by kernel_rfl) (fun _ _ _ h => h) (Or.inl ⟨by rfl, ?_⟩) (by assumption) ?_
              rotate_left
              · rintro wq ⟨s2, s0, s1⟩
                go_simp
                try with_reducible rfl
              simp only [Act.put, List.setIfInBounds_toArray, List.set_cons_zero, List.set_cons_succ, List.getElem_toArray, List.getElem_cons_zero, List.getElem_cons_succ]
              refine wpAnyH_take (i := 6) (v := ?_) rfl (by kernel_rfl) (by kernel_rfl) (by kernel_rfl) (fun _ _ _ h => h) (Or.inl ⟨by rfl, ?_⟩) (by assumption) ?_
              rotate_left
              · rintro wq ⟨s2, s0, s1⟩
                go_simp
                try with_reducible rfl
              simp only [Act.put, List.setIfInBounds_toArray, List.set_cons_zero, List.set_cons_succ, List.getElem_toArray, List.getElem_cons_zero, List.getElem_cons_succ]
              refine wpAnyH_take (i := 7) (v := ?_) rfl (by kernel_rfl) (by kernel_rfl) (by kernel_rfl) (fun _ _ _ h => h) (Or.inl ⟨by rfl, ?_⟩) (by assumption) ?_
              rotate_left
              · rintro wq ⟨s2, s0, s1⟩
                go_simp
                try with_reducible rfl
              simp only [Act.put, List.setIfInBounds_toArray, List.set_cons_zero, List.set_cons_succ, List.getElem_toArray, List.getElem_cons_zero, List.getElem_cons_succ]
              refine wpAnyH_take (i := 8) (v := ?_) rfl (by kernel_rfl) (by kernel_rfl) (by kernel_rfl) (fun _ _ _ h => h) (Or.inl ⟨by rfl, ?_⟩) (by assumption) ?_
              rotate_left
              · rintro wq ⟨s2, s0, s1⟩
                go_simp
                try with_reducible rfl
              simp only [Act.put, List.setIfInBounds_toArray, List.set_cons_zero, List.set_cons_succ, List.getElem_toArray, List.getElem_cons_zero, List.getElem_cons_succ]
              refine wpAnyH_take (i := 9) (v := ?_) rfl (by kernel_rfl) (by kernel_rfl) (by kernel_rfl) (fun _ _ _ h => h) (Or.inl ⟨by rfl, ?_⟩) (by assumption) ?_
              rotate_left
              · rintro wq ⟨s2, s0, s1⟩
                go_simp
                try with_reducible rfl
              simp only [Act.put, List.setIfInBounds_toArray, List.set_cons_zero, List.set_cons_succ, List.getElem_toArray, List.getElem_cons_zero, List.getElem_cons_succ]
              refine wpAnyH_take (i := 10) (v := ?_) rfl (by kernel_rfl) (by kernel_rfl) (by kernel_rfl) (fun _ _ _ h => h) (Or.inl ⟨by rfl, ?_⟩) (by assumption) ?_
              rotate_left
              · rintro wq ⟨s2, s0, s1⟩
                go_simp
                try with_reducible rfl
              simp only [Act.put, List.setIfInBounds_toArray, List.set_cons_zero, List.set_cons_succ, List.getElem_toArray, List.getElem_cons_zero, List.getElem_cons_succ]
              refine wpAnyH_take (i := 11) (v := ?_) rfl (by kernel_rfl) (by kernel_rfl) (by kernel_rfl) (fun _ _ _ h => h) (Or.inl ⟨by rfl, ?_⟩) (by assumption) ?_
              rotate_left
              · rintro wq ⟨s2, s0, s1⟩
                go_simp
                try with_reducible rfl
              simp only [Act.put, List.setIfInBounds_toArray, List.set_cons_zero, List.set_cons_succ, List.getElem_toArray, List.getElem_cons_zero, List.getElem_cons_succ]
              refine wpAnyH_take (i := 12) (v := ?_) rfl (by kernel_rfl) (by kernel_rfl) (by kernel_rfl) (fun _ _ _ h => h) (Or.inl ⟨by rfl, ?_⟩) (by assumption) ?_
              rotate_left
              · rintro wq ⟨s2, s0, s1⟩
                go_simp
                try with_reducible rfl
              simp only [Act.put, List.setIfInBounds_toArray, List.set_cons_zero, List.set_cons_succ, List.getElem_toArray, List.getElem_cons_zero, List.getElem_cons_succ]
              refine wpAnyH_take (i := 13) (v := ?_) rfl (by kernel_rfl) (by kernel_rfl) (by kernel_rfl) (fun _ _ _ h => h) (Or.inl ⟨by rfl, ?_⟩) (by assumption) ?_
              rotate_left
              · rintro wq ⟨s2, s0, s1⟩
                go_simp
                try with_reducible rfl
              simp only [Act.put, List.setIfInBounds_toArray, List.set_cons_zero, List.set_cons_succ, List.getElem_toArray, List.getElem_cons_zero, List.getElem_cons_succ]
              refine wpAnyH_take (i := 14) (v := ?_) rfl (by kernel_rfl) (by kernel_rfl) (by kernel_rfl) (fun _ _ _ h => h) (Or.inl ⟨by rfl, ?_⟩) (by assumption) ?_
              rotate_left
              · rintro wq ⟨s2, s0, s1⟩
                go_simp
                try with_reducible rfl
              simp only [Act.put, List.setIfInBounds_toArray, List.set_cons_zero, List.set_cons_succ, List.getElem_toArray, List.getElem_cons_zero, List.getElem_cons_succ]
              refine wpAnyH_take (i := 15) (v := ?_) rfl (by kernel_rfl) (by kernel_rfl) (by kernel_rfl) (fun _ _ _ h => h) (Or.inl ⟨by rfl, ?_⟩) (by assumption) ?_
              rotate_left
              · rintro wq ⟨s2, s0, s1⟩
                go_simp
                try with_reducible rfl
              simp only [Act.put, List.setIfInBounds_toArray, List.set_cons_zero, List.set_cons_succ, List.getElem_toArray, List.getElem_cons_zero, List.getElem_cons_succ]
              refine wpAnyH_take (i := 16) (v := ?_) rfl (by kernel_rfl) (by kernel_rfl) (by kernel_rfl) (fun _ _ _ h => h) (Or.inl ⟨by rfl, ?_⟩) (by assumption) ?_
              rotate_left
              · rintro wq ⟨s2, s0, s1⟩
                go_simp
                try with_reducible rfl
              simp only [Act.put, List.setIfInBounds_toArray, List.set_cons_zero, List.set_cons_succ, List.getElem_toArray, List.getElem_cons_zero, List.getElem_cons_succ]
              refine wpAnyH_take (i := 17) (v := ?_) rfl (by kernel_rfl) (by kernel_rfl) (by kernel_rfl) (fun _ _ _ h => h) (Or.inl ⟨by rfl, ?_⟩) (by assumption) ?_
              rotate_left
              · rintro wq ⟨s2, s0, s1⟩
                go_simp
                try with_reducible rfl
              simp only [Act.put, List.setIfInBounds_toArray, List.set_cons_zero, List.set_cons_succ, List.getElem_toArray, List.getElem_cons_zero, List.getElem_cons_succ]
              refine wpAnyH_take (i := 18) (v := ?_) rfl (by kernel_rfl) (by kernel_rfl) (by kernel_rfl) (fun _ _ _ h => h) (Or.inl ⟨by rfl, ?_⟩) (by assumption) ?_
              rotate_left
              · rintro wq ⟨s2, s0, s1⟩
                go_simp
                try with_reducible rfl
              simp only [Act.put, List.setIfInBounds_toArray, List.set_cons_zero, List.set_cons_succ, List.getElem_toArray, List.getElem_cons_zero, List.getElem_cons_succ]
              refine wpAnyH_take (i := 19) (v := ?_) rfl (by kernel_rfl) (by kernel_rfl) (by kernel_rfl) (fun _ _ _ h => h) (Or.inl ⟨by rfl, ?_⟩) (by assumption) ?_
              rotate_left
              · rintro wq ⟨s2, s0, s1⟩
                go_simp
                try with_reducible rfl
              simp only [Act.put, List.setIfInBounds_toArray, List.set_cons_zero, List.set_cons_succ, List.getElem_toArray, List.getElem_cons_zero, List.getElem_cons_succ]
              refine wpAnyH_take (i := 20) (v := ?_) rfl (by kernel_rfl) (by kernel_rfl) (by kernel_rfl) (fun _ _ _ h => h) (Or.inl ⟨by rfl, ?_⟩) (by assumption) ?_
              rotate_left
              · rintro wq ⟨s2, s0, s1⟩
                go_simp
                try with_reducible rfl
              simp only [Act.put, List.setIfInBounds_toArray, List.set_cons_zero, List.set_cons_succ, List.getElem_toArray, List.getElem_cons_zero, List.getElem_cons_succ]
              refine wpAnyH_take (i := 21) (v := ?_) rfl (by kernel_rfl) (by kernel_rfl) (by kernel_rfl) (fun _ _ _ h => h) (Or.inl ⟨by rfl, ?_⟩) (by assumption) ?_
              rotate_left
              · rintro wq ⟨s2, s0, s1⟩
                go_simp
                try with_reducible rfl
              simp only [Act.put, List.setIfInBounds_toArray, List.set_cons_zero, List.set_cons_succ, List.getElem_toArray, List.getElem_cons_zero, List.getElem_cons_succ]
              refine wpAnyH_take (i := 22) (v := ?_) rfl (by kernel_rfl) (by kernel_rfl) (by kernel_rfl) (fun _ _ _ h => h) (Or.inl ⟨by rfl, ?_⟩) (by assumption) ?_
              rotate_left
              · rintro wq ⟨s2, s0, s1⟩
                go_simp
                try with_reducible rfl
              simp only [Act.put, List.setIfInBounds_toArray, List.set_cons_zero, List.set_cons_succ, List.getElem_toArray, List.getElem_cons_zero, List.getElem_cons_succ]
              refine wpAnyH_take (i := 23) (v := ?_) rfl (by kernel_rfl) (by kernel_rfl) (by kernel_rfl) (fun _ _ _ h => h) (Or.inl ⟨by rfl, ?_⟩) (by assumption) ?_
              rotate_left
              · rintro wq ⟨s2, s0, s1⟩
                go_simp
                try with_reducible rfl
              simp only [Act.put, List.setIfInBounds_toArray, List.set_cons_zero, List.set_cons_succ, List.getElem_toArray, List.getElem_cons_zero, List.getElem_cons_succ]
              refine wpAnyH_take (i := 24) (v := ?_) rfl (by kernel_rfl) (by kernel_rfl) (by kernel_rfl) (fun _ _ _ h => h) (Or.inl ⟨by rfl, ?_⟩) (by assumption) ?_
              rotate_left
              · rintro wq ⟨s2, s0, s1⟩
                go_simp
                try with_reducible rfl
              simp only [Act.put, List.setIfInBounds_toArray, List.set_cons_zero, List.set_cons_succ, List.getElem_toArray, List.getElem_cons_zero, List.getElem_cons_succ]
              refine wpAnyH_take (i := 25) (v := ?_) rfl (by kernel_rfl) (by kernel_rfl) (by kernel_rfl) (fun _ _ _ h => h) (Or.inl ⟨by rfl, ?_⟩) (by assumption) ?_
              rotate_left
              · rintro wq ⟨s2, s0, s1⟩
                go_simp
                try with_reducible rfl
              simp only [Act.put, List.setIfInBounds_toArray, List.set_cons_zero, List.set_cons_succ, List.getElem_toArray, List.getElem_cons_zero, List.getElem_cons_succ]
              refine wpAnyH_ready (rs := [26]) (by kernel_rfl) (by simp) ?_
              refine AllReadyH.cons rfl (fun K hK => ?_) AllReadyH.nil
              go_simp
              obtain ⟨W5, hW5⟩ : ∃ W, W = (wr.alloc (.cells #[.int .i64 y.1, .string y.2.2, .string y.2.2] 72)).drew := ⟨_, rfl⟩
              have hb5 : Below wr.heap.size wr W5 := by rw [hW5]; exact ((Below.refl _ _).alloc (Nat.le_refl _) _).drew
              have HO5 : Hid (OwnL W5 wo.heap.size 72 3 rfC A' c' (lasts (L'.fl.take j))) := Lib.hid (HO.out.below hb5)
              have HR5 : Hid (RdL 3 rfC W5 (wr.heap.size + 1) (some ⟨wr.heap.size, 0, none⟩) [lastR y]) := Lib.hid (by rw [hW5]; exact RdL.one wr (lastR y) _ _ rfl _ rfl)
              have HB5 := Lib.hid (HB.out.trans (hb5.mono hz))
              have hz5 := HB5.out.size
              have hc5 : W5.cell? ⟨p, 0, none⟩ = some (.slice (some ⟨b, off, none⟩) L'.fl.length L'.fc) := (hb5.cell (p := ⟨p, 0, none⟩) (by show p < _; omega)).trans hc0
              have n05 : W5.cell? ⟨b, off + j * 3, none⟩ = some (.int .i64 y.1) := (hb5.cell (p := ⟨b, _, none⟩) (by show b < _; omega)).trans n0
              have n25 : W5.cell? ⟨b, off + j * 3 + 2, none⟩ = some (.string y.2.2) := (hb5.cell (p := ⟨b, _, none⟩) (by show b < _; omega)).trans n2
              rw [← hW5]
              clear hW5 hb5
              refine hK.out _ _ ⟨hc5, n05, n25⟩ ?_
              clear hK K hHeld hc0 n0 n2
              intro hHeld
              refine wpAnyH_ready (rs := [27]) (by kernel_rfl) (by simp) ?_
              refine AllReadyH.cons rfl (fun K hK => ?_) AllReadyH.nil
              refine step_append_l rfl (.tmp 58) (.tmp 84) rfl slRFile rfLay wo.heap.size (lasts (L'.fl.take j)) [lastR y] rfl rfl HO5.out rfl rfl ⟨_, HR5.out⟩ (by simp only [List.length_singleton]; omega) hz5 ?_
              intro A2 c2 w6 hown6 hg6 hbl6 hat6
              have HO6 := Lib.hid hown6
              have HB6 := Lib.hid (HB5.out.trans hbl6)
              have hc6 := (hbl6.cell (p := ⟨p, 0, none⟩) hpl).trans hc5
              have n06 := (hbl6.cell (p := ⟨b, off + j * 3, none⟩) hbb).trans n05
              have n26 := (hbl6.cell (p := ⟨b, off + j * 3 + 2, none⟩) hbb).trans n25
              refine hK.out _ _ ⟨hc6, n06, n26⟩ ?_
              clear hK K hHeld hown6 hg6 hbl6 hat6 hc5 n05 n25
              intro hHeld
              refine wpAnyH_take (i := 28) (v := ?_) rfl (by kernel_rfl) (by kernel_rfl) (by kernel_rfl) (fun _ _ _ h => h) (Or.inl ⟨by rfl, ?_⟩) (by assumption) ?_
              rotate_left
              · rintro wq ⟨s2, s0, s1⟩
                go_simp
                try with_reducible rfl
              simp only [Act.put, List.setIfInBounds_toArray, List.set_cons_zero, List.set_cons_succ, List.getElem_toArray, List.getElem_cons_zero, List.getElem_cons_succ]
              refine wpAnyH_done (by kernel_rfl) ?_ _
              clear hHeld
              go_wp2
              go_roundw
              case rel => exact ⟨j + 1, A2, c2, by omega, by go_num, by rw [HSt.out]; simp, by rw [HSt.out]; exact HO6.out, HB6.out⟩
              case measure => simp [intOf]; omega
            · have HE : Hid (lasts (L'.fl.take j) = lasts L'.fl) := Lib.hid (by rw [List.take_of_length_le (by omega)])
              have hbp := (hb.block p hpl).trans D.out.box
              have cz := fun i => box_free hbp i
              have c00 := box_cell hbp 0 _ rfl
              have c01 := box_cell hbp 1 _ rfl
              have HBP := Lib.hid hbp
              rw [HE.out] at HO
              simp only [HE.out]
              clear hbp hb
              go_wp2_with fail
              go_end0
              have hcr : S.crash keep = ⟨lastF F, [], S.lost, true, 0, S.keep⟩ := by unfold DS.crash; rw [if_neg (by rw [hd]; simp), HF.out]
              have hcw := DS.crash_wf H.out.wf keep
              rw [hcr] at hcw ⊢
              refine ⟨rfl, RUpd.trans TT.out oo kk ?_⟩
              exact RK.renew D.out (((Turn.below HB.out).set p 0 _ (.inl (.inl rfl))).set p 1 _ (.inl (.inl rfl))) (lasts L'.fl) A' c' [] none 0 (lastF F) true 0 hcw (heap_setCell_same _ p 1 _ _ _ (heap_setCell_same _ p 0 _ _ _ HBP.out))
                ((HO.out.turn (fun i hi hl => (heap_setCell_other _ _ _ _ (by have := (HO.out.blk_lt hi).1; show i ≠ p; omega)).trans (heap_setCell_other _ _ _ _ (by have := (HO.out.blk_lt hi).1; show i ≠ p; omega)))).mono (Nat.zero_le _)) (by rw [rfun_last, ← D.out.fn]) D.out.fok.last OwnL.nil_ (fun i hi => .inr (HO.out.blk_lt hi).1) (fun i hi => by cases hi) (fun i hi => by cases hi)
  · have hs : S.crash keep = S := by unfold DS.crash; rw [if_pos hd]
    rw [hd] at c3
    rw [hs]
    clear hs hd
    go_enter Tryz.func35, Tryz.ntmps35
    go_wp2
    try simp only [Exit.inBlock, Exit.then]
    refine bodyPost_ret (results_none rfl _ _ _) rfl ?_
    exact ⟨rfl, RUpd.refl H.out⟩
end Go.Proofs.YtjmkodkechahdaaGreatDoor
/- Contracts of comes, Write, Sync and Truncate of a disk of the reference. -/
set_option linter.unusedSimpArgs false
set_option linter.unusedVariables false
namespace Go.Proofs.YtjmkodkechahdaaGreatDoor
open Go.RowKit
set_option maxRecDepth 100000

def DS.comeW (S : DS) (f a : Int) (s : ByteArray) : DS := if S.endsB = true then (S.tick.wr f a s).crash S.keep else S.tick
theorem wr_yes {S : DS} {f a : Int} {s : ByteArray} (hd : S.down = false) (h0 : 0 ≤ f) (h1 : f ≤ 15) (h : fitsB a s = true) : S.wr f a s = S.wadd f a s := by
  have := fits_ok h
  have hm : S.may f = 0 := by unfold DS.may; rw [if_neg (by simp [hd]), if_neg (by omega)]
  have hc : S.wcode f a s = 0 := by
    unfold DS.wcode
    rw [if_neg (by omega), if_neg (by omega), if_pos h]
  unfold DS.wr
  rw [if_pos hc]
theorem wr_no {S : DS} {f a : Int} {s : ByteArray} (h : (0 ≤ f ∧ f ≤ 15) → fitsB a s = false) : S.wr f a s = S := by
  unfold DS.wr
  rw [if_neg]
  intro hc
  obtain ⟨h1, h2⟩ := wcode_ok hc
  have := (may_ok h1).2
  rw [h (by omega)] at h2
  cases h2
theorem comeW_none (S : DS) : S.comeW 0 0 e0 = S.come := by
  unfold DS.comeW DS.come
  have h : S.tick.wr 0 0 e0 = S.tick := by
    unfold DS.wr
    split
    · unfold DS.wadd
      rw [if_pos (by decide)]
    · rfl
  rw [h]
set_option maxHeartbeats 2000000 in
theorem rComes_any (p : Nat) (S : DS) (L : RL) (w : World) (f a : Int) (s : ByteArray) (ha : inI64 a) (hs : s.size ≤ 1073741824) (hk : S.keep.length ≤ 4194320) (h : RK w p S L) :
    Calls Tryz.prog 77 #[.pointer (some ⟨p, 0, none⟩), .int .i64 f, .int .i64 a, .string s] w fun e w' => e = .returned (.tuple #[]) ∧ RUpd p (S.comeW f a s) L w w' := by
  have c3 := h.c3
  have c4 := h.c4
  have cz := fun j => box_free h.box j
  have H := Lib.hid h
  have HW := Lib.hid (DS.tick_wf h.wf)
  have h0 := h.wf.armed0
  have h1 := h.wf.armed1
  unfold inI64 at h1
  clear h
  by_cases hd : S.down = true ∨ S.armed = 0
  · have he : S.endsB = false := by
      unfold DS.endsB
      rcases hd with h | h <;> simp [h]
    have HT : Hid (S.comeW f a s = S) := Lib.hid (by unfold DS.comeW; rw [he, if_neg (by simp)]; unfold DS.tick; rw [if_pos hd])
    clear he
    go_enter Tryz.func77, Tryz.ntmps77
    rcases hd with h | h
    · rw [h] at c3
      go_wp2
      try simp only [Exit.inBlock, Exit.then]
      refine bodyPost_ret (results_none rfl _ _ _) rfl ?_
      exact ⟨rfl, by rw [HT.out]; exact RUpd.refl H.out⟩
    · rw [h] at c4
      cases hdn : S.down
      · rw [hdn] at c3
        go_wp2
        try simp only [Exit.inBlock, Exit.then]
        refine bodyPost_ret (results_none rfl _ _ _) rfl ?_
        exact ⟨rfl, by rw [HT.out]; exact RUpd.refl H.out⟩
      · rw [hdn] at c3
        go_wp2
        try simp only [Exit.inBlock, Exit.then]
        refine bodyPost_ret (results_none rfl _ _ _) rfl ?_
        exact ⟨rfl, by rw [HT.out]; exact RUpd.refl H.out⟩
  · have hd1 : S.down = false := by cases hq : S.down <;> simp_all
    have hd2 : (S.armed == 0) = false := by simp_all
    have hTk : S.tick = ⟨S.files, S.queue, S.lost, S.down, S.armed - 1, S.keep⟩ := by unfold DS.tick; rw [if_neg hd]
    have hbx := heap_setCell_same w p 4 _ _ (.int .i64 (S.armed - 1)) H.out.box
    have HU : Hid (RUpd p S.tick L w (w.setCell ⟨p, 4, none⟩ (.int .i64 (S.armed - 1)))) := Lib.hid (by
      have hw := HW.out
      rw [hTk] at hw ⊢
      exact RK.scal H.out S.lost S.down (S.armed - 1) hw hbx (grown_set _ _ _ _))
    have hTd : S.tick.down = false := by rw [hTk]; exact hd1
    rw [hd1] at c3
    clear hd hbx
    by_cases h2 : 0 < S.armed - 1
    · have he : S.endsB = false := by
        unfold DS.endsB
        simp
        intro
        omega
      have HT : Hid (S.comeW f a s = S.tick) := Lib.hid (by unfold DS.comeW; rw [he]; rfl)
      clear he hTd hTk
      go_enter Tryz.func77, Tryz.ntmps77
      go_wp2
      try simp only [Exit.inBlock, Exit.then]
      refine bodyPost_ret (results_none rfl _ _ _) rfl ?_
      exact ⟨rfl, by rw [HT.out]; exact HU.out⟩
    · have he : S.endsB = true := by
        unfold DS.endsB
        rw [hd1]
        simp
        have : ¬ S.armed = 0 := by simpa using hd2
        omega
      have HT : Hid (S.comeW f a s = (S.tick.wr f a s).crash S.keep) := Lib.hid (by unfold DS.comeW; rw [he, if_pos rfl])
      obtain ⟨L1, d1, t1, o1, k1⟩ := HU.out
      have hkp : S.tick.keep = S.keep := DS.tick_keep S
      have HTd := Lib.hid hTd
      clear he hTk hd1 HU hTd
      have c35 := d1.c5
      rw [hkp] at c35
      by_cases hf : 0 ≤ f ∧ f ≤ 15
      · obtain ⟨f0, f1⟩ := hf
        have HFi := Lib.hid (fun w => rFits_any a s w ha hs)
        cases hfit : fitsB a s
        · rw [hfit] at HFi
          have HTw := Lib.hid (wr_no (S := S.tick) (f := f) (a := a) (s := s) (fun _ => hfit))
          rw [HTw.out] at HT
          clear hfit
          go_enter Tryz.func77, Tryz.ntmps77
          go_wp2_with (go_at_call 78; refine (HFi.out _).mono ?_; rintro e wx ⟨rfl, hwx⟩; obtain rfl := hwx)
          refine (rCrash_any p S.tick L1 _ S.keep L1.kA L1.kc (by have := d1.keep; rwa [hkp] at this) hk (fun _ => d1.kp) d1).mono ?_
          rintro e w3 ⟨rfl, hu3⟩
          go_wp2
          go_end0
          exact ⟨rfl, by rw [HT.out]; exact RUpd.trans t1 o1 k1 hu3⟩
        · rw [hfit] at HFi
          have HTw := wr_yes HTd.out f0 f1 hfit
          rw [HTw] at HT
          have HAdd := Lib.hid (rAdd_any p S.tick L1 _ f a s d1 ⟨f0, by omega⟩ hfit)
          have hkp2 : (S.tick.wadd f a s).keep = S.keep := by rw [← HTw, DS.wr_keep, hkp]
          clear hfit c35 HTw
          go_enter Tryz.func77, Tryz.ntmps77
          go_wp2_with (first | (go_at_call 78; refine (HFi.out _).mono ?_; rintro e wx ⟨rfl, hwx⟩; obtain rfl := hwx) | (go_at_call 79; refine HAdd.out.mono ?_; rintro e w2 ⟨rfl, hu2⟩; obtain ⟨L2, d2, t2, o2, k2⟩ := RUpd.trans t1 o1 k1 hu2; have c35 := d2.c5; rw [hkp2] at c35))
          refine (rCrash_any p _ L2 _ S.keep L2.kA L2.kc (by have := d2.keep; rwa [hkp2] at this) hk (fun _ => d2.kp) d2).mono ?_
          rintro e w3 ⟨rfl, hu3⟩
          go_wp2
          go_end0
          exact ⟨rfl, by rw [HT.out]; exact RUpd.trans t2 o2 k2 hu3⟩
      · have HTw := Lib.hid (wr_no (S := S.tick) (f := f) (a := a) (s := s) (fun h => absurd h hf))
        rw [HTw.out] at HT
        by_cases f0 : 0 ≤ f
        · have f1 : 15 < f := by omega
          clear hf
          go_enter Tryz.func77, Tryz.ntmps77
          go_wp2_with fail
          refine (rCrash_any p S.tick L1 _ S.keep L1.kA L1.kc (by have := d1.keep; rwa [hkp] at this) hk (fun _ => d1.kp) d1).mono ?_
          rintro e w3 ⟨rfl, hu3⟩
          go_wp2
          go_end0
          exact ⟨rfl, by rw [HT.out]; exact RUpd.trans t1 o1 k1 hu3⟩
        · have f1 : f < 0 := by omega
          clear hf f0
          go_enter Tryz.func77, Tryz.ntmps77
          go_wp2_with fail
          refine (rCrash_any p S.tick L1 _ S.keep L1.kA L1.kc (by have := d1.keep; rwa [hkp] at this) hk (fun _ => d1.kp) d1).mono ?_
          rintro e w3 ⟨rfl, hu3⟩
          go_wp2
          go_end0
          exact ⟨rfl, by rw [HT.out]; exact RUpd.trans t1 o1 k1 hu3⟩
theorem DS.write_come (S : DS) (f a : Int) (s : ByteArray) : S.endsB = true → S.write f a s = S.comeW f a s ∧ S.writeC f a s = 8 := by
  intro h
  unfold DS.write DS.writeC DS.comeW
  rw [h]
  exact ⟨rfl, rfl⟩
theorem comeW_tick {S : DS} (h : S.endsB = false) (f a : Int) (s : ByteArray) : S.comeW f a s = S.tick := by
  unfold DS.comeW
  rw [h]
  rfl
theorem comeW_down {S : DS} (h : S.endsB = true) (f a : Int) (s : ByteArray) : (S.comeW f a s).down = true := by
  unfold DS.comeW DS.crash
  rw [h, if_pos rfl]
  split
  · assumption
  · rfl
end Go.Proofs.YtjmkodkechahdaaGreatDoor
/- Contracts of Write, Sync and Truncate of a disk of the reference. -/
set_option linter.unusedSimpArgs false
set_option linter.unusedVariables false
namespace Go.Proofs.YtjmkodkechahdaaGreatDoor
open Go.RowKit
set_option maxRecDepth 100000

set_option maxHeartbeats 2000000 in
theorem rWrite_any (p : Nat) (S : DS) (L : RL) (w : World) (f a : Int) (s : ByteArray) (ha : inI64 a) (hs : s.size ≤ 1073741824) (hk : S.keep.length ≤ 4194320) (h : RK w p S L) :
    Calls Tryz.prog 32 #[.pointer (some ⟨p, 0, none⟩), .int .i64 f, .int .i64 a, .string s] w fun e w' => e = .returned (.int .i64 (S.writeC f a s)) ∧ RUpd p (S.write f a s) L w w' := by
  have HC := Lib.hid (rComes_any p S L w f a s ha hs hk h)
  have HFi := Lib.hid (fun w => rFits_any a s w ha hs)
  clear h
  cases he : S.endsB
  · have h1 : S.writeC f a s = S.tick.wcode f a s := by unfold DS.writeC; rw [he]; rfl
    have h2 : S.write f a s = S.tick.wr f a s := by unfold DS.write; rw [he]; rfl
    rw [comeW_tick he] at HC
    rw [h1, h2]
    clear h1 h2 he
    generalize S.tick = S1 at *
    go_enter Tryz.func32, Tryz.ntmps32
    go_wp2_with fail
    refine HC.out.mono ?_
    rintro e w1 ⟨rfl, L1, d1, t1, o1, k1⟩
    have HM := Lib.hid (rMay_any p S1 L1 _ f d1)
    by_cases h0 : S1.may f = 0
    · rw [h0] at HM
      obtain ⟨_, m1, m2⟩ := may_ok h0
      cases hfit : fitsB a s
      · rw [hfit] at HFi
        have hr : S1.wr f a s = S1 := wr_no (fun _ => hfit)
        have HR1 := Lib.hid hr
        have D1 := Lib.hid d1
        by_cases h2 : a < 0
        · have hc : S1.wcode f a s = 1 := by unfold DS.wcode; rw [if_neg (by omega), if_pos h2]
          have HC1 := Lib.hid hc
          clear hr hc hfit d1
          go_wp2_with (go_at_call 38; refine HM.out.mono ?_; rintro e w4 ⟨rfl, hw4⟩; obtain rfl := hw4.symm)
          go_ret
          exact ⟨by rw [HC1.out]; rfl, by rw [HR1.out]; exact RUpd.trans t1 o1 k1 (RUpd.refl D1.out)⟩
        · have hc : S1.wcode f a s = 6 := by unfold DS.wcode; rw [if_neg (by omega), if_neg h2, hfit]; rfl
          have HC1 := Lib.hid hc
          have h3 : 0 ≤ a := by omega
          clear hr hc hfit d1 h2
          go_wp2_with (first | (go_at_call 38; refine HM.out.mono ?_; rintro e w4 ⟨rfl, hw4⟩; obtain rfl := hw4.symm) | (go_at_call 78; refine (HFi.out _).mono ?_; rintro e wx ⟨rfl, hwx⟩; obtain rfl := hwx))
          go_ret
          exact ⟨by rw [HC1.out]; rfl, by rw [HR1.out]; exact RUpd.trans t1 o1 k1 (RUpd.refl D1.out)⟩
      · rw [hfit] at HFi
        obtain ⟨q1, q2⟩ := fits_ok hfit
        have hc : S1.wcode f a s = 0 := by unfold DS.wcode; rw [if_neg (by omega), if_neg (by omega), if_pos hfit]
        have hr : S1.wr f a s = S1.wadd f a s := by unfold DS.wr; rw [if_pos hc]
        have HAdd := Lib.hid (rAdd_any p S1 L1 _ f a s d1 ⟨m1, m2⟩ hfit)
        have HR1 := Lib.hid hr
        have HC1 := Lib.hid hc
        clear hr hc hfit d1
        go_wp2_with (first | (go_at_call 38; refine HM.out.mono ?_; rintro e w4 ⟨rfl, hw4⟩; obtain rfl := hw4.symm) | (go_at_call 78; refine (HFi.out _).mono ?_; rintro e wx ⟨rfl, hwx⟩; obtain rfl := hwx) | (go_at_call 79; refine HAdd.out.mono ?_; rintro e w2 ⟨rfl, hu2⟩))
        go_ret
        exact ⟨by rw [HC1.out]; rfl, by rw [HR1.out]; exact RUpd.trans t1 o1 k1 hu2⟩
    · have hc : S1.wcode f a s = S1.may f := by unfold DS.wcode; rw [if_pos h0]
      have hr : S1.wr f a s = S1 := by unfold DS.wr; rw [if_neg (by rw [hc]; exact h0)]
      have HR1 := Lib.hid hr
      have HC1 := Lib.hid hc
      have D1 := Lib.hid d1
      have h2 : (S1.may f == 0) = false := by simpa using h0
      clear hc hr h0 d1
      generalize S1.may f = cm at *
      go_wp2_with (go_at_call 38; refine HM.out.mono ?_; rintro e w4 ⟨rfl, hw4⟩; obtain rfl := hw4.symm)
      go_ret
      exact ⟨by rw [HC1.out]; rfl, by rw [HR1.out]; exact RUpd.trans t1 o1 k1 (RUpd.refl D1.out)⟩
  · obtain ⟨h1, h2⟩ := DS.write_come S f a s he
    have hdn := comeW_down he f a s
    have hm : (S.comeW f a s).may f = 8 := by unfold DS.may; rw [if_pos hdn]
    rw [h1, h2]
    clear h1 h2 he hdn
    generalize S.comeW f a s = S1 at *
    go_enter Tryz.func32, Tryz.ntmps32
    go_wp2_with fail
    refine HC.out.mono ?_
    rintro e w1 ⟨rfl, L1, d1, t1, o1, k1⟩
    have HM := Lib.hid (rMay_any p S1 L1 _ f d1)
    have D1 := Lib.hid d1
    rw [hm] at HM
    clear d1 hm
    go_wp2_with (go_at_call 38; refine HM.out.mono ?_; rintro e w4 ⟨rfl, hw4⟩; obtain rfl := hw4.symm)
    go_ret
    exact ⟨rfl, RUpd.trans t1 o1 k1 (RUpd.refl D1.out)⟩
set_option maxHeartbeats 2000000 in
theorem rSync_any (p : Nat) (S : DS) (L : RL) (w : World) (f : Int) (hk : S.keep.length ≤ 4194320) (h : RK w p S L) :
    Calls Tryz.prog 70 #[.pointer (some ⟨p, 0, none⟩), .int .i64 f] w fun e w' => e = .returned (.int .i64 (S.syncC f)) ∧ RUpd p (S.sync f) L w w' := by
  have HC := Lib.hid (rComes_any p S L w 0 0 e0 (by unfold inI64; omega) (by decide) hk h)
  clear h
  rw [comeW_none] at HC
  show Calls _ _ _ _ (fun e w' => e = .returned (.int .i64 (S.come.syncC0 f)) ∧ RUpd p (S.come.sync0 f) L w w')
  generalize S.come = S1 at *
  have q2 := fun a b c w => fieldRFile1 a b c w
  go_enter Tryz.func70, Tryz.ntmps70
  go_wp2_with fail
  refine HC.out.mono ?_
  rintro e w1 ⟨rfl, L1, d1, t1, o1, k1⟩
  have HM := Lib.hid (rMay_any p S1 L1 _ f d1)
  by_cases hm : S1.may f = 0
  · rw [hm] at HM
    have c2 := d1.c2
    have cz := fun j => box_free d1.box j
    obtain ⟨_, m1, m2⟩ := may_ok hm
    by_cases hl : 0 < S1.lost
    · have e1 : S1.syncC0 f = 9 := by unfold DS.syncC0; rw [if_neg (by omega), if_pos hl]
      have e2 : S1.sync0 f = ⟨S1.files, S1.queue, S1.lost - 1, S1.down, S1.armed, S1.keep⟩ := by unfold DS.sync0; rw [if_neg (by omega), if_pos hl]
      have hw := DS.sync0_wf d1.wf f
      rw [e2] at hw
      have E1 := Lib.hid e1
      have E2 := Lib.hid e2
      have hl1 := d1.wf.lost1
      unfold inI64 at hl1
      have D1 := Lib.hid d1
      have HW := Lib.hid hw
      clear d1 e1 e2 hw
      go_wp2_with (go_at_call 38; refine HM.out.mono ?_; rintro e w4 ⟨rfl, hw4⟩; obtain rfl := hw4.symm)
      go_ret
      exact ⟨by rw [E1.out]; rfl, by rw [E2.out]; exact RUpd.trans t1 o1 k1 (RK.scal D1.out (S1.lost - 1) S1.down S1.armed HW.out (heap_setCell_same _ _ _ _ _ _ D1.out.box) (grown_set _ _ _ _))⟩
    · have e1 : S1.syncC0 f = 0 := by unfold DS.syncC0; rw [if_neg (by omega), if_neg hl]
      have e2 : S1.sync0 f = S1.settle f (S1.files f).1 := by unfold DS.sync0; rw [if_neg (by omega), if_neg hl]
      have E1 := Lib.hid e1
      have E2 := Lib.hid e2
      have HG := Lib.hid (rGet_any p S1 L1 _ f d1)
      have D1 := Lib.hid d1
      have hnow := d1.wf.now f
      clear d1 e1 e2
      go_wp2_with (first | (go_at_call 38; refine HM.out.mono ?_; rintro e w4 ⟨rfl, hw4⟩; obtain rfl := hw4.symm) | (go_at_call 39; refine HG.out.mono ?_; rintro e w5 ⟨rfl, hb5⟩) | (go_at_call 91; refine (rSettle_any p S1 L1 _ f (S1.files f).1 (D1.out.below hb5) ⟨m1, m2⟩ hnow).mono ?_; rintro e w6 ⟨rfl, hu6⟩))
      go_ret
      exact ⟨by rw [E1.out]; rfl, by rw [E2.out]; exact RUpd.trans t1 o1 k1 (RUpd.behind hb5 hu6)⟩
  · have e1 : S1.syncC0 f = S1.may f := by unfold DS.syncC0; rw [if_pos hm]
    have e2 : S1.sync0 f = S1 := by unfold DS.sync0; rw [if_pos hm]
    have hne : (S1.may f == 0) = false := by simpa using hm
    have E1 := Lib.hid e1
    have E2 := Lib.hid e2
    have D1 := Lib.hid d1
    clear e1 e2 d1
    generalize S1.may f = cm at *
    go_wp2_with (go_at_call 38; refine HM.out.mono ?_; rintro e w4 ⟨rfl, hw4⟩; obtain rfl := hw4.symm)
    go_ret
    exact ⟨by rw [E1.out]; rfl, by rw [E2.out]; exact RUpd.trans t1 o1 k1 (RUpd.refl D1.out)⟩
set_option maxHeartbeats 2000000 in
theorem rTrunc_any (p : Nat) (S : DS) (L : RL) (w : World) (f n : Int) (hn : inI64 n) (hk : S.keep.length ≤ 4194320) (h : RK w p S L) :
    Calls Tryz.prog 72 #[.pointer (some ⟨p, 0, none⟩), .int .i64 f, .int .i64 n] w fun e w' => e = .returned (.int .i64 (S.truncC f n)) ∧ RUpd p (S.trunc f n) L w w' := by
  have HC := Lib.hid (rComes_any p S L w 0 0 e0 (by unfold inI64; omega) (by decide) hk h)
  clear h
  rw [comeW_none] at HC
  show Calls _ _ _ _ (fun e w' => e = .returned (.int .i64 (S.come.truncC0 f n)) ∧ RUpd p (S.come.trunc0 f n) L w w')
  generalize S.come = S1 at *
  have q2 := fun a b c w => fieldRFile1 a b c w
  unfold inI64 at hn
  go_enter Tryz.func72, Tryz.ntmps72
  go_wp2_with fail
  refine HC.out.mono ?_
  rintro e w1 ⟨rfl, L1, d1, t1, o1, k1⟩
  have HM := Lib.hid (rMay_any p S1 L1 _ f d1)
  have D1 := Lib.hid d1
  by_cases hm : S1.may f = 0
  · rw [hm] at HM
    obtain ⟨_, m1, m2⟩ := may_ok hm
    have hnow := d1.wf.now f
    have HG := Lib.hid (rGet_any p S1 L1 _ f d1)
    obtain ⟨x0, hx0⟩ : ∃ x, x = S1.files f := ⟨_, rfl⟩
    by_cases hb : n < 0 ∨ (S1.files f).1.size < n
    · have e1 : S1.truncC0 f n = 1 := by unfold DS.truncC0; rw [if_neg (by omega), if_pos hb]
      have e2 : S1.trunc0 f n = S1 := by unfold DS.trunc0; rw [if_neg (by omega)]
      have E1 := Lib.hid e1
      have E2 := Lib.hid e2
      rw [← hx0] at HG hnow hb
      clear d1 e1 e2 hx0
      go_wp2_with (first | (go_at_call 38; refine HM.out.mono ?_; rintro e w4 ⟨rfl, hw4⟩; obtain rfl := hw4.symm) | (go_at_call 39; refine HG.out.mono ?_; rintro e w5 ⟨rfl, hb5⟩))
      all_goals first
        | (exfalso; omega)
        | (go_ret; exact ⟨by rw [E1.out]; rfl, by rw [E2.out]; exact RUpd.trans t1 o1 k1 (RUpd.of_below D1.out hb5)⟩)
    · have e1 : S1.truncC0 f n = 0 := by unfold DS.truncC0; rw [if_neg (by omega), if_neg hb]
      have e2 : S1.trunc0 f n = S1.settle f ((S1.files f).1.extract 0 n.toNat) := by unfold DS.trunc0; rw [if_pos e1]
      have E1 := Lib.hid e1
      have E2 := Lib.hid e2
      rw [← hx0] at HG hnow hb E2
      have hb1 : 0 ≤ n := by omega
      have hb2 : n ≤ x0.1.size := by omega
      have hxs : (x0.1.extract 0 n.toNat).size ≤ 16777216 := by rw [extract_size]; omega
      clear d1 e1 e2 hb hx0
      go_wp2_with (first | (go_at_call 38; refine HM.out.mono ?_; rintro e w4 ⟨rfl, hw4⟩; obtain rfl := hw4.symm) | (go_at_call 39; refine HG.out.mono ?_; rintro e w5 ⟨rfl, hb5⟩) | (go_at_call 91; refine (rSettle_any p S1 L1 _ f (x0.1.extract 0 n.toNat) (D1.out.below hb5) ⟨m1, m2⟩ hxs).mono ?_; rintro e w6 ⟨rfl, hu6⟩))
      all_goals first
        | (exfalso; omega)
        | (go_ret; exact ⟨by rw [E1.out]; rfl, by rw [E2.out]; exact RUpd.trans t1 o1 k1 (RUpd.behind hb5 hu6)⟩)
  · have e1 : S1.truncC0 f n = S1.may f := by unfold DS.truncC0; rw [if_pos hm]
    have e2 : S1.trunc0 f n = S1 := by unfold DS.trunc0; rw [if_neg (by omega)]
    have hne : (S1.may f == 0) = false := by simpa using hm
    have E1 := Lib.hid e1
    have E2 := Lib.hid e2
    clear e1 e2 d1
    generalize S1.may f = cm at *
    go_wp2_with (go_at_call 38; refine HM.out.mono ?_; rintro e w4 ⟨rfl, hw4⟩; obtain rfl := hw4.symm)
    go_ret
    exact ⟨by rw [E1.out]; rfl, by rw [E2.out]; exact RUpd.trans t1 o1 k1 (RUpd.refl D1.out)⟩
end Go.Proofs.YtjmkodkechahdaaGreatDoor
