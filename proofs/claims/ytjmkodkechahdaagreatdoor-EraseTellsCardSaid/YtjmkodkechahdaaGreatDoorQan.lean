/- Contracts and plain laws, joined: DkF. -/
import Derived.Test.YtjmkodkechahdaaGreatDoorQaj
import Derived.Deep.CutBlock
import Derived.Deep.DeepCutAuto
/- Contract of settle. -/
set_option linter.unusedSimpArgs false
set_option linter.unusedVariables false
namespace Go.Proofs.YtjmkodkechahdaaGreatDoor
open Go.RowKit
set_option maxRecDepth 100000

section
variable {w w' : World} {p : Nat} {S : DS} {L : DL}
/-- d.files[f] = x -/
theorem DK.storeF (h : DK w p S L) (f : Int) (hf : inI64 f) (x : FileT) :
    ∃ w', (Instr.mapUpdate 53 (.map (some L.bf)) (.int .i64 f) (.agg #[.string x.1, .string x.2])).run Tryz.prog w = .ok () w' ∧ w.grownBy w' (some L.bf) ∧ w'.heap.size = w.heap.size ∧ ∃ m, MapF w' L.bf okI kvI fileV m ∧ updF S.files f x = fun g => (m g).getD (e0, e0) := by
  obtain ⟨m, hm, hS⟩ := h.files
  obtain ⟨w', r1, r2, r3, r4⟩ := hm.store keyI Tryz.underlying53 f hf x
  refine ⟨w', r1, r3, r4, _, r2, ?_⟩
  funext g
  unfold updF
  rw [hS]
  by_cases hg : g = f <;> simp [hg]
/-- The disk lies where it lay. -/
theorem DK.same (h : DK w p S L) (t : Turn (L.own p) w w') (S' : DS) (hw : S'.wf) (hbox : w'.heap[p]? = some (.cells (diskV S' L) 57 (0, 0))) (hf : ∃ m, MapF w' L.bf okI kvI fileV m ∧ S'.files = fun f => (m f).getD (e0, e0))
    (hq : OwnL w' 0 93 2 secC L.qA L.qc S'.queue) (hs : MapF w' L.bs okS secV Value.bool (setF S'.queue)) (hk : S'.keep = S.keep) : Upd p S' L w w' :=
  ⟨L, ⟨hw, hbox, hf, hq, hs, by rw [hk]; exact h.keep.turn (fun i hi hl => t.block i hl (h.kp i hi)) t.size, h.pf, h.ps, h.fs, h.qp, h.kp, fun i hi => Nat.lt_of_lt_of_le (h.kl i hi) t.size⟩, t, fun _ hi => .inl hi, fun _ hi => .inl hi⟩
end
theorem setF_drop (f : Int) (q : List (Int × Int)) : dropF f (setF q) = setF (q.filter (notF f)) := by
  funext x
  unfold dropF setF
  cases hx : (x.1 == f)
  · simp [notF, hx]
  · simp [notF, hx]
set_option maxHeartbeats 2000000 in
theorem dSettle_any (p : Nat) (S : DS) (L : DL) (w : World) (f : Int) (s : ByteArray) (hf : 0 ≤ f ∧ f < 16) (hs : s.size ≤ 16777216) (h : DK w p S L) :
    Calls Tryz.prog 87 #[.pointer (some ⟨p, 0, none⟩), .int .i64 f, .string s] w fun e w' => e = .returned (.tuple #[]) ∧ Upd p (S.settle f s) L w w' := by
  have hfi : inI64 f := by unfold inI64; omega
  have H := Lib.hid h
  have hp := box_lt h.box
  have hbf := h.lt L.bf (.inr (.inl rfl))
  have hbs := h.lt L.bs (.inr (.inr (.inl rfl)))
  have hh1 : DK ((w.alloc (.cells #[.int .i64 f] 3)).drew) p S L := by
    refine h.turn (fun i hi => ?_) (by simp)
    have : i < w.heap.size := by
      rcases hi with hi | hi
      · exact h.lt i hi
      · exact h.kl i hi
    exact Below.heap_alloc w _ i this
  obtain ⟨w2, r2, hg2, hs2, m2, hm2, hS2⟩ := hh1.storeF f hfi (s, s)
  have H1 := Lib.hid hh1
  have c0 := hh1.c0
  clear h hh1
  have hz1 : ((w.alloc (.cells #[.int .i64 f] 3)).drew).heap.size = w.heap.size + 1 := by simp
  have hpf := H1.out.pf
  have hps := H1.out.ps
  have hfs := H1.out.fs
  have hb2 : w2.heap[p]? = some (.cells (diskV S L) 57 (0, 0)) := (hg2.block p (by omega) (fun e => hpf (by injection e))).trans H1.out.box
  have hq2 : OwnL w2 0 93 2 secC L.qA L.qc S.queue := H1.out.queue.turn (fun i hi hl => hg2.block i hl (fun e => (H1.out.qp i hi).2.1 (by injection e)))
  have hs2' : MapF w2 L.bs okS secV Value.bool (setF S.queue) := H1.out.set.of_block (hg2.block L.bs (by omega) (fun e => hfs (by injection e with e; exact e.symm)))
  have hc2 : w2.cell? ⟨w.heap.size, 0, none⟩ = some (.int .i64 f) := (grown_cell hg2 (by omega) (by omega) 0).trans (box_cell (box_new (o := .cells #[.int .i64 f] 3) (w := w) (Below.refl _ _)) 0 _ rfl)
  have d1 : w2.cell? ⟨p, 1, none⟩ = some (.slice L.qA S.queue.length L.qc) := box_cell hb2 1 _ rfl
  have hqb : slBlk L.qA ≠ some w.heap.size := fun e => by have := H.out.lt _ (.inr (.inr (.inr e))); omega
  have HD := Lib.hid (delFn_any S.queue L.qA L.qc f w.heap.size w2 hq2 (by have := H.out.wf.qlen; omega) hc2 (by omega) hqb)
  have HM2 := Lib.hid hm2
  have HS2 := Lib.hid hS2
  have HB2 := Lib.hid hb2
  have HC2 := Lib.hid hc2
  have HSet := Lib.hid hs2'
  have hT2 : Turn (L.own p) w w2 := ((Turn.refl _ w).alloc _).drew.trans (Turn.grown (F := fun i => i = L.bf) hg2 (fun k hk => by injection hk with hk; exact hk.symm)) (fun i hi => .inl (.inr (.inl hi)))
  have HT2 := Lib.hid hT2
  clear hm2 hS2 hb2 hq2 hs2' hc2 hT2
  go_enter Tryz.func87, Tryz.ntmps87
  go_wp2_with fail
  go_region
  go_wp2_with fail
  refine HD.out.mono ?_
  rintro e w3 ⟨rfl, hq3, hg3⟩
  have hz2 : w2.heap.size = w.heap.size + 1 := by omega
  have hz3 := hg3.size
  have hb3 : w3.heap[p]? = some (.cells (diskV S L) 57 (0, 0)) := (hg3.block p (by omega) (fun e => (H.out.qp p e.symm).1 rfl)).trans HB2.out
  have HB3 := Lib.hid hb3
  have d1' : w3.cell? ⟨p, 1, none⟩ = some (.slice L.qA S.queue.length L.qc) := box_cell hb3 1 _ rfl
  have d2' : w3.cell? ⟨p, 2, none⟩ = some (.map (some L.bs)) := box_cell hb3 2 _ rfl
  have cz3 := fun j => box_free hb3 j
  obtain ⟨w4, hw4⟩ : ∃ w4, w4 = w3.setCell ⟨p, 1, none⟩ (.slice L.qA (S.queue.filter (notF f)).length L.qc) := ⟨_, rfl⟩
  have hg4 : w3.grownBy w4 (some p) := by rw [hw4]; exact grown_set _ _ _ _
  have hz4 : w4.heap.size = w3.heap.size := by rw [hw4]; simp [World.setCell]
  have hb4 : w4.heap[p]? = some (.cells (diskV (S.settle f s) L) 57 (0, 0)) := by rw [hw4]; exact heap_setCell_same _ _ _ _ _ _ hb3
  have hm4 : MapF w4 L.bs okS secV Value.bool (setF S.queue) := (HSet.out.of_block (hg3.block L.bs (by omega) (fun e => (H.out.qp L.bs e.symm).2.2 rfl))).of_block (hg4.block L.bs (by omega) (fun e => hps (by injection e with e; exact e.symm)))
  have hc4 : w4.cell? ⟨w.heap.size, 0, none⟩ = some (.int .i64 f) := by
    have h1 : w3.cell? ⟨w.heap.size, 0, none⟩ = w2.cell? ⟨w.heap.size, 0, none⟩ := World.cell?_of_block (hg3.block w.heap.size (by omega) (fun e => hqb e.symm))
    exact (grown_cell hg4 (by omega) (by omega) 0).trans (h1.trans HC2.out)
  have HM4 := Lib.hid (delMap_any (setF S.queue) f w.heap.size L.bs w4 hm4 hc4 (by omega) (by omega))
  have HB4 := Lib.hid hb4
  have hT3 : Turn (L.own p) w w3 := HT2.out.trans (Turn.grown (F := fun i => slBlk L.qA = some i) hg3 (fun k hk => hk)) (fun i hi => .inl (.inr (.inr (.inr hi))))
  have hT4 : Turn (L.own p) w w4 := hT3.trans (Turn.grown (F := fun i => i = p) hg4 (fun k hk => by injection hk with hk; exact hk.symm)) (fun i hi => .inl (.inl hi))
  have HT4 := Lib.hid hT4
  have HQ4 := Lib.hid (hq3.turn (w' := w4) (fun i hi hl => hg4.block i hl (fun e => (H.out.qp i hi).1 (Option.some.inj e))))
  have HF4 := Lib.hid ((HM2.out.of_block (hg3.block L.bf (by omega) (fun e => (H.out.qp L.bf e.symm).2.1 rfl))).of_block (hg4.block L.bf (by omega) (fun e => hpf (Option.some.inj e).symm)))
  clear hb3 hb4 hm4 hc4 hT3 hT4 hq3 hg4
  go_wp2_with (go_at_call 105; rw [← hw4]; refine HM4.out.mono ?_; rintro e w5 ⟨rfl, hm5, hg5⟩)
  go_end0
  refine ⟨rfl, ?_⟩
  have hb5 : w5.heap[p]? = some (.cells (diskV (S.settle f s) L) 57 (0, 0)) := (hg5.block p (by omega) (fun e => hps (by injection e))).trans HB4.out
  refine H.out.same (HT4.out.trans (Turn.grown (F := fun i => i = L.bs) hg5 (fun k hk => by injection hk with hk; exact hk.symm)) (fun i hi => .inl (.inr (.inr (.inl hi))))) (S.settle f s) (DS.settle_wf H.out.wf f s hf hs) hb5 ⟨m2, HF4.out.of_block (hg5.block L.bf (by omega) (fun e => hfs (by injection e))), HS2.out⟩
    (HQ4.out.turn (fun i hi hl => hg5.block i hl (fun e => (H.out.qp i hi).2.2 (Option.some.inj e)))) (by rw [setF_drop] at hm5; exact hm5) rfl
end Go.Proofs.YtjmkodkechahdaaGreatDoor
