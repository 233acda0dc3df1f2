/- Contracts and plain laws, joined: DkH, DkI. -/
import Derived.Test.YtjmkodkechahdaaGreatDoorQar
import Derived.Deep.RegionLaw
/- Contract of Crash. -/
set_option linter.unusedSimpArgs false
set_option linter.unusedVariables false
namespace Go.Proofs.YtjmkodkechahdaaGreatDoor
open Go.RowKit
set_option maxRecDepth 100000

theorem and1 (x : Int) : bits .and .i64 x 1 = x % 2 := by
  show IntKind.i64.wrap ((BitVec.ofInt 64 x &&& BitVec.ofInt 64 1).toNat : Int) = _
  rw [BitVec.toNat_and, show (BitVec.ofInt 64 (1 : Int)).toNat = 2 ^ 1 - 1 by decide, Nat.and_two_pow_sub_one_eq_mod, BitVec.toNat_ofInt, IntKind.wrap_i64]
  omega
theorem and3 (x : Int) : bits .and .i64 x 3 = x % 4 := by
  show IntKind.i64.wrap ((BitVec.ofInt 64 x &&& BitVec.ofInt 64 3).toNat : Int) = _
  rw [BitVec.toNat_and, show (BitVec.ofInt 64 (3 : Int)).toNat = 2 ^ 2 - 1 by decide, Nat.and_two_pow_sub_one_eq_mod, BitVec.toNat_ofInt, IntKind.wrap_i64]
  omega
theorem and7 (x : Int) : bits .and .i64 x 7 = x % 8 := by
  show IntKind.i64.wrap ((BitVec.ofInt 64 x &&& BitVec.ofInt 64 7).toNat : Int) = _
  rw [BitVec.toNat_and, show (BitVec.ofInt 64 (7 : Int)).toNat = 2 ^ 3 - 1 by decide, Nat.and_two_pow_sub_one_eq_mod, BitVec.toNat_ofInt, IntKind.wrap_i64]
  omega
theorem survQ_nil (q : List (Int × Int)) : ∀ (i : Nat) (F : Int → FileT), survQ [] i q F = F := by
  induction q with
  | nil => intro i F; rfl
  | cons p r ih =>
    intro i F
    rw [survQ, ih]
    simp [keepBit]
theorem survQ_step (keep : List Int) (q : List (Int × Int)) (k : Nat) (hk : k < q.length) (F : Int → FileT) : survQ keep k (q.drop k) F = survQ keep (k + 1) (q.drop (k + 1)) (if keepBit keep k = true then surv1 F q[k] else F) := by
  rw [List.drop_eq_getElem_cons hk, survQ]
theorem keepBit_at (keep : List Int) (i : Nat) (h : i % keep.length < keep.length) : keepBit keep i = (keep[i % keep.length] % 2 == 1) := by
  unfold keepBit
  rw [List.getElem?_eq_getElem h]
/-- d.files[f] = x, behind reads that made new blocks; the disk lies where it lay. -/
theorem DK.write2 {w W2 : World} {p : Nat} {S : DS} {L : DL} (h : DK w p S L) (hb : Below w.heap.size w W2) (f : Int) (x : FileT) (hf : 0 ≤ f ∧ f < 16) (h1 : x.1.size ≤ 16777216) (h2 : x.2.size ≤ 16777216) :
    ∃ w3, (Instr.mapUpdate 53 (.map (some L.bf)) (.int .i64 f) (.agg #[.string x.1, .string x.2])).run Tryz.prog W2 = .ok () w3 ∧ DK w3 p (DS.mk (updF S.files f x) S.queue S.lost S.down S.armed S.keep) L ∧ Turn (L.own p) w w3 := by
  have hh := h.below hb
  obtain ⟨w3, r, hg, hz, m, hm, hS⟩ := hh.storeF f (by unfold inI64; omega) x
  have hl := fun i hi => hh.lt i hi
  have t : Turn (L.own p) w w3 := (Turn.below hb).trans (Turn.grown (F := fun i => i = L.bf) hg (fun k hk => by injection hk with hk; exact hk.symm)) (fun i hi => .inl (.inr (.inl hi)))
  refine ⟨w3, r, ⟨updfile_wf h.wf f x hf h1 h2, ?_, ⟨m, hm, hS⟩, ?_, ?_, h.keep.turn (fun i hi hl => t.block i hl (h.kp i hi)) t.size, h.pf, h.ps, h.fs, h.qp, h.kp, fun i hi => Nat.lt_of_lt_of_le (h.kl i hi) t.size⟩, t⟩
  · exact (hg.block p (hl p (.inl rfl)) (fun e => h.pf (Option.some.inj e))).trans hh.box
  · exact hh.queue.turn (fun i hi hl => hg.block i hl (fun e => (h.qp i hi).2.1 (Option.some.inj e)))
  · exact hh.set.of_block (hg.block L.bs (hl _ (.inr (.inr (.inl rfl)))) (fun e => h.fs (Option.some.inj e).symm))
/-- The map under way: what is still to come stands, of the rest the durable part alone is left. -/
def under2 (m : Int → Option FileT) (left : Int → Bool) : Int → Option FileT := fun x => if left x = true then m x else (m x).map (fun y => (y.2, y.2))
theorem under2_start (m : Int → Option FileT) : under2 m (fun a => (m a).isSome) = m := by
  funext x
  unfold under2
  rcases hm : m x with _ | y <;> simp [hm]
theorem under2_end (m : Int → Option FileT) (left : Int → Bool) (h : ∀ a, left a = false) : under2 m left = fun x => (m x).map (fun y => (y.2, y.2)) := by
  funext x
  unfold under2
  rw [h x]
  simp
theorem under2_at (m : Int → Option FileT) (left : Int → Bool) (a : Int) (v : FileT) (hl : left a = true) (hv : under2 m left a = some v) : m a = some v := by
  unfold under2 at hv
  rwa [if_pos hl] at hv
theorem under2_step (m : Int → Option FileT) (left : Int → Bool) (a : Int) (v : FileT) (hl : left a = true) (hv : under2 m left a = some v) : (fun x => if x = a then some (v.2, v.2) else under2 m left x) = under2 m (fun x => left x && !decide (x = a)) := by
  have ha := under2_at m left a v hl hv
  funext x
  unfold under2
  by_cases hx : x = a
  · subst hx
    simp [ha]
  · simp [hx]
theorem DK.crashed {W W2 W3 : World} {p : Nat} {S : DS} {L : DL} (d : DK W p S L) (hg : W.grownBy W2 (some L.bf)) (m : Int → Option FileT) (hm : MapF W2 L.bf okI kvI fileV m) (hf : lastF S.files = fun f => (m f).getD (e0, e0)) (hw : (DS.mk (lastF S.files) [] S.lost S.down S.armed S.keep).wf)
    (hW3 : W3 = ((W2.setCell ⟨p, 1, none⟩ (.slice none 0 0)).setCell ⟨p, 2, none⟩ (.map (some W2.heap.size))).alloc (.map #[] 0)) : Upd p (DS.mk (lastF S.files) [] S.lost S.down S.armed S.keep) L W W3 := by
  have hp := d.lt p (.inl rfl)
  have hbf := d.lt L.bf (.inr (.inl rfl))
  have hz := hg.size
  have hpf := d.pf
  have hza : ((W2.setCell ⟨p, 1, none⟩ (.slice none 0 0)).setCell ⟨p, 2, none⟩ (.map (some W2.heap.size))).heap.size = W2.heap.size := by simp [World.setCell]
  have o3 : ∀ i, i < W2.heap.size → i ≠ p → W3.heap[i]? = W2.heap[i]? := fun i hi hne => by
    rw [hW3, Below.heap_alloc _ _ i (by omega), heap_setCell_other _ ⟨p, 2, none⟩ _ _ hne, heap_setCell_other _ ⟨p, 1, none⟩ _ _ hne]
  have hbox2 : W2.heap[p]? = some (.cells (diskV S L) 57 (0, 0)) := (hg.block p hp (fun e => hpf (Option.some.inj e))).trans d.box
  have hbox3 : W3.heap[p]? = some (.cells (diskV (DS.mk (lastF S.files) [] S.lost S.down S.armed S.keep) ⟨L.bf, W2.heap.size, none, 0, L.kA, L.kc⟩) 57 (0, 0)) := by
    rw [hW3]
    exact (Below.heap_alloc _ _ p (by omega)).trans (heap_setCell_same _ _ _ _ _ _ (heap_setCell_same _ _ _ _ _ _ hbox2))
  have t3 : Turn (L.own p) W W3 := by
    rw [hW3]
    exact (((Turn.grown (F := L.own p) hg (fun k hk => by cases hk; exact .inr (.inl rfl))).set p 1 _ (.inl (.inl rfl))).set p 2 _ (.inl (.inl rfl))).alloc _
  have hz3 : W3.heap.size = W2.heap.size + 1 := by rw [hW3]; simp [World.setCell]
  refine ⟨⟨L.bf, W2.heap.size, none, 0, L.kA, L.kc⟩, ⟨hw, hbox3, ⟨m, hm.of_block (o3 _ (by omega) (fun e => hpf e.symm)), hf⟩, OwnL.nil_, ?_, d.keep.turn (fun i hi hl => t3.block i hl (fun ho => d.kp i hi ho)) t3.size, hpf, (by show p ≠ W2.heap.size; omega), (by show L.bf ≠ W2.heap.size; omega), (fun i hi => by cases hi), ?_, fun i hi => Nat.lt_of_lt_of_le (d.kl i hi) t3.size⟩, t3, ?_, fun i hi => .inl hi⟩
  · have hn : MapF W3 W2.heap.size okS secV Value.bool (fun _ => none) := by
      have h1 := MapF.new (ok := okS) (kv := secV) (vv := Value.bool) ((W2.setCell ⟨p, 1, none⟩ (.slice none 0 0)).setCell ⟨p, 2, none⟩ (.map (some W2.heap.size)))
      rw [hza] at h1
      rw [hW3]
      exact h1
    have he : setF [] = (fun _ => none) := by funext x; simp [setF]
    show MapF W3 W2.heap.size okS secV Value.bool (setF [])
    rw [he]
    exact hn
  · rintro i hi (h | h | h | h)
    · exact d.kp i hi (.inl h)
    · exact d.kp i hi (.inr (.inl h))
    · have := d.kl i hi
      have h' : i = W2.heap.size := h
      omega
    · cases h
  · rintro i (h | h | h | h)
    · exact .inl (.inl h)
    · exact .inl (.inr (.inl h))
    · exact .inr (by have h' : i = W2.heap.size := h; omega)
    · cases h
set_option maxRecDepth 100000 in
set_option maxHeartbeats 4000000 in
theorem dCrash_any (p : Nat) (S : DS) (L : DL) (w : World) (keep : List Int) (A : Option Addr) (c : Nat) (hr : RdL 1 intC w w.heap.size A keep) (hm : keep.length ≤ 4194320) (hA : keep ≠ [] → ∀ i, slBlk A = some i → ¬ L.own p i) (h : DK w p S L) :
    Calls Tryz.prog 28 #[.pointer (some ⟨p, 0, none⟩), .slice A keep.length c] w fun e w' => e = .returned (.tuple #[]) ∧ Upd p (S.crash keep) L w w' := by
  have H := Lib.hid h
  have HR := Lib.hid hr
  have c4 := h.c4
  have c5 := h.c5
  have c1 := h.c1
  have c0 := h.c0
  have cz := fun j => box_free h.box j
  have hql := h.wf.qlen
  clear h hr
  cases hd : S.down
  · rw [hd] at c4
    go_enter Tryz.func28, Tryz.ntmps28
    go_wp2_with fail
    obtain ⟨W1, hW1⟩ : ∃ W, W = (w.setCell ⟨p, 4, none⟩ (.bool true)).setCell ⟨p, 5, none⟩ (.int .i64 0) := ⟨_, rfl⟩
    have hb1 : W1.heap[p]? = some (.cells (diskV ⟨S.files, S.queue, S.lost, true, 0, S.keep⟩ L) 57 (0, 0)) := by
      have h1 := heap_setCell_same _ p 5 _ _ (.int .i64 0) (heap_setCell_same _ p 4 _ _ (.bool true) H.out.box)
      rw [← hW1] at h1
      exact h1
    have hg1 : w.grownBy W1 (some p) := by
      rw [hW1]
      exact (grown_set w p 4 (.bool true)).andThen (grown_set _ p 5 _) (fun j h => .inr h.symm.symm)
    have hw1 : (DS.mk S.files S.queue S.lost true 0 S.keep).wf := ⟨H.out.wf.out, H.out.wf.now, H.out.wf.last, H.out.wf.q, H.out.wf.nd, H.out.wf.lost0, H.out.wf.lost1, by simp, by simp [inI64], H.out.wf.keep⟩
    have D1 := Lib.hid (H.out.scal S.lost true 0 hw1 hb1 hg1)
    rw [← hW1]
    have T1 := Lib.hid (Turn.grown (F := L.own p) hg1 (fun k hk => by cases hk; exact .inl rfl))
    clear hW1 hb1 hg1
    go_loopw [4, 5, 6, 7, 25] (fun _ _ _ _ i wr => ∃ (k : Nat) (F : Int → FileT), k ≤ S.queue.length ∧ i = .int .i64 k ∧ survQ keep k (S.queue.drop k) F = survQ keep 0 S.queue S.files ∧ DK wr p ⟨F, S.queue, S.lost, true, 0, S.keep⟩ L ∧ Turn (L.own p) w wr) (fun _ _ _ _ i _ => S.queue.length - (intOf i).toNat)
    case atStart => exact ⟨0, S.files, Nat.zero_le _, rfl, rfl, D1.out, T1.out⟩
    case round =>
      obtain ⟨k, F, hk, rfl, hs, d, tt⟩ := hrel
      have HS := Lib.hid hs
      have D := Lib.hid d
      have TT := Lib.hid tt
      have d0 := d.c0
      clear hs tt
      by_cases hlt : k < S.queue.length
      · obtain ⟨g, off, hqA, hg, e0', e1'⟩ := (d.queue.rd secLay).sec hlt
        obtain ⟨q1, q2, q3, q4⟩ := D.out.wf.q S.queue[k] (List.getElem_mem hlt)
        have hst := survQ_step keep S.queue k hlt F
        rw [HS.out] at hst
        obtain ⟨x0, hx0⟩ : ∃ x, x = F S.queue[k].1 := ⟨_, rfl⟩
        have hnow := D.out.wf.now S.queue[k].1
        have hlast := D.out.wf.last S.queue[k].1
        have hsv : surv1 F S.queue[k] = if S.queue[k].2 * 64 < x0.1.size then updF F S.queue[k].1 (x0.1, putB x0.2 (S.queue[k].2 * 64).toNat (x0.1.extract (S.queue[k].2 * 64).toNat (min (S.queue[k].2 * 64 + 64) x0.1.size).toNat)) else F := by unfold surv1; rw [hx0, Int.mul_comm 64]
        have hlk := ((d.below ((((Below.refl wr.heap.size wr).alloc (Nat.le_refl _) (.cells #[.int .i64 S.queue[k].1, .int .i64 S.queue[k].2] 93)).alloc (by simp) (.cells #[.string ⟨#[]⟩, .string ⟨#[]⟩] 70)).drew))).look S.queue[k].1 (by unfold inI64; omega)
        have hlk1 := ((d.below (((Below.refl wr.heap.size wr).alloc (Nat.le_refl _) (.cells #[.int .i64 S.queue[k].1, .int .i64 S.queue[k].2] 93)).drew))).look S.queue[k].1 (by unfold inI64; omega)
        have hpl := box_lt d.box
        have HSt := Lib.hid hst
        have HSv := Lib.hid hsv
        simp only at hnow hlast hlk hlk1
        rw [← hx0] at hnow hlast hlk hlk1
        have HX0 := Lib.hid hx0
        clear hst hsv hx0 d
        generalize S.queue[k].1 = f at *
        generalize S.queue[k].2 = n at *
        clear c0 c1 c4 c5 cz
        obtain ⟨W2, hW2⟩ : ∃ W, W = ((wr.alloc (.cells #[.int .i64 f, .int .i64 n] 93)).alloc (.cells #[.string x0.1, .string x0.2] 70)).drew := ⟨_, rfl⟩
        have hB2 : Below wr.heap.size wr W2 := by rw [hW2]; exact (((Below.refl wr.heap.size wr).alloc (Nat.le_refl _) _).alloc (by simp) _).drew
        have hf2 : W2.heap[wr.heap.size + 1]? = some (.cells #[.string x0.1, .string x0.2] 70 (0, 0)) := by
          have h1 := (MapKept.heap_alloc (wr.alloc (.cells #[.int .i64 f, .int .i64 n] 93)) (.cells #[.string x0.1, .string x0.2] 70)).1
          rw [show (wr.alloc (.cells #[.int .i64 f, .int .i64 n] 93)).heap.size = wr.heap.size + 1 by simp] at h1
          rw [hW2]
          exact h1
        have hs2 : W2.heap[wr.heap.size]? = some (.cells #[.int .i64 f, .int .i64 n] 93 (0, 0)) := by rw [hW2]; exact (Below.heap_alloc _ _ wr.heap.size (by simp)).trans (MapKept.heap_alloc wr _).1
        have hz2 : W2.heap.size = wr.heap.size + 2 := by rw [hW2]; simp
        go_upto_region 5 with fail
        go_cut [6, 7] (fun v u wx => v = .pointer (some ⟨wr.heap.size + 1, 0, none⟩) ∧ u = .int .i64 (n * 64) ∧ W2 = wx)
        case first =>
          have HW2 := Lib.hid hW2
          clear hW2
          go_region
          all_goals go_wp2
          all_goals go_meet
          all_goals exact ⟨rfl, rfl, HW2.out⟩
        case rest =>
          obtain ⟨rfl, rfl, rfl⟩ := hcut
          clear hlk hlk1 e0' e1' hqA d0
          clear hW2
          have D2 := Lib.hid (D.out.below hB2)
          have T2 := Lib.hid (TT.out.trans (Turn.below (F := fun _ => False) hB2) (fun _ h => h.elim))
          have F2 := Lib.hid hf2
          have HBW := Lib.hid hB2
          have S2 := Lib.hid hs2
          have f0 := box_cell hf2 0 _ rfl
          have f1 := box_cell hf2 1 _ rfl
          have s0 := box_cell hs2 0 _ rfl
          have s1 := box_cell hs2 1 _ rfl
          have fz := fun j => box_free hf2 j
          clear hB2 hf2 hs2
          by_cases hk0 : keep.length = 0
          · have hk1 : keep = [] := List.eq_nil_of_length_eq_zero hk0
            have hkb : keepBit keep k = false := by rw [hk1]; rfl
            rw [hkb] at HSt
            have hk2 : ((keep.length : Int) == 0) = true := by simp [hk0]
            clear hkb hk1 hk0
            go_wp2
            go_roundw
            case rel => exact ⟨k + 1, F, by omega, by go_num, HSt.out.symm, D2.out, T2.out⟩
            case measure => simp [intOf]; omega
          · have hmod : k % keep.length < keep.length := Nat.mod_lt _ (by omega)
            obtain ⟨b1, o1, rfl, hb1, hcell⟩ := (HR.out.at_ hmod)
            have kc1 : W2.cell? ⟨b1, o1 + k % keep.length, none⟩ = some (.int .i64 keep[k % keep.length]) := by
              have h1 := hcell 0 _ rfl
              rw [Nat.mul_one, Nat.add_zero] at h1
              rw [← h1]
              exact World.cell?_of_block (T2.out.block b1 hb1 (hA (fun h => hk0 (by rw [h]; rfl)) b1 rfl))
            have hk2 : ((keep.length : Int) == 0) = false := by simpa using hk0
            have hkb := keepBit_at keep k hmod
            rw [hkb] at HSt
            clear hcell hkb
            generalize keep[k % keep.length] = kv at *
            cases hbit : (kv % 2 == 1)
            · have hbb : (bits BinOp.and IntKind.i64 kv 1 == 0) = true := by
                rw [and1]
                have : ¬ kv % 2 = 1 := by simpa using hbit
                simp
                omega
              rw [hbit] at HSt
              go_wp2
              go_roundw
              case rel => exact ⟨k + 1, F, by omega, by go_num, HSt.out.symm, D2.out, T2.out⟩
              case measure => simp [intOf]; omega
            · have hbb : (bits BinOp.and IntKind.i64 kv 1 == 0) = false := by
                rw [and1]
                have : kv % 2 = 1 := by simpa using hbit
                simp
                omega
              rw [hbit, if_pos rfl, HSv.out] at HSt
              by_cases hle : (x0.1.size : Int) ≤ n * 64
              · rw [if_neg (by omega)] at HSt
                have hlb : decide ((x0.1.size : Int) ≤ n * 64) = true := by simpa using hle
                go_wp2
                go_roundw
                case rel => exact ⟨k + 1, F, by omega, by go_num, HSt.out.symm, D2.out, T2.out⟩
                case measure => simp [intOf]; omega
              · rw [if_pos (by omega)] at HSt
                have hlb : decide ((x0.1.size : Int) ≤ n * 64) = false := by simpa using hle
                obtain ⟨sub, hsub⟩ : ∃ s, s = x0.1.extract (n * 64).toNat (min (n * 64 + 64) x0.1.size).toNat := ⟨_, rfl⟩
                obtain ⟨x1, hx1⟩ : ∃ x, x = putB x0.2 (n * 64).toNat sub := ⟨_, rfl⟩
                have hsz : sub.size = (min (n * 64 + 64) x0.1.size).toNat - (n * 64).toNat := by rw [hsub, extract_size]; omega
                have hx1s : x1.size ≤ 16777216 := by
                  rw [hx1, putB_size _ _ _ (by omega)]
                  omega
                rw [← hsub, ← hx1] at HSt
                have HP := Lib.hid (fun w => hx1 ▸ dput_any x0.2 sub (n * 64) w (by omega) (by omega) (by omega))
                have HX1s := Lib.hid hx1s
                clear hx1 hsz hx1s
                have hwr : IntKind.i64.wrap (n * 64 + 64) = n * 64 + 64 := by rw [IntKind.wrap_i64]; omega
                by_cases hmin : (x0.1.size : Int) < n * 64 + 64
                · rw [Int.min_eq_right (by omega), Int.toNat_natCast] at hsub
                  have HSub := Lib.hid hsub
                  clear hsub
                  have hc0 : 0 ≤ n * 64 := by omega
                  have hc1 : n * 64 ≤ x0.1.size := by omega
                  go_wp2_with fail
                  refine wp_region_held_drew (S := fun wq => wq.cell? ⟨wr.heap.size + 1, 0, none⟩ = some (.string x0.1)) (by kernel_rfl) (box_cell F2.out 0 _ rfl) (fun hHeld => ?_)
                  refine wpAnyH_take (i := 0) (v := ?_) rfl (by kernel_rfl) (by kernel_rfl) (by kernel_rfl) (fun _ _ _ h => h) (Or.inl ⟨by rfl, ?_⟩) (by assumption) ?_
                  rotate_left
                  · intro wq hq
                    go_simp
                    try with_reducible rfl
                  simp only [Act.put, List.setIfInBounds_toArray, List.set_cons_zero, List.set_cons_succ, List.getElem_toArray, List.getElem_cons_zero]
                  refine wpAnyH_take (i := 2) (v := ?_) rfl (by kernel_rfl) (by kernel_rfl) (by kernel_rfl) (fun _ _ _ h => h) (Or.inl ⟨by rfl, ?_⟩) (by assumption) ?_
                  rotate_left
                  · intro wq hq
                    go_simp
                    try with_reducible rfl
                  simp only [Act.put, List.setIfInBounds_toArray, List.set_cons_zero, List.set_cons_succ, List.getElem_toArray, List.getElem_cons_zero, List.getElem_cons_succ]
                  refine wpAnyH_take (i := 3) (v := ?_) rfl (by kernel_rfl) (by kernel_rfl) (by kernel_rfl) (fun _ _ _ h => h) (Or.inl ⟨by rfl, ?_⟩) (by assumption) ?_
                  rotate_left
                  · intro wq hq
                    go_simp
                    try with_reducible rfl
                  simp only [Act.put, List.setIfInBounds_toArray, List.set_cons_zero, List.set_cons_succ, List.getElem_toArray, List.getElem_cons_zero, List.getElem_cons_succ]
                  refine wpAnyH_take (i := 4) (v := ?_) rfl (by kernel_rfl) (by kernel_rfl) (by kernel_rfl) (fun _ _ _ h => h) (Or.inl ⟨by rfl, ?_⟩) (by assumption) ?_
                  rotate_left
                  · intro wq hq
                    go_simp
                    try with_reducible rfl
                  simp only [Act.put, List.setIfInBounds_toArray, List.set_cons_zero, List.set_cons_succ, List.getElem_toArray, List.getElem_cons_zero, List.getElem_cons_succ]
                  refine wpAnyH_take (i := 5) (v := ?_) rfl (by kernel_rfl) (by kernel_rfl) (by kernel_rfl) (fun _ _ _ h => h) (Or.inl ⟨by rfl, ?_⟩) (by assumption) ?_
                  rotate_left
                  · intro wq hq
                    go_simp
                    try with_reducible rfl
                  simp only [Act.put, List.setIfInBounds_toArray, List.set_cons_zero, List.set_cons_succ, List.getElem_toArray, List.getElem_cons_zero, List.getElem_cons_succ]
                  refine wpAnyH_take (i := 6) (v := ?_) rfl (by kernel_rfl) (by kernel_rfl) (by kernel_rfl) (fun _ _ _ h => h) (Or.inl ⟨by rfl, ?_⟩) (by assumption) ?_
                  rotate_left
                  · intro wq hq
                    go_simp
                    try with_reducible rfl
                  simp only [Act.put, List.setIfInBounds_toArray, List.set_cons_zero, List.set_cons_succ, List.getElem_toArray, List.getElem_cons_zero, List.getElem_cons_succ]
                  refine wpAnyH_take (i := 7) (v := ?_) rfl (by kernel_rfl) (by kernel_rfl) (by kernel_rfl) (fun _ _ _ h => h) (Or.inl ⟨by rfl, ?_⟩) (by assumption) ?_
                  rotate_left
                  · intro wq hq
                    go_simp
                    try with_reducible rfl
                  simp only [Act.put, List.setIfInBounds_toArray, List.set_cons_zero, List.set_cons_succ, List.getElem_toArray, List.getElem_cons_zero, List.getElem_cons_succ]
                  refine wpAnyH_take (i := 8) (v := ?_) rfl (by kernel_rfl) (by kernel_rfl) (by kernel_rfl) (fun _ _ _ h => h) (Or.inl ⟨by rfl, ?_⟩) (by assumption) ?_
                  rotate_left
                  · intro wq hq
                    go_simp
                    try with_reducible rfl
                  simp only [Act.put, List.setIfInBounds_toArray, List.set_cons_zero, List.set_cons_succ, List.getElem_toArray, List.getElem_cons_zero, List.getElem_cons_succ]
                  refine wpAnyH_take (i := 9) (v := ?_) rfl (by kernel_rfl) (by kernel_rfl) (by kernel_rfl) (fun _ _ _ h => h) (Or.inl ⟨by rfl, ?_⟩) (by assumption) ?_
                  rotate_left
                  · intro wq hq
                    go_simp
                    try with_reducible rfl
                  simp only [Act.put, List.setIfInBounds_toArray, List.set_cons_zero, List.set_cons_succ, List.getElem_toArray, List.getElem_cons_zero, List.getElem_cons_succ]
                  refine wpAnyH_take (i := 10) (v := ?_) rfl (by kernel_rfl) (by kernel_rfl) (by kernel_rfl) (fun _ _ _ h => h) (Or.inl ⟨by rfl, ?_⟩) (by assumption) ?_
                  rotate_left
                  · intro wq hq
                    go_simp
                    try with_reducible rfl
                  simp only [Act.put, List.setIfInBounds_toArray, List.set_cons_zero, List.set_cons_succ, List.getElem_toArray, List.getElem_cons_zero, List.getElem_cons_succ]
                  refine wpAnyH_take (i := 11) (v := ?_) rfl (by kernel_rfl) (by kernel_rfl) (by kernel_rfl) (fun _ _ _ h => h) (Or.inl ⟨by rfl, ?_⟩) (by assumption) ?_
                  rotate_left
                  · intro wq hq
                    go_simp
                    try with_reducible rfl
                  simp only [Act.put, List.setIfInBounds_toArray, List.set_cons_zero, List.set_cons_succ, List.getElem_toArray, List.getElem_cons_zero, List.getElem_cons_succ]
                  refine wpAnyH_take (i := 12) (v := ?_) rfl (by kernel_rfl) (by kernel_rfl) (by kernel_rfl) (fun _ _ _ h => h) (Or.inl ⟨by rfl, ?_⟩) (by assumption) ?_
                  rotate_left
                  · intro wq hq
                    go_simp
                    try with_reducible rfl
                  simp only [Act.put, List.setIfInBounds_toArray, List.set_cons_zero, List.set_cons_succ, List.getElem_toArray, List.getElem_cons_zero, List.getElem_cons_succ]
                  refine wpAnyH_ready (rs := [1]) (by kernel_rfl) (by simp) ?_
                  refine AllReadyH.cons rfl (fun K hK => ?_) AllReadyH.nil
                  go_simp
                  refine hK.out _ _ hHeld ?_
                  clear hK K hHeld
                  intro hHeld
                  refine wpAnyH_ready (rs := [13]) (by kernel_rfl) (by simp) ?_
                  refine AllReadyH.cons rfl (fun K hK => ?_) AllReadyH.nil
                  go_simp
                  rw [← HSub.out]
                  refine (HP.out _).mono ?_
                  rintro e w3 ⟨rfl, hb3⟩
                  have hb3' : Below W2.heap.size W2 w3 := ((Below.refl _ W2).drew).trans hb3
                  have hbx3 := (hb3'.block (wr.heap.size + 1) (by omega)).trans F2.out
                  have g0 := box_cell hbx3 0 _ rfl
                  have g1 := box_cell hbx3 1 _ rfl
                  have gz := fun j => box_free hbx3 j
                  have HBX3 := Lib.hid hbx3
                  have HB3 := Lib.hid hb3'
                  go_wp2_with fail
                  refine hK.out _ _ g0 ?_
                  clear hK K hHeld hb3 hb3' hbx3
                  intro hHeld
                  refine wpAnyH_take (i := 14) (v := ?_) rfl (by kernel_rfl) (by kernel_rfl) (by kernel_rfl) (fun _ _ _ h => h) (Or.inl ⟨by rfl, ?_⟩) (by assumption) ?_
                  rotate_left
                  · intro wq hq
                    go_simp
                    try with_reducible rfl
                  simp only [Act.put, List.setIfInBounds_toArray, List.set_cons_zero, List.set_cons_succ, List.getElem_toArray, List.getElem_cons_zero, List.getElem_cons_succ]
                  refine wpAnyH_ready (rs := [15]) (by kernel_rfl) (by simp) ?_
                  refine AllReadyH.cons rfl (fun K hK => ?_) AllReadyH.nil
                  go_simp
                  obtain ⟨W4, hW4⟩ : ∃ W, W = w3.setCell ⟨wr.heap.size + 1, 1, none⟩ (.string x1) := ⟨_, rfl⟩
                  have hn4 := heap_setCell_same w3 (wr.heap.size + 1) 1 _ _ (.string x1) HBX3.out
                  have hs4 := (heap_setCell_other w3 ⟨wr.heap.size + 1, 1, none⟩ wr.heap.size (.string x1) (by simp)).trans ((HB3.out.block wr.heap.size (by omega)).trans S2.out)
                  rw [← hW4] at hn4 hs4 ⊢
                  have hb4 : Below wr.heap.size wr W4 := by
                    rw [hW4]
                    exact (HBW.out.trans (HB3.out.mono (by omega))).setCell (p := ⟨wr.heap.size + 1, 1, none⟩) (by simp) _
                  clear hW4 g0 g1 gz
                  have h40 := box_cell hn4 0 _ rfl
                  have h41 := box_cell hn4 1 _ rfl
                  refine hK.out _ _ h40 ?_
                  clear hK K hHeld
                  intro hHeld
                  refine wpAnyH_done (by kernel_rfl) ?_ _
                  clear hHeld
                  obtain ⟨w5, r5, hd5, ht5⟩ := D.out.write2 hb4.drew f (x0.1, x1) ⟨q1, q2⟩ hnow HX1s.out
                  have m0 := (D.out.below hb4.drew).c0
                  have m5 : W4.cell? ⟨wr.heap.size, 0, none⟩ = some (.int .i64 f) := box_cell hs4 0 _ rfl
                  have HD5 := Lib.hid hd5
                  have HT5 := Lib.hid (TT.out.trans ht5 (fun i hi => .inl hi))
                  clear hd5 ht5 hb4 hn4 hs4
                  go_wp2_with fail
                  go_region
                  go_wp2
                  go_roundw
                  case rel => exact ⟨k + 1, _, by omega, by go_num, HSt.out.symm, HD5.out, HT5.out⟩
                  case measure => simp [intOf]; omega
                · rw [Int.min_eq_left (by omega)] at hsub
                  have HSub := Lib.hid hsub
                  clear hsub
                  have hif : (if (x0.1.size : Int) < n * 64 + 64 then (x0.1.size : Int) else n * 64 + 64) = n * 64 + 64 := if_neg hmin
                  have hc0 : 0 ≤ n * 64 := by omega
                  have hc1 : 0 ≤ n * 64 + 64 := by omega
                  have hc2 : n * 64 + 64 ≤ x0.1.size := by omega
                  have hc3 : n * 64 ≤ n * 64 + 64 := by omega
                  go_wp2_with fail
                  refine wp_region_held_drew (S := fun wq => wq.cell? ⟨wr.heap.size + 1, 0, none⟩ = some (.string x0.1)) (by kernel_rfl) (box_cell F2.out 0 _ rfl) (fun hHeld => ?_)
                  refine wpAnyH_take (i := 0) (v := ?_) rfl (by kernel_rfl) (by kernel_rfl) (by kernel_rfl) (fun _ _ _ h => h) (Or.inl ⟨by rfl, ?_⟩) (by assumption) ?_
                  rotate_left
                  · intro wq hq
                    go_simp
                    try with_reducible rfl
                  simp only [Act.put, List.setIfInBounds_toArray, List.set_cons_zero, List.set_cons_succ, List.getElem_toArray, List.getElem_cons_zero]
                  refine wpAnyH_take (i := 2) (v := ?_) rfl (by kernel_rfl) (by kernel_rfl) (by kernel_rfl) (fun _ _ _ h => h) (Or.inl ⟨by rfl, ?_⟩) (by assumption) ?_
                  rotate_left
                  · intro wq hq
                    go_simp
                    try with_reducible rfl
                  simp only [Act.put, List.setIfInBounds_toArray, List.set_cons_zero, List.set_cons_succ, List.getElem_toArray, List.getElem_cons_zero, List.getElem_cons_succ]
                  refine wpAnyH_take (i := 3) (v := ?_) rfl (by kernel_rfl) (by kernel_rfl) (by kernel_rfl) (fun _ _ _ h => h) (Or.inl ⟨by rfl, ?_⟩) (by assumption) ?_
                  rotate_left
                  · intro wq hq
                    go_simp
                    try with_reducible rfl
                  simp only [Act.put, List.setIfInBounds_toArray, List.set_cons_zero, List.set_cons_succ, List.getElem_toArray, List.getElem_cons_zero, List.getElem_cons_succ]
                  refine wpAnyH_take (i := 4) (v := ?_) rfl (by kernel_rfl) (by kernel_rfl) (by kernel_rfl) (fun _ _ _ h => h) (Or.inl ⟨by rfl, ?_⟩) (by assumption) ?_
                  rotate_left
                  · intro wq hq
                    go_simp
                    try with_reducible rfl
                  simp only [Act.put, List.setIfInBounds_toArray, List.set_cons_zero, List.set_cons_succ, List.getElem_toArray, List.getElem_cons_zero, List.getElem_cons_succ]
                  refine wpAnyH_take (i := 5) (v := ?_) rfl (by kernel_rfl) (by kernel_rfl) (by kernel_rfl) (fun _ _ _ h => h) (Or.inl ⟨by rfl, ?_⟩) (by assumption) ?_
                  rotate_left
                  · intro wq hq
                    go_simp
                    try with_reducible rfl
                  simp only [Act.put, List.setIfInBounds_toArray, List.set_cons_zero, List.set_cons_succ, List.getElem_toArray, List.getElem_cons_zero, List.getElem_cons_succ]
                  refine wpAnyH_take (i := 6) (v := ?_) rfl (by kernel_rfl) (by kernel_rfl) (by kernel_rfl) (fun _ _ _ h => h) (Or.inl ⟨by rfl, ?_⟩) (by assumption) ?_
                  rotate_left
                  · intro wq hq
                    go_simp
                    try with_reducible rfl
                  simp only [Act.put, List.setIfInBounds_toArray, List.set_cons_zero, List.set_cons_succ, List.getElem_toArray, List.getElem_cons_zero, List.getElem_cons_succ]
                  refine wpAnyH_take (i := 7) (v := ?_) rfl (by kernel_rfl) (by kernel_rfl) (by kernel_rfl) (fun _ _ _ h => h) (Or.inl ⟨by rfl, ?_⟩) (by assumption) ?_
                  rotate_left
                  · intro wq hq
                    go_simp
                    try with_reducible rfl
                  simp only [Act.put, List.setIfInBounds_toArray, List.set_cons_zero, List.set_cons_succ, List.getElem_toArray, List.getElem_cons_zero, List.getElem_cons_succ]
                  refine wpAnyH_take (i := 8) (v := ?_) rfl (by kernel_rfl) (by kernel_rfl) (by kernel_rfl) (fun _ _ _ h => h) (Or.inl ⟨by rfl, ?_⟩) (by assumption) ?_
                  rotate_left
                  · intro wq hq
                    go_simp
                    try with_reducible rfl
                  simp only [Act.put, List.setIfInBounds_toArray, List.set_cons_zero, List.set_cons_succ, List.getElem_toArray, List.getElem_cons_zero, List.getElem_cons_succ]
                  refine wpAnyH_take (i := 9) (v := ?_) rfl (by kernel_rfl) (by kernel_rfl) (by kernel_rfl) (fun _ _ _ h => h) (Or.inl ⟨by rfl, ?_⟩) (by assumption) ?_
                  rotate_left
                  · intro wq hq
                    go_simp
                    try with_reducible rfl
                  simp only [Act.put, List.setIfInBounds_toArray, List.set_cons_zero, List.set_cons_succ, List.getElem_toArray, List.getElem_cons_zero, List.getElem_cons_succ]
                  refine wpAnyH_take (i := 10) (v := ?_) rfl (by kernel_rfl) (by kernel_rfl) (by kernel_rfl) (fun _ _ _ h => h) (Or.inl ⟨by rfl, ?_⟩) (by assumption) ?_
                  rotate_left
                  · intro wq hq
                    go_simp
                    try with_reducible rfl
                  simp only [Act.put, List.setIfInBounds_toArray, List.set_cons_zero, List.set_cons_succ, List.getElem_toArray, List.getElem_cons_zero, List.getElem_cons_succ]
                  refine wpAnyH_take (i := 11) (v := ?_) rfl (by kernel_rfl) (by kernel_rfl) (by kernel_rfl) (fun _ _ _ h => h) (Or.inl ⟨by rfl, ?_⟩) (by assumption) ?_
                  rotate_left
                  · intro wq hq
                    go_simp
                    try with_reducible rfl
                  simp only [Act.put, List.setIfInBounds_toArray, List.set_cons_zero, List.set_cons_succ, List.getElem_toArray, List.getElem_cons_zero, List.getElem_cons_succ]
                  refine wpAnyH_take (i := 12) (v := ?_) rfl (by kernel_rfl) (by kernel_rfl) (by kernel_rfl) (fun _ _ _ h => h) (Or.inl ⟨by rfl, ?_⟩) (by assumption) ?_
                  rotate_left
                  · intro wq hq
                    go_simp
                    try with_reducible rfl
                  simp only [Act.put, List.setIfInBounds_toArray, List.set_cons_zero, List.set_cons_succ, List.getElem_toArray, List.getElem_cons_zero, List.getElem_cons_succ]
                  refine wpAnyH_ready (rs := [1]) (by kernel_rfl) (by simp) ?_
                  refine AllReadyH.cons rfl (fun K hK => ?_) AllReadyH.nil
                  go_simp
                  refine hK.out _ _ hHeld ?_
                  clear hK K hHeld
                  intro hHeld
                  refine wpAnyH_ready (rs := [13]) (by kernel_rfl) (by simp) ?_
                  refine AllReadyH.cons rfl (fun K hK => ?_) AllReadyH.nil
                  go_simp
                  rw [← HSub.out]
                  refine (HP.out _).mono ?_
                  rintro e w3 ⟨rfl, hb3⟩
                  have hb3' : Below W2.heap.size W2 w3 := ((Below.refl _ W2).drew).trans hb3
                  have hbx3 := (hb3'.block (wr.heap.size + 1) (by omega)).trans F2.out
                  have g0 := box_cell hbx3 0 _ rfl
                  have g1 := box_cell hbx3 1 _ rfl
                  have gz := fun j => box_free hbx3 j
                  have HBX3 := Lib.hid hbx3
                  have HB3 := Lib.hid hb3'
                  go_wp2_with fail
                  refine hK.out _ _ g0 ?_
                  clear hK K hHeld hb3 hb3' hbx3
                  intro hHeld
                  refine wpAnyH_take (i := 14) (v := ?_) rfl (by kernel_rfl) (by kernel_rfl) (by kernel_rfl) (fun _ _ _ h => h) (Or.inl ⟨by rfl, ?_⟩) (by assumption) ?_
                  rotate_left
                  · intro wq hq
                    go_simp
                    try with_reducible rfl
                  simp only [Act.put, List.setIfInBounds_toArray, List.set_cons_zero, List.set_cons_succ, List.getElem_toArray, List.getElem_cons_zero, List.getElem_cons_succ]
                  refine wpAnyH_ready (rs := [15]) (by kernel_rfl) (by simp) ?_
                  refine AllReadyH.cons rfl (fun K hK => ?_) AllReadyH.nil
                  go_simp
                  obtain ⟨W4, hW4⟩ : ∃ W, W = w3.setCell ⟨wr.heap.size + 1, 1, none⟩ (.string x1) := ⟨_, rfl⟩
                  have hn4 := heap_setCell_same w3 (wr.heap.size + 1) 1 _ _ (.string x1) HBX3.out
                  have hs4 := (heap_setCell_other w3 ⟨wr.heap.size + 1, 1, none⟩ wr.heap.size (.string x1) (by simp)).trans ((HB3.out.block wr.heap.size (by omega)).trans S2.out)
                  rw [← hW4] at hn4 hs4 ⊢
                  have hb4 : Below wr.heap.size wr W4 := by
                    rw [hW4]
                    exact (HBW.out.trans (HB3.out.mono (by omega))).setCell (p := ⟨wr.heap.size + 1, 1, none⟩) (by simp) _
                  clear hW4 g0 g1 gz
                  have h40 := box_cell hn4 0 _ rfl
                  have h41 := box_cell hn4 1 _ rfl
                  refine hK.out _ _ h40 ?_
                  clear hK K hHeld
                  intro hHeld
                  refine wpAnyH_done (by kernel_rfl) ?_ _
                  clear hHeld
                  obtain ⟨w5, r5, hd5, ht5⟩ := D.out.write2 hb4.drew f (x0.1, x1) ⟨q1, q2⟩ hnow HX1s.out
                  have m0 := (D.out.below hb4.drew).c0
                  have m5 : W4.cell? ⟨wr.heap.size, 0, none⟩ = some (.int .i64 f) := box_cell hs4 0 _ rfl
                  have HD5 := Lib.hid hd5
                  have HT5 := Lib.hid (TT.out.trans ht5 (fun i hi => .inl hi))
                  clear hd5 ht5 hb4 hn4 hs4
                  go_wp2_with fail
                  go_region
                  go_wp2
                  go_roundw
                  case rel => exact ⟨k + 1, _, by omega, by go_num, HSt.out.symm, HD5.out, HT5.out⟩
                  case measure => simp [intOf]; omega
      · skip -- loop 2
        obtain ⟨wo, rfl⟩ : ∃ x, x = wr := ⟨_, rfl⟩
        have hkl : S.queue.drop k = [] := List.drop_eq_nil_of_le (by omega)
        have hF := HS.out
        rw [hkl, survQ] at hF
        obtain ⟨m, hm, hFm⟩ := d.files
        have HM := Lib.hid hm
        have hbf := hm.lt
        clear hkl c0 c1 c4 c5 cz hm d
        go_wp2_with (at_range; refine wp_range_f rfl _ 53 rfl 3 70 keyI Tryz.underlying53 rfl HM.out ?_; intro w0 hr0 hg0 hs0)
        go_loopw [8, 9] (fun _ _ w2 => ∃ left : Int → Bool, MapR w2 L.bf wo.heap.size okI kvI fileV (under2 m left) left ∧ wo.grownBy w2 (some L.bf)) (fun _ _ w2 => w2.rangeLeft L.bf wo.heap.size)
        case atStart => exact ⟨_, by rw [under2_start]; exact hr0, hg0.but _⟩
        case round =>
          clear hr0 hg0
          obtain ⟨left, hrg, hgw⟩ := hrel
          have hbp := (hgw.block p (box_lt D.out.box) (fun e => D.out.pf (Option.some.inj e))).trans D.out.box
          have HBP := Lib.hid hbp
          have e0' := box_cell hbp 0 _ rfl
          have e1' := box_cell hbp 1 _ rfl
          have e2' := box_cell hbp 2 _ rfl
          have ez' := fun j => box_free hbp j
          have hpl := box_lt hbp
          clear hbp
          have hmm := @run_makeMap Tryz.prog
          have HRG := Lib.hid hrg
          have HGW := Lib.hid hgw
          clear hrg
          go_wp2_with (at_next; refine wp_next_f rfl _ rfl keyI (fun x => .int .i64 x) (fun v : FileT => .agg #[.string v.1, .string v.2]) rfl rfl rfl HRG.out (fun HL => ?_) (fun x v w1 HX HR1 hlt hg1 hs1 hen => ?_))
          · go_end0
            refine ⟨rfl, ?_⟩
            have hme := HRG.out.map
            rw [under2_end m left HL.out] at hme
            have hcr : S.crash keep = ⟨lastF F, [], S.lost, true, 0, S.keep⟩ := by unfold DS.crash; rw [if_neg (by rw [hd]; simp), hF]
            have hcw := DS.crash_wf H.out.wf keep
            rw [hcr] at hcw ⊢
            refine Upd.trans TT.out (fun i hi => .inl hi) (fun i hi => .inl hi) (D.out.crashed HGW.out _ hme ?_ hcw rfl)
            funext g
            unfold lastF
            show ((F g).2, (F g).2) = _
            have hFg : F g = (m g).getD (e0, e0) := congrFun hFm g
            rw [hFg]
            rcases m g with _ | y <;> rfl
          · have HG1 := Lib.hid (HGW.out.andThen hg1 (fun j h => .inl (by injection h with h; omega)))
            obtain ⟨wb, hwb⟩ : ∃ W, W = (w1.alloc (.cells #[.string v.1, .string v.2] 70)).drew := ⟨_, rfl⟩
            have hbb : Below w1.heap.size w1 wb := by rw [hwb]; exact ((Below.refl _ w1).alloc (Nat.le_refl _) _).drew
            have hl1 := HR1.out.lt
            obtain ⟨hrb, hrl⟩ := HR1.out.of_block (hbb.block _ hl1.1) (hbb.block _ hl1.2)
            obtain ⟨w5, rS, hr5, hrl5, hg5, hs5⟩ := hrb.store keyI Tryz.underlying53 x HX.out.1 (v.2, v.2) (by rw [HX.out.2.2]; rfl)
            simp only [kvI] at rS
            have hb1 := (hg1.block p hpl (fun e => by have := HRG.out.lt.2; have h2 := Option.some.inj e; have h3 := box_lt D.out.box; omega)).trans HBP.out
            have k0 : w1.cell? ⟨p, 0, none⟩ = some (.map (some L.bf)) := box_cell hb1 0 _ rfl
            have HR5 := Lib.hid hr5
            have HG5 := Lib.hid ((HG1.out.andThen (grown_of_below hbb none) (fun j h => by cases h)).andThen hg5 (fun j h => .inr (by rw [h])))
            rw [hwb] at rS
            clear hwb hr5 hg5 hrb hbb hb1
            go_region
            go_wp2
            go_roundw
            case rel => exact ⟨_, by rw [← under2_step m left x v HX.out.2.1 HX.out.2.2]; exact HR5.out, HG5.out⟩
            case measure => omega
  · have hs : S.crash keep = S := by unfold DS.crash; rw [if_pos hd]
    rw [hd] at c4
    rw [hs]
    clear hs hd
    go_enter Tryz.func28, Tryz.ntmps28
    go_wp2
    try simp only [Exit.inBlock, Exit.then]
    refine bodyPost_ret (results_none rfl _ _ _) rfl ?_
    exact ⟨rfl, Upd.refl H.out⟩
end Go.Proofs.YtjmkodkechahdaaGreatDoor
/- Contracts of Write, Sync, Truncate and New of a disk. -/
set_option linter.unusedSimpArgs false
set_option linter.unusedVariables false
namespace Go.Proofs.YtjmkodkechahdaaGreatDoor
open Go.RowKit
set_option maxRecDepth 100000

/-- What a call does, and then a second one. -/
theorem Upd.then {w w1 w2 : World} {p : Nat} {S1 S2 : DS} {L : DL} (h : Upd p S1 L w w1) (k : ∀ L1, DK w1 p S1 L1 → Upd p S2 L1 w1 w2) : Upd p S2 L w w2 := by
  obtain ⟨L1, d, t, o, kk⟩ := h
  exact Upd.trans t o kk (k L1 d)
theorem keep_ok {w : World} {p : Nat} {S : DS} {L : DL} (d : DK w p S L) : ∀ i, slBlk L.kA = some i → ¬ L.own p i := d.kp
theorem dNew_any (w : World) : Calls Tryz.prog 7 #[] w fun e w' => e = .returned (.pointer (some ⟨w.heap.size + 2, 0, none⟩)) ∧ Below w.heap.size w w' ∧ ∃ L, DK w' (w.heap.size + 2) DS.new L ∧ (∀ i, L.own (w.heap.size + 2) i → w.heap.size ≤ i) ∧ L.kA = none := by
  have hmm := @run_makeMap Tryz.prog
  go_enter Tryz.func7, Tryz.ntmps7
  go_wp2
  go_ret
  refine ⟨rfl, by repeat (first | with_reducible exact Below.refl _ _ | with_reducible assumption | with_reducible refine Below.drew ?_ | with_reducible refine Below.alloc ?_ (by first | omega | (simp; done) | (simp; omega)) _), ⟨w.heap.size, w.heap.size + 1, none, 0, none, 0⟩, ⟨DS.new_wf, ?_, ⟨fun _ => none, ?_, rfl⟩, OwnL.nil_, ?_, RdL.nil_, ?_, ?_, ?_, ?_, ?_, ?_⟩, ?_, rfl⟩
  · have h1 := (MapKept.heap_alloc ((w.alloc (.map #[] 0)).alloc (.map #[] 0)) (.cells (diskV DS.new ⟨w.heap.size, w.heap.size + 1, none, 0, none, 0⟩) 57)).1
    rw [show ((w.alloc (.map #[] 0)).alloc (.map #[] 0)).heap.size = w.heap.size + 2 by simp] at h1
    exact h1
  · exact (MapF.new w).of_block (by
      rw [Below.heap_alloc _ _ _ (by simp; omega), Below.heap_alloc _ _ _ (by simp)])
  · have he : setF DS.new.queue = (fun _ => none) := by funext x; simp [setF, DS.new]
    have h1 := MapF.new (ok := okS) (kv := secV) (vv := Value.bool) (w.alloc (.map #[] 0))
    rw [show (w.alloc (.map #[] 0)).heap.size = w.heap.size + 1 by simp] at h1
    show MapF _ (w.heap.size + 1) okS secV Value.bool (setF DS.new.queue)
    rw [he]
    exact h1.of_block (Below.heap_alloc _ _ _ (by simp))
  · show w.heap.size + 2 ≠ w.heap.size
    omega
  · show w.heap.size + 2 ≠ w.heap.size + 1
    omega
  · show w.heap.size ≠ w.heap.size + 1
    omega
  · intro i hi
    cases hi
  · intro i hi
    cases hi
  · intro i hi
    cases hi
  · rintro i (h | h | h | h)
    · omega
    · have h' : i = w.heap.size := h
      omega
    · have h' : i = w.heap.size + 1 := h
      omega
    · cases h
theorem dWrite_any (p : Nat) (S : DS) (L : DL) (w : World) (f a : Int) (s : ByteArray) (hf : inI64 f) (ha : inI64 a) (hs : s.size ≤ 1073741824) (hk : S.keep.length ≤ 4194320) (h : DK w p S L) :
    Calls Tryz.prog 25 #[.pointer (some ⟨p, 0, none⟩), .int .i64 f, .int .i64 a, .string s] w fun e w' => e = .returned (.int .i64 (S.writeC f a s)) ∧ Upd p (S.write f a s) L w w' := by
  have HE := Lib.hid (dEnds_any p S L w h)
  clear h
  cases he : S.endsB
  · have h1 : S.writeC f a s = S.tick.wcode f a s := by unfold DS.writeC; rw [he]; rfl
    have h2 : S.write f a s = S.tick.wr f a s := by unfold DS.write; rw [he]; rfl
    rw [h1, h2]
    rw [he] at HE
    clear h1 h2
    go_enter Tryz.func25, Tryz.ntmps25
    go_wp2_with fail
    refine HE.out.mono ?_
    rintro e w1 ⟨rfl, L1, d1, t1, o1, k1⟩
    go_wp2_with fail
    refine (dwrite_any p S.tick L1 _ f a s hf ha hs d1).mono ?_
    rintro e w2 ⟨rfl, hu2⟩
    go_wp2
    go_ret
    exact ⟨rfl, Upd.trans t1 o1 k1 hu2⟩
  · have h1 : S.writeC f a s = 8 := by unfold DS.writeC; rw [he]; rfl
    have h2 : S.write f a s = (S.tick.wr f a s).crash S.keep := by unfold DS.write; rw [he]; rfl
    have hk2 : (S.tick.wr f a s).keep = S.keep := by rw [DS.wr_keep, DS.tick_keep]
    rw [h1, h2]
    rw [he] at HE
    clear h1 h2
    go_enter Tryz.func25, Tryz.ntmps25
    go_wp2_with fail
    refine HE.out.mono ?_
    rintro e w1 ⟨rfl, L1, d1, t1, o1, k1⟩
    go_wp2_with fail
    refine (dwrite_any p S.tick L1 _ f a s hf ha hs d1).mono ?_
    rintro e w2 ⟨rfl, hu2⟩
    obtain ⟨L2, d2, t2, o2, k2⟩ := Upd.trans t1 o1 k1 hu2
    have c6 := d2.c6
    rw [hk2] at c6
    have HC := Lib.hid (dCrash_any p _ L2 w2 S.keep L2.kA L2.kc (by have := d2.keep; rwa [hk2] at this) hk (fun _ => d2.kp) d2)
    have T2 := Lib.hid t2
    clear d1 t1 o1 k1 hu2 d2 t2
    go_wp2_with fail
    refine HC.out.mono ?_
    rintro e w3 ⟨rfl, hu3⟩
    go_wp2
    go_ret
    exact ⟨rfl, Upd.trans T2.out o2 k2 hu3⟩

set_option maxHeartbeats 1000000 in
theorem dSync_any (p : Nat) (S : DS) (L : DL) (w : World) (f : Int) (hf : inI64 f) (hk : S.keep.length ≤ 4194320) (h : DK w p S L) :
    Calls Tryz.prog 60 #[.pointer (some ⟨p, 0, none⟩), .int .i64 f] w fun e w' => e = .returned (.int .i64 (S.syncC f)) ∧ Upd p (S.sync f) L w w' := by
  have HE := Lib.hid (dEnds_any p S L w h)
  clear h
  have HG0 : Hid (∀ e w', (e = Ending.returned (.int .i64 (S.come.syncC0 f)) ∧ Upd p (S.come.sync0 f) L w w') → (e = Ending.returned (.int .i64 (S.syncC f)) ∧ Upd p (S.sync f) L w w')) := Lib.hid (fun _ _ h => h)
  cases he : S.endsB
  · have hc : S.come = S.tick := by unfold DS.come; rw [he]; rfl
    rw [he] at HE
    rw [hc] at HG0
    have HG := HG0
    clear HG0 hc
    go_enter Tryz.func60, Tryz.ntmps60
    go_wp2_with fail
    refine HE.out.mono ?_
    rintro e w1 ⟨rfl, L1, d1, t1, o1, k1⟩
    generalize S.tick = S1 at *
    have HM := Lib.hid (dMay_any p S1 L1 _ f d1)
    by_cases hm : S1.may f = 0
    · rw [hm] at HM
      have c3 := d1.c3
      have c0 := d1.c0
      have cz := fun j => box_free d1.box j
      obtain ⟨_, m1, m2⟩ := may_ok hm
      by_cases hl : 0 < S1.lost
      · have e1 : S1.syncC0 f = 9 := by unfold DS.syncC0; rw [if_neg (by omega), if_pos hl]
        have e2 : S1.sync0 f = ⟨S1.files, S1.queue, S1.lost - 1, S1.down, S1.armed, S1.keep⟩ := by unfold DS.sync0; rw [if_neg (by omega), if_pos hl]
        have hw := DS.sync0_wf d1.wf f
        rw [e2] at hw
        rw [e1, e2] at HG
        have hl1 := d1.wf.lost1
        unfold inI64 at hl1
        have D1 := Lib.hid d1
        clear d1 e1 e2
        go_wp2_with (go_at_call 37; refine HM.out.mono ?_; rintro e w4 ⟨rfl, hw4⟩; obtain rfl := hw4.symm)
        go_ret
        exact HG.out _ _ ⟨rfl, Upd.trans t1 o1 k1 (Upd.scal D1.out (S1.lost - 1) S1.down S1.armed hw (heap_setCell_same _ _ _ _ _ _ D1.out.box) (grown_set _ _ _ _))⟩
      · have e1 : S1.syncC0 f = 0 := by unfold DS.syncC0; rw [if_neg (by omega), if_neg hl]
        have e2 : S1.sync0 f = S1.settle f (S1.files f).1 := by unfold DS.sync0; rw [if_neg (by omega), if_neg hl]
        rw [e1, e2] at HG
        have q := d1.look f hf
        have q2 := fun a b w => fieldFile0 a b w
        have HSe := Lib.hid (dSettle_any p S1 L1 _ f (S1.files f).1 ⟨m1, m2⟩ (d1.wf.now f) d1)
        have hl1 := d1.wf.lost1
        unfold inI64 at hl1
        clear d1 e1 e2
        go_wp2_with (first | (go_at_call 37; refine HM.out.mono ?_; rintro e w4 ⟨rfl, hw4⟩; obtain rfl := hw4.symm) | (go_at_call 87; refine HSe.out.mono ?_; rintro e w5 ⟨rfl, hu5⟩))
        go_ret
        exact HG.out _ _ ⟨rfl, Upd.trans t1 o1 k1 hu5⟩
    · have e1 : S1.syncC0 f = S1.may f := by unfold DS.syncC0; rw [if_pos hm]
      have e2 : S1.sync0 f = S1 := by unfold DS.sync0; rw [if_pos hm]
      have hne : (S1.may f == 0) = false := by simpa using hm
      rw [e1, e2] at HG
      have D1 := Lib.hid d1
      clear e1 e2 d1
      generalize S1.may f = cm at *
      go_wp2_with (go_at_call 37; refine HM.out.mono ?_; rintro e w4 ⟨rfl, hw4⟩; obtain rfl := hw4.symm)
      go_ret
      exact HG.out _ _ ⟨rfl, Upd.trans t1 o1 k1 (Upd.refl D1.out)⟩
  · have hc : S.come = S.tick.crash S.keep := by unfold DS.come; rw [he]; rfl
    rw [he] at HE
    rw [hc] at HG0
    have HG := HG0
    clear HG0 hc
    go_enter Tryz.func60, Tryz.ntmps60
    go_wp2_with fail
    refine HE.out.mono ?_
    rintro e w0 ⟨rfl, L0, d0, t0, o0, k0⟩
    have c6 := d0.c6
    rw [DS.tick_keep] at c6
    have HC := Lib.hid (dCrash_any p _ L0 w0 S.keep L0.kA L0.kc (by have := d0.keep; rwa [DS.tick_keep] at this) hk (fun _ => d0.kp) d0)
    clear d0
    go_wp2_with fail
    refine HC.out.mono ?_
    rintro e w1 ⟨rfl, hu⟩
    obtain ⟨L1, d1, t1, o1, k1⟩ := Upd.trans t0 o0 k0 hu
    generalize S.tick.crash S.keep = S1 at *
    clear t0 o0 k0 hu c6
    have HM := Lib.hid (dMay_any p S1 L1 _ f d1)
    by_cases hm : S1.may f = 0
    · rw [hm] at HM
      have c3 := d1.c3
      have c0 := d1.c0
      have cz := fun j => box_free d1.box j
      obtain ⟨_, m1, m2⟩ := may_ok hm
      by_cases hl : 0 < S1.lost
      · have e1 : S1.syncC0 f = 9 := by unfold DS.syncC0; rw [if_neg (by omega), if_pos hl]
        have e2 : S1.sync0 f = ⟨S1.files, S1.queue, S1.lost - 1, S1.down, S1.armed, S1.keep⟩ := by unfold DS.sync0; rw [if_neg (by omega), if_pos hl]
        have hw := DS.sync0_wf d1.wf f
        rw [e2] at hw
        rw [e1, e2] at HG
        have hl1 := d1.wf.lost1
        unfold inI64 at hl1
        have D1 := Lib.hid d1
        clear d1 e1 e2
        go_wp2_with (go_at_call 37; refine HM.out.mono ?_; rintro e w4 ⟨rfl, hw4⟩; obtain rfl := hw4.symm)
        go_ret
        exact HG.out _ _ ⟨rfl, Upd.trans t1 o1 k1 (Upd.scal D1.out (S1.lost - 1) S1.down S1.armed hw (heap_setCell_same _ _ _ _ _ _ D1.out.box) (grown_set _ _ _ _))⟩
      · have e1 : S1.syncC0 f = 0 := by unfold DS.syncC0; rw [if_neg (by omega), if_neg hl]
        have e2 : S1.sync0 f = S1.settle f (S1.files f).1 := by unfold DS.sync0; rw [if_neg (by omega), if_neg hl]
        rw [e1, e2] at HG
        have q := d1.look f hf
        have q2 := fun a b w => fieldFile0 a b w
        have HSe := Lib.hid (dSettle_any p S1 L1 _ f (S1.files f).1 ⟨m1, m2⟩ (d1.wf.now f) d1)
        have hl1 := d1.wf.lost1
        unfold inI64 at hl1
        clear d1 e1 e2
        go_wp2_with (first | (go_at_call 37; refine HM.out.mono ?_; rintro e w4 ⟨rfl, hw4⟩; obtain rfl := hw4.symm) | (go_at_call 87; refine HSe.out.mono ?_; rintro e w5 ⟨rfl, hu5⟩))
        go_ret
        exact HG.out _ _ ⟨rfl, Upd.trans t1 o1 k1 hu5⟩
    · have e1 : S1.syncC0 f = S1.may f := by unfold DS.syncC0; rw [if_pos hm]
      have e2 : S1.sync0 f = S1 := by unfold DS.sync0; rw [if_pos hm]
      have hne : (S1.may f == 0) = false := by simpa using hm
      rw [e1, e2] at HG
      have D1 := Lib.hid d1
      clear e1 e2 d1
      generalize S1.may f = cm at *
      go_wp2_with (go_at_call 37; refine HM.out.mono ?_; rintro e w4 ⟨rfl, hw4⟩; obtain rfl := hw4.symm)
      go_ret
      exact HG.out _ _ ⟨rfl, Upd.trans t1 o1 k1 (Upd.refl D1.out)⟩
set_option maxHeartbeats 1000000 in
theorem dTrunc_any (p : Nat) (S : DS) (L : DL) (w : World) (f n : Int) (hf : inI64 f) (hn : inI64 n) (hk : S.keep.length ≤ 4194320) (h : DK w p S L) :
    Calls Tryz.prog 55 #[.pointer (some ⟨p, 0, none⟩), .int .i64 f, .int .i64 n] w fun e w' => e = .returned (.int .i64 (S.truncC f n)) ∧ Upd p (S.trunc f n) L w w' := by
  have HE := Lib.hid (dEnds_any p S L w h)
  clear h
  have HG0 : Hid (∀ e w', (e = Ending.returned (.int .i64 (S.come.truncC0 f n)) ∧ Upd p (S.come.trunc0 f n) L w w') → (e = Ending.returned (.int .i64 (S.truncC f n)) ∧ Upd p (S.trunc f n) L w w')) := Lib.hid (fun _ _ h => h)
  cases he : S.endsB
  · have hc : S.come = S.tick := by unfold DS.come; rw [he]; rfl
    rw [he] at HE
    rw [hc] at HG0
    have HG := HG0
    clear HG0 hc
    go_enter Tryz.func55, Tryz.ntmps55
    go_wp2_with fail
    refine HE.out.mono ?_
    rintro e w1 ⟨rfl, L1, d1, t1, o1, k1⟩
    generalize S.tick = S1 at *
    have HM := Lib.hid (dMay_any p S1 L1 _ f d1)
    unfold inI64 at hn
    by_cases hm : S1.may f = 0
    · rw [hm] at HM
      have c0 := d1.c0
      obtain ⟨_, m1, m2⟩ := may_ok hm
      have hnow := d1.wf.now f
      have HZ := Lib.hid (dSize_any p S1 L1 _ f hf d1)
      by_cases hb : n < 0 ∨ (S1.files f).1.size < n
      · have e1 : S1.truncC0 f n = 1 := by unfold DS.truncC0; rw [if_neg (by omega), if_pos hb]
        have e2 : S1.trunc0 f n = S1 := by unfold DS.trunc0; rw [if_neg (by omega)]
        rw [e1, e2] at HG
        have D1 := Lib.hid d1
        clear d1 e1 e2
        generalize (S1.files f).1.size = z at *
        go_wp2_with (first | (go_at_call 37; refine HM.out.mono ?_; rintro e w4 ⟨rfl, hw4⟩; obtain rfl := hw4.symm) | (go_at_call 15; refine HZ.out.mono ?_; rintro e w5 ⟨rfl, hw5⟩; obtain rfl := hw5.symm))
        all_goals first
          | (exfalso; omega)
          | (go_ret; exact HG.out _ _ ⟨rfl, Upd.trans t1 o1 k1 (Upd.refl D1.out)⟩)
      · have e1 : S1.truncC0 f n = 0 := by unfold DS.truncC0; rw [if_neg (by omega), if_neg hb]
        have e2 : S1.trunc0 f n = S1.settle f ((S1.files f).1.extract 0 n.toNat) := by unfold DS.trunc0; rw [if_pos e1]
        rw [e1, e2] at HG
        have q := d1.look f hf
        have q2 := fun a b w => fieldFile0 a b w
        have HSe := Lib.hid (dSettle_any p S1 L1 _ f ((S1.files f).1.extract 0 n.toNat) ⟨m1, m2⟩ (by rw [extract_size]; omega) d1)
        have hb1 : 0 ≤ n := by omega
        have hb2 : n ≤ (S1.files f).1.size := by omega
        clear d1 e1 e2 hb
        go_wp2_with (first | (go_at_call 37; refine HM.out.mono ?_; rintro e w4 ⟨rfl, hw4⟩; obtain rfl := hw4.symm) | (go_at_call 15; refine HZ.out.mono ?_; rintro e w5 ⟨rfl, hw5⟩; obtain rfl := hw5.symm) | (go_at_call 87; refine HSe.out.mono ?_; rintro e w5 ⟨rfl, hu5⟩))
        all_goals first
          | (exfalso; omega)
          | (go_ret; exact HG.out _ _ ⟨rfl, Upd.trans t1 o1 k1 hu5⟩)
    · have e1 : S1.truncC0 f n = S1.may f := by unfold DS.truncC0; rw [if_pos hm]
      have e2 : S1.trunc0 f n = S1 := by unfold DS.trunc0; rw [if_neg (by omega)]
      have hne : (S1.may f == 0) = false := by simpa using hm
      rw [e1, e2] at HG
      have D1 := Lib.hid d1
      clear e1 e2 d1
      generalize S1.may f = cm at *
      go_wp2_with (go_at_call 37; refine HM.out.mono ?_; rintro e w4 ⟨rfl, hw4⟩; obtain rfl := hw4.symm)
      go_ret
      exact HG.out _ _ ⟨rfl, Upd.trans t1 o1 k1 (Upd.refl D1.out)⟩
  · have hc : S.come = S.tick.crash S.keep := by unfold DS.come; rw [he]; rfl
    rw [he] at HE
    rw [hc] at HG0
    have HG := HG0
    clear HG0 hc
    go_enter Tryz.func55, Tryz.ntmps55
    go_wp2_with fail
    refine HE.out.mono ?_
    rintro e w0 ⟨rfl, L0, d0, t0, o0, k0⟩
    have c6 := d0.c6
    rw [DS.tick_keep] at c6
    have HC := Lib.hid (dCrash_any p _ L0 w0 S.keep L0.kA L0.kc (by have := d0.keep; rwa [DS.tick_keep] at this) hk (fun _ => d0.kp) d0)
    clear d0
    go_wp2_with fail
    refine HC.out.mono ?_
    rintro e w1 ⟨rfl, hu⟩
    obtain ⟨L1, d1, t1, o1, k1⟩ := Upd.trans t0 o0 k0 hu
    generalize S.tick.crash S.keep = S1 at *
    clear t0 o0 k0 hu c6
    have HM := Lib.hid (dMay_any p S1 L1 _ f d1)
    unfold inI64 at hn
    by_cases hm : S1.may f = 0
    · rw [hm] at HM
      have c0 := d1.c0
      obtain ⟨_, m1, m2⟩ := may_ok hm
      have hnow := d1.wf.now f
      have HZ := Lib.hid (dSize_any p S1 L1 _ f hf d1)
      by_cases hb : n < 0 ∨ (S1.files f).1.size < n
      · have e1 : S1.truncC0 f n = 1 := by unfold DS.truncC0; rw [if_neg (by omega), if_pos hb]
        have e2 : S1.trunc0 f n = S1 := by unfold DS.trunc0; rw [if_neg (by omega)]
        rw [e1, e2] at HG
        have D1 := Lib.hid d1
        clear d1 e1 e2
        generalize (S1.files f).1.size = z at *
        go_wp2_with (first | (go_at_call 37; refine HM.out.mono ?_; rintro e w4 ⟨rfl, hw4⟩; obtain rfl := hw4.symm) | (go_at_call 15; refine HZ.out.mono ?_; rintro e w5 ⟨rfl, hw5⟩; obtain rfl := hw5.symm))
        all_goals first
          | (exfalso; omega)
          | (go_ret; exact HG.out _ _ ⟨rfl, Upd.trans t1 o1 k1 (Upd.refl D1.out)⟩)
      · have e1 : S1.truncC0 f n = 0 := by unfold DS.truncC0; rw [if_neg (by omega), if_neg hb]
        have e2 : S1.trunc0 f n = S1.settle f ((S1.files f).1.extract 0 n.toNat) := by unfold DS.trunc0; rw [if_pos e1]
        rw [e1, e2] at HG
        have q := d1.look f hf
        have q2 := fun a b w => fieldFile0 a b w
        have HSe := Lib.hid (dSettle_any p S1 L1 _ f ((S1.files f).1.extract 0 n.toNat) ⟨m1, m2⟩ (by rw [extract_size]; omega) d1)
        have hb1 : 0 ≤ n := by omega
        have hb2 : n ≤ (S1.files f).1.size := by omega
        clear d1 e1 e2 hb
        go_wp2_with (first | (go_at_call 37; refine HM.out.mono ?_; rintro e w4 ⟨rfl, hw4⟩; obtain rfl := hw4.symm) | (go_at_call 15; refine HZ.out.mono ?_; rintro e w5 ⟨rfl, hw5⟩; obtain rfl := hw5.symm) | (go_at_call 87; refine HSe.out.mono ?_; rintro e w5 ⟨rfl, hu5⟩))
        all_goals first
          | (exfalso; omega)
          | (go_ret; exact HG.out _ _ ⟨rfl, Upd.trans t1 o1 k1 hu5⟩)
    · have e1 : S1.truncC0 f n = S1.may f := by unfold DS.truncC0; rw [if_pos hm]
      have e2 : S1.trunc0 f n = S1 := by unfold DS.trunc0; rw [if_neg (by omega)]
      have hne : (S1.may f == 0) = false := by simpa using hm
      rw [e1, e2] at HG
      have D1 := Lib.hid d1
      clear e1 e2 d1
      generalize S1.may f = cm at *
      go_wp2_with (go_at_call 37; refine HM.out.mono ?_; rintro e w4 ⟨rfl, hw4⟩; obtain rfl := hw4.symm)
      go_ret
      exact HG.out _ _ ⟨rfl, Upd.trans t1 o1 k1 (Upd.refl D1.out)⟩
end Go.Proofs.YtjmkodkechahdaaGreatDoor
