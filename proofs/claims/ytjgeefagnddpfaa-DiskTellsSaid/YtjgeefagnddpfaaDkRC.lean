/- Contract of set of a disk of the reference. -/
import Derived.Test.YtjgeefagnddpfaaDkRB
import Derived.Test.YtjgeefagnddpfaaDkG
namespace Go.Proofs.Ytjgeefagnddpfaa
open Go.RowKit

def fwo (l : List RFile) (f : Int) : List RFile := l.filter (fun y => !(y.1 == f))
theorem fwo_step (l : List RFile) (f : Int) (k : Nat) (hk : k < l.length) : fwo (l.take (k + 1)) f = if (l[k].1 == f) = false then fwo (l.take k) f ++ [l[k]] else fwo (l.take k) f := by
  unfold fwo
  rw [filter_step _ _ _ hk]
  cases h : (l[k].1 == f) <;> simp
theorem fwo_len (l : List RFile) (f : Int) (k : Nat) : (fwo (l.take k) f).length ≤ l.length := by
  unfold fwo
  refine Nat.le_trans (List.length_filter_le _ _) ?_
  rw [List.length_take]
  omega
set_option maxHeartbeats 2000000 in
theorem rSet_any (p : Nat) (S : DS) (L : RL) (w : World) (x : RFile) (h : RK w p S L) (hx : 0 ≤ x.1 ∧ x.1 < 16) (h1 : x.2.1.size ≤ 16777216) (h2 : x.2.2.size ≤ 16777216) :
    Calls Try.prog 60 #[.pointer (some ⟨p, 0, none⟩), .agg #[.int .i64 x.1, .string x.2.1, .string x.2.2]] w fun e w' => e = .returned (.tuple #[]) ∧ RUpd p (DS.mk (updF S.files x.1 x.2) S.queue S.lost S.down S.armed S.keep) L w w' := by
  have H := Lib.hid h
  have HR := Lib.hid (h.files.rd rfLay)
  have c0 := h.c0
  have hp := box_lt h.box
  have hl := h.fok.len
  clear h
  go_enter Try.func60, Try.ntmps60
  go_wp2
  go_loopw [4, 5] (fun o i wr => ∃ (k : Nat) (A' : Option Addr) (c' : Nat), k ≤ L.fl.length ∧ i = .int .i64 k ∧ o = .slice A' (fwo (L.fl.take k) x.1).length c' ∧ OwnL wr (w.heap.size + 1) 65 3 rfC A' c' (fwo (L.fl.take k) x.1) ∧ Below w.heap.size w wr ∧ wr.heap[w.heap.size]? = some (.cells #[.int .i64 x.1, .string x.2.1, .string x.2.2] 65 (0, 0))) (fun _ i _ => L.fl.length - (intOf i).toNat)
  case atStart => exact ⟨0, none, 0, Nat.zero_le _, rfl, rfl, OwnL.nil_, by repeat (first | with_reducible exact Below.refl _ _ | with_reducible assumption | with_reducible refine Below.drew ?_ | with_reducible refine Below.alloc ?_ (by first | omega | (simp; done) | (simp; omega)) _), (MapKept.heap_alloc w _).1⟩
  case round =>
    obtain ⟨k, A', c', hk, rfl, rfl, ho, hb, hn⟩ := hrel
    have HO := Lib.hid ho
    have HB := Lib.hid hb
    have HN := Lib.hid hn
    have hc0 : wr.cell? ⟨p, 0, none⟩ = some (.slice L.fA L.fl.length L.fc) := (hb.cell (p := ⟨p, 0, none⟩) hp).trans c0
    have n0 := box_cell hn 0 _ rfl
    have n1 := box_cell hn 1 _ rfl
    have n2 := box_cell hn 2 _ rfl
    have hfl := fwo_len L.fl x.1 k
    clear ho hn c0
    by_cases hlt : k < L.fl.length
    · obtain ⟨b, off, hA, hbb, c1, c2, c3⟩ := (HR.out.below hb).rf hlt
      rw [hA] at hc0
      have HSt := Lib.hid (fwo_step L.fl x.1 k hlt)
      clear hb
      generalize L.fl[k] = y at *
      cases hv : (y.1 == x.1)
      · rw [hv, if_pos rfl] at HSt
        have hv2 : (y.1 != x.1) = true := by unfold bne; rw [hv]; rfl
        go_wp2_with fail
        go_quiet (fail)
        have hbq := below_drewN HB.out nq
        have hoq : OwnL (wr.drewN nq) (w.heap.size + 1) 65 3 rfC A' c' (fwo (L.fl.take k) x.1) := HO.out
        have hnq : (wr.drewN nq).heap[w.heap.size]? = some (.cells #[.int .i64 x.1, .string x.2.1, .string x.2.2] 65 (0, 0)) := HN.out
        have HOq := Lib.hid hoq
        have HBq := Lib.hid hbq
        have HNq := Lib.hid hnq
        have hzq : w.heap.size + 1 ≤ wr.heap.size := box_lt HN.out
        clear hoq hbq hnq
        go_wp2_with (at_builtin; refine wp_append_l rfl (.tmp 26) (.tmp 34) rfl slRFile rfLay (w.heap.size + 1) (xs := fwo (L.fl.take k) x.1) (ys := [y]) rfl rfl (HOq.out.alloc _) rfl rfl (RdL.one (wr.drewN nq) y _ _ rfl _ rfl) (by simp; omega) (by simp; omega) ?_; intro A2 c2 w2 hown hg hb2 hat; have HO2 := Lib.hid hown; have HB2 := Lib.hid hb2; clear hown hg hb2 hat)
        go_roundw
        case rel => exact ⟨k + 1, A2, c2, by omega, by go_num, by rw [HSt.out]; simp, by rw [HSt.out]; exact HO2.out, (HBq.out.alloc (show w.heap.size ≤ wr.heap.size by omega) _).trans (HB2.out.mono (by omega)), (HB2.out.block w.heap.size (by omega)).trans ((Below.heap_alloc (wr.drewN nq) _ w.heap.size (show w.heap.size < wr.heap.size by omega)).trans HNq.out)⟩
        case measure => simp [intOf]; omega
      · rw [hv, if_neg (by simp)] at HSt
        have hv2 : (y.1 != x.1) = false := by unfold bne; rw [hv]; rfl
        go_wp2_with fail
        go_quiet (fail)
        go_wp2
        go_roundw
        case rel => exact ⟨k + 1, A', c', by omega, by go_num, by rw [HSt.out], by rw [HSt.out]; exact HO.out, below_drewN HB.out _, HN.out⟩
        case measure => simp [intOf]; omega
    · have hzq : w.heap.size + 1 ≤ wr.heap.size := box_lt HN.out
      have HE : Hid (fwo (L.fl.take k) x.1 ++ [x] = rset L.fl x) := Lib.hid (by rw [List.take_of_length_le (by omega)]; rfl)
      have hbp := (hb.block p hp).trans H.out.box
      have HBP := Lib.hid hbp
      clear hbp
      go_wp2_with (at_builtin; refine wp_append_l rfl (.tmp 37) (.tmp 39) rfl slRFile rfLay (w.heap.size + 1) (xs := fwo (L.fl.take k) x.1) (ys := [x]) rfl rfl (HO.out.alloc _) rfl rfl (RdL.one wr x _ _ rfl _ rfl) (by simp; omega) (by simp; omega) ?_; intro A2 c2 w2 hown hg hb2 hat; rw [HE.out] at hown; have hb3 := (HB.out.alloc (by omega) (.cells #[.int .i64 x.1, .string x.2.1, .string x.2.2] 65)).trans (hb2.mono (by omega)); have hbx := (hb3.block p hp).trans H.out.box; have c00 := box_cell hbx 0 _ rfl; have cz0 := fun j => box_free hbx j; have HO2 := Lib.hid hown; have HB2 := Lib.hid hb3; have HX := Lib.hid hbx; clear hown hg hb2 hat hb3 hbx)
      go_end0
      refine ⟨rfl, RK.renew H.out ((Turn.below HB2.out).set p 0 _ (.inl (.inl rfl))) (rset L.fl x) A2 c2 S.queue L.qA L.qc (updF S.files x.1 x.2) S.down S.armed (updfile_wf H.out.wf x.1 x.2 hx h1 h2) ((heap_setCell_same _ p 0 _ _ _ HX.out).trans ?_)
        ((HO2.out.turn (fun i hi hl => heap_setCell_other _ _ _ _ (by have := (HO2.out.blk_lt hi).1; show i ≠ p; omega))).mono (Nat.zero_le _)) (by rw [rfun_set, H.out.fn]) (H.out.fok.set x hx) (H.out.queue.turn (fun i hi hl => (heap_setCell_other _ _ _ _ (show i ≠ p from (H.out.qp i hi).1)).trans (HB2.out.block i hl)))
        (fun i hi => .inr (by have := (HO2.out.blk_lt hi).1; omega)) (fun i hi => .inl hi) (fun i hi hf => by have := (HO2.out.blk_lt hf).1; have := (H.out.queue.blk_lt hi).2; omega)⟩
      have hln : (fwo (L.fl.take k) x.1).length + 1 = (rset L.fl x).length := by rw [← HE.out]; simp
      rw [hln]
      rfl
end Go.Proofs.Ytjgeefagnddpfaa
