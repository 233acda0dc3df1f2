/- Contracts of comes, Write, Sync and Truncate of a disk of the reference. -/
import Derived.Test.YtjgeefagnddpfaaDkRG
import Derived.Test.YtjgeefagnddpfaaDkI
namespace Go.Proofs.Ytjgeefagnddpfaa
open Go.RowKit

def DS.comeW (S : DS) (f a : Int) (s : ByteArray) : DS := if S.endsB = true then (S.tick.wr f a s).crash S.keep else S.tick
theorem wr_yes {S : DS} {f a : Int} {s : ByteArray} (hd : S.down = false) (h0 : 0 ≤ f) (h1 : f ≤ 15) (h : fitsB a s = true) : S.wr f a s = S.wadd f a s := by
  have := fits_ok h
  have hm : S.may f = 0 := by unfold DS.may; rw [if_neg (by simp [hd]), if_neg (by omega)]
  have hc : S.wcode f a s = 0 := by
    unfold DS.wcode
    rw [if_neg (by omega), if_neg (by omega), if_pos h]
  unfold DS.wr
  rw [if_pos hc]
theorem wr_no {S : DS} {f a : Int} {s : ByteArray} (h : (0 ≤ f ∧ f ≤ 15) → fitsB a s = false) : S.wr f a s = S := by
  unfold DS.wr
  rw [if_neg]
  intro hc
  obtain ⟨h1, h2⟩ := wcode_ok hc
  have := (may_ok h1).2
  rw [h (by omega)] at h2
  cases h2
theorem comeW_none (S : DS) : S.comeW 0 0 e0 = S.come := by
  unfold DS.comeW DS.come
  have h : S.tick.wr 0 0 e0 = S.tick := by
    unfold DS.wr
    split
    · unfold DS.wadd
      rw [if_pos (by decide)]
    · rfl
  rw [h]
set_option maxHeartbeats 2000000 in
theorem rComes_any (p : Nat) (S : DS) (L : RL) (w : World) (f a : Int) (s : ByteArray) (ha : inI64 a) (hs : s.size ≤ 1073741824) (hk : S.keep.length ≤ 4194320) (h : RK w p S L) :
    Calls Try.prog 50 #[.pointer (some ⟨p, 0, none⟩), .int .i64 f, .int .i64 a, .string s] w fun e w' => e = .returned (.tuple #[]) ∧ RUpd p (S.comeW f a s) L w w' := by
  have c3 := h.c3
  have c4 := h.c4
  have cz := fun j => box_free h.box j
  have H := Lib.hid h
  have HW := Lib.hid (DS.tick_wf h.wf)
  have h0 := h.wf.armed0
  have h1 := h.wf.armed1
  unfold inI64 at h1
  clear h
  by_cases hd : S.down = true ∨ S.armed = 0
  · have he : S.endsB = false := by
      unfold DS.endsB
      rcases hd with h | h <;> simp [h]
    have HT : Hid (S.comeW f a s = S) := Lib.hid (by unfold DS.comeW; rw [he, if_neg (by simp)]; unfold DS.tick; rw [if_pos hd])
    clear he
    go_enter Try.func50, Try.ntmps50
    rcases hd with h | h
    · rw [h] at c3
      go_wp2
      try simp only [Exit.inBlock, Exit.then]
      refine bodyPost_ret (results_none rfl _ _ _) rfl ?_
      exact ⟨rfl, by rw [HT.out]; exact RUpd.refl H.out⟩
    · rw [h] at c4
      cases hdn : S.down
      · rw [hdn] at c3
        go_wp2
        try simp only [Exit.inBlock, Exit.then]
        refine bodyPost_ret (results_none rfl _ _ _) rfl ?_
        exact ⟨rfl, by rw [HT.out]; exact RUpd.refl H.out⟩
      · rw [hdn] at c3
        go_wp2
        try simp only [Exit.inBlock, Exit.then]
        refine bodyPost_ret (results_none rfl _ _ _) rfl ?_
        exact ⟨rfl, by rw [HT.out]; exact RUpd.refl H.out⟩
  · have hd1 : S.down = false := by cases hq : S.down <;> simp_all
    have hd2 : (S.armed == 0) = false := by simp_all
    have hTk : S.tick = ⟨S.files, S.queue, S.lost, S.down, S.armed - 1, S.keep⟩ := by unfold DS.tick; rw [if_neg hd]
    have hbx := heap_setCell_same w p 4 _ _ (.int .i64 (S.armed - 1)) H.out.box
    have HU : Hid (RUpd p S.tick L w (w.setCell ⟨p, 4, none⟩ (.int .i64 (S.armed - 1)))) := Lib.hid (by
      have hw := HW.out
      rw [hTk] at hw ⊢
      exact RK.scal H.out S.lost S.down (S.armed - 1) hw hbx (grown_set _ _ _ _))
    have hTd : S.tick.down = false := by rw [hTk]; exact hd1
    rw [hd1] at c3
    clear hd hbx
    by_cases h2 : 0 < S.armed - 1
    · have he : S.endsB = false := by
        unfold DS.endsB
        simp
        intro
        omega
      have HT : Hid (S.comeW f a s = S.tick) := Lib.hid (by unfold DS.comeW; rw [he]; rfl)
      clear he hTd hTk
      go_enter Try.func50, Try.ntmps50
      go_wp2
      try simp only [Exit.inBlock, Exit.then]
      refine bodyPost_ret (results_none rfl _ _ _) rfl ?_
      exact ⟨rfl, by rw [HT.out]; exact HU.out⟩
    · have he : S.endsB = true := by
        unfold DS.endsB
        rw [hd1]
        simp
        have : ¬ S.armed = 0 := by simpa using hd2
        omega
      have HT : Hid (S.comeW f a s = (S.tick.wr f a s).crash S.keep) := Lib.hid (by unfold DS.comeW; rw [he, if_pos rfl])
      obtain ⟨L1, d1, t1, o1, k1⟩ := HU.out
      have hkp : S.tick.keep = S.keep := DS.tick_keep S
      have HTd := Lib.hid hTd
      clear he hTk hd1 HU hTd
      have c35 := d1.c5
      rw [hkp] at c35
      by_cases hf : 0 ≤ f ∧ f ≤ 15
      · obtain ⟨f0, f1⟩ := hf
        have HFi := Lib.hid (fun w => rFits_any a s w ha hs)
        cases hfit : fitsB a s
        · rw [hfit] at HFi
          have HTw := Lib.hid (wr_no (S := S.tick) (f := f) (a := a) (s := s) (fun _ => hfit))
          rw [HTw.out] at HT
          clear hfit
          go_enter Try.func50, Try.ntmps50
          go_wp2_with (go_at_call 53; refine (HFi.out _).mono ?_; rintro e wx ⟨rfl, hwx⟩; obtain rfl := hwx)
          refine (rCrash_any p S.tick L1 _ S.keep L1.kA L1.kc (by have := d1.keep; rwa [hkp] at this) hk (fun _ => d1.kp) d1).mono ?_
          rintro e w3 ⟨rfl, hu3⟩
          go_wp2
          go_end0
          exact ⟨rfl, by rw [HT.out]; exact RUpd.trans t1 o1 k1 hu3⟩
        · rw [hfit] at HFi
          have HTw := wr_yes HTd.out f0 f1 hfit
          rw [HTw] at HT
          have HAdd := Lib.hid (rAdd_any p S.tick L1 _ f a s d1 ⟨f0, by omega⟩ hfit)
          have hkp2 : (S.tick.wadd f a s).keep = S.keep := by rw [← HTw, DS.wr_keep, hkp]
          clear hfit c35 HTw
          go_enter Try.func50, Try.ntmps50
          go_wp2_with (first | (go_at_call 53; refine (HFi.out _).mono ?_; rintro e wx ⟨rfl, hwx⟩; obtain rfl := hwx) | (go_at_call 54; refine HAdd.out.mono ?_; rintro e w2 ⟨rfl, hu2⟩; obtain ⟨L2, d2, t2, o2, k2⟩ := RUpd.trans t1 o1 k1 hu2; have c35 := d2.c5; rw [hkp2] at c35))
          refine (rCrash_any p _ L2 _ S.keep L2.kA L2.kc (by have := d2.keep; rwa [hkp2] at this) hk (fun _ => d2.kp) d2).mono ?_
          rintro e w3 ⟨rfl, hu3⟩
          go_wp2
          go_end0
          exact ⟨rfl, by rw [HT.out]; exact RUpd.trans t2 o2 k2 hu3⟩
      · have HTw := Lib.hid (wr_no (S := S.tick) (f := f) (a := a) (s := s) (fun h => absurd h hf))
        rw [HTw.out] at HT
        by_cases f0 : 0 ≤ f
        · have f1 : 15 < f := by omega
          clear hf
          go_enter Try.func50, Try.ntmps50
          go_wp2_with fail
          refine (rCrash_any p S.tick L1 _ S.keep L1.kA L1.kc (by have := d1.keep; rwa [hkp] at this) hk (fun _ => d1.kp) d1).mono ?_
          rintro e w3 ⟨rfl, hu3⟩
          go_wp2
          go_end0
          exact ⟨rfl, by rw [HT.out]; exact RUpd.trans t1 o1 k1 hu3⟩
        · have f1 : f < 0 := by omega
          clear hf f0
          go_enter Try.func50, Try.ntmps50
          go_wp2_with fail
          refine (rCrash_any p S.tick L1 _ S.keep L1.kA L1.kc (by have := d1.keep; rwa [hkp] at this) hk (fun _ => d1.kp) d1).mono ?_
          rintro e w3 ⟨rfl, hu3⟩
          go_wp2
          go_end0
          exact ⟨rfl, by rw [HT.out]; exact RUpd.trans t1 o1 k1 hu3⟩
theorem DS.write_come (S : DS) (f a : Int) (s : ByteArray) : S.endsB = true → S.write f a s = S.comeW f a s ∧ S.writeC f a s = 8 := by
  intro h
  unfold DS.write DS.writeC DS.comeW
  rw [h]
  exact ⟨rfl, rfl⟩
theorem comeW_tick {S : DS} (h : S.endsB = false) (f a : Int) (s : ByteArray) : S.comeW f a s = S.tick := by
  unfold DS.comeW
  rw [h]
  rfl
theorem comeW_down {S : DS} (h : S.endsB = true) (f a : Int) (s : ByteArray) : (S.comeW f a s).down = true := by
  unfold DS.comeW DS.crash
  rw [h, if_pos rfl]
  split
  · assumption
  · rfl
end Go.Proofs.Ytjgeefagnddpfaa
