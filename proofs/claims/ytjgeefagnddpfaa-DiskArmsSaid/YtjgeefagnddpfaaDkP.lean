/- Plain laws of the disk's machine: reading, syncing. -/
import Derived.Test.YtjgeefagnddpfaaDkM
namespace Go.Proofs.Ytjgeefagnddpfaa
open Go.RowKit

theorem ext_list (x : ByteArray) (i j : Nat) : (x.extract i j).data.toList = (x.data.toList.drop i).take (j - i) := by
  rw [ByteArray.data_extract, Array.toList_extract]
theorem bext {x y : ByteArray} (h : x.data.toList = y.data.toList) : x = y := ByteArray.ext (Array.toList_inj.1 h)
theorem ext_ext (x : ByteArray) (i k : Nat) (h : i + k ≤ x.size) : (x.extract i x.size).extract 0 k = x.extract i (i + k) := by
  apply bext
  rw [ext_list, ext_list, ext_list]
  simp only [List.drop_zero, Nat.sub_zero, List.take_take]
  congr 1
  omega
theorem put_read (y s : ByteArray) (a : Nat) (h : s.size ≠ 0) : (putB y a s).extract a (a + s.size) = s := by
  apply bext
  rw [ext_list, putB, if_neg h]
  show ((putL y.data.toList a s.data.toList).drop a).take _ = _
  have hl : ((padL y.data.toList (a + s.data.toList.length)).take a).length = a := by
    rw [List.length_take, padL_len]
    omega
  rw [putL, List.drop_left' hl, List.take_left' (by rw [dlen]; omega)]
theorem readS_eq {S : DS} {f a n : Int} (h : S.readC f a n = 0) : S.readS f a n = readX (S.files f).1 a n := by
  unfold DS.readS
  rw [if_neg (by omega)]
  rfl
theorem readX_all (x : ByteArray) (n : Int) (h : (x.size : Int) ≤ n) : readX x 0 n = x := by
  rw [readX_end x 0 n (by omega) (by simp; omega)]
  simp only [Int.toNat_zero, Nat.sub_zero]
  rw [extract_all x _ (Nat.le_refl _), extract_all x _ (Nat.le_refl _)]
theorem readX_put (y s : ByteArray) (a : Int) (ha : 0 ≤ a) : readX (putB y a.toNat s) a s.size = s := by
  by_cases h : s.size = 0
  · obtain rfl := str_eq0 h
    have h1 : (readX (putB y a.toNat e0) a e0.size).size = 0 := by
      unfold readX
      rw [extract_size, h]
      omega
    exact str_eq0 h1
  · have hz := putB_size y a.toNat s h
    rw [readX_part _ _ _ (by omega) (by omega)]
    rw [show ((s.size : Int)).toNat = s.size from rfl, ext_ext _ _ _ (by omega), put_read y s a.toNat h]
/-- The part that is asked for. -/
theorem readX_slice (x : ByteArray) (a n : Int) (ha : 0 ≤ a) (hn : 0 ≤ n) : readX x a n = x.extract (min a x.size).toNat (min a x.size + min n (x.size - min a x.size)).toNat := by
  unfold readX
  rw [extract_size, Nat.min_self]
  rw [show (min n ((x.size - (min a x.size).toNat : Nat) : Int)).toNat = (min n (x.size - min a x.size)).toNat by omega]
  rw [ext_ext _ _ _ (by omega)]
  congr 1
  omega
theorem come_down {S : DS} (h : S.come.down = false) : S.endsB = false ∧ S.come = S.tick ∧ S.down = false := by
  unfold DS.come at h
  split at h
  · rename_i he
    unfold DS.crash at h
    split at h
    · rename_i h2
      rw [h2] at h
      cases h
    · cases h
  · rename_i he
    have he' : S.endsB = false := by simpa using he
    refine ⟨he', by unfold DS.come; rw [he']; rfl, ?_⟩
    unfold DS.tick at h
    split at h <;> exact h
theorem tick_same (S : DS) : S.tick.files = S.files ∧ S.tick.queue = S.queue ∧ S.tick.down = S.down ∧ S.tick.lost = S.lost := by
  unfold DS.tick
  split <;> exact ⟨rfl, rfl, rfl, rfl⟩
theorem may_zero {S : DS} {f : Int} (h : S.down = false) (h0 : 0 ≤ f) (h1 : f < 16) : S.may f = 0 := by
  unfold DS.may
  rw [if_neg (by simp [h]), if_neg (by omega)]
theorem syncC_ok {S : DS} {f : Int} (h : S.syncC f = 0) : S.down = false ∧ 0 ≤ f ∧ f < 16 ∧ S.come = S.tick ∧ S.sync f = S.tick.settle f (S.files f).1 := by
  unfold DS.syncC DS.syncC0 at h
  split at h
  · rename_i h1
    exact absurd h h1
  · rename_i h1
    split at h
    · cases h
    · rename_i h2
      have hm := may_ok (Classical.not_not.1 h1)
      obtain ⟨a1, a2, a3⟩ := come_down hm.1
      refine ⟨a3, hm.2.1, hm.2.2, a2, ?_⟩
      unfold DS.sync DS.sync0
      rw [if_neg h1, if_neg h2, a2, (tick_same S).1]
/-- File f is x, durably, and nothing of it is pending. -/
def Firm (f : Int) (x : ByteArray) (S : DS) : Prop := S.files f = (x, x) ∧ ∀ p ∈ S.queue, p.1 ≠ f
theorem surv_other (f : Int) (keep : List Int) : ∀ (q : List (Int × Int)) (i : Nat) (F : Int → FileT), (∀ p ∈ q, p.1 ≠ f) → survQ keep i q F f = F f
  | [], i, F, _ => rfl
  | p :: r, i, F, h => by
    rw [survQ, surv_other f keep r (i + 1) _ (fun x hx => h x (by simp [hx]))]
    split
    · unfold surv1
      split
      · rw [updF, if_neg (fun e => h p (by simp) e.symm)]
      · rfl
    · rfl
theorem Firm.crash {f : Int} {x : ByteArray} {S : DS} (h : Firm f x S) (keep : List Int) : Firm f x (S.crash keep) := by
  unfold DS.crash
  split
  · exact h
  · refine ⟨?_, by simp⟩
    show lastF (survQ keep 0 S.queue S.files) f = _
    unfold lastF
    rw [surv_other f keep S.queue 0 S.files h.2, h.1]
theorem Firm.tick {f : Int} {x : ByteArray} {S : DS} (h : Firm f x S) : Firm f x S.tick := by
  obtain ⟨a, b, _⟩ := tick_same S
  exact ⟨by rw [a]; exact h.1, by rw [b]; exact h.2⟩
theorem Firm.come {f : Int} {x : ByteArray} {S : DS} (h : Firm f x S) : Firm f x S.come := by
  unfold DS.come
  split
  · exact h.tick.crash _
  · exact h.tick
theorem Firm.settle {f g : Int} {x s : ByteArray} {S : DS} (h : Firm f x S) (hg : g ≠ f) : Firm f x (S.settle g s) :=
  ⟨by show updF _ _ _ f = _; rw [updF, if_neg (fun e => hg e.symm)]; exact h.1, fun p hp => h.2 p (List.mem_filter.1 hp).1⟩
theorem Firm.wr {f g a : Int} {x s : ByteArray} {S : DS} (h : Firm f x S) (hg : g ≠ f) : Firm f x (S.wr g a s) := by
  unfold DS.wr DS.wadd
  split
  · split
    · exact h
    · refine ⟨by show updF _ _ _ f = _; rw [updF, if_neg (fun e => hg e.symm)]; exact h.1, fun p hp => ?_⟩
      rcases (addQ_mem g _ _ _ p).1 hp with h1 | h1
      · exact h.2 p h1
      · rw [h1.1]
        exact hg
  · exact h
theorem Firm.act {f : Int} {x : ByteArray} {S : DS} (h : Firm f x S) (a : ActM) (ha : (a.d % 8 < 4 ∧ a.f ≠ f) ∨ a.d % 8 = 4) : Firm f x (S.doS a) := by
  unfold DS.doS
  by_cases m4 : a.d % 8 = 4
  · rw [if_neg (by omega), if_neg (by omega), if_pos m4]
    exact h
  · have hf : a.f ≠ f := by omega
    split
    · unfold DS.sync DS.sync0
      split
      · exact h.come
      · split
        · exact h.come
        · exact h.come.settle hf
    · split
      · unfold DS.trunc DS.trunc0
        split
        · exact h.come.settle hf
        · exact h.come
      · rw [if_neg (by omega), if_neg (by omega), if_neg (by omega)]
        unfold DS.write
        split
        · exact (h.tick.wr hf).crash _
        · exact h.tick.wr hf
end Go.Proofs.Ytjgeefagnddpfaa
