/- Plain laws of the disk's machine: what a crash leaves of a file. -/
import Derived.Test.YtjgeefagnddpfaaDkP
namespace Go.Proofs.Ytjgeefagnddpfaa
open Go.RowKit

/-- Byte i of a string, 0 behind its end. -/
def gb (x : ByteArray) (i : Nat) : UInt8 := (x.data.toList[i]?).getD 0
theorem padL_getD (s : List UInt8) (n i : Nat) : ((padL s n)[i]?).getD 0 = (s[i]?).getD 0 := by
  unfold padL
  rw [List.getElem?_append]
  split
  · rfl
  · rename_i h
    rw [List.getElem?_eq_none (l := s) (by omega), List.getElem?_replicate]
    split <;> rfl
theorem gb_put (s t : ByteArray) (a i : Nat) (h : t.size ≠ 0) : gb (putB s a t) i = if a ≤ i ∧ i < a + t.size then gb t (i - a) else gb s i := by
  have hl : ((padL s.data.toList (a + t.data.toList.length)).take a).length = a := by
    rw [List.length_take, padL_len]
    omega
  have ht := dlen t
  unfold gb
  rw [putB, if_neg h]
  show ((putL s.data.toList a t.data.toList)[i]?).getD 0 = _
  rw [putL, List.getElem?_append, hl]
  by_cases h1 : i < a
  · rw [if_pos h1, if_neg (by omega), List.getElem?_take, if_pos h1]
    exact padL_getD _ _ _
  · rw [if_neg h1, List.getElem?_append, ht]
    by_cases h2 : i - a < t.size
    · rw [if_pos h2, if_pos (by omega)]
    · rw [if_neg h2, if_neg (by omega), List.getElem?_drop, show a + t.size + (i - a - t.size) = i by omega]
      exact padL_getD _ _ _
theorem gb_ext (x : ByteArray) (i j k : Nat) (h : k < j - i) : gb (x.extract i j) k = gb x (i + k) := by
  unfold gb
  rw [ext_list, List.getElem?_take, if_pos h, List.getElem?_drop]
theorem gb_eq {x y : ByteArray} (hs : x.size = y.size) (h : ∀ i, i < x.size → gb x i = gb y i) : x = y := by
  apply bext
  apply List.ext_getElem?
  intro i
  have h1 := dlen x
  have h2 := dlen y
  by_cases hi : i < x.size
  · have := h i hi
    unfold gb at this
    rw [List.getElem?_eq_getElem (by omega), List.getElem?_eq_getElem (by omega)] at this ⊢
    exact congrArg some this
  · rw [List.getElem?_eq_none (by omega), List.getElem?_eq_none (by omega)]
/-- What of a file is not pending is durable. -/
structure Inv (S : DS) : Prop where
  a : ∀ f, (S.files f).2.size ≤ (S.files f).1.size
  b : ∀ f (i : Nat), (f, ((i / 64 : Nat) : Int)) ∉ S.queue → gb (S.files f).1 i = gb (S.files f).2 i
  c : ∀ f, (S.files f).2.size < (S.files f).1.size → (f, ((((S.files f).1.size - 1) / 64 : Nat) : Int)) ∈ S.queue
theorem Inv.new : Inv DS.new := ⟨fun _ => Nat.le_refl _, fun _ _ _ => rfl, fun _ h => absurd h (Nat.lt_irrefl _)⟩
theorem Inv.same {S T : DS} (h : Inv S) (hf : T.files = S.files) (hq : T.queue = S.queue) : Inv T := ⟨by rw [hf]; exact h.a, by rw [hf, hq]; exact h.b, by rw [hf, hq]; exact h.c⟩
theorem Inv.crash {S : DS} (h : Inv S) (keep : List Int) : Inv (S.crash keep) := by
  unfold DS.crash
  split
  · exact h
  · exact ⟨fun _ => Nat.le_refl _, fun _ _ _ => rfl, fun _ h => absurd h (Nat.lt_irrefl _)⟩
theorem Inv.tick {S : DS} (h : Inv S) : Inv S.tick := h.same (tick_same S).1 (tick_same S).2.1
theorem Inv.come {S : DS} (h : Inv S) : Inv S.come := by
  unfold DS.come
  split
  · exact h.tick.crash _
  · exact h.tick
theorem Inv.settle {S : DS} (h : Inv S) (f : Int) (s : ByteArray) : Inv (S.settle f s) := by
  have hm : ∀ g (n : Int), g ≠ f → ((g, n) ∈ (S.settle f s).queue ↔ (g, n) ∈ S.queue) := by
    intro g n hg
    show (g, n) ∈ S.queue.filter _ ↔ _
    rw [List.mem_filter]
    simp [hg]
  have hfl : ∀ g, (S.settle f s).files g = if g = f then (s, s) else S.files g := fun g => rfl
  refine ⟨fun g => ?_, fun g i hi => ?_, fun g hg => ?_⟩
  · rw [hfl]
    split
    · exact Nat.le_refl _
    · exact h.a g
  · rw [hfl]
    split
    · rfl
    · rename_i hne
      exact h.b g i (fun hx => hi ((hm g _ hne).2 hx))
  · rw [hfl] at hg ⊢
    split at hg
    · exact absurd hg (Nat.lt_irrefl _)
    · rename_i hne
      rw [if_neg hne]
      exact (hm g _ hne).2 (h.c g hg)
theorem Inv.wadd {S : DS} (h : Inv S) (f a : Int) (s : ByteArray) (ha : 0 ≤ a) : Inv (S.wadd f a s) := by
  unfold DS.wadd
  split
  · exact h
  · rename_i hs
    have hz := putB_size (S.files f).1 a.toNat s hs
    have hfl : ∀ g, updF S.files f (putB (S.files f).1 a.toNat s, (S.files f).2) g = if g = f then (putB (S.files f).1 a.toNat s, (S.files f).2) else S.files g := fun g => rfl
    have hmem : ∀ (g : Int) (n : Int), (g, n) ∈ addQ S.queue f (a / 64) ((a + s.size - 1) / 64 - a / 64 + 1).toNat ↔ (g, n) ∈ S.queue ∨ (g = f ∧ a / 64 ≤ n ∧ n ≤ (a + s.size - 1) / 64) := by
      intro g n
      rw [addQ_mem]
      constructor
      · rintro (h1 | ⟨h1, h2, h3⟩)
        · exact .inl h1
        · simp only at h1 h2 h3
          exact .inr ⟨h1, h2, by omega⟩
      · rintro (h1 | ⟨h1, h2, h3⟩)
        · exact .inl h1
        · exact .inr ⟨h1, h2, by simp only; omega⟩
    have h1 := h.a f
    refine ⟨fun g => ?_, fun g i hi => ?_, fun g hg => ?_⟩
    · show (updF _ _ _ g).2.size ≤ (updF _ _ _ g).1.size
      rw [hfl]
      split
      · simp only
        omega
      · exact h.a g
    · show gb (updF _ _ _ g).1 i = gb (updF _ _ _ g).2 i
      have hi' : ¬ ((g, ((i / 64 : Nat) : Int)) ∈ S.queue ∨ (g = f ∧ a / 64 ≤ ((i / 64 : Nat) : Int) ∧ ((i / 64 : Nat) : Int) ≤ (a + s.size - 1) / 64)) := fun hx => hi ((hmem _ _).2 hx)
      have hb := h.b g i (fun hx => hi' (.inl hx))
      rw [hfl]
      split
      · rename_i hgf
        subst hgf
        simp only
        rw [gb_put _ _ _ _ hs, if_neg]
        · exact hb
        · intro hx
          exact hi' (.inr ⟨rfl, by omega, by omega⟩)
      · exact hb
    · have hg' : (updF S.files f (putB (S.files f).1 a.toNat s, (S.files f).2) g).2.size < (updF S.files f (putB (S.files f).1 a.toNat s, (S.files f).2) g).1.size := hg
      show (g, (((((updF S.files f (putB (S.files f).1 a.toNat s, (S.files f).2) g).1.size - 1) / 64 : Nat)) : Int)) ∈ addQ _ _ _ _
      rw [hmem]
      rw [hfl] at hg' ⊢
      split at hg'
      · rename_i hgf
        subst hgf
        rw [if_pos rfl]
        simp only at hg' ⊢
        rw [hz] at hg' ⊢
        by_cases hle : (S.files g).1.size ≤ a.toNat + s.size
        · rw [Nat.max_eq_right hle]
          exact .inr ⟨by first | trivial | rfl, by omega, by omega⟩
        · rw [Nat.max_eq_left (by omega)] at hg' ⊢
          exact .inl (h.c g hg')
      · rename_i hgf
        rw [if_neg hgf]
        exact .inl (h.c g hg')
theorem Inv.wr {S : DS} (h : Inv S) (f a : Int) (s : ByteArray) : Inv (S.wr f a s) := by
  unfold DS.wr
  split
  · rename_i h0
    exact h.wadd f a s (fits_ok (wcode_ok h0).2).1
  · exact h
theorem Inv.act {S : DS} (h : Inv S) (a : ActM) : Inv (S.doS a) := by
  unfold DS.doS
  split
  · unfold DS.sync DS.sync0
    split
    · exact h.come
    · split
      · exact h.come.same rfl rfl
      · exact h.come.settle _ _
  · split
    · unfold DS.trunc DS.trunc0
      split
      · exact h.come.settle _ _
      · exact h.come
    · split
      · exact h.same rfl rfl
      · split
        · exact h.same rfl rfl
        · split
          · exact h.crash _
          · split
            · exact h.same rfl rfl
            · unfold DS.write
              split
              · exact (h.tick.wr _ _ _).crash _
              · exact h.tick.wr _ _ _
theorem play_inv : ∀ (l : List ActM) (S : DS), Inv S → Inv (playS S l)
  | [], _, h => h
  | a :: r, _, h => play_inv r _ (h.act a)
/-- What has survived: sectors K of now, the rest of last. -/
structure Sv (now last y : ByteArray) (K : Int → Prop) : Prop where
  lo : last.size ≤ y.size
  hi : y.size ≤ now.size
  in_ : ∀ i : Nat, K ((i / 64 : Nat) : Int) → i < now.size → gb y i = gb now i
  out : ∀ i : Nat, ¬ K ((i / 64 : Nat) : Int) → gb y i = gb last i
  len : ∀ n : Int, K n → 0 ≤ n → 64 * n < now.size → min (64 * n + 64) now.size ≤ y.size
theorem Sv.step {now last y : ByteArray} {K : Int → Prop} (h : Sv now last y K) (n : Int) (hn : 0 ≤ n) (hlt : 64 * n < now.size) :
    Sv now last (putB y (64 * n).toNat (now.extract (64 * n).toNat (min (64 * n + 64) now.size).toNat)) (fun m => K m ∨ m = n) := by
  have hz : (now.extract (64 * n).toNat (min (64 * n + 64) now.size).toNat).size = (min (64 * n + 64) now.size).toNat - (64 * n).toNat := by rw [extract_size]; omega
  have hne : (now.extract (64 * n).toNat (min (64 * n + 64) now.size).toNat).size ≠ 0 := by omega
  have hs := putB_size y (64 * n).toNat _ hne
  have h1 := h.lo
  have h2 := h.hi
  refine ⟨by omega, by omega, fun i hK hi => ?_, fun i hK => ?_, fun m hm h0 h3 => ?_⟩
  · rw [gb_put _ _ _ _ hne]
    split
    · rw [gb_ext _ _ _ _ (by omega)]
      congr 1
      omega
    · rename_i hx
      rcases hK with hK | hK
      · exact h.in_ i hK hi
      · exact absurd ⟨by omega, by omega⟩ hx
  · rw [gb_put _ _ _ _ hne, if_neg]
    · exact h.out i (fun hx => hK (.inl hx))
    · intro hx
      exact hK (.inr (by omega))
  · rcases hm with hm | hm
    · have := h.len m hm h0 h3
      omega
    · subst hm
      omega
theorem Sv.more {now last y : ByteArray} {K : Int → Prop} (h : Sv now last y K) (n : Int) (hge : ¬ 64 * n < now.size) : Sv now last y (fun m => K m ∨ m = n) :=
  ⟨h.lo, h.hi, fun i hK hi => by
    rcases hK with hK | hK
    · exact h.in_ i hK hi
    · omega, fun i hK => h.out i (fun hx => hK (.inl hx)), fun m hm h0 h3 => by
    rcases hm with hm | hm
    · exact h.len m hm h0 h3
    · subst hm
      exact absurd h3 hge⟩
theorem surv_sv (keep : List Int) (f : Int) (now last : ByteArray) : ∀ (q : List (Int × Int)) (i : Nat) (F : Int → FileT) (K : Int → Prop), (∀ p ∈ q, 0 ≤ p.2) → (F f).1 = now → Sv now last (F f).2 K →
    ∃ K', Sv now last (survQ keep i q F f).2 K' ∧ (∀ n, K n → K' n) ∧ ((∀ j, keepBit keep j = true) → ∀ n, (f, n) ∈ q → K' n)
  | [], i, F, K, _, _, h => ⟨K, h, fun _ hn => hn, fun _ n hn => by simp at hn⟩
  | p :: r, i, F, K, hq, hF, h => by
    rw [survQ]
    by_cases hk : keepBit keep i = true
    · rw [if_pos hk]
      by_cases hpf : p.1 = f
      · have hp2 := hq p (by simp)
        by_cases hlt : 64 * p.2 < now.size
        · have hs1 : surv1 F p f = (now, putB (F f).2 (64 * p.2).toNat (now.extract (64 * p.2).toNat (min (64 * p.2 + 64) now.size).toNat)) := by
            unfold surv1
            rw [hpf, hF, if_pos hlt, updF, if_pos rfl]
          obtain ⟨K', a, b, c⟩ := surv_sv keep f now last r (i + 1) (surv1 F p) (fun m => K m ∨ m = p.2) (fun x hx => hq x (by simp [hx])) (by rw [hs1]) (by rw [hs1]; exact h.step p.2 hp2 hlt)
          refine ⟨K', a, fun n hn => b n (.inl hn), fun hall n hn => ?_⟩
          rcases List.mem_cons.1 hn with hx | hx
          · exact b n (.inr (by rw [← hx]))
          · exact c hall n hx
        · have hs1 : surv1 F p = F := by
            unfold surv1
            rw [hpf, hF, if_neg hlt]
          rw [hs1]
          obtain ⟨K', a, b, c⟩ := surv_sv keep f now last r (i + 1) F (fun m => K m ∨ m = p.2) (fun x hx => hq x (by simp [hx])) hF (h.more p.2 hlt)
          refine ⟨K', a, fun n hn => b n (.inl hn), fun hall n hn => ?_⟩
          rcases List.mem_cons.1 hn with hx | hx
          · exact b n (.inr (by rw [← hx]))
          · exact c hall n hx
      · have hs1 : surv1 F p f = F f := by
          unfold surv1
          split
          · rw [updF, if_neg (fun e => hpf e.symm)]
          · rfl
        obtain ⟨K', a, b, c⟩ := surv_sv keep f now last r (i + 1) (surv1 F p) K (fun x hx => hq x (by simp [hx])) (by rw [hs1]; exact hF) (by rw [hs1]; exact h)
        refine ⟨K', a, b, fun hall n hn => ?_⟩
        rcases List.mem_cons.1 hn with hx | hx
        · exact absurd (by rw [← hx]) hpf
        · exact c hall n hx
    · rw [if_neg hk]
      obtain ⟨K', a, b, c⟩ := surv_sv keep f now last r (i + 1) F K (fun x hx => hq x (by simp [hx])) hF h
      exact ⟨K', a, b, fun hall => absurd (hall i) hk⟩
theorem after_plain {S : DS} (hwf : S.wf) (hd : S.down = false) {f : Int} (h0 : 0 ≤ f) (h1 : f < 16) (keep : List Int) : afterC S f keep = 0 ∧ afterS S f keep = (survQ keep 0 S.queue S.files f).2 := by
  have hc : afterC S f keep = 0 := by
    unfold afterC DS.readC
    rw [may_zero rfl h0 h1, if_neg (by omega), if_neg (by omega)]
  refine ⟨hc, ?_⟩
  unfold afterS
  rw [readS_eq hc]
  have hfl : ((S.crash keep).start.files f).1 = (survQ keep 0 S.queue S.files f).2 := by
    unfold DS.crash
    rw [if_neg (by rw [hd]; simp)]
    rfl
  rw [hfl]
  refine readX_all _ _ ?_
  have := (survQ_wf keep S.queue 0 S.files (fun p hp => ⟨(hwf.q p hp).1, (hwf.q p hp).2.1, (hwf.q p hp).2.2.1⟩) hwf.out hwf.now hwf.last).2.2 f
  omega
/-- Each sector is wholly new or wholly old. -/
def Either (now last r : ByteArray) : Prop := ∀ n : Nat, (∀ i, i / 64 = n → i < now.size → gb r i = gb now i) ∨ (∀ i, i / 64 = n → gb r i = gb last i)
theorem survives_plain {S : DS} (hwf : S.wf) (hi : Inv S) (f : Int) (keep : List Int) :
    (S.files f).2.size ≤ (survQ keep 0 S.queue S.files f).2.size ∧ (survQ keep 0 S.queue S.files f).2.size ≤ (S.files f).1.size ∧ Either (S.files f).1 (S.files f).2 (survQ keep 0 S.queue S.files f).2 ∧
      ((∀ j, keepBit keep j = true) → (survQ keep 0 S.queue S.files f).2 = (S.files f).1) := by
  obtain ⟨K, h, _, hc⟩ := surv_sv keep f (S.files f).1 (S.files f).2 S.queue 0 S.files (fun _ => False) (fun p hp => (hwf.q p hp).2.2.1) rfl ⟨Nat.le_refl _, hi.a f, fun _ hf => hf.elim, fun _ _ => rfl, fun _ hf => hf.elim⟩
  refine ⟨h.lo, h.hi, fun n => ?_, fun hall => ?_⟩
  · by_cases hK : K (n : Int)
    · exact .inl (fun i hin hlt => h.in_ i (by rw [hin]; exact hK) hlt)
    · exact .inr (fun i hin => h.out i (by rw [hin]; exact hK))
  · have hsz : (survQ keep 0 S.queue S.files f).2.size = (S.files f).1.size := by
      have h1 := h.lo
      have h2 := h.hi
      have h3 := hi.a f
      by_cases hlt : (S.files f).2.size < (S.files f).1.size
      · have := h.len _ (hc hall _ (hi.c f hlt)) (by omega) (by omega)
        omega
      · omega
    refine gb_eq hsz (fun i hin => ?_)
    by_cases hq : (f, ((i / 64 : Nat) : Int)) ∈ S.queue
    · exact h.in_ i (hc hall _ hq) (by omega)
    · by_cases hK : K ((i / 64 : Nat) : Int)
      · exact h.in_ i hK (by omega)
      · rw [h.out i hK, hi.b f i hq]
theorem keep_all (j : Nat) : keepBit [1] j = true := by
  unfold keepBit
  simp [Nat.mod_one]
end Go.Proofs.Ytjgeefagnddpfaa
