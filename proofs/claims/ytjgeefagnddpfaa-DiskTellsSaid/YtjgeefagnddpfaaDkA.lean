/- The machine of the disk in plain Lean: its state, what each call does to it, and what always holds of it. -/
import Derived.Test.YtjgeefagnddpfaaMap
namespace Go.Proofs.Ytjgeefagnddpfaa
open Go.RowKit

/-- A string, filled with zeros up to n bytes. -/
def padL (s : List UInt8) (n : Nat) : List UInt8 := s ++ List.replicate (n - s.length) 0
/-- Bytes t at offset a. -/
def putL (s : List UInt8) (a : Nat) (t : List UInt8) : List UInt8 := (padL s (a + t.length)).take a ++ (t ++ (padL s (a + t.length)).drop (a + t.length))
def putB (s : ByteArray) (a : Nat) (t : ByteArray) : ByteArray := if t.size = 0 then s else ⟨(putL s.data.toList a t.data.toList).toArray⟩

theorem padL_len (s : List UInt8) (n : Nat) : (padL s n).length = max s.length n := by
  rw [padL, List.length_append, List.length_replicate]
  omega
theorem putL_len (s : List UInt8) (a : Nat) (t : List UInt8) : (putL s a t).length = max s.length (a + t.length) := by
  have := padL_len s (a + t.length)
  rw [putL, List.length_append, List.length_append, List.length_take, List.length_drop, this]
  omega
theorem putB_size (s : ByteArray) (a : Nat) (t : ByteArray) (h : t.size ≠ 0) : (putB s a t).size = max s.size (a + t.size) := by
  rw [putB, if_neg h]
  have := putL_len s.data.toList a t.data.toList
  show (List.toArray (putL s.data.toList a t.data.toList)).size = _
  rw [List.size_toArray, this, Array.length_toList, Array.length_toList]
  rfl

abbrev FileT := ByteArray × ByteArray
def e0 : ByteArray := ⟨#[]⟩
structure DS where
  files : Int → FileT
  queue : List (Int × Int)
  lost : Int
  down : Bool
  armed : Int
  keep : List Int

def updF (F : Int → FileT) (f : Int) (x : FileT) : Int → FileT := fun g => if g = f then x else F g
def addQ (q : List (Int × Int)) (f lo : Int) : Nat → List (Int × Int)
  | 0 => q
  | n + 1 => addQ (if (f, lo) ∈ q then q else q ++ [(f, lo)]) f (lo + 1) n
def DS.wadd (S : DS) (f a : Int) (s : ByteArray) : DS :=
  if s.size = 0 then S else { S with files := updF S.files f (putB (S.files f).1 a.toNat s, (S.files f).2), queue := addQ S.queue f (a / 64) ((a + s.size - 1) / 64 - a / 64 + 1).toNat }
def DS.may (S : DS) (f : Int) : Int := if S.down = true then 8 else if f < 0 ∨ 16 ≤ f then 1 else 0
def fitsB (a : Int) (s : ByteArray) : Bool := decide (0 ≤ a) && (decide (a ≤ 16777216) && decide (a + s.size ≤ 16777216))
/-- write: the code, and the state behind it. -/
def DS.wcode (S : DS) (f a : Int) (s : ByteArray) : Int := if S.may f ≠ 0 then S.may f else if a < 0 then 1 else if fitsB a s = true then 0 else 6
def DS.wr (S : DS) (f a : Int) (s : ByteArray) : DS := if S.wcode f a s = 0 then S.wadd f a s else S
def surv1 (F : Int → FileT) (p : Int × Int) : Int → FileT :=
  if 64 * p.2 < (F p.1).1.size then updF F p.1 ((F p.1).1, putB (F p.1).2 (64 * p.2).toNat ((F p.1).1.extract (64 * p.2).toNat (min (64 * p.2 + 64) (F p.1).1.size).toNat)) else F
def keepBit (keep : List Int) (i : Nat) : Bool := match keep[i % keep.length]? with
  | some k => k % 2 == 1
  | none => false
def survQ (keep : List Int) : Nat → List (Int × Int) → (Int → FileT) → (Int → FileT)
  | _, [], F => F
  | i, p :: r, F => survQ keep (i + 1) r (if keepBit keep i = true then surv1 F p else F)
def lastF (F : Int → FileT) : Int → FileT := fun f => ((F f).2, (F f).2)
def DS.crash (S : DS) (keep : List Int) : DS :=
  if S.down = true then S else { files := lastF (survQ keep 0 S.queue S.files), queue := [], lost := S.lost, down := true, armed := 0, keep := S.keep }
def DS.endsB (S : DS) : Bool := !S.down && decide (S.armed = 1)
def DS.tick (S : DS) : DS := if S.down = true ∨ S.armed = 0 then S else { S with armed := S.armed - 1 }
def DS.settle (S : DS) (f : Int) (s : ByteArray) : DS := { S with files := updF S.files f (s, s), queue := S.queue.filter (fun p => !(p.1 == f)) }
def DS.come (S : DS) : DS := if S.endsB = true then S.tick.crash S.keep else S.tick
def DS.writeC (S : DS) (f a : Int) (s : ByteArray) : Int := if S.endsB = true then 8 else S.tick.wcode f a s
def DS.write (S : DS) (f a : Int) (s : ByteArray) : DS := if S.endsB = true then (S.tick.wr f a s).crash S.keep else S.tick.wr f a s
def DS.syncC0 (S : DS) (f : Int) : Int := if S.may f ≠ 0 then S.may f else if 0 < S.lost then 9 else 0
def DS.sync0 (S : DS) (f : Int) : DS := if S.may f ≠ 0 then S else if 0 < S.lost then { S with lost := S.lost - 1 } else S.settle f (S.files f).1
def DS.syncC (S : DS) (f : Int) : Int := S.come.syncC0 f
def DS.sync (S : DS) (f : Int) : DS := S.come.sync0 f
def DS.truncC0 (S : DS) (f n : Int) : Int := if S.may f ≠ 0 then S.may f else if n < 0 ∨ (S.files f).1.size < n then 1 else 0
def DS.trunc0 (S : DS) (f n : Int) : DS := if S.truncC0 f n = 0 then S.settle f ((S.files f).1.extract 0 n.toNat) else S
def DS.truncC (S : DS) (f n : Int) : Int := S.come.truncC0 f n
def DS.trunc (S : DS) (f n : Int) : DS := S.come.trunc0 f n
def DS.lose (S : DS) (n : Int) : DS := { S with lost := max n 0 }
def DS.arm (S : DS) (n : Int) (keep : List Int) : DS := { S with armed := max n 0, keep := keep }
def DS.start (S : DS) : DS := { S with down := false }
def DS.readC (S : DS) (f a n : Int) : Int := if S.may f ≠ 0 then S.may f else if a < 0 ∨ n < 0 then 1 else 0
def DS.readS (S : DS) (f a n : Int) : ByteArray :=
  if S.readC f a n ≠ 0 then e0 else ((S.files f).1.extract (min a (S.files f).1.size).toNat (S.files f).1.size).extract 0 (min n ((S.files f).1.extract (min a (S.files f).1.size).toNat (S.files f).1.size).size).toNat
def DS.new : DS := { files := fun _ => (e0, e0), queue := [], lost := 0, down := false, armed := 0, keep := [] }

/-! What always holds. -/
def inI64 (x : Int) : Prop := -9223372036854775808 ≤ x ∧ x ≤ 9223372036854775807
structure DS.wf (S : DS) : Prop where
  out : ∀ f, f < 0 ∨ 16 ≤ f → S.files f = (e0, e0)
  now : ∀ f, (S.files f).1.size ≤ 16777216
  last : ∀ f, (S.files f).2.size ≤ 16777216
  q : ∀ p ∈ S.queue, 0 ≤ p.1 ∧ p.1 < 16 ∧ 0 ≤ p.2 ∧ p.2 ≤ 262144
  nd : S.queue.Nodup
  lost0 : 0 ≤ S.lost
  lost1 : inI64 S.lost
  armed0 : 0 ≤ S.armed
  armed1 : inI64 S.armed
  keep : ∀ k ∈ S.keep, inI64 k

/-- So many different numbers below n: n at most. -/
theorem nodup_len : ∀ (n : Nat) (l : List Nat), l.Nodup → (∀ x ∈ l, x < n) → l.length ≤ n
  | 0, l, _, h => by
    rcases l with _ | ⟨x, r⟩
    · simp
    · exact absurd (h x (by simp)) (by omega)
  | n + 1, l, hd, h => by
    have h1 := nodup_len n (l.filter (fun x => x != n)) (hd.filter _) (fun x hx => by
      have := h x ((List.mem_filter.1 hx).1)
      have h2 := (List.mem_filter.1 hx).2
      simp at h2
      omega)
    have h3 : l.length ≤ (l.filter (fun x => x != n)).length + 1 := by
      have hc : l.countP (fun x => x == n) ≤ 1 := by
        have := List.nodup_iff_count.1 hd n
        simpa [List.count] using this
      have he := List.length_eq_countP_add_countP (fun x => x == n) (l := l)
      have h4 : l.countP (fun x => !(x == n)) = (l.filter (fun x => x != n)).length := by
        rw [List.countP_eq_length_filter]
        rfl
      have h5 : l.countP (fun a => decide ¬(a == n) = true) = l.countP (fun x => !(x == n)) := by
        congr 1
        funext x
        cases x == n <;> rfl
      omega
    omega
theorem DS.wf.qlen {S : DS} (h : S.wf) : S.queue.length ≤ 4194320 := by
  have h1 := nodup_len 4194320 (S.queue.map (fun p => p.1.toNat * 262145 + p.2.toNat)) (by
    rw [List.nodup_iff_pairwise_ne, List.pairwise_map]
    refine (List.Pairwise.imp_of_mem ?_ (List.nodup_iff_pairwise_ne.1 h.nd))
    rintro ⟨a, b⟩ ⟨c, d⟩ hx hy hne he
    have q1 := h.q _ hx
    have q2 := h.q _ hy
    simp only at he q1 q2
    have : a = c ∧ b = d := by omega
    exact hne (by rw [this.1, this.2])) (by
    intro x hx
    obtain ⟨p, hp, rfl⟩ := List.mem_map.1 hx
    have q1 := h.q _ hp
    omega)
  simpa using h1

theorem DS.new_wf : DS.new.wf := ⟨fun _ _ => rfl, fun _ => by simp [DS.new, e0, ByteArray.size], fun _ => by simp [DS.new, e0, ByteArray.size], by simp [DS.new], by simp [DS.new], by simp [DS.new], by simp [DS.new, inI64], by simp [DS.new], by simp [DS.new, inI64], by simp [DS.new]⟩
theorem addQ_mem (f : Int) : ∀ (n : Nat) (q : List (Int × Int)) (lo : Int) (p : Int × Int), p ∈ addQ q f lo n ↔ p ∈ q ∨ (p.1 = f ∧ lo ≤ p.2 ∧ p.2 < lo + n)
  | 0, q, lo, p => by simp [addQ]; omega
  | n + 1, q, lo, p => by
    rw [addQ, addQ_mem f n]
    have h1 : p ∈ (if (f, lo) ∈ q then q else q ++ [(f, lo)]) ↔ p ∈ q ∨ p = (f, lo) := by
      by_cases h : (f, lo) ∈ q
      · rw [if_pos h]
        constructor
        · exact .inl
        · rintro (h1 | rfl)
          · exact h1
          · exact h
      · simp [h]
    rw [h1, Prod.ext_iff]
    push_cast
    constructor
    · rintro ((h | ⟨h2, h3⟩) | ⟨h2, h3, h4⟩)
      · exact .inl h
      · exact .inr ⟨h2, by omega, by omega⟩
      · exact .inr ⟨h2, by omega, by omega⟩
    · rintro (h | ⟨h2, h3, h4⟩)
      · exact .inl (.inl h)
      · by_cases h5 : p.2 = lo
        · exact .inl (.inr ⟨h2, h5⟩)
        · exact .inr ⟨h2, by omega, by omega⟩
theorem addQ_nodup (f : Int) : ∀ (n : Nat) (q : List (Int × Int)) (lo : Int), q.Nodup → (addQ q f lo n).Nodup
  | 0, q, lo, h => h
  | n + 1, q, lo, h => by
    rw [addQ]
    refine addQ_nodup f n _ _ ?_
    split
    · exact h
    · rename_i hn
      rw [List.nodup_append]
      refine ⟨h, by simp, fun x hx y hy => ?_⟩
      simp only [List.mem_singleton] at hy
      subst hy
      rintro rfl
      exact hn hx
theorem DS.wadd_wf {S : DS} (h : S.wf) (f a : Int) (s : ByteArray) (hf : 0 ≤ f ∧ f < 16) (ha : 0 ≤ a) (hs : a + s.size ≤ 16777216) : (S.wadd f a s).wf := by
  unfold DS.wadd
  split
  · exact h
  · rename_i h0
    have e : a.toNat + s.size ≤ 16777216 := by omega
    have hw := putB_size (S.files f).1 a.toNat s h0
    have hn := h.now f
    refine ⟨fun g hg => ?_, fun g => ?_, fun g => ?_, fun p hp => ?_, addQ_nodup _ _ _ _ h.nd, h.lost0, h.lost1, h.armed0, h.armed1, h.keep⟩
    · show updF _ _ _ g = _
      rw [updF, if_neg (by omega)]
      exact h.out g hg
    · show (updF _ _ _ g).1.size ≤ _
      unfold updF
      split
      · simp only
        omega
      · exact h.now g
    · show (updF _ _ _ g).2.size ≤ _
      unfold updF
      split
      · exact h.last f
      · exact h.last g
    · rcases (addQ_mem f _ _ _ p).1 hp with h1 | ⟨h1, h2, h3⟩
      · exact h.q p h1
      · omega
theorem fits_ok {a : Int} {s : ByteArray} (h : fitsB a s = true) : 0 ≤ a ∧ a + s.size ≤ 16777216 := by
  simp [fitsB] at h
  omega
theorem may_ok {S : DS} {f : Int} (h : S.may f = 0) : S.down = false ∧ 0 ≤ f ∧ f < 16 := by
  unfold DS.may at h
  split at h
  · cases h
  · rename_i h1
    split at h
    · cases h
    · exact ⟨by simpa using h1, by omega, by omega⟩
theorem wcode_ok {S : DS} {f a : Int} {s : ByteArray} (h : S.wcode f a s = 0) : S.may f = 0 ∧ fitsB a s = true := by
  unfold DS.wcode at h
  split at h
  · rename_i h1
    exact absurd h h1
  · rename_i h1
    split at h
    · cases h
    · split at h
      · rename_i h2
        exact ⟨by omega, h2⟩
      · cases h
theorem DS.wr_wf {S : DS} (h : S.wf) (f a : Int) (s : ByteArray) : (S.wr f a s).wf := by
  unfold DS.wr
  split
  · rename_i h0
    obtain ⟨h1, h2⟩ := wcode_ok h0
    exact DS.wadd_wf h f a s (may_ok h1).2 (fits_ok h2).1 (fits_ok h2).2
  · exact h
theorem surv1_wf (F : Int → FileT) (p : Int × Int) (hp : 0 ≤ p.1 ∧ p.1 < 16 ∧ 0 ≤ p.2) (h0 : ∀ f, f < 0 ∨ 16 ≤ f → F f = (e0, e0)) (h1 : ∀ f, (F f).1.size ≤ 16777216) (h2 : ∀ f, (F f).2.size ≤ 16777216) :
    (∀ f, f < 0 ∨ 16 ≤ f → surv1 F p f = (e0, e0)) ∧ (∀ f, (surv1 F p f).1 = (F f).1) ∧ (∀ f, (surv1 F p f).2.size ≤ 16777216) := by
  unfold surv1
  split
  · rename_i hl
    have hn := h1 p.1
    have hq := h2 p.1
    have hz : ((F p.1).1.extract (64 * p.2).toNat (min (64 * p.2 + 64) (F p.1).1.size).toNat).size = (min (64 * p.2 + 64) (F p.1).1.size).toNat - (64 * p.2).toNat := by
      rw [ByteArray.size_extract]
      omega
    have hs := putB_size (F p.1).2 (64 * p.2).toNat ((F p.1).1.extract (64 * p.2).toNat (min (64 * p.2 + 64) (F p.1).1.size).toNat) (by rw [hz]; omega)
    refine ⟨fun f hf => ?_, fun f => ?_, fun f => ?_⟩
    · rw [updF, if_neg (by omega)]
      exact h0 f hf
    · unfold updF
      split
      · rename_i e
        rw [e]
      · rfl
    · unfold updF
      split
      · simp only
        omega
      · exact h2 f
  · exact ⟨h0, fun _ => rfl, h2⟩
theorem survQ_wf (keep : List Int) : ∀ (q : List (Int × Int)) (i : Nat) (F : Int → FileT), (∀ p ∈ q, 0 ≤ p.1 ∧ p.1 < 16 ∧ 0 ≤ p.2) → (∀ f, f < 0 ∨ 16 ≤ f → F f = (e0, e0)) → (∀ f, (F f).1.size ≤ 16777216) → (∀ f, (F f).2.size ≤ 16777216) →
    (∀ f, f < 0 ∨ 16 ≤ f → survQ keep i q F f = (e0, e0)) ∧ (∀ f, (survQ keep i q F f).1 = (F f).1) ∧ (∀ f, (survQ keep i q F f).2.size ≤ 16777216)
  | [], i, F, _, h0, h1, h2 => ⟨h0, fun _ => rfl, h2⟩
  | p :: r, i, F, hq, h0, h1, h2 => by
    rw [survQ]
    split
    · obtain ⟨q0, q1, q2⟩ := surv1_wf F p (hq p (by simp)) h0 h1 h2
      obtain ⟨r0, r1, r2⟩ := survQ_wf keep r (i + 1) (surv1 F p) (fun x hx => hq x (by simp [hx])) q0 (fun f => by rw [q1]; exact h1 f) q2
      exact ⟨r0, fun f => by rw [r1, q1], r2⟩
    · exact survQ_wf keep r (i + 1) F (fun x hx => hq x (by simp [hx])) h0 h1 h2
theorem DS.crash_wf {S : DS} (h : S.wf) (keep : List Int) : (S.crash keep).wf := by
  unfold DS.crash
  split
  · exact h
  · obtain ⟨q0, q1, q2⟩ := survQ_wf keep S.queue 0 S.files (fun p hp => ⟨(h.q p hp).1, (h.q p hp).2.1, (h.q p hp).2.2.1⟩) h.out h.now h.last
    refine ⟨fun f hf => ?_, q2, q2, by simp, by simp, h.lost0, h.lost1, by simp, by simp [inI64], h.keep⟩
    simp only [lastF, q0 f hf]
theorem DS.tick_wf {S : DS} (h : S.wf) : S.tick.wf := by
  unfold DS.tick
  split
  · exact h
  · rename_i hn
    have h1 := h.armed0
    have h2 := h.armed1
    unfold inI64 at h2
    exact ⟨h.out, h.now, h.last, h.q, h.nd, h.lost0, h.lost1, by simp only; omega, by simp only [inI64]; omega, h.keep⟩
theorem DS.settle_wf {S : DS} (h : S.wf) (f : Int) (s : ByteArray) (hf : 0 ≤ f ∧ f < 16) (hs : s.size ≤ 16777216) : (S.settle f s).wf := by
  refine ⟨fun g hg => ?_, fun g => ?_, fun g => ?_, fun p hp => h.q p ((List.mem_filter.1 hp).1), h.nd.filter _, h.lost0, h.lost1, h.armed0, h.armed1, h.keep⟩
  · show updF _ _ _ g = _
    rw [updF, if_neg (by omega)]
    exact h.out g hg
  · show (updF _ _ _ g).1.size ≤ _
    unfold updF
    split
    · exact hs
    · exact h.now g
  · show (updF _ _ _ g).2.size ≤ _
    unfold updF
    split
    · exact hs
    · exact h.last g
theorem DS.come_wf {S : DS} (h : S.wf) : S.come.wf := by
  unfold DS.come
  split
  · exact DS.crash_wf (DS.tick_wf h) _
  · exact DS.tick_wf h
theorem DS.write_wf {S : DS} (h : S.wf) (f a : Int) (s : ByteArray) : (S.write f a s).wf := by
  unfold DS.write
  split
  · exact DS.crash_wf (DS.wr_wf (DS.tick_wf h) f a s) _
  · exact DS.wr_wf (DS.tick_wf h) f a s
theorem DS.sync0_wf {S : DS} (h : S.wf) (f : Int) : (S.sync0 f).wf := by
  unfold DS.sync0
  split
  · exact h
  · rename_i hm
    split
    · have h1 := h.lost0
      have h2 := h.lost1
      unfold inI64 at h2
      exact ⟨h.out, h.now, h.last, h.q, h.nd, by simp only; omega, by simp only [inI64]; omega, h.armed0, h.armed1, h.keep⟩
    · exact DS.settle_wf h f _ (may_ok (Classical.not_not.1 hm)).2 (h.now f)
theorem trunc_ok {S : DS} {f n : Int} (h : S.truncC0 f n = 0) : S.may f = 0 ∧ 0 ≤ n ∧ n ≤ (S.files f).1.size := by
  unfold DS.truncC0 at h
  split at h
  · rename_i h1
    exact absurd h h1
  · split at h
    · cases h
    · omega
theorem DS.trunc0_wf {S : DS} (h : S.wf) (f n : Int) : (S.trunc0 f n).wf := by
  unfold DS.trunc0
  split
  · rename_i h0
    obtain ⟨h1, h2, h3⟩ := trunc_ok h0
    have := h.now f
    exact DS.settle_wf h f _ (may_ok h1).2 (by rw [ByteArray.size_extract]; omega)
  · exact h
theorem DS.lose_wf {S : DS} (h : S.wf) (n : Int) (hn : inI64 n) : (S.lose n).wf := by
  unfold inI64 at hn
  exact ⟨h.out, h.now, h.last, h.q, h.nd, by simp only [DS.lose]; omega, by simp only [DS.lose, inI64]; omega, h.armed0, h.armed1, h.keep⟩
theorem DS.arm_wf {S : DS} (h : S.wf) (n : Int) (keep : List Int) (hn : inI64 n) (hk : ∀ k ∈ keep, inI64 k) : (S.arm n keep).wf := by
  unfold inI64 at hn
  exact ⟨h.out, h.now, h.last, h.q, h.nd, h.lost0, h.lost1, by simp only [DS.arm]; omega, by simp only [DS.arm, inI64]; omega, hk⟩
theorem DS.start_wf {S : DS} (h : S.wf) : S.start.wf := ⟨h.out, h.now, h.last, h.q, h.nd, h.lost0, h.lost1, h.armed0, h.armed1, h.keep⟩
theorem DS.tick_keep (S : DS) : S.tick.keep = S.keep := by
  unfold DS.tick
  split <;> rfl
theorem DS.wr_keep (S : DS) (f a : Int) (s : ByteArray) : (S.wr f a s).keep = S.keep := by
  unfold DS.wr DS.wadd
  split
  · split <;> rfl
  · rfl
end Go.Proofs.Ytjgeefagnddpfaa
