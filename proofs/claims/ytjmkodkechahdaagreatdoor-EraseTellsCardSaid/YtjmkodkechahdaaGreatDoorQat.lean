/- Contracts and plain laws, joined: DkJ, DkK, DkL, DkM, DkP, DkQ. -/
import Derived.Test.YtjmkodkechahdaaGreatDoorQas
import Derived.Laws.Externs
/- Contracts of maps.Clone and of Copy of a disk. -/
set_option linter.unusedSimpArgs false
set_option linter.unusedVariables false
namespace Go.Proofs.YtjmkodkechahdaaGreatDoor
open Go.RowKit
set_option maxRecDepth 100000

theorem equalIn_map_nil {P : Program} (w : World) (d : Nat) (t k e : TypeId) (p : Option Nat) (h : P.underlying t = some (.map k e)) : (Op.equalIn (d + 1) t (.map p) (.map none)).run P w = .ok p.isNone w := by
  cases p <;> simp [Op.equalIn, run_underlying h]
theorem run_eql_map_nil_at {P : Program} (w : World) (t k e : TypeId) (p : Option Nat) (h : P.underlying t = some (.map k e)) : (binOp .eql t (.map p) (.map none)).run P w = .ok (.bool p.isNone) w := by
  simp [binOp, show Op.equal t (.map p) (.map none) = Op.equalIn (9999 + 1) t (.map p) (.map none) from rfl, equalIn_map_nil w 9999 t k e p h]
theorem run_clone_map {P : Program} {w : World} {r : Nat} {es : Array MapEntry} {clock : Nat} (t : TypeId) (hb : w.heap[r]? = some (.map es clock)) :
    (Extern.MapsClone.clone #[.iface t (.map (some r))]).run P w = .ok (.iface t (.map (some w.heap.size))) (w.alloc (.map es clock)) := by
  have e : Extern.MapsClone.clone #[.iface t (.map (some r))] = (getObj r >>= fun o => match o with
      | .map entries clock => (newObj (.map entries clock) >>= fun n => pure (.iface t (.map (some n))))
      | _ => stuck "maps.clone: a map expected") := rfl
  rw [e]
  simp [MapKept.run_getObj_map hb, Result.andThen, go_sem]
theorem run_typeAssert_map {P : Program} (w : World) (t xT k e : TypeId) (v : Value) (h : P.underlying t = some (.map k e)) : (Instr.typeAssert (.iface t v) xT t false).run P w = .ok v w := by
  simp [Instr.typeAssert, run_underlying h, go_sem, Result.andThen]
theorem DK.setc {w : World} {p : Nat} {S : DS} {L : DL} (h : DK w p S L) (b j : Nat) (v : Value) (hn : ¬ L.own p b) (hk : slBlk L.kA ≠ some b) : DK (w.setCell ⟨b, j, none⟩ v) p S L :=
  h.turn (fun i hi => heap_setCell_other w ⟨b, j, none⟩ i v (fun e => by
    have e' : i = b := e
    subst e'
    rcases hi with hi | hi
    · exact hn hi
    · exact hk hi)) (by simp [World.setCell])
end Go.Proofs.YtjmkodkechahdaaGreatDoor
/- Contracts of few and do: an act on a disk. -/
set_option linter.unusedSimpArgs false
set_option linter.unusedVariables false
namespace Go.Proofs.YtjmkodkechahdaaGreatDoor
open Go.RowKit
set_option maxRecDepth 100000

/-- An act, and where its list of numbers lies. -/
structure ActM where
  d : Int
  f : Int
  n : Int
  s : ByteArray
  keep : List Int
  kA : Option Addr
  kc : Nat
def actC (a : ActM) : List Value := [.int .i64 a.d, .int .i64 a.f, .int .i64 a.n, .string a.s, .slice a.kA a.keep.length a.kc]
def actV (a : ActM) : Value := .agg #[.int .i64 a.d, .int .i64 a.f, .int .i64 a.n, .string a.s, .slice a.kA a.keep.length a.kc]
/-- What a law's argument gives of an act. -/
structure ActOk (w : World) (a : ActM) : Prop where
  d : inI64 a.d
  f : inI64 a.f
  n : inI64 a.n
  s : a.s.size ≤ 9223372036854775807
  kl : a.keep.length ≤ 9223372036854775807
  k : ∀ x ∈ a.keep, inI64 x
  rd : RdL 1 intC w w.heap.size a.kA a.keep
/-- .. within the bounds of few. -/
structure ActFew (a : ActM) : Prop where
  s : a.s.size ≤ 300
  k : a.keep.length ≤ 60
  n : a.n ≤ 3000 ∨ 16776916 ≤ a.n
def fewB1 (a : ActM) : Bool := !(decide (300 < (a.s.size : Int)) || decide (60 < (a.keep.length : Int)) || decide (3000 < a.n) && decide (a.n < 16776916))
def fewB (l : List ActM) : Bool := l.all fewB1 && decide ((l.length : Int) ≤ 40)
theorem few_ok {l : List ActM} (h : fewB l = true) : l.length ≤ 40 ∧ ∀ a ∈ l, ActFew a := by
  unfold fewB at h
  rw [Bool.and_eq_true, List.all_eq_true] at h
  refine ⟨by have := h.2; simp at this; omega, fun a ha => ?_⟩
  have h1 := h.1 a ha
  simp [fewB1] at h1
  exact ⟨by omega, by omega, by omega⟩
def DS.doC (S : DS) (a : ActM) : Int :=
  if a.d % 8 = 2 then S.syncC a.f else if a.d % 8 = 3 then S.truncC a.f a.n else if a.d % 8 = 4 then 0 else if a.d % 8 = 5 then 0 else if a.d % 8 = 6 then 0 else if a.d % 8 = 7 then 0 else S.writeC a.f a.n a.s
def DS.doS (S : DS) (a : ActM) : DS :=
  if a.d % 8 = 2 then S.sync a.f else if a.d % 8 = 3 then S.trunc a.f a.n else if a.d % 8 = 4 then S.lose (a.n % 4) else if a.d % 8 = 5 then S.arm a.n a.keep else if a.d % 8 = 6 then S.crash a.keep else if a.d % 8 = 7 then S.start else S.write a.f a.n a.s
theorem doS_wf {S : DS} (h : S.wf) {w : World} {a : ActM} (ha : ActOk w a) : (S.doS a).wf := by
  unfold DS.doS
  have hn := ha.n
  split
  · exact DS.sync0_wf (DS.come_wf h) _
  · split
    · exact DS.trunc0_wf (DS.come_wf h) _ _
    · split
      · exact DS.lose_wf h _ (by unfold inI64; omega)
      · split
        · exact DS.arm_wf h _ _ hn ha.k
        · split
          · exact DS.crash_wf h _
          · split
            · exact DS.start_wf h
            · exact DS.write_wf h _ _ _
theorem come_keep (S : DS) : S.come.keep = S.keep := by
  unfold DS.come DS.crash
  split
  · split <;> simp [DS.tick_keep]
  · exact DS.tick_keep S
theorem crash_keep (S : DS) (k : List Int) : (S.crash k).keep = S.keep := by
  unfold DS.crash
  split <;> rfl
theorem doS_keep {S : DS} (hk : S.keep.length ≤ 60) {a : ActM} (ha : ActFew a) : (S.doS a).keep.length ≤ 60 := by
  have h1 := come_keep S
  unfold DS.doS
  split
  · unfold DS.sync DS.sync0
    split
    · rw [h1]; exact hk
    · split
      · show S.come.keep.length ≤ 60
        rw [h1]
        exact hk
      · show S.come.keep.length ≤ 60
        rw [h1]
        exact hk
  · split
    · unfold DS.trunc DS.trunc0
      split
      · show S.come.keep.length ≤ 60
        rw [h1]
        exact hk
      · rw [h1]; exact hk
    · split
      · exact hk
      · split
        · exact ha.k
        · split
          · rw [crash_keep]; exact hk
          · split
            · exact hk
            · unfold DS.write
              split
              · rw [crash_keep, DS.wr_keep, DS.tick_keep]; exact hk
              · rw [DS.wr_keep, DS.tick_keep]; exact hk

/-! few -/
theorem RdL.act {w : World} {B : Nat} {A : Option Addr} {xs : List ActM} (h : RdL 5 actC w B A xs) {k : Nat} (hk : k < xs.length) : ∃ b off, A = some ⟨b, off, none⟩ ∧ b < B ∧ w.cell? ⟨b, off + k * 5, none⟩ = some (.int .i64 xs[k].d) ∧ w.cell? ⟨b, off + k * 5 + 1, none⟩ = some (.int .i64 xs[k].f) ∧ w.cell? ⟨b, off + k * 5 + 2, none⟩ = some (.int .i64 xs[k].n) ∧
    w.cell? ⟨b, off + k * 5 + 3, none⟩ = some (.string xs[k].s) ∧ w.cell? ⟨b, off + k * 5 + 4, none⟩ = some (.slice xs[k].kA xs[k].keep.length xs[k].kc) := by
  obtain ⟨b, off, e, hb, hc⟩ := h.at_ hk
  exact ⟨b, off, e, hb, hc 0 _ rfl, hc 1 _ rfl, hc 2 _ rfl, hc 3 _ rfl, hc 4 _ rfl⟩
end Go.Proofs.YtjmkodkechahdaaGreatDoor
/- Contracts of played, after, byteAt and same. -/
set_option linter.unusedSimpArgs false
set_option linter.unusedVariables false
namespace Go.Proofs.YtjmkodkechahdaaGreatDoor
open Go.RowKit
set_option maxRecDepth 100000

def playS (S : DS) (l : List ActM) : DS := l.foldl DS.doS S
/-- A disk of the call's own: nothing of it lies below B, and its list of numbers lies in the arguments or is its own. -/
structure Own (B p : Nat) (L : DL) : Prop where
  own : ∀ i, L.own p i → B ≤ i
theorem Own.upd {B p : Nat} {S : DS} {L : DL} {w w' : World} (h : Own B p L) (hB : B ≤ w.heap.size) (u : Upd p S L w w') : ∃ L', DK w' p S L' ∧ Own B p L' ∧ Turn (L.own p) w w' ∧ Below B w w' := by
  obtain ⟨L', d, t, o, _⟩ := u
  exact ⟨L', d, ⟨fun i hi => by
    rcases o i hi with h1 | h1
    · exact h.own i h1
    · omega⟩, t, t.to_below hB h.own⟩
/-- What lies below B is apart from the disk. -/
theorem Own.apart {B p : Nat} {L : DL} (h : Own B p L) {w : World} {A : Option Addr} {xs : List Int} (hr : RdL 1 intC w B A xs) (hx : xs ≠ []) : ∀ i, slBlk A = some i → ¬ L.own p i := by
  intro i hi ho
  rcases xs with _ | ⟨x, r⟩
  · exact hx rfl
  · obtain ⟨b, off, e, hb, _⟩ := hr 0 x rfl
    rw [e] at hi
    injection hi with hi
    have := h.own i ho
    have h2 : b = i := hi
    omega
theorem play_take (S : DS) (l : List ActM) (k : Nat) (hk : k < l.length) : playS S (l.take (k + 1)) = (playS S (l.take k)).doS l[k] := by
  unfold playS
  rw [List.take_succ_eq_append_getElem hk, List.foldl_append]
  rfl
theorem play_keep : ∀ (l : List ActM) (S : DS), S.keep.length ≤ 60 → (∀ a ∈ l, ActFew a) → (playS S l).keep.length ≤ 60
  | [], _, h, _ => h
  | a :: r, S, h, hf => play_keep r (S.doS a) (doS_keep h (hf a (by simp))) (fun x hx => hf x (by simp [hx]))
theorem ActOk.now {w w' : World} {a : ActM} (h : ActOk w a) (hb : Below w.heap.size w w') : ActOk w' a := ⟨h.d, h.f, h.n, h.s, h.kl, h.k, h.rd.now hb⟩
def afterS (S : DS) (f : Int) (keep : List Int) : ByteArray := (S.crash keep).start.readS f 0 16777216
def afterC (S : DS) (f : Int) (keep : List Int) : Int := (S.crash keep).start.readC f 0 16777216
def byteB (s : ByteArray) (i : Int) : Int := if i < 0 ∨ s.size ≤ i then 0 else ((s.data.toList.getD i.toNat 0).toNat : Int)
theorem byte_get (s : ByteArray) (n : Nat) (h : n < s.size) : s.data.toList.getD n 0 = s[n] := by
  have h' : n < s.data.size := h
  rw [List.getD_eq_getElem?_getD, Array.getElem?_toList, Array.getElem?_eq_getElem h']
  rfl
end Go.Proofs.YtjmkodkechahdaaGreatDoor
/- Two disks at once; the contract of small: the examples of the document. -/
set_option linter.unusedSimpArgs false
set_option linter.unusedVariables false
namespace Go.Proofs.YtjmkodkechahdaaGreatDoor
open Go.RowKit
set_option maxRecDepth 100000

/-- Two disks that share nothing that either changes; nothing of them lies below B. -/
structure Two (B : Nat) (w : World) (p : Nat) (S : DS) (L : DL) (q : Nat) (T : DS) (M : DL) : Prop where
  l : DK w p S L
  r : DK w q T M
  lo : Own B p L
  ro : Own B q M
  ap : ∀ i, L.own p i → ¬ M.own q i
  kl : ∀ i, slBlk L.kA = some i → ¬ M.own q i
  kr : ∀ i, slBlk M.kA = some i → ¬ L.own p i
theorem Two.symm {B p q : Nat} {w : World} {S T : DS} {L M : DL} (t : Two B w p S L q T M) : Two B w q T M p S L := ⟨t.r, t.l, t.ro, t.lo, fun i h1 h2 => t.ap i h2 h1, t.kr, t.kl⟩
theorem Two.left {B p q : Nat} {w w' : World} {S S' T : DS} {L M : DL} (t : Two B w p S L q T M) (hB : B ≤ w.heap.size) (u : Upd p S' L w w') : ∃ L', Two B w' p S' L' q T M ∧ Below B w w' := by
  obtain ⟨L', d, tt, o, k⟩ := u
  refine ⟨L', ⟨d, t.r.frame tt (fun i hi hF => ?_), ⟨fun i hi => ?_⟩, t.ro, fun i h1 h2 => ?_, fun i h1 h2 => ?_, fun i h1 h2 => ?_⟩, tt.to_below hB t.lo.own⟩
  · rcases hi with hi | hi
    · exact t.ap i hF hi
    · exact t.kr i hi hF
  · rcases o i hi with h | h
    · exact t.lo.own i h
    · omega
  · rcases o i h1 with h | h
    · exact t.ap i h h2
    · have := t.r.lt i h2
      omega
  · rcases k i h1 with h | h
    · exact t.kl i h h2
    · have := t.r.lt i h2
      omega
  · rcases o i h2 with h | h
    · exact t.kr i h1 h
    · have := t.r.kl i h1
      omega
theorem Two.right {B p q : Nat} {w w' : World} {S T T' : DS} {L M : DL} (t : Two B w p S L q T M) (hB : B ≤ w.heap.size) (u : Upd q T' M w w') : ∃ M', Two B w' p S L q T' M' ∧ Below B w w' := by
  obtain ⟨M', t', b⟩ := t.symm.left hB u
  exact ⟨M', t'.symm, b⟩
theorem Two.below {B p q : Nat} {w w' : World} {S T : DS} {L M : DL} (t : Two B w p S L q T M) (hb : Below w.heap.size w w') : Two B w' p S L q T M := ⟨t.l.below hb, t.r.below hb, t.lo, t.ro, t.ap, t.kl, t.kr⟩
theorem Two.of_copy {B p q : Nat} {w w' : World} {S : DS} {L M : DL} (d : DK w p S L) (o : Own B p L) (hB : B ≤ w.heap.size) (hb : Below w.heap.size w w') (m : DK w' q S M) (mo : ∀ i, M.own q i → w.heap.size ≤ i) (mk : M.kA = L.kA) : Two B w' p S L q S M :=
  ⟨d.below hb, m, o, ⟨fun i hi => Nat.le_trans hB (mo i hi)⟩, fun i h1 h2 => by have := d.lt i h1; have := mo i h2; omega, fun i h1 h2 => by have := d.kl i h1; have := mo i h2; omega, fun i h1 h2 => d.kp i (by rw [← mk]; exact h1) h2⟩

def sAbc : ByteArray := ⟨#[97, 98, 99]⟩
def sXY : ByteArray := ⟨#[88, 89]⟩
def sAbcd : ByteArray := ⟨#[97, 98, 99, 100]⟩
def sA : ByteArray := ⟨#[97]⟩
def sm1 : DS := DS.new.write 0 0 sAbc
def sm2 : DS := sm1.sync 0
def sm3 : DS := sm2.write 0 1 sXY
def sm4 : DS := sm3.crash [1]
def sm5 : DS := sm4.start
def tm1 : DS := sm3.crash [0]
def tm2 : DS := tm1.start
def tm3 : DS := tm2.write 1 62 sAbcd
def tm4 : DS := tm3.crash [0, 1]
def tm5 : DS := tm4.start
def tm6 : DS := tm5.write 16 0 e0
theorem smA : DS.new.writeC 0 0 sAbc = 0 := by decide
theorem smB : sm1.syncC 0 = 0 := by decide
theorem smC : sm4.down = true := by decide
theorem smD : sm4.readC 0 0 9 = 8 := by decide
theorem smE : sm5.readC 0 0 9 = 0 := by decide
theorem smF : sm5.readS 0 0 9 = ⟨#[97, 88, 89]⟩ := by decide
theorem smG : tm2.readC 0 1 9 = 0 := by decide
theorem smH : tm2.readS 0 1 9 = ⟨#[98, 99]⟩ := by decide
theorem smI : tm2.writeC 1 62 sAbcd = 0 := by decide
theorem smJ : tm5.readC 1 60 100 = 0 := by decide
theorem smK : tm5.readS 1 60 100 = ⟨#[0, 0, 0, 0, 99, 100]⟩ := by decide
theorem smL : (tm5.files 1).1.size = 66 := by decide
theorem smM : tm5.writeC 16 0 e0 = 1 := by decide
theorem smN : tm6.writeC 1 16777216 sA = 6 := by decide

theorem keep_one {w : World} (xs : List Int) (cs : Array Value) (t : TypeId) (h : cs.toList = xs.flatMap intC) : RdL 1 intC (w.alloc (.cells cs t)) (w.alloc (.cells cs t)).heap.size (some ⟨w.heap.size, 0, none⟩) xs := by
  intro k x hx
  refine ⟨_, _, rfl, by simp, fun j v hj => ?_⟩
  have hg := flat_get intLayC xs k j x v hx hj
  rw [← h] at hg
  unfold World.cell?
  simp only [heap_alloc_new]
  simpa using hg
end Go.Proofs.YtjmkodkechahdaaGreatDoor
/- Plain laws of the disk's machine: reading, syncing. -/
set_option linter.unusedSimpArgs false
set_option linter.unusedVariables false
namespace Go.Proofs.YtjmkodkechahdaaGreatDoor
open Go.RowKit

theorem ext_list (x : ByteArray) (i j : Nat) : (x.extract i j).data.toList = (x.data.toList.drop i).take (j - i) := by
  rw [ByteArray.data_extract, Array.toList_extract]
theorem bext {x y : ByteArray} (h : x.data.toList = y.data.toList) : x = y := ByteArray.ext (Array.toList_inj.1 h)
theorem ext_ext (x : ByteArray) (i k : Nat) (h : i + k ≤ x.size) : (x.extract i x.size).extract 0 k = x.extract i (i + k) := by
  apply bext
  rw [ext_list, ext_list, ext_list]
  simp only [List.drop_zero, Nat.sub_zero, List.take_take]
  congr 1
  omega
theorem put_read (y s : ByteArray) (a : Nat) (h : s.size ≠ 0) : (putB y a s).extract a (a + s.size) = s := by
  apply bext
  rw [ext_list, putB, if_neg h]
  show ((putL y.data.toList a s.data.toList).drop a).take _ = _
  have hl : ((padL y.data.toList (a + s.data.toList.length)).take a).length = a := by
    rw [List.length_take, padL_len]
    omega
  rw [putL, List.drop_left' hl, List.take_left' (by rw [dlen]; omega)]
theorem readS_eq {S : DS} {f a n : Int} (h : S.readC f a n = 0) : S.readS f a n = readX (S.files f).1 a n := by
  unfold DS.readS
  rw [if_neg (by omega)]
  rfl
theorem readX_all (x : ByteArray) (n : Int) (h : (x.size : Int) ≤ n) : readX x 0 n = x := by
  rw [readX_end x 0 n (by omega) (by simp; omega)]
  simp only [Int.toNat_zero, Nat.sub_zero]
  rw [extract_all x _ (Nat.le_refl _), extract_all x _ (Nat.le_refl _)]
theorem readX_put (y s : ByteArray) (a : Int) (ha : 0 ≤ a) : readX (putB y a.toNat s) a s.size = s := by
  by_cases h : s.size = 0
  · obtain rfl := str_eq0 h
    have h1 : (readX (putB y a.toNat e0) a e0.size).size = 0 := by
      unfold readX
      rw [extract_size, h]
      omega
    exact str_eq0 h1
  · have hz := putB_size y a.toNat s h
    rw [readX_part _ _ _ (by omega) (by omega)]
    rw [show ((s.size : Int)).toNat = s.size from rfl, ext_ext _ _ _ (by omega), put_read y s a.toNat h]
/-- The part that is asked for. -/
theorem readX_slice (x : ByteArray) (a n : Int) (ha : 0 ≤ a) (hn : 0 ≤ n) : readX x a n = x.extract (min a x.size).toNat (min a x.size + min n (x.size - min a x.size)).toNat := by
  unfold readX
  rw [extract_size, Nat.min_self]
  rw [show (min n ((x.size - (min a x.size).toNat : Nat) : Int)).toNat = (min n (x.size - min a x.size)).toNat by omega]
  rw [ext_ext _ _ _ (by omega)]
  congr 1
  omega
theorem come_down {S : DS} (h : S.come.down = false) : S.endsB = false ∧ S.come = S.tick ∧ S.down = false := by
  unfold DS.come at h
  split at h
  · rename_i he
    unfold DS.crash at h
    split at h
    · rename_i h2
      rw [h2] at h
      cases h
    · cases h
  · rename_i he
    have he' : S.endsB = false := by simpa using he
    refine ⟨he', by unfold DS.come; rw [he']; rfl, ?_⟩
    unfold DS.tick at h
    split at h <;> exact h
theorem tick_same (S : DS) : S.tick.files = S.files ∧ S.tick.queue = S.queue ∧ S.tick.down = S.down ∧ S.tick.lost = S.lost := by
  unfold DS.tick
  split <;> exact ⟨rfl, rfl, rfl, rfl⟩
theorem may_zero {S : DS} {f : Int} (h : S.down = false) (h0 : 0 ≤ f) (h1 : f < 16) : S.may f = 0 := by
  unfold DS.may
  rw [if_neg (by simp [h]), if_neg (by omega)]
theorem syncC_ok {S : DS} {f : Int} (h : S.syncC f = 0) : S.down = false ∧ 0 ≤ f ∧ f < 16 ∧ S.come = S.tick ∧ S.sync f = S.tick.settle f (S.files f).1 := by
  unfold DS.syncC DS.syncC0 at h
  split at h
  · rename_i h1
    exact absurd h h1
  · rename_i h1
    split at h
    · cases h
    · rename_i h2
      have hm := may_ok (Classical.not_not.1 h1)
      obtain ⟨a1, a2, a3⟩ := come_down hm.1
      refine ⟨a3, hm.2.1, hm.2.2, a2, ?_⟩
      unfold DS.sync DS.sync0
      rw [if_neg h1, if_neg h2, a2, (tick_same S).1]
/-- File f is x, durably, and nothing of it is pending. -/
def Firm (f : Int) (x : ByteArray) (S : DS) : Prop := S.files f = (x, x) ∧ ∀ p ∈ S.queue, p.1 ≠ f
theorem surv_other (f : Int) (keep : List Int) : ∀ (q : List (Int × Int)) (i : Nat) (F : Int → FileT), (∀ p ∈ q, p.1 ≠ f) → survQ keep i q F f = F f
  | [], i, F, _ => rfl
  | p :: r, i, F, h => by
    rw [survQ, surv_other f keep r (i + 1) _ (fun x hx => h x (by simp [hx]))]
    split
    · unfold surv1
      split
      · rw [updF, if_neg (fun e => h p (by simp) e.symm)]
      · rfl
    · rfl
theorem Firm.crash {f : Int} {x : ByteArray} {S : DS} (h : Firm f x S) (keep : List Int) : Firm f x (S.crash keep) := by
  unfold DS.crash
  split
  · exact h
  · refine ⟨?_, by simp⟩
    show lastF (survQ keep 0 S.queue S.files) f = _
    unfold lastF
    rw [surv_other f keep S.queue 0 S.files h.2, h.1]
theorem Firm.tick {f : Int} {x : ByteArray} {S : DS} (h : Firm f x S) : Firm f x S.tick := by
  obtain ⟨a, b, _⟩ := tick_same S
  exact ⟨by rw [a]; exact h.1, by rw [b]; exact h.2⟩
theorem Firm.come {f : Int} {x : ByteArray} {S : DS} (h : Firm f x S) : Firm f x S.come := by
  unfold DS.come
  split
  · exact h.tick.crash _
  · exact h.tick
theorem Firm.settle {f g : Int} {x s : ByteArray} {S : DS} (h : Firm f x S) (hg : g ≠ f) : Firm f x (S.settle g s) :=
  ⟨by show updF _ _ _ f = _; rw [updF, if_neg (fun e => hg e.symm)]; exact h.1, fun p hp => h.2 p (List.mem_filter.1 hp).1⟩
theorem Firm.wr {f g a : Int} {x s : ByteArray} {S : DS} (h : Firm f x S) (hg : g ≠ f) : Firm f x (S.wr g a s) := by
  unfold DS.wr DS.wadd
  split
  · split
    · exact h
    · refine ⟨by show updF _ _ _ f = _; rw [updF, if_neg (fun e => hg e.symm)]; exact h.1, fun p hp => ?_⟩
      rcases (addQ_mem g _ _ _ p).1 hp with h1 | h1
      · exact h.2 p h1
      · rw [h1.1]
        exact hg
  · exact h
theorem Firm.act {f : Int} {x : ByteArray} {S : DS} (h : Firm f x S) (a : ActM) (ha : (a.d % 8 < 4 ∧ a.f ≠ f) ∨ a.d % 8 = 4) : Firm f x (S.doS a) := by
  unfold DS.doS
  by_cases m4 : a.d % 8 = 4
  · rw [if_neg (by omega), if_neg (by omega), if_pos m4]
    exact h
  · have hf : a.f ≠ f := by omega
    split
    · unfold DS.sync DS.sync0
      split
      · exact h.come
      · split
        · exact h.come
        · exact h.come.settle hf
    · split
      · unfold DS.trunc DS.trunc0
        split
        · exact h.come.settle hf
        · exact h.come
      · rw [if_neg (by omega), if_neg (by omega), if_neg (by omega)]
        unfold DS.write
        split
        · exact (h.tick.wr hf).crash _
        · exact h.tick.wr hf
end Go.Proofs.YtjmkodkechahdaaGreatDoor
/- Plain laws of the disk's machine: what a crash leaves of a file. -/
set_option linter.unusedSimpArgs false
set_option linter.unusedVariables false
namespace Go.Proofs.YtjmkodkechahdaaGreatDoor
open Go.RowKit

/-- Byte i of a string, 0 behind its end. -/
def gb (x : ByteArray) (i : Nat) : UInt8 := (x.data.toList[i]?).getD 0
theorem padL_getD (s : List UInt8) (n i : Nat) : ((padL s n)[i]?).getD 0 = (s[i]?).getD 0 := by
  unfold padL
  rw [List.getElem?_append]
  split
  · rfl
  · rename_i h
    rw [List.getElem?_eq_none (l := s) (by omega), List.getElem?_replicate]
    split <;> rfl
theorem gb_put (s t : ByteArray) (a i : Nat) (h : t.size ≠ 0) : gb (putB s a t) i = if a ≤ i ∧ i < a + t.size then gb t (i - a) else gb s i := by
  have hl : ((padL s.data.toList (a + t.data.toList.length)).take a).length = a := by
    rw [List.length_take, padL_len]
    omega
  have ht := dlen t
  unfold gb
  rw [putB, if_neg h]
  show ((putL s.data.toList a t.data.toList)[i]?).getD 0 = _
  rw [putL, List.getElem?_append, hl]
  by_cases h1 : i < a
  · rw [if_pos h1, if_neg (by omega), List.getElem?_take, if_pos h1]
    exact padL_getD _ _ _
  · rw [if_neg h1, List.getElem?_append, ht]
    by_cases h2 : i - a < t.size
    · rw [if_pos h2, if_pos (by omega)]
    · rw [if_neg h2, if_neg (by omega), List.getElem?_drop, show a + t.size + (i - a - t.size) = i by omega]
      exact padL_getD _ _ _
theorem gb_ext (x : ByteArray) (i j k : Nat) (h : k < j - i) : gb (x.extract i j) k = gb x (i + k) := by
  unfold gb
  rw [ext_list, List.getElem?_take, if_pos h, List.getElem?_drop]
theorem gb_eq {x y : ByteArray} (hs : x.size = y.size) (h : ∀ i, i < x.size → gb x i = gb y i) : x = y := by
  apply bext
  apply List.ext_getElem?
  intro i
  have h1 := dlen x
  have h2 := dlen y
  by_cases hi : i < x.size
  · have := h i hi
    unfold gb at this
    rw [List.getElem?_eq_getElem (by omega), List.getElem?_eq_getElem (by omega)] at this ⊢
    exact congrArg some this
  · rw [List.getElem?_eq_none (by omega), List.getElem?_eq_none (by omega)]
/-- What of a file is not pending is durable. -/
structure Inv (S : DS) : Prop where
  a : ∀ f, (S.files f).2.size ≤ (S.files f).1.size
  b : ∀ f (i : Nat), (f, ((i / 64 : Nat) : Int)) ∉ S.queue → gb (S.files f).1 i = gb (S.files f).2 i
  c : ∀ f, (S.files f).2.size < (S.files f).1.size → (f, ((((S.files f).1.size - 1) / 64 : Nat) : Int)) ∈ S.queue
theorem Inv.new : Inv DS.new := ⟨fun _ => Nat.le_refl _, fun _ _ _ => rfl, fun _ h => absurd h (Nat.lt_irrefl _)⟩
theorem Inv.same {S T : DS} (h : Inv S) (hf : T.files = S.files) (hq : T.queue = S.queue) : Inv T := ⟨by rw [hf]; exact h.a, by rw [hf, hq]; exact h.b, by rw [hf, hq]; exact h.c⟩
theorem Inv.crash {S : DS} (h : Inv S) (keep : List Int) : Inv (S.crash keep) := by
  unfold DS.crash
  split
  · exact h
  · exact ⟨fun _ => Nat.le_refl _, fun _ _ _ => rfl, fun _ h => absurd h (Nat.lt_irrefl _)⟩
theorem Inv.tick {S : DS} (h : Inv S) : Inv S.tick := h.same (tick_same S).1 (tick_same S).2.1
theorem Inv.come {S : DS} (h : Inv S) : Inv S.come := by
  unfold DS.come
  split
  · exact h.tick.crash _
  · exact h.tick
theorem Inv.settle {S : DS} (h : Inv S) (f : Int) (s : ByteArray) : Inv (S.settle f s) := by
  have hm : ∀ g (n : Int), g ≠ f → ((g, n) ∈ (S.settle f s).queue ↔ (g, n) ∈ S.queue) := by
    intro g n hg
    show (g, n) ∈ S.queue.filter _ ↔ _
    rw [List.mem_filter]
    simp [hg]
  have hfl : ∀ g, (S.settle f s).files g = if g = f then (s, s) else S.files g := fun g => rfl
  refine ⟨fun g => ?_, fun g i hi => ?_, fun g hg => ?_⟩
  · rw [hfl]
    split
    · exact Nat.le_refl _
    · exact h.a g
  · rw [hfl]
    split
    · rfl
    · rename_i hne
      exact h.b g i (fun hx => hi ((hm g _ hne).2 hx))
  · rw [hfl] at hg ⊢
    split at hg
    · exact absurd hg (Nat.lt_irrefl _)
    · rename_i hne
      rw [if_neg hne]
      exact (hm g _ hne).2 (h.c g hg)
theorem Inv.wadd {S : DS} (h : Inv S) (f a : Int) (s : ByteArray) (ha : 0 ≤ a) : Inv (S.wadd f a s) := by
  unfold DS.wadd
  split
  · exact h
  · rename_i hs
    have hz := putB_size (S.files f).1 a.toNat s hs
    have hfl : ∀ g, updF S.files f (putB (S.files f).1 a.toNat s, (S.files f).2) g = if g = f then (putB (S.files f).1 a.toNat s, (S.files f).2) else S.files g := fun g => rfl
    have hmem : ∀ (g : Int) (n : Int), (g, n) ∈ addQ S.queue f (a / 64) ((a + s.size - 1) / 64 - a / 64 + 1).toNat ↔ (g, n) ∈ S.queue ∨ (g = f ∧ a / 64 ≤ n ∧ n ≤ (a + s.size - 1) / 64) := by
      intro g n
      rw [addQ_mem]
      constructor
      · rintro (h1 | ⟨h1, h2, h3⟩)
        · exact .inl h1
        · simp only at h1 h2 h3
          exact .inr ⟨h1, h2, by omega⟩
      · rintro (h1 | ⟨h1, h2, h3⟩)
        · exact .inl h1
        · exact .inr ⟨h1, h2, by simp only; omega⟩
    have h1 := h.a f
    refine ⟨fun g => ?_, fun g i hi => ?_, fun g hg => ?_⟩
    · show (updF _ _ _ g).2.size ≤ (updF _ _ _ g).1.size
      rw [hfl]
      split
      · simp only
        omega
      · exact h.a g
    · show gb (updF _ _ _ g).1 i = gb (updF _ _ _ g).2 i
      have hi' : ¬ ((g, ((i / 64 : Nat) : Int)) ∈ S.queue ∨ (g = f ∧ a / 64 ≤ ((i / 64 : Nat) : Int) ∧ ((i / 64 : Nat) : Int) ≤ (a + s.size - 1) / 64)) := fun hx => hi ((hmem _ _).2 hx)
      have hb := h.b g i (fun hx => hi' (.inl hx))
      rw [hfl]
      split
      · rename_i hgf
        subst hgf
        simp only
        rw [gb_put _ _ _ _ hs, if_neg]
        · exact hb
        · intro hx
          exact hi' (.inr ⟨rfl, by omega, by omega⟩)
      · exact hb
    · have hg' : (updF S.files f (putB (S.files f).1 a.toNat s, (S.files f).2) g).2.size < (updF S.files f (putB (S.files f).1 a.toNat s, (S.files f).2) g).1.size := hg
      show (g, (((((updF S.files f (putB (S.files f).1 a.toNat s, (S.files f).2) g).1.size - 1) / 64 : Nat)) : Int)) ∈ addQ _ _ _ _
      rw [hmem]
      rw [hfl] at hg' ⊢
      split at hg'
      · rename_i hgf
        subst hgf
        rw [if_pos rfl]
        simp only at hg' ⊢
        rw [hz] at hg' ⊢
        by_cases hle : (S.files g).1.size ≤ a.toNat + s.size
        · rw [Nat.max_eq_right hle]
          exact .inr ⟨by first | trivial | rfl, by omega, by omega⟩
        · rw [Nat.max_eq_left (by omega)] at hg' ⊢
          exact .inl (h.c g hg')
      · rename_i hgf
        rw [if_neg hgf]
        exact .inl (h.c g hg')
theorem Inv.wr {S : DS} (h : Inv S) (f a : Int) (s : ByteArray) : Inv (S.wr f a s) := by
  unfold DS.wr
  split
  · rename_i h0
    exact h.wadd f a s (fits_ok (wcode_ok h0).2).1
  · exact h
theorem Inv.act {S : DS} (h : Inv S) (a : ActM) : Inv (S.doS a) := by
  unfold DS.doS
  split
  · unfold DS.sync DS.sync0
    split
    · exact h.come
    · split
      · exact h.come.same rfl rfl
      · exact h.come.settle _ _
  · split
    · unfold DS.trunc DS.trunc0
      split
      · exact h.come.settle _ _
      · exact h.come
    · split
      · exact h.same rfl rfl
      · split
        · exact h.same rfl rfl
        · split
          · exact h.crash _
          · split
            · exact h.same rfl rfl
            · unfold DS.write
              split
              · exact (h.tick.wr _ _ _).crash _
              · exact h.tick.wr _ _ _
theorem play_inv : ∀ (l : List ActM) (S : DS), Inv S → Inv (playS S l)
  | [], _, h => h
  | a :: r, _, h => play_inv r _ (h.act a)
/-- What has survived: sectors K of now, the rest of last. -/
structure Sv (now last y : ByteArray) (K : Int → Prop) : Prop where
  lo : last.size ≤ y.size
  hi : y.size ≤ now.size
  in_ : ∀ i : Nat, K ((i / 64 : Nat) : Int) → i < now.size → gb y i = gb now i
  out : ∀ i : Nat, ¬ K ((i / 64 : Nat) : Int) → gb y i = gb last i
  len : ∀ n : Int, K n → 0 ≤ n → 64 * n < now.size → min (64 * n + 64) now.size ≤ y.size
theorem Sv.step {now last y : ByteArray} {K : Int → Prop} (h : Sv now last y K) (n : Int) (hn : 0 ≤ n) (hlt : 64 * n < now.size) :
    Sv now last (putB y (64 * n).toNat (now.extract (64 * n).toNat (min (64 * n + 64) now.size).toNat)) (fun m => K m ∨ m = n) := by
  have hz : (now.extract (64 * n).toNat (min (64 * n + 64) now.size).toNat).size = (min (64 * n + 64) now.size).toNat - (64 * n).toNat := by rw [extract_size]; omega
  have hne : (now.extract (64 * n).toNat (min (64 * n + 64) now.size).toNat).size ≠ 0 := by omega
  have hs := putB_size y (64 * n).toNat _ hne
  have h1 := h.lo
  have h2 := h.hi
  refine ⟨by omega, by omega, fun i hK hi => ?_, fun i hK => ?_, fun m hm h0 h3 => ?_⟩
  · rw [gb_put _ _ _ _ hne]
    split
    · rw [gb_ext _ _ _ _ (by omega)]
      congr 1
      omega
    · rename_i hx
      rcases hK with hK | hK
      · exact h.in_ i hK hi
      · exact absurd ⟨by omega, by omega⟩ hx
  · rw [gb_put _ _ _ _ hne, if_neg]
    · exact h.out i (fun hx => hK (.inl hx))
    · intro hx
      exact hK (.inr (by omega))
  · rcases hm with hm | hm
    · have := h.len m hm h0 h3
      omega
    · subst hm
      omega
theorem Sv.more {now last y : ByteArray} {K : Int → Prop} (h : Sv now last y K) (n : Int) (hge : ¬ 64 * n < now.size) : Sv now last y (fun m => K m ∨ m = n) :=
  ⟨h.lo, h.hi, fun i hK hi => by
    rcases hK with hK | hK
    · exact h.in_ i hK hi
    · omega, fun i hK => h.out i (fun hx => hK (.inl hx)), fun m hm h0 h3 => by
    rcases hm with hm | hm
    · exact h.len m hm h0 h3
    · subst hm
      exact absurd h3 hge⟩
theorem surv_sv (keep : List Int) (f : Int) (now last : ByteArray) : ∀ (q : List (Int × Int)) (i : Nat) (F : Int → FileT) (K : Int → Prop), (∀ p ∈ q, 0 ≤ p.2) → (F f).1 = now → Sv now last (F f).2 K →
    ∃ K', Sv now last (survQ keep i q F f).2 K' ∧ (∀ n, K n → K' n) ∧ ((∀ j, keepBit keep j = true) → ∀ n, (f, n) ∈ q → K' n)
  | [], i, F, K, _, _, h => ⟨K, h, fun _ hn => hn, fun _ n hn => by simp at hn⟩
  | p :: r, i, F, K, hq, hF, h => by
    rw [survQ]
    by_cases hk : keepBit keep i = true
    · rw [if_pos hk]
      by_cases hpf : p.1 = f
      · have hp2 := hq p (by simp)
        by_cases hlt : 64 * p.2 < now.size
        · have hs1 : surv1 F p f = (now, putB (F f).2 (64 * p.2).toNat (now.extract (64 * p.2).toNat (min (64 * p.2 + 64) now.size).toNat)) := by
            unfold surv1
            rw [hpf, hF, if_pos hlt, updF, if_pos rfl]
          obtain ⟨K', a, b, c⟩ := surv_sv keep f now last r (i + 1) (surv1 F p) (fun m => K m ∨ m = p.2) (fun x hx => hq x (by simp [hx])) (by rw [hs1]) (by rw [hs1]; exact h.step p.2 hp2 hlt)
          refine ⟨K', a, fun n hn => b n (.inl hn), fun hall n hn => ?_⟩
          rcases List.mem_cons.1 hn with hx | hx
          · exact b n (.inr (by rw [← hx]))
          · exact c hall n hx
        · have hs1 : surv1 F p = F := by
            unfold surv1
            rw [hpf, hF, if_neg hlt]
          rw [hs1]
          obtain ⟨K', a, b, c⟩ := surv_sv keep f now last r (i + 1) F (fun m => K m ∨ m = p.2) (fun x hx => hq x (by simp [hx])) hF (h.more p.2 hlt)
          refine ⟨K', a, fun n hn => b n (.inl hn), fun hall n hn => ?_⟩
          rcases List.mem_cons.1 hn with hx | hx
          · exact b n (.inr (by rw [← hx]))
          · exact c hall n hx
      · have hs1 : surv1 F p f = F f := by
          unfold surv1
          split
          · rw [updF, if_neg (fun e => hpf e.symm)]
          · rfl
        obtain ⟨K', a, b, c⟩ := surv_sv keep f now last r (i + 1) (surv1 F p) K (fun x hx => hq x (by simp [hx])) (by rw [hs1]; exact hF) (by rw [hs1]; exact h)
        refine ⟨K', a, b, fun hall n hn => ?_⟩
        rcases List.mem_cons.1 hn with hx | hx
        · exact absurd (by rw [← hx]) hpf
        · exact c hall n hx
    · rw [if_neg hk]
      obtain ⟨K', a, b, c⟩ := surv_sv keep f now last r (i + 1) F K (fun x hx => hq x (by simp [hx])) hF h
      exact ⟨K', a, b, fun hall => absurd (hall i) hk⟩
theorem after_plain {S : DS} (hwf : S.wf) (hd : S.down = false) {f : Int} (h0 : 0 ≤ f) (h1 : f < 16) (keep : List Int) : afterC S f keep = 0 ∧ afterS S f keep = (survQ keep 0 S.queue S.files f).2 := by
  have hc : afterC S f keep = 0 := by
    unfold afterC DS.readC
    rw [may_zero rfl h0 h1, if_neg (by omega), if_neg (by omega)]
  refine ⟨hc, ?_⟩
  unfold afterS
  rw [readS_eq hc]
  have hfl : ((S.crash keep).start.files f).1 = (survQ keep 0 S.queue S.files f).2 := by
    unfold DS.crash
    rw [if_neg (by rw [hd]; simp)]
    rfl
  rw [hfl]
  refine readX_all _ _ ?_
  have := (survQ_wf keep S.queue 0 S.files (fun p hp => ⟨(hwf.q p hp).1, (hwf.q p hp).2.1, (hwf.q p hp).2.2.1⟩) hwf.out hwf.now hwf.last).2.2 f
  omega
/-- Each sector is wholly new or wholly old. -/
def Either (now last r : ByteArray) : Prop := ∀ n : Nat, (∀ i, i / 64 = n → i < now.size → gb r i = gb now i) ∨ (∀ i, i / 64 = n → gb r i = gb last i)
theorem survives_plain {S : DS} (hwf : S.wf) (hi : Inv S) (f : Int) (keep : List Int) :
    (S.files f).2.size ≤ (survQ keep 0 S.queue S.files f).2.size ∧ (survQ keep 0 S.queue S.files f).2.size ≤ (S.files f).1.size ∧ Either (S.files f).1 (S.files f).2 (survQ keep 0 S.queue S.files f).2 ∧
      ((∀ j, keepBit keep j = true) → (survQ keep 0 S.queue S.files f).2 = (S.files f).1) := by
  obtain ⟨K, h, _, hc⟩ := surv_sv keep f (S.files f).1 (S.files f).2 S.queue 0 S.files (fun _ => False) (fun p hp => (hwf.q p hp).2.2.1) rfl ⟨Nat.le_refl _, hi.a f, fun _ hf => hf.elim, fun _ _ => rfl, fun _ hf => hf.elim⟩
  refine ⟨h.lo, h.hi, fun n => ?_, fun hall => ?_⟩
  · by_cases hK : K (n : Int)
    · exact .inl (fun i hin hlt => h.in_ i (by rw [hin]; exact hK) hlt)
    · exact .inr (fun i hin => h.out i (by rw [hin]; exact hK))
  · have hsz : (survQ keep 0 S.queue S.files f).2.size = (S.files f).1.size := by
      have h1 := h.lo
      have h2 := h.hi
      have h3 := hi.a f
      by_cases hlt : (S.files f).2.size < (S.files f).1.size
      · have := h.len _ (hc hall _ (hi.c f hlt)) (by omega) (by omega)
        omega
      · omega
    refine gb_eq hsz (fun i hin => ?_)
    by_cases hq : (f, ((i / 64 : Nat) : Int)) ∈ S.queue
    · exact h.in_ i (hc hall _ hq) (by omega)
    · by_cases hK : K ((i / 64 : Nat) : Int)
      · exact h.in_ i hK (by omega)
      · rw [h.out i hK, hi.b f i hq]
theorem keep_all (j : Nat) : keepBit [1] j = true := by
  unfold keepBit
  simp [Nat.mod_one]
end Go.Proofs.YtjmkodkechahdaaGreatDoor
