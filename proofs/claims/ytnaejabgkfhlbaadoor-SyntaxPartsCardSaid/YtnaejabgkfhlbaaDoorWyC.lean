/- Profiles, and what makes them right (layers 12 and 13), by the reference. -/
import Derived.Test.YtnaejabgkfhlbaaDoorWyB
import Derived.Deep.DeepCutAuto
set_option linter.unusedSimpArgs false
set_option linter.unusedVariables false
namespace Go.Proofs.YtnaejabgkfhlbaaDoor
open Go.RowKit

structure Prof where
  name : ByteArray
  edit : Int
  within_ : Int
  delete : Int
  react : Bool
  thread : Int
  quote : Bool
  mention : Bool
  size : Int
  parts : Int
  files : Int
  bytes : Int
  types : List ByteArray
  join : Int
  history : Int
  remove : Int
  level : Int
  batch : Bool
  rate : Int
  down : Int
  window : Int
  keep : Int

abbrev Prof.cs (p : Prof) (A : Option Addr) (c : Nat) : Array Value := #[.string p.name, .int .i64 p.edit, .int .i64 p.within_, .int .i64 p.delete, .bool p.react, .int .i64 p.thread, .bool p.quote, .bool p.mention, .int .i64 p.size, .int .i64 p.parts, .int .i64 p.files, .int .i64 p.bytes,
  .slice A p.types.length c, .int .i64 p.join, .int .i64 p.history, .int .i64 p.remove, .int .i64 p.level, .bool p.batch, .int .i64 p.rate, .int .i64 p.down, .int .i64 p.window, .int .i64 p.keep]
abbrev Prof.v (p : Prof) (A : Option Addr) (c : Nat) : Value := .agg (p.cs A c)
def strCells (s : ByteArray) : List Value := [.string s]
abbrev RdS := RdL 1 strCells

theorem RdS_at {w : World} {B : Nat} {A : Option Addr} {xs : List ByteArray} {k : Nat} (h : RdS w B A xs) (hk : k < xs.length) : ∃ b off s, A = some ⟨b, off, none⟩ ∧ b < B ∧ xs[k]? = some s ∧ w.cell? ⟨b, off + k, none⟩ = some (.string s) := by
  obtain ⟨b, off, e, hb, hc⟩ := h.at_ hk
  have h0 := hc 0 _ rfl
  simp only [Nat.mul_one, Nat.add_zero] at h0
  exact ⟨b, off, _, e, hb, List.getElem?_eq_getElem hk, h0⟩
/-- A box made by a call, behind whatever the call does. -/
theorem boxAll (w : World) (cs : Array Value) (t : TypeId) {w' : World} (hb : Below (w.heap.size + 1) (w.alloc (.cells cs t)) w') (j : Nat) : w'.cell? ⟨w.heap.size, j, none⟩ = cs[j]? := by
  refine (hb.cell (p := ⟨w.heap.size, j, none⟩) (Nat.lt_succ_self _)).trans ?_
  unfold World.cell?
  rw [heap_alloc_new]
  rfl

def inR (n a b : Int) : Bool := decide (a ≤ n) && decide (n ≤ b)
set_option maxHeartbeats 400000 in
theorem rWithin_any (n a b : Int) (w : World) : Calls Tryd.prog 61 #[.int .i64 n, .int .i64 a, .int .i64 b] w fun e w' => e = .returned (.bool (inR n a b)) ∧ w = w' := by
  unfold inR
  go_enter Tryd.func61, Tryd.ntmps61
  go_wp2
  all_goals go_ret
  all_goals exact ⟨by first | (simp_all; done) | (simp; omega) | (simp_all; omega), rfl⟩
set_option maxHeartbeats 400000 in
theorem pWithin_any (n a b : Int) (w : World) : Calls Tryd.prog 86 #[.int .i64 n, .int .i64 a, .int .i64 b] w fun e w' => e = .returned (.bool (inR n a b)) ∧ w = w' := by
  unfold inR
  go_enter Tryd.func86, Tryd.ntmps86
  go_wp2
  all_goals go_ret
  all_goals exact ⟨by first | (simp_all; done) | (simp; omega) | (simp_all; omega), rfl⟩

def kindsB (p : Prof) : Bool := (p.edit == 0 || p.edit == 2) && (inR p.delete 0 2 && (inR p.thread 0 2 && (inR p.join 0 2 && (inR p.history 0 1 && (inR p.remove 0 1 && inR p.level 0 4)))))
def stepB (n : Int) : Bool := inR n 0 1073741824
def numbersB (p : Prof) : Bool := stepB p.within_ && (stepB p.size && (stepB p.parts && (stepB p.files && (stepB p.bytes && (stepB p.rate && (stepB p.down && (stepB p.window && stepB p.keep)))))))
theorem len0 {T : Type} (xs : List T) : ((xs.length : Int) == 0) = decide (xs = []) := by cases xs <;> simp; omega
theorem all_miss {T : Type} (f : T → Bool) (xs : List T) (k : Nat) {s : T} (h : xs[k]? = some s) (hf : f s = false) : xs.all f = false := by
  rw [List.all_eq_false]
  exact ⟨s, List.mem_of_getElem? h, by simp [hf]⟩
theorem all_hit {T : Type} (f : T → Bool) (xs : List T) (k : Nat) {s : T} (h : xs[k]? = some s) (hf : f s = true) (hn : (xs.take k).all f = true) : (xs.take (k + 1)).all f = true := by
  obtain ⟨hk, rfl⟩ := List.getElem?_eq_some_iff.1 h
  rw [List.take_succ_eq_append_getElem hk, List.all_append, hn]
  simp [hf]
def typesB (p : Prof) : Bool := if p.files = 0 then p.bytes == 0 && decide (p.types.length = 0) else decide (1 ≤ p.types.length) && (decide (p.types.length ≤ 20) && p.types.all wordB)
def headB (p : Prof) : Bool := kindsB p && (numbersB p && (wordB p.name && !(p.edit == 0 && p.within_ != 0)))
def profRight (p : Prof) : Bool := headB p && typesB p

/-- What is read of a profile: its types, and how long its strings may be. -/
structure ProfOk (w : World) (B : Nat) (A : Option Addr) (p : Prof) : Prop where
  rd : RdS w B A p.types
  nm : p.name.size ≤ 9223372036854775807
  len : p.types.length ≤ 9223372036854775807
  ts : ∀ s ∈ p.types, s.size ≤ 9223372036854775807
theorem ProfOk.now {w w' : World} {A : Option Addr} {p : Prof} (h : ProfOk w w.heap.size A p) (hb : Below w.heap.size w w') : ProfOk w' w'.heap.size A p := ⟨h.rd.now hb, h.nm, h.len, h.ts⟩

set_option maxRecDepth 100000 in
set_option maxHeartbeats 2000000 in
theorem rRight_any (p : Prof) (A : Option Addr) (c : Nat) (w : World) (hr : ProfOk w w.heap.size A p) : Calls Tryd.prog 17 #[p.v A c] w fun e w' => e = .returned (.bool (profRight p)) ∧ Below w.heap.size w w' := by
  obtain ⟨hrd, hnm, hlen, hts⟩ := hr
  have HTS := Lib.hid hts
  clear hts
  have hb0 : Below w.heap.size w (w.alloc (.cells (p.cs A c) 24)) := (Below.refl _ _).alloc (Nat.le_refl _) _
  have HB := Lib.hid hb0
  have hrd0 := hrd.now hb0
  clear hb0
  go_enter Tryd.func17, Tryd.ntmps17
  go_upto_region 1 with fail
  go_cut [3] (fun v wx => v = .bool (kindsB p) ∧ wx = w.alloc (.cells (p.cs A c) 24))
  case first =>
    go_wp2_with (go_at_call 61; refine (rWithin_any _ _ _ _).mono ?_; rintro e w' ⟨rfl, rfl⟩)
    all_goals go_meet
    all_goals exact ⟨by unfold kindsB; simp_all, rfl⟩
  case rest =>
    obtain ⟨rfl, rfl⟩ := hcut
    generalize hkb : kindsB p = kb
    go_upto_region 2 with fail
    go_cut [4] (fun v wx => v = .bool (numbersB p) ∧ wx = w.alloc (.cells (p.cs A c) 24))
    case first =>
      go_wp2_with (go_at_call 61; refine (rWithin_any _ _ _ _).mono ?_; rintro e w' ⟨rfl, rfl⟩)
      all_goals go_meet
      all_goals exact ⟨by unfold numbersB stepB; simp_all, rfl⟩
    case rest =>
      obtain ⟨rfl, rfl⟩ := hcut
      generalize hnb : numbersB p = nb
      have HK := Lib.hid hkb
      have HN := Lib.hid hnb
      clear hkb hnb
      cases kb
      · go_wp2
        go_ret
        exact ⟨by simp [profRight, headB, HK.out], HB.out⟩
      cases nb
      · go_wp2
        go_ret
        exact ⟨by simp [profRight, headB, HN.out], HB.out⟩
      generalize hwb : wordB p.name = wb
      have HWB := Lib.hid hwb
      cases wb
      · go_wp2_with (go_at_call 62; refine (rWord_any _ _ hnm).mono ?_; rintro e w' ⟨rfl, rfl⟩)
        go_ret
        exact ⟨by simp [profRight, headB, HWB.out], HB.out⟩
      by_cases he : p.edit = 0 ∧ ¬ p.within_ = 0
      · obtain ⟨he, hwi⟩ := he
        go_wp2_with (go_at_call 62; refine (rWord_any _ _ hnm).mono ?_; rintro e w' ⟨rfl, rfl⟩)
        go_ret
        exact ⟨by simp [profRight, headB, he, hwi], HB.out⟩
      have hhead : headB p = true := by simp only [headB, HK.out, HN.out, HWB.out, Bool.true_and]; by_cases h1 : p.edit = 0 <;> by_cases h2 : p.within_ = 0 <;> simp_all
      have HH := Lib.hid hhead
      clear hhead
      have hor : ¬ p.edit = 0 ∨ p.within_ = 0 := by by_cases h1 : p.edit = 0 <;> simp_all
      by_cases hf : p.files = 0
      · rcases hor with h1 | h1
        all_goals by_cases hby : p.bytes = 0
        all_goals go_wp2_with (go_at_call 62; refine (rWord_any _ _ hnm).mono ?_; rintro e w' ⟨rfl, rfl⟩)
        all_goals go_ret
        all_goals exact ⟨by simp [profRight, HH.out, typesB, hf, hby, len0], HB.out⟩
      · by_cases hl1 : p.types.length < 1
        · rcases hor with h1 | h1
          all_goals go_wp2_with (go_at_call 62; refine (rWord_any _ _ hnm).mono ?_; rintro e w' ⟨rfl, rfl⟩)
          all_goals go_ret
          all_goals exact ⟨by simp [profRight, typesB, hf]; omega, HB.out⟩
        by_cases hl2 : 20 < p.types.length
        · rcases hor with h1 | h1
          all_goals go_wp2_with (go_at_call 62; refine (rWord_any _ _ hnm).mono ?_; rintro e w' ⟨rfl, rfl⟩)
          all_goals go_ret
          all_goals exact ⟨by simp [profRight, typesB, hf]; omega, HB.out⟩
        have hty : typesB p = p.types.all wordB := by
          have h1 : (decide (1 ≤ p.types.length)) = true := by simp; omega
          have h2 : (decide (p.types.length ≤ 20)) = true := by simp; omega
          rw [typesB, if_neg hf, h1, h2]; rfl
        have HTY := Lib.hid hty
        clear hty
        rcases Classical.em (p.edit = 0) with h1 | h1
        · have h2 := hor.resolve_left (fun h => h h1)
          go_wp2_with (go_at_call 62; refine (rWord_any _ _ hnm).mono ?_; rintro e w' ⟨rfl, rfl⟩)
          go_loopw [5] (fun i wr => ∃ k : Nat, k ≤ p.types.length ∧ i = .int .i64 k ∧ (p.types.take k).all wordB = true ∧ wr = w.alloc (.cells (p.cs A c) 24)) (fun i _ => p.types.length - (intOf i).toNat)
          case atStart => exact ⟨0, Nat.zero_le _, rfl, rfl, rfl⟩
          case round =>
            obtain ⟨k, hk, rfl, hal, rfl⟩ := hrel
            have HA := Lib.hid hal
            clear hal
            by_cases hlt : k < p.types.length
            · obtain ⟨b, off, s, rfl, hbb, hs, hc⟩ := RdS_at hrd0 hlt
              have HS := Lib.hid hs
              have hz := HTS.out s (List.mem_of_getElem? hs)
              clear hs
              cases hws : wordB s
              · go_wp2_with (go_at_call 62; refine (rWord_any _ _ hz).mono ?_; rintro e w' ⟨rfl, rfl⟩)
                go_ret
                exact ⟨by simp [profRight, HTY.out, all_miss wordB _ k HS.out hws], HB.out⟩
              · go_wp2_with (go_at_call 62; refine (rWord_any _ _ hz).mono ?_; rintro e w' ⟨rfl, rfl⟩)
                go_roundw
                case rel => exact ⟨k + 1, by omega, by go_num, all_hit wordB _ k HS.out hws HA.out, trivial⟩
                case measure => simp [intOf]; omega
            · go_wp2
              go_ret
              have h2 := HA.out
              rw [List.take_of_length_le (by omega)] at h2
              exact ⟨by simp [profRight, HH.out, HTY.out, h2], HB.out⟩
        · go_wp2_with (go_at_call 62; refine (rWord_any _ _ hnm).mono ?_; rintro e w' ⟨rfl, rfl⟩)
          go_loopw [5] (fun i wr => ∃ k : Nat, k ≤ p.types.length ∧ i = .int .i64 k ∧ (p.types.take k).all wordB = true ∧ wr = w.alloc (.cells (p.cs A c) 24)) (fun i _ => p.types.length - (intOf i).toNat)
          case atStart => exact ⟨0, Nat.zero_le _, rfl, rfl, rfl⟩
          case round =>
            obtain ⟨k, hk, rfl, hal, rfl⟩ := hrel
            have HA := Lib.hid hal
            clear hal
            by_cases hlt : k < p.types.length
            · obtain ⟨b, off, s, rfl, hbb, hs, hc⟩ := RdS_at hrd0 hlt
              have HS := Lib.hid hs
              have hz := HTS.out s (List.mem_of_getElem? hs)
              clear hs
              cases hws : wordB s
              · go_wp2_with (go_at_call 62; refine (rWord_any _ _ hz).mono ?_; rintro e w' ⟨rfl, rfl⟩)
                go_ret
                exact ⟨by simp [profRight, HTY.out, all_miss wordB _ k HS.out hws], HB.out⟩
              · go_wp2_with (go_at_call 62; refine (rWord_any _ _ hz).mono ?_; rintro e w' ⟨rfl, rfl⟩)
                go_roundw
                case rel => exact ⟨k + 1, by omega, by go_num, all_hit wordB _ k HS.out hws HA.out, trivial⟩
                case measure => simp [intOf]; omega
            · go_wp2
              go_ret
              have h2 := HA.out
              rw [List.take_of_length_le (by omega)] at h2
              exact ⟨by simp [profRight, HH.out, HTY.out, h2], HB.out⟩
end Go.Proofs.YtnaejabgkfhlbaaDoor
