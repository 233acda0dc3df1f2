/- Contract of syntax.Right. -/
import Derived.Test.YtnaejabgkfhlbaaDoorWyD
set_option linter.unusedSimpArgs false
set_option linter.unusedVariables false
namespace Go.Proofs.YtnaejabgkfhlbaaDoor
open Go.RowKit

def numL (p : Prof) : List Int := [p.within_, p.size, p.parts, p.files, p.bytes, p.rate, p.down, p.window, p.keep]
abbrev numC (p : Prof) : Array Value := #[.int .i64 p.within_, .int .i64 p.size, .int .i64 p.parts, .int .i64 p.files, .int .i64 p.bytes, .int .i64 p.rate, .int .i64 p.down, .int .i64 p.window, .int .i64 p.keep]
theorem numC_eq (p : Prof) : numC p = ((numL p).map (fun n => Value.int .i64 n)).toArray := rfl
theorem numbers_eq (p : Prof) : numbersB p = (numL p).all stepB := by simp [numbersB, numL]
theorem numbers_miss (p : Prof) (k : Nat) {n : Int} (h : (numL p)[k]? = some n) (hf : stepB n = false) : numbersB p = false := by rw [numbers_eq]; exact all_miss stepB _ k h hf
/-- The six kinds, and the numbers that they lie below. -/
def kindL (p : Prof) : List (Int × Int) := [(p.delete, 3), (p.thread, 3), (p.join, 3), (p.history, 2), (p.remove, 2), (p.level, 5)]
def kindF (e : Int × Int) : Bool := decide (0 ≤ e.1) && decide (e.1 < e.2)
def kindRow (e : Int × Int) : List Value := [.int .i64 e.1, .int .i64 e.2]
theorem inR_kind (n a : Int) : inR n 0 a = kindF (n, a + 1) := by
  unfold inR kindF
  rw [Bool.eq_iff_iff]
  simp
  omega
abbrev kindC (p : Prof) : Array Value := #[.int .i64 p.delete, .int .i64 3, .int .i64 p.thread, .int .i64 3, .int .i64 p.join, .int .i64 3, .int .i64 p.history, .int .i64 2, .int .i64 p.remove, .int .i64 2, .int .i64 p.level, .int .i64 5]
theorem kindC_at (p : Prof) (k : Nat) {a n : Int} (h : (kindL p)[k]? = some (a, n)) : (kindC p)[k * 2]? = some (.int .i64 a) ∧ (kindC p)[k * 2 + 1]? = some (.int .i64 n) := by
  obtain ⟨hk, h⟩ := List.getElem?_eq_some_iff.1 h
  have hk6 : k < 6 := hk
  rcases k with _ | _ | _ | _ | _ | _ | k
  · cases h; exact ⟨rfl, rfl⟩
  · cases h; exact ⟨rfl, rfl⟩
  · cases h; exact ⟨rfl, rfl⟩
  · cases h; exact ⟨rfl, rfl⟩
  · cases h; exact ⟨rfl, rfl⟩
  · cases h; exact ⟨rfl, rfl⟩
  · omega
theorem kinds_eq (p : Prof) : kindsB p = ((p.edit == 0 || p.edit == 2) && (kindL p).all kindF) := by simp [kindsB, kindL, inR_kind]
theorem kinds_miss (p : Prof) (k : Nat) {e : Int × Int} (h : (kindL p)[k]? = some e) (hf : kindF e = false) : kindsB p = false := by rw [kinds_eq, all_miss kindF _ k h hf, Bool.and_false]
def notWord (s : ByteArray) : Bool := !wordB s
theorem within_le (p : Prof) (h : numbersB p = true) : 0 ≤ p.within_ := by simp [numbersB, stepB, inR] at h; omega
theorem head_of (p : Prof) (hk : (kindL p).all kindF = true) (hn : numbersB p = true) (hw : wordB p.name = true) (h : (p.edit = 0 ∧ p.within_ = 0) ∨ p.edit = 2) : headB p = true := by
  simp only [headB, kinds_eq, hk, hn, hw]
  rcases h with ⟨h1, h2⟩ | h1 <;> simp [*]
theorem types_of (p : Prof) (hf : ¬ p.files = 0) (h1 : ¬ p.types.length < 1) (h2 : ¬ 20 < p.types.length) : typesB p = !p.types.any notWord := by
  have h3 : (decide (1 ≤ p.types.length)) = true := by simp; omega
  have h4 : (decide (p.types.length ≤ 20)) = true := by simp; omega
  rw [typesB, if_neg hf, h3, h4, Bool.true_and, Bool.true_and, List.not_any_eq_all_not]
  simp [notWord]
theorem enters_pRight1 : ∀ (args : Array Value) (w : World), (callFunc 60 args).run Tryd.prog w = .ok (.enter 60 args) w := fun _ _ => by kernel_rfl

set_option maxRecDepth 100000 in
set_option maxHeartbeats 2000000 in
theorem pRight_any (p : Prof) (A : Option Addr) (c : Nat) (w : World) (hr : ProfOk w w.heap.size A p) : Calls Tryd.prog 16 #[p.v A c] w fun e w' => e = .returned (.bool (profRight p)) ∧ Below w.heap.size w w' := by
  obtain ⟨hrd, hnm, hlen, hts⟩ := hr
  have HTS := Lib.hid hts
  clear hts
  have hb0 : Below w.heap.size w (w.alloc (.cells (p.cs A c) 24)) := (Below.refl _ _).alloc (Nat.le_refl _) _
  have HB := Lib.hid hb0
  have hrd0 := hrd.now hb0
  clear hb0
  go_enter Tryd.func16, Tryd.ntmps16
  go_wp2_with fail
  go_loopw [27] (fun i wr => ∃ k : Nat, k ≤ 9 ∧ i = .int .i64 k ∧ ((numL p).take k).all stepB = true ∧ wr = (w.alloc (.cells (p.cs A c) 24)).alloc (.cells (numC p) 3)) (fun i _ => 9 - (intOf i).toNat)
  case atStart => exact ⟨0, Nat.zero_le _, rfl, rfl, rfl⟩
  case round =>
    obtain ⟨k, hk, rfl, hal, rfl⟩ := hrel
    have HA := Lib.hid hal
    clear hal
    by_cases hlt : k < 9
    · have hlt2 : k < (numL p).length := hlt
      obtain ⟨n, hn⟩ : ∃ n, (numL p)[k]? = some n := ⟨_, List.getElem?_eq_getElem hlt2⟩
      have HN := Lib.hid hn
      have hc : ((w.alloc (.cells (p.cs A c) 24)).alloc (.cells (numC p) 3)).cell? ⟨w.heap.size + 1, k, none⟩ = some (.int .i64 n) := by
        have h := boxAll (w.alloc (.cells (p.cs A c) 24)) (numC p) 3 (Below.refl _ _) k
        rw [show (w.alloc (.cells (p.cs A c) 24)).heap.size = w.heap.size + 1 from by simp] at h
        rw [h, numC_eq, List.getElem?_toArray, List.getElem?_map, HN.out]
        rfl
      clear hn hlt2
      by_cases h1 : n < 0
      · go_wp2
        go_ret
        exact ⟨by simp [profRight, headB, numbers_miss p k HN.out (by simp [stepB, inR]; omega)], HB.out.alloc (by simp) _⟩
      by_cases h2 : 1073741824 < n
      · go_wp2
        go_ret
        exact ⟨by simp [profRight, headB, numbers_miss p k HN.out (by simp [stepB, inR]; omega)], HB.out.alloc (by simp) _⟩
      have hst : stepB n = true := by simp [stepB, inR]; omega
      go_wp2
      go_roundw
      case rel => exact ⟨k + 1, by omega, by go_num, all_hit stepB _ k HN.out hst HA.out, trivial⟩
      case measure => simp [intOf]; omega
    · have hn : numbersB p = true := by rw [numbers_eq]; have h := HA.out; rwa [List.take_of_length_le (by simp [numL]; omega)] at h
      have HN := Lib.hid hn
      clear hn
      go_wp2_with fail
      have hb2 := ((HB.out.alloc (by simp) (.cells (numC p) 3)).alloc (by simp; omega) (.cells (kindC p) 78))
      have hs2 : (((w.alloc (.cells (p.cs A c) 24)).alloc (.cells (numC p) 3)).alloc (.cells (kindC p) 78)).heap.size = w.heap.size + 3 := by simp
      have hp2 : ∀ j, (((w.alloc (.cells (p.cs A c) 24)).alloc (.cells (numC p) 3)).alloc (.cells (kindC p) 78)).cell? ⟨w.heap.size, j, none⟩ = (p.cs A c)[j]? :=
        boxAll w _ _ (((Below.refl _ _).alloc (by simp) _).alloc (by simp) _)
      have hk2 : ∀ j, (((w.alloc (.cells (p.cs A c) 24)).alloc (.cells (numC p) 3)).alloc (.cells (kindC p) 78)).cell? ⟨w.heap.size + 2, j, none⟩ = (kindC p)[j]? := fun j => by
        have h := boxAll ((w.alloc (.cells (p.cs A c) 24)).alloc (.cells (numC p) 3)) (kindC p) 78 (Below.refl _ _) j
        rw [show ((w.alloc (.cells (p.cs A c) 24)).alloc (.cells (numC p) 3)).heap.size = w.heap.size + 2 from by simp] at h
        exact h
      have hrd2 := hrd.now hb2
      generalize (((w.alloc (.cells (p.cs A c) 24)).alloc (.cells (numC p) 3)).alloc (.cells (kindC p) 78)) = w2 at hb2 hs2 hp2 hk2 hrd2 ⊢
      have HB2 := Lib.hid hb2
      have HK2 := Lib.hid hk2
      have HP2 := Lib.hid hp2
      clear hb2 hk2 hp2
      go_loopw [58] (fun i wr => ∃ k : Nat, k ≤ 6 ∧ i = .int .i64 k ∧ ((kindL p).take k).all kindF = true ∧ Below w2.heap.size w2 wr) (fun i _ => 6 - (intOf i).toNat)
      case atStart => exact ⟨0, Nat.zero_le _, rfl, rfl, Below.refl _ _⟩
      case round =>
        obtain ⟨k, hk, rfl, hal, hb⟩ := hrel
        have HA := Lib.hid hal
        clear hal
        by_cases hlt : k < 6
        · obtain ⟨⟨a, n⟩, hn⟩ : ∃ e, (kindL p)[k]? = some e := ⟨_, List.getElem?_eq_getElem hlt⟩
          have HN := Lib.hid hn
          have hv := kindC_at p k hn
          have hc0 : wr.cell? ⟨w.heap.size + 2, k * 2, none⟩ = some (.int .i64 a) := (hb.cell (p := ⟨w.heap.size + 2, k * 2, none⟩) (by simp only; omega)).trans ((HK2.out _).trans hv.1)
          have hc1 : wr.cell? ⟨w.heap.size + 2, k * 2 + 1, none⟩ = some (.int .i64 n) := (hb.cell (p := ⟨w.heap.size + 2, k * 2 + 1, none⟩) (by simp only; omega)).trans ((HK2.out _).trans hv.2)
          clear hn hv
          by_cases h1 : a < 0
          · go_wp2
            go_ret
            exact ⟨by simp [profRight, headB, kinds_miss p k HN.out (by simp [kindF]; omega)], HB2.out.trans ((hb.alloc hb.size _).mono HB2.out.size)⟩
          by_cases h2 : n ≤ a
          · go_wp2
            go_ret
            exact ⟨by simp [profRight, headB, kinds_miss p k HN.out (by simp [kindF]; omega)], HB2.out.trans ((hb.alloc hb.size _).mono HB2.out.size)⟩
          have hst : kindF (a, n) = true := by simp [kindF]; omega
          go_wp2
          go_roundw
          case rel => exact ⟨k + 1, by omega, by go_num, all_hit kindF _ k HN.out hst HA.out, hb.alloc hb.size _⟩
          case measure => simp [intOf]; omega
        · have hkb : (kindL p).all kindF = true := by have h := HA.out; rwa [List.take_of_length_le (by simp [kindL]; omega)] at h
          have hbw := HB2.out.trans (hb.mono HB2.out.size)
          have hcc : ∀ j v, (p.cs A c)[j]? = some v → wr.cell? ⟨w.heap.size, j, none⟩ = some v := fun j v hj => (hb.cell (p := ⟨w.heap.size, j, none⟩) (by simp only; omega)).trans ((HP2.out j).trans hj)
          have f0 := hcc 0 _ rfl
          have f1 := hcc 1 _ rfl
          have f2 := hcc 2 _ rfl
          have f10 := hcc 10 _ rfl
          have f11 := hcc 11 _ rfl
          have f12 := hcc 12 _ rfl
          have hrd3 := hrd2.now hb
          have HBW := Lib.hid hbw
          have HKB := Lib.hid hkb
          clear hcc hb hbw hkb
          generalize hwb : wordB p.name = wb
          have HWB := Lib.hid hwb
          cases wb
          · go_wp2_with (go_at_call 58; refine (lexWord_any _ _ hnm).mono ?_; rintro e w' ⟨rfl, rfl⟩)
            go_ret
            exact ⟨by simp [profRight, headB, HWB.out], HBW.out⟩
          have HF := Lib.hid (show ∀ s ∈ p.types, Calls Tryd.prog 60 (#[.string s] ++ #[]) wr (fun e w'' => e = .returned (.bool (notWord s)) ∧ wr = w'') from fun s hs => pRight1_any s _ (HTS.out s hs))
          by_cases he : ¬ p.edit = 0 ∧ ¬ p.edit = 2
          · obtain ⟨he, he2⟩ := he
            have e1 : (p.edit == 0) = false := by simpa using he
            have e2 : (p.edit == 2) = false := by simpa using he2
            have e3 : (p.edit != 0) = true := by simpa using he
            have e4 : (p.edit != 2) = true := by simpa using he2
            go_wp2_with (go_at_call 58; refine (lexWord_any _ _ hnm).mono ?_; rintro e w' ⟨rfl, rfl⟩)
            go_ret
            exact ⟨by simp [profRight, headB, kinds_eq, he, he2], HBW.out⟩
          by_cases he0 : p.edit = 0 ∧ 0 < p.within_
          · obtain ⟨he0, hwi⟩ := he0
            go_wp2_with (go_at_call 58; refine (lexWord_any _ _ hnm).mono ?_; rintro e w' ⟨rfl, rfl⟩)
            go_ret
            exact ⟨by simp [profRight, headB, he0]; omega, HBW.out⟩
          have hwi : 0 ≤ p.within_ := within_le p HN.out
          have hor : (p.edit = 0 ∧ p.within_ = 0) ∨ p.edit = 2 := by omega
          have hh := head_of p HKB.out HN.out HWB.out hor
          have HH := Lib.hid hh
          clear hh he he0 hwi
          by_cases hf : p.files = 0
          · by_cases hby : p.bytes = 0
            all_goals rcases hor with ⟨h1, h2⟩ | h1
            all_goals go_wp2_with (go_at_call 58; refine (lexWord_any _ _ hnm).mono ?_; rintro e w' ⟨rfl, rfl⟩)
            all_goals go_ret
            all_goals exact ⟨by simp [profRight, HH.out, typesB, hf, hby, len0], HBW.out⟩
          · by_cases hl1 : p.types.length < 1
            · rcases hor with ⟨h1, h2⟩ | h1
              all_goals go_wp2_with (go_at_call 58; refine (lexWord_any _ _ hnm).mono ?_; rintro e w' ⟨rfl, rfl⟩)
              all_goals go_ret
              all_goals exact ⟨by simp [profRight, typesB, hf]; omega, HBW.out⟩
            by_cases hl2 : 20 < p.types.length
            · rcases hor with ⟨h1, h2⟩ | h1
              all_goals go_wp2_with (go_at_call 58; refine (lexWord_any _ _ hnm).mono ?_; rintro e w' ⟨rfl, rfl⟩)
              all_goals go_ret
              all_goals exact ⟨by simp [profRight, typesB, hf]; omega, HBW.out⟩
            have hty := types_of p hf hl1 hl2
            have HTY := Lib.hid hty
            clear hty
            rcases hor with ⟨h1, h2⟩ | h1
            all_goals go_wp2_with (first | (go_at_call 58; refine (lexWord_any _ _ hnm).mono ?_; rintro e w' ⟨rfl, rfl⟩) | (go_at_call 59; refine (strContF_any p.types A c 60 #[] notWord _ hrd3 hlen enters_pRight1 HF.out).mono ?_; rintro e w' ⟨rfl, rfl⟩))
            all_goals go_ret
            all_goals exact ⟨by simp [profRight, HH.out, HTY.out], HBW.out⟩
end Go.Proofs.YtnaejabgkfhlbaaDoor
