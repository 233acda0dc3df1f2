/- Contracts of lingualaw10's own: erased, upper. -/
import Derived.Test.YtpcfmmiiokbjbaaDoorWdC
import Derived.Test.YtpcfmmiiokbjbaaDoorLst
import Derived.Test.YtpcfmmiiokbjbaaDoorByt
import Derived.Test.YtpcfmmiiokbjbaaDoorMake
namespace Go.Proofs.YtpcfmmiiokbjbaaDoor
open Go.RowKit

theorem own_some {T : Type} {sz : Nat} {enc : T → List Value} {w : World} {base : Nat} {e : TypeId} {A : Option Addr} {c : Nat} {xs : List T} (h : OwnL w base e sz enc A c xs) (hn : 0 < xs.length) : ∃ g, A = some ⟨g, 0, none⟩ := by
  rcases h.2 with hz | ⟨g, cap, cur, hv, _⟩
  · have h0 := hz.2; omega
  · injection hv with e1 _ _
    exact ⟨g, e1⟩
set_option maxRecDepth 100000 in
set_option maxHeartbeats 1000000 in
theorem erased_any (texts : List (List UInt8)) (k : Nat) (A : Option Addr) (c : Nat) (w : World) (hr : RdL 1 strE w w.heap.size A texts) (hn : texts.length ≤ 1000000) (hk : k < texts.length) :
    Calls Tryd.prog 21 #[.slice A texts.length c, .int .i64 k] w fun x w' => ∃ A2 c2, x = .returned (.slice A2 (texts.set k []).length c2) ∧ OwnL w' w.heap.size 9 1 strE A2 c2 (texts.set k []) ∧ Below w.heap.size w w' := by
  have HR := Lib.hid hr
  clear hr
  go_enter Tryd.func21, Tryd.ntmps21
  have hb0 : Below w.heap.size w (w.alloc (.cells #[] 9)) := (Below.refl _ _).alloc (Nat.le_refl _) _
  have HO0 := Lib.hid (OwnL.empty (enc := strE) (sz := 1) w 9 w.heap.size (Nat.le_refl _) _ rfl)
  have HR0 := Lib.hid (HR.out.below hb0)
  have HB0 := Lib.hid hb0
  clear hb0
  go_wp2_with (first
    | (at_builtin; refine wp_append_l rfl (.tmp 6) (.tmp 7) rfl slStr strLay w.heap.size (xs := ([] : List (List UInt8))) (ys := texts) rfl rfl HO0.out rfl rfl HR0.out (by simp; omega) (by simp) ?_; intro A2 c2 w2 hown hg hb hat; simp only [List.nil_append] at hown ⊢; obtain ⟨g2, rfl⟩ := own_some hown (by omega); have HO := Lib.hid hown; have HB := Lib.hid (HB0.out.trans hb); clear hown hg hb hat)
    | ((with_reducible show wpList _ _ _ (Oper.mk _ (Op.store 9 _ _) _ _ _ _ :: _) _ _); refine wp_store_l rfl _ _ rfl slStr strLay HO.out k hk k rfl (by omega) [] _ rfl rfl ?_; intro w4 hown4 hg4; have HO4 := Lib.hid hown4; have HG4 := Lib.hid hg4; clear hown4 hg4)
    | fail)
  go_ret
  exact ⟨some ⟨g2, 0, none⟩, c2, by simp, HO4.out, HB.out.grown HG4.out HB.out.size (fun j hj => (HO.out.blk_lt hj).1)⟩
/-- The first k are turned. -/
def upK (l : List UInt8) (k : Nat) : List UInt8 := (l.take k).map upB ++ l.drop k
theorem upK_len (l : List UInt8) (k : Nat) : (upK l k).length = l.length := by simp [upK]; omega
theorem upK_get (l : List UInt8) (k : Nat) (hk : k < l.length) : (upK l k)[k]'(by rw [upK_len]; exact hk) = l[k] := by
  unfold upK
  rw [List.getElem_append_right (by simp; omega)]
  simp [show k - min k l.length = 0 by omega]
theorem upK_set (l : List UInt8) (k : Nat) (hk : k < l.length) : (upK l k).set k (upB l[k]) = upK l (k + 1) := by
  have hd : l.drop k = l[k] :: l.drop (k + 1) := List.drop_eq_getElem_cons hk
  have e : k - ((l.take k).map upB).length = 0 := by simp; omega
  unfold upK
  rw [List.take_succ_eq_append_getElem hk, List.map_append, List.set_append_right _ _ (by simp; omega), hd, e, List.set_cons_zero]
  simp only [List.map_cons, List.map_nil, List.append_assoc, List.cons_append, List.nil_append]
theorem upK_same (l : List UInt8) (k : Nat) (hk : k < l.length) (h : upB l[k] = l[k]) : upK l k = upK l (k + 1) := by
  have h1 := upK_set l k hk
  rw [h, ← upK_get l k hk, List.set_getElem_self] at h1
  exact h1
theorem up_nat : ∀ i : Fin 256, (upB (UInt8.ofNat i.val)).toNat = if 97 ≤ i.val ∧ i.val ≤ 122 then i.val - 32 else i.val := by decide +kernel
theorem up_eq (c : UInt8) : (upB c).toNat = if 97 ≤ c.toNat ∧ c.toNat ≤ 122 then c.toNat - 32 else c.toNat := by
  have h := up_nat ⟨c.toNat, by have := c.toNat_lt; omega⟩
  simpa using h
set_option maxHeartbeats 1000000 in
theorem upper_any (l : List UInt8) (w : World) (hl : l.length ≤ 1000000) :
    Calls Tryd.prog 22 #[.string (bs l)] w fun e w' => e = .returned (.string (bs (l.map upB))) ∧ Below w.heap.size w w' := by
  have hsz : (bs l).size = l.length := bs_size l
  have hml : (bs l).size ≤ maxLen := by rw [hsz]; simp only [maxLen]; omega
  go_enter Tryd.func22, Tryd.ntmps22
  go_wp2_with (first
    | ((with_reducible show wpList _ _ _ (Oper.mk _ (Op.convert 9 _ _) _ _ _ _ :: _) _ _); refine wp_bytes_b rfl _ _ _ rfl Tryd.underlying9 Tryd.underlying41 Tryd.underlying5 (bs l) rfl hml ?_; intro c1 w1 hown hb1; rw [bs_data] at hown; have HO := Lib.hid hown; have HB := Lib.hid hb1; clear hown hb1)
    | fail)
  go_loopw [4] (fun i wr => ∃ k : Nat, k ≤ l.length ∧ i = .int .i64 k ∧ OwnB wr w.heap.size 5 w.heap.size c1 (upK l k) ∧ Below w.heap.size w wr) (fun i _ => l.length - (intOf i).toNat)
  case atStart => exact ⟨0, Nat.zero_le _, rfl, by simpa [upK] using HO.out, HB.out⟩
  case round =>
    obtain ⟨k, hk, rfl, ho, hb⟩ := hrel
    have HO2 := Lib.hid ho
    have HB2 := Lib.hid hb
    clear HO HB
    have hcap := ho.len
    rw [upK_len] at hcap
    clear hb
    by_cases hlt : k < l.length
    · have hcell := ho.cell k (by rw [upK_len]; exact hlt)
      have hfree := ho.free k (by omega)
      rw [upK_get l k hlt] at hcell
      have HSt := Lib.hid (ho.set k (upB l[k]))
      have HSm := Lib.hid (upK_same l k hlt)
      have HSe := Lib.hid (upK_set l k hlt)
      have HU := Lib.hid (up_eq l[k])
      clear ho
      generalize l[k] = b at *
      have hb1 := b.toNat_lt
      by_cases hr : (97 : Int) ≤ b.toNat ∧ (b.toNat : Int) ≤ 122
      · have d1 : decide ((97 : Int) ≤ b.toNat) = true := by simp; omega
        have d2 : decide ((b.toNat : Int) ≤ 122) = true := by simp; omega
        have HUe : Hid (((b.toNat : Int) - 32) % 256 = (upB b).toNat) := Lib.hid (by rw [HU.out, if_pos (by omega)]; omega)
        clear hr
        go_wp2_with fail
        rw [HUe.out]
        go_roundw
        case rel => exact ⟨k + 1, by omega, by go_num, by rw [← HSe.out]; exact HSt.out, HB2.out.setCell (p := ⟨w.heap.size, k, none⟩) (Nat.le_refl _) _⟩
        case measure => simp [intOf]; omega
      · have HE := Lib.hid (HSm.out (by rw [← UInt8.toNat_inj, HU.out, if_neg (by omega)]))
        have go : ∀ b1 b2 : Bool, decide ((97 : Int) ≤ b.toNat) = b1 → decide ((b.toNat : Int) ≤ 122) = b2 → (b1 && b2) = false := fun b1 b2 h1 h2 => by
          subst h1 h2
          simp
          omega
        cases d1 : decide ((97 : Int) ≤ b.toNat)
        · clear go hr
          go_wp2_with fail
          go_roundw
          case rel => exact ⟨k + 1, by omega, by go_num, by rw [← HE.out]; exact HO2.out, HB2.out⟩
          case measure => simp [intOf]; omega
        · have d2 : decide ((b.toNat : Int) ≤ 122) = false := by have := go _ _ d1 rfl; simpa using this
          clear go hr
          go_wp2_with fail
          go_roundw
          case rel => exact ⟨k + 1, by omega, by go_num, by rw [← HE.out]; exact HO2.out, HB2.out⟩
          case measure => simp [intOf]; omega
    · have HE : Hid (upK l k = l.map upB) := Lib.hid (by rw [upK, List.take_of_length_le (by omega), List.drop_of_length_le (by omega), List.append_nil])
      have HZ : Hid (l.length = (l.map upB).length) := Lib.hid (by simp)
      have HO3 := Lib.hid (HE.out ▸ HO2.out)
      clear ho
      go_wp2_with (first
        | ((with_reducible show wpList _ _ _ (Oper.mk _ (Op.convert 41 9 _) _ _ _ _ :: _) _ _); refine wp_string_bs rfl _ _ _ rfl Tryd.underlying41 Tryd.underlying5 Tryd.underlying9 rfl HZ.out HO3.out ?_)
        | fail)
      go_ret
      exact ⟨rfl, HB2.out⟩
end Go.Proofs.YtpcfmmiiokbjbaaDoor
