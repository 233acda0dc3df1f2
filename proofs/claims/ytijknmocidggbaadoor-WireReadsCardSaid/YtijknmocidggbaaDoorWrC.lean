/- Contracts of package wire: lists. -/
import Derived.Test.YtijknmocidggbaaDoorWrB
namespace Go.Proofs.YtijknmocidggbaaDoor
open Go.RowKit

def intE (n : Int) : List Value := [.int .i64 n]
def strE (l : List UInt8) : List Value := [.string (bs l)]
theorem rd_int {w : World} {A : Option Addr} {xs : List Int} {k : Nat} (h : RdL 1 intE w w.heap.size A xs) (hk : k < xs.length) : ∃ b off, A = some ⟨b, off, none⟩ ∧ w.cell? ⟨b, off + k, none⟩ = some (.int .i64 xs[k]) := by
  obtain ⟨b, off, e, hb, hc⟩ := h.at_ hk
  exact ⟨b, off, e, by simpa using hc 0 _ rfl⟩
theorem rd_str {w : World} {A : Option Addr} {xs : List (List UInt8)} {k : Nat} (h : RdL 1 strE w w.heap.size A xs) (hk : k < xs.length) : ∃ b off, A = some ⟨b, off, none⟩ ∧ w.cell? ⟨b, off + k, none⟩ = some (.string (bs xs[k])) := by
  obtain ⟨b, off, e, hb, hc⟩ := h.at_ hk
  exact ⟨b, off, e, by simpa using hc 0 _ rfl⟩

/-- The builder in block b (of the call's own from B on) holds the bytes l. -/
def Bld (B b : Nat) (l : List UInt8) (w : World) : Prop := Lib.IsBuilderF 67 5 B b (Lib.byteCells l) w
theorem strCells_bs (l : List UInt8) : Lib.strCells (bs l) = Lib.byteCells l := by simp [Lib.strCells, Lib.byteCells, bs]
theorem Bld.now {B b : Nat} {l : List UInt8} {w w' : World} (h : Bld B b l w) (hb : Below w.heap.size w w') : Bld B b l w' := by
  have one : ∀ p, Lib.BuilderAtF 67 5 B b p (Lib.byteCells l) w → Lib.BuilderAtF 67 5 B b p (Lib.byteCells l) w' := by
    rintro p ⟨hB, v, hv, hown, hne⟩
    refine ⟨hB, v, (hb.block _ (box_lt hv)).trans hv, hown.kept (grown_of_below hb none) ?_, hne⟩
    cases h : v.ownBlock with
    | none => exact .inl rfl
    | some k => exact .inr (by simp)
  rcases h with h | h
  · exact .inl (one _ h)
  · exact .inr (one _ h)
theorem bld_write {B b : Nat} {l m : List UInt8} {w : World} (h : Bld B b l w) (hlen : l.length + m.length ≤ 140737488355328) (hBw : B ≤ w.heap.size) :
    Calls Tryd.prog 59 #[.pointer (some ⟨b, 0, none⟩), .string (bs m)] w fun e w' => e = .returned (.tuple #[.int .i64 m.length, .nilIface]) ∧ Bld B b (l ++ m) w' ∧ Below B w w' := by
  refine (writeString_any B b _ (bs m) w h (by rw [Lib.byteCells_length, bs_size]; omega) hBw).mono ?_
  rintro e w' ⟨rfl, h1, h2⟩
  refine ⟨by rw [bs_size], ?_, h2⟩
  unfold Bld
  rw [Lib.byteCells_append, ← strCells_bs m]
  exact h1
theorem bld_string {B b : Nat} {l : List UInt8} {w : World} (h : Bld B b l w) (hBw : B ≤ w.heap.size) :
    Calls Tryd.prog 60 #[.pointer (some ⟨b, 0, none⟩)] w fun e w' => e = .returned (.string (bs l)) ∧ Bld B b l w' ∧ Below B w w' := by
  refine (Tryd.Builder_String_any_k B b l w h hBw).mono ?_
  rintro e w' ⟨rfl, h1, h2, _⟩
  exact ⟨rfl, h1, h2⟩
theorem bld_new (w : World) : Bld w.heap.size w.heap.size [] (w.alloc (.cells #[.pointer none, .slice none 0 0] 67)) :=
  .of (Lib.fresh_isBuilder 67 5 w)

theorem flat_succ {T : Type} (one : T → List UInt8) (xs : List T) (k : Nat) (hk : k < xs.length) : (xs.take (k + 1)).flatMap one = (xs.take k).flatMap one ++ one xs[k] := by
  rw [List.take_succ_eq_append_getElem hk, List.flatMap_append]; simp
theorem flat_le {T : Type} (one : T → List UInt8) (xs : List T) (k : Nat) : ((xs.take k).flatMap one).length ≤ (xs.flatMap one).length := by
  conv => rhs; rw [← List.take_append_drop k xs, List.flatMap_append, List.length_append]
  omega

theorem flat_bound {T : Type} (one : T → List UInt8) (m : Nat) : ∀ xs : List T, (∀ x ∈ xs, (one x).length ≤ m) → (xs.flatMap one).length ≤ xs.length * m
  | [], _ => by simp
  | x :: r, h => by
    have h1 := h x (by simp)
    have h2 := flat_bound one m r (fun y hy => h y (by simp [hy]))
    simp only [List.flatMap_cons, List.length_append, List.length_cons, Nat.add_mul]
    omega

set_option maxHeartbeats 1000000 in
theorem listI_any {B : Nat} (xs : List Int) (A : Option Addr) (c : Nat) (w : World) (hV : Vs B w) (hr : RdL 1 intE w w.heap.size A xs) (hlen : (xs.flatMap encI).length ≤ 1000000000000) (hx : ∀ x ∈ xs, InInt x) (hn : xs.length ≤ 1000000000000) :
    Calls Tryd.prog 46 #[.slice A xs.length c, .func (.func 13) #[] #[]] w fun e w' => e = .returned (.string (bs (encL encI xs))) ∧ Below w.heap.size w w' := by
  have hli := Lib.itoa_length_le xs.length (by omega) (by omega)
  have HV := Lib.hid hV
  have HR := Lib.hid hr
  have HX := Lib.hid hx
  have HF := Lib.hid (flat_le encI xs)
  have HL := Lib.hid hlen
  clear hr hx hlen
  go_enter Tryd.func46, Tryd.ntmps46
  go_wp2_with fail
  have hB0 := bld_new w
  have hw0 := (Below.refl w.heap.size w).alloc (Nat.le_refl _) (.cells #[.pointer none, .slice none 0 0] 67)
  obtain ⟨w0, hw0e⟩ : ∃ x, x = w.alloc (.cells #[.pointer none, .slice none 0 0] 67) := ⟨_, rfl⟩
  rw [← hw0e] at hB0 hw0 ⊢
  clear hw0e
  refine (itoa_any xs.length w0 (HV.out.on (hw0.mono HV.out.le)) ⟨by omega, by omega⟩).mono ?_
  rintro e w1 ⟨rfl, hb1⟩
  have hB1 := Lib.hid (hB0.now hb1)
  have hw1 := Lib.hid (hw0.trans (hb1.mono hw0.size))
  clear hB0 hw0 hb1
  go_wp2_with (first
      | ((with_reducible show wpList _ _ _ (Oper.mk _ (Op.binOp .add 9 _ _ _) _ _ _ _ :: _) _ _); refine wp_cat rfl rfl Tryd.underlying9 rfl rfl (by first | omega | (simp; done) | (simp; omega)) ?_)
      | fail)
  refine (bld_write hB1.out (by simp; omega) hw1.out.size).mono ?_
  rintro e w2 ⟨rfl, hB2, hb2⟩
  have HB2 := Lib.hid hB2
  have HW2 := Lib.hid (hw1.out.trans hb2)
  clear hB1 hw1 hB2 hb2
  go_wp2_with fail
  go_loopw [7, 15] (fun _ i wr => ∃ k : Nat, k ≤ xs.length ∧ i = .int .i64 k ∧ Bld w.heap.size w.heap.size ((Lib.itoa xs.length ++ [91]) ++ (xs.take k).flatMap encI) wr ∧ Below w.heap.size w wr) (fun _ i _ => xs.length - (intOf i).toNat)
  case atStart => exact ⟨0, Nat.zero_le _, rfl, by simpa using HB2.out, HW2.out⟩
  case round =>
    obtain ⟨k, hk, rfl, hbd, hb⟩ := hrel
    have HB := Lib.hid hb
    have HD := Lib.hid hbd
    clear hbd HB2 HW2
    by_cases hlt : k < xs.length
    · obtain ⟨b, off, hA, hc⟩ := rd_int (HR.out.now hb) hlt
      subst hA
      have HXk := Lib.hid (HX.out _ (List.getElem_mem hlt))
      have HSt := Lib.hid (flat_succ encI xs k hlt)
      generalize xs[k] = x at *
      clear hb
      go_wp2_with fail
      refine (wInt_any x _ (HV.out.on (HB.out.mono HV.out.le)) HXk.out).mono ?_
      rintro e w3 ⟨rfl, hb3⟩
      have HD3 := Lib.hid (HD.out.now hb3)
      have HB3 := Lib.hid (HB.out.trans (hb3.mono HB.out.size))
      clear hb3
      go_wp2_with fail
      refine (bld_write HD3.out (by have := HF.out (k + 1); have := HL.out; rw [HSt.out] at *; simp only [List.length_append, List.length_cons, List.length_nil] at *; omega) HB3.out.size).mono ?_
      rintro e w4 ⟨rfl, hB4, hb4⟩
      have HB4 := Lib.hid hB4
      have HW4 := Lib.hid (HB3.out.trans hb4)
      clear hB4 hb4
      go_wp2_with fail
      go_roundw
      case rel => exact ⟨k + 1, by omega, by go_num, by rw [HSt.out, ← List.append_assoc]; exact HB4.out, HW4.out⟩
      case measure => simp [intOf]; omega
    · have hke : xs.take k = xs := List.take_of_length_le (by omega)
      have hD2 := HD.out
      rw [hke] at hD2
      have HD2 := Lib.hid hD2
      clear hD2 HD hke
      go_wp2_with fail
      refine (bld_string HD2.out HB.out.size).mono ?_
      rintro e w5 ⟨rfl, hB5, hb5⟩
      have HW5 := Lib.hid (HB.out.trans hb5)
      have hl2 := HL.out
      clear hB5 hb5
      go_wp2_with (first
        | ((with_reducible show wpList _ _ _ (Oper.mk _ (Op.binOp .add 9 _ _ _) _ _ _ _ :: _) _ _); refine wp_cat rfl rfl Tryd.underlying9 rfl rfl (by simp only [List.length_append, List.length_cons, List.length_nil]; omega) ?_)
        | fail)
      go_ret
      exact ⟨ret_str (by simp [encL]), HW5.out⟩
set_option maxHeartbeats 1000000 in
theorem listS_any {B : Nat} (xs : List (List UInt8)) (A : Option Addr) (c : Nat) (w : World) (hV : Vs B w) (hr : RdL 1 strE w w.heap.size A xs) (hlen : (xs.flatMap encT).length ≤ 1000000000000) (hx : ∀ x ∈ xs, x.length ≤ 1000000000000) (hn : xs.length ≤ 1000000000000) :
    Calls Tryd.prog 47 #[.slice A xs.length c, .func (.func 15) #[] #[]] w fun e w' => e = .returned (.string (bs (encL encT xs))) ∧ Below w.heap.size w w' := by
  have hli := Lib.itoa_length_le xs.length (by omega) (by omega)
  have HV := Lib.hid hV
  have HR := Lib.hid hr
  have HX := Lib.hid hx
  have HF := Lib.hid (flat_le encT xs)
  have HL := Lib.hid hlen
  clear hr hx hlen
  go_enter Tryd.func47, Tryd.ntmps47
  go_wp2_with fail
  have hB0 := bld_new w
  have hw0 := (Below.refl w.heap.size w).alloc (Nat.le_refl _) (.cells #[.pointer none, .slice none 0 0] 67)
  obtain ⟨w0, hw0e⟩ : ∃ x, x = w.alloc (.cells #[.pointer none, .slice none 0 0] 67) := ⟨_, rfl⟩
  rw [← hw0e] at hB0 hw0 ⊢
  clear hw0e
  refine (itoa_any xs.length w0 (HV.out.on (hw0.mono HV.out.le)) ⟨by omega, by omega⟩).mono ?_
  rintro e w1 ⟨rfl, hb1⟩
  have hB1 := Lib.hid (hB0.now hb1)
  have hw1 := Lib.hid (hw0.trans (hb1.mono hw0.size))
  clear hB0 hw0 hb1
  go_wp2_with (first
      | ((with_reducible show wpList _ _ _ (Oper.mk _ (Op.binOp .add 9 _ _ _) _ _ _ _ :: _) _ _); refine wp_cat rfl rfl Tryd.underlying9 rfl rfl (by first | omega | (simp; done) | (simp; omega)) ?_)
      | fail)
  refine (bld_write hB1.out (by simp; omega) hw1.out.size).mono ?_
  rintro e w2 ⟨rfl, hB2, hb2⟩
  have HB2 := Lib.hid hB2
  have HW2 := Lib.hid (hw1.out.trans hb2)
  clear hB1 hw1 hB2 hb2
  go_wp2_with fail
  go_loopw [7, 15] (fun _ i wr => ∃ k : Nat, k ≤ xs.length ∧ i = .int .i64 k ∧ Bld w.heap.size w.heap.size ((Lib.itoa xs.length ++ [91]) ++ (xs.take k).flatMap encT) wr ∧ Below w.heap.size w wr) (fun _ i _ => xs.length - (intOf i).toNat)
  case atStart => exact ⟨0, Nat.zero_le _, rfl, by simpa using HB2.out, HW2.out⟩
  case round =>
    obtain ⟨k, hk, rfl, hbd, hb⟩ := hrel
    have HB := Lib.hid hb
    have HD := Lib.hid hbd
    clear hbd HB2 HW2
    by_cases hlt : k < xs.length
    · obtain ⟨b, off, hA, hc⟩ := rd_str (HR.out.now hb) hlt
      subst hA
      have HXk := Lib.hid (HX.out _ (List.getElem_mem hlt))
      have HSt := Lib.hid (flat_succ encT xs k hlt)
      generalize xs[k] = x at *
      clear hb
      go_wp2_with fail
      refine (wText_any x _ (HV.out.on (HB.out.mono HV.out.le)) HXk.out).mono ?_
      rintro e w3 ⟨rfl, hb3⟩
      have HD3 := Lib.hid (HD.out.now hb3)
      have HB3 := Lib.hid (HB.out.trans (hb3.mono HB.out.size))
      clear hb3
      go_wp2_with fail
      refine (bld_write HD3.out (by have := HF.out (k + 1); have := HL.out; rw [HSt.out] at *; simp only [List.length_append, List.length_cons, List.length_nil] at *; omega) HB3.out.size).mono ?_
      rintro e w4 ⟨rfl, hB4, hb4⟩
      have HB4 := Lib.hid hB4
      have HW4 := Lib.hid (HB3.out.trans hb4)
      clear hB4 hb4
      go_wp2_with fail
      go_roundw
      case rel => exact ⟨k + 1, by omega, by go_num, by rw [HSt.out, ← List.append_assoc]; exact HB4.out, HW4.out⟩
      case measure => simp [intOf]; omega
    · have hke : xs.take k = xs := List.take_of_length_le (by omega)
      have hD2 := HD.out
      rw [hke] at hD2
      have HD2 := Lib.hid hD2
      clear hD2 HD hke
      go_wp2_with fail
      refine (bld_string HD2.out HB.out.size).mono ?_
      rintro e w5 ⟨rfl, hB5, hb5⟩
      have HW5 := Lib.hid (HB.out.trans hb5)
      have hl2 := HL.out
      clear hB5 hb5
      go_wp2_with (first
        | ((with_reducible show wpList _ _ _ (Oper.mk _ (Op.binOp .add 9 _ _ _) _ _ _ _ :: _) _ _); refine wp_cat rfl rfl Tryd.underlying9 rfl rfl (by simp only [List.length_append, List.length_cons, List.length_nil]; omega) ?_)
        | fail)
      go_ret
      exact ⟨ret_str (by simp [encL]), HW5.out⟩

theorem wNums_any {B : Nat} (xs : List Int) (A : Option Addr) (c : Nat) (w : World) (hV : Vs B w) (hr : RdL 1 intE w w.heap.size A xs) (hx : ∀ x ∈ xs, InInt x) (hn : xs.length ≤ 10000000000) :
    Calls Tryd.prog 17 #[.slice A xs.length c] w fun e w' => e = .returned (.string (bs (encL encI xs))) ∧ Below w.heap.size w w' := by
  have hlen : (xs.flatMap encI).length ≤ 1000000000000 := by
    have h := flat_bound encI 22 xs (fun x h => encI_len x (hx x h))
    omega
  go_enter Tryd.func17, Tryd.ntmps17
  go_wp2_with fail
  refine (listI_any xs A c w hV hr hlen hx (by omega)).mono ?_
  rintro e w1 ⟨rfl, hb1⟩
  go_wp2_with fail
  go_ret
  exact ⟨rfl, hb1⟩
/-- The bytes of a list of strings. -/
def tot (xs : List (List UInt8)) : Nat := (xs.map List.length).sum
theorem tot_le {xs : List (List UInt8)} {x : List UInt8} (h : x ∈ xs) : x.length ≤ tot xs := by
  induction xs with
  | nil => cases h
  | cons y r ih =>
    rcases List.mem_cons.1 h with rfl | h
    · simp [tot]
    · have := ih h
      simp only [tot, List.map_cons, List.sum_cons] at *
      omega
theorem flat_tot : ∀ xs : List (List UInt8), (∀ x ∈ xs, InInt x.length) → (xs.flatMap encT).length ≤ 23 * xs.length + tot xs
  | [], _ => by simp
  | x :: r, h => by
    have h1 := encT_len x (h x (by simp))
    have h2 := flat_tot r (fun y hy => h y (by simp [hy]))
    simp only [List.flatMap_cons, List.length_append, List.length_cons, tot, List.map_cons, List.sum_cons] at *
    omega
theorem wTexts_any {B : Nat} (xs : List (List UInt8)) (A : Option Addr) (c : Nat) (w : World) (hV : Vs B w) (hr : RdL 1 strE w w.heap.size A xs) (hx : tot xs ≤ 10000000000) (hn : xs.length ≤ 10000000000) :
    Calls Tryd.prog 19 #[.slice A xs.length c] w fun e w' => e = .returned (.string (bs (encL encT xs))) ∧ Below w.heap.size w w' := by
  have hb : ∀ x ∈ xs, x.length ≤ 10000000000 := fun x h => Nat.le_trans (tot_le h) hx
  have hlen : (xs.flatMap encT).length ≤ 1000000000000 := by
    have h := flat_tot xs (fun x h => ⟨by omega, by have := hb x h; omega⟩)
    omega
  go_enter Tryd.func19, Tryd.ntmps19
  go_wp2_with fail
  refine (listS_any xs A c w hV hr hlen (fun x h => by have := hb x h; omega) (by omega)).mono ?_
  rintro e w1 ⟨rfl, hb1⟩
  go_wp2_with fail
  go_ret
  exact ⟨rfl, hb1⟩
end Go.Proofs.YtijknmocidggbaaDoor
