/- Contracts and plain laws, joined: WrB, WrC, ObL. -/
import Derived.Test.YtjmkodkechahdaaGreatDoorQac
import Derived.Test.YtjmkodkechahdaaGreatDoorQaf
import Derived.Test.YtjmkodkechahdaaGreatDoorShelf
import Derived.Test.YtjmkodkechahdaaGreatDoorChecked
import Derived.Lib.AppendIntMem
import Derived.Lib.ItoaLen
/- Contracts of package wire: the writers. -/
set_option linter.unusedSimpArgs false
set_option linter.unusedVariables false
namespace Go.Proofs.YtjmkodkechahdaaGreatDoor
open Go.RowKit

/-- What the library's variables hold, and hold whatever is done from block B on. -/
def Facts (w : World) : Prop :=
  Lib.TabIs Tryz.prog w "internal/strconv.uint64pow10" .u64 Lib.pow10Tab ∧
  ((Tryz.prog.globalNamed "strconv.ErrSyntax").isSome = true → ∃ tp p, w.var? Tryz.prog "strconv.ErrSyntax" = some #[.iface tp p]) ∧ ((Tryz.prog.globalNamed "strconv.ErrRange").isSome = true → ∃ tp p, w.var? Tryz.prog "strconv.ErrRange" = some #[.iface tp p])
def Vs (B : Nat) (w : World) : Prop := B ≤ w.heap.size ∧ ∀ w', Below B w w' → Facts w'
theorem Vs.le {B : Nat} {w : World} (h : Vs B w) : B ≤ w.heap.size := h.1
theorem Vs.here {B : Nat} {w : World} (h : Vs B w) : Facts w := h.2 w (Below.refl _ _)
theorem Vs.on {B : Nat} {w w' : World} (h : Vs B w) (hb : Below B w w') : Vs B w' := ⟨Nat.le_trans h.1 hb.size, fun x hx => h.2 x (hb.trans hx)⟩
theorem Vs.now {B : Nat} {w w' : World} (h : Vs B w) (hb : Below w.heap.size w w') : Vs B w' := h.on (hb.mono h.1)

/-- An int. -/
def InInt (n : Int) : Prop := -9223372036854775808 ≤ n ∧ n ≤ 9223372036854775807

theorem itoa_any {B : Nat} (n : Int) (w : World) (hV : Vs B w) (hn : InInt n) :
    Calls Tryz.prog 114 #[.int .i64 n] w fun e w' => e = .returned (.string (bs (Lib.itoa n))) ∧ Below w.heap.size w w' :=
  (Tryz.strconv_Itoa n hn.1 hn.2 w hV.here.1).mono fun e w' ⟨he, k, os, hw⟩ => ⟨he, hw ▸ Lib.below_grow _ w (Nat.le_refl _) k os⟩

def encI (n : Int) : List UInt8 := Lib.itoa n ++ [59]
def encN (n : Int) : List UInt8 := if n < 0 then [] else encI n
def encT (l : List UInt8) : List UInt8 := Lib.itoa l.length ++ [58] ++ l ++ [44]
def encL {α : Type} (one : α → List UInt8) (l : List α) : List UInt8 := Lib.itoa l.length ++ [91] ++ l.flatMap one ++ [93]

theorem encI_len (n : Int) (hn : InInt n) : (encI n).length ≤ 22 := by
  have := Lib.itoa_length_le n hn.1 hn.2
  simp [encI]; omega
theorem encT_len (l : List UInt8) (hl : InInt l.length) : (encT l).length ≤ 23 + l.length := by
  have := Lib.itoa_length_le l.length hl.1 hl.2
  simp [encT]; omega

theorem wText_any {B : Nat} (l : List UInt8) (w : World) (hV : Vs B w) (hl : l.length ≤ 1000000000000) :
    Calls Tryz.prog 109 #[.string (bs l)] w fun e w' => e = .returned (.string (bs (encT l))) ∧ Below w.heap.size w w' := by
  have hl' : InInt l.length := ⟨by omega, by omega⟩
  have hlen := Lib.itoa_length_le l.length hl'.1 hl'.2
  go_enter Tryz.func109, Tryz.ntmps109
  go_wp2_with fail
  refine (itoa_any l.length _ hV hl').mono ?_
  rintro e w1 ⟨rfl, hb1⟩
  go_wp2_with (first
      | ((with_reducible show wpList _ _ _ (Oper.mk _ (Op.binOp .add 9 _ _ _) _ _ _ _ :: _) _ _); refine wp_cat rfl rfl Tryz.underlying9 rfl rfl (by first | omega | (simp; done) | (simp; omega)) ?_)
      | fail)
  go_ret
  exact ⟨ret_str (by simp [encT]), hb1⟩

set_option maxRecDepth 100000 in
/-- (*strings.Builder).copyCheck. -/
theorem copyCheck_any (B b : Nat) (cs : List Value) (w : World) (h : Lib.IsBuilderF 144 5 B b cs w) :
    Calls Tryz.prog 125 #[.pointer (some ⟨b, 0, none⟩)] w fun e w' => e = .returned (.tuple #[]) ∧ (Lib.BuilderAtF 144 5 B b (.pointer (some ⟨b, 0, none⟩)) cs w' ∧ Below B w w') := by
  have X : Builder.Extra Tryz.prog Tryz.lays169_ren := Tryz.Builder_Extra_169
  obtain ⟨j, hj, hjs⟩ := Option.map_eq_some_iff.1 X.sizeBuilder
  rcases h with h | h
  · have c0 := h.cell0
    have f0 := h.frozen0
    have hsh := h.shape
    go_enter Tryz.func125, Tryz.ntmps125
    go_wp2_with fail
    rw [Lib.run_to_unsafe w ⟨b, 0, none⟩ Tryz.underlying142 Tryz.underlying157 hj (by rw [hjs]; decide) hsh (Nat.zero_lt_succ 1)]
    simp only [Result.andThen]
    rw [Oper.upon_value]
    go_wp2_with fail
    rw [run_callFunc_extern Tryz.func135 (by kernel_rfl) (by kernel_rfl) (by kernel_rfl) (e := Extern.AbiNoEscape.same) (by kernel_rfl)]
    rw [Lib.run_noEscape]
    simp only [Result.andThen]
    rw [Oper.upon_value]
    go_wp2_with fail
    rw [Lib.run_from_unsafe w ⟨b, 0, none⟩ Tryz.underlying157 Tryz.underlying142 hj hsh X.liesBuilder]
    simp only [Result.andThen]
    rw [Oper.upon_value]
    go_wp2_with fail
    go_end0
    exact ⟨rfl, h.used _, (Below.refl B w).setCell (p := ⟨b, 0, none⟩) h.1 _⟩
  · have c0 := h.cell0
    go_enter Tryz.func125, Tryz.ntmps125
    go_wp2_with fail
    rw [Lib.run_neq_ptr_same w _ Tryz.underlying142 hj]
    go_wp2_with fail
    go_end0
    exact ⟨rfl, h, Below.refl B _⟩

set_option maxHeartbeats 2000000 in
set_option maxRecDepth 100000 in
/-- (*strings.Builder).WriteString. -/
theorem writeString_any (B b : Nat) (cs : List Value) (s : ByteArray) (w : World) (h : Lib.IsBuilderF 144 5 B b cs w) (hlen : cs.length + s.size ≤ 140737488355328) (hBw : B ≤ w.heap.size) :
    Calls Tryz.prog 117 #[.pointer (some ⟨b, 0, none⟩), .string s] w fun e w' => e = .returned (.tuple #[.int .i64 s.size, .nilIface]) ∧ (Lib.IsBuilderF 144 5 B b (cs ++ Lib.strCells s) w' ∧ Below B w w') := by
  have X : Builder.Extra Tryz.prog Tryz.lays169_ren := Tryz.Builder_Extra_169
  obtain ⟨i0, hi, hz0, hz1, hz2⟩ := info_parts X.infoByte
  go_enter Tryz.func117, Tryz.ntmps117
  go_wp2_with fail
  refine (copyCheck_any B b cs _ h).mono ?_
  rintro e w1 ⟨rfl, h1, hb1⟩
  obtain ⟨hB, v, hbk, hown, hne⟩ := h1
  have c0 : w1.cell? ⟨b, 0, none⟩ = some (.pointer (some ⟨b, 0, none⟩)) := by rw [Lib.cell_of_heap hbk]; rfl
  have c1 : w1.cell? ⟨b, 1, none⟩ = some v := by rw [Lib.cell_of_heap hbk]; rfl
  go_wp2_with (at_builtin; refine Lib.wpList_append_own_stringF _ rfl _ _ 117 9 rfl B 5 i0 Tryz.underlying117 Tryz.underlying9 hi hz0 hz1 hz2 _ _ _ rfl hown s rfl ?c3 ?c4 ?c5 ?_)
  case c3 => unfold maxLen; omega
  case c4 => omega
  case c5 => have := hb1.size; omega
  intro v' w2 hown' hgrow _
  have hlt : b < w1.heap.size := box_lt hbk
  have hb2 : w2.heap[b]? = some (.cells #[.pointer (some ⟨b, 0, none⟩), v] 144 (0, 0)) := by
    rw [hgrow.block b hlt (fun e => hne e.symm)]
    exact hbk
  have d0 : w2.cell? ⟨b, 0, none⟩ = some (.pointer (some ⟨b, 0, none⟩)) := by rw [Lib.cell_of_heap hb2]; rfl
  have d1 : w2.cell? ⟨b, 1, none⟩ = some v := by rw [Lib.cell_of_heap hb2]; rfl
  have f1 : w2.frozen? ⟨b, 1, none⟩ = false := Lib.frozen_of_heap hb2 1
  obtain ⟨ao, n', cap, rfl⟩ : ∃ ao n' cap, v' = .slice ao n' cap := by
    rcases hown'.2 with ⟨hv, _⟩ | ⟨g, cap, cur, fz, hv, _⟩
    · exact ⟨_, _, _, hv⟩
    · exact ⟨_, _, _, hv⟩
  go_wp2_with fail
  go_ret2
  refine ⟨rfl, .inr ?_, ?_⟩
  · exact Lib.BuilderAtF.put (T := 144) (e := 5) hB hb2 (bs' := cs ++ Lib.strCells s) (by simpa [Lib.strCells_length] using hown') X.neB5
  · exact (hb1.grown hgrow (by have := hb1.size; omega) (fun k hk => (hown.lt k hk).1)).setCell (p := ⟨b, 1, none⟩) hB _
end Go.Proofs.YtjmkodkechahdaaGreatDoor
/- Contracts of package wire: lists. -/
set_option linter.unusedSimpArgs false
set_option linter.unusedVariables false
namespace Go.Proofs.YtjmkodkechahdaaGreatDoor
open Go.RowKit

def intE (n : Int) : List Value := [.int .i64 n]
def strE (l : List UInt8) : List Value := [.string (bs l)]
theorem rd_int {w : World} {A : Option Addr} {xs : List Int} {k : Nat} (h : RdL 1 intE w w.heap.size A xs) (hk : k < xs.length) : ∃ b off, A = some ⟨b, off, none⟩ ∧ w.cell? ⟨b, off + k, none⟩ = some (.int .i64 xs[k]) := by
  obtain ⟨b, off, e, hb, hc⟩ := h.at_ hk
  exact ⟨b, off, e, by simpa using hc 0 _ rfl⟩
theorem rd_str {w : World} {A : Option Addr} {xs : List (List UInt8)} {k : Nat} (h : RdL 1 strE w w.heap.size A xs) (hk : k < xs.length) : ∃ b off, A = some ⟨b, off, none⟩ ∧ w.cell? ⟨b, off + k, none⟩ = some (.string (bs xs[k])) := by
  obtain ⟨b, off, e, hb, hc⟩ := h.at_ hk
  exact ⟨b, off, e, by simpa using hc 0 _ rfl⟩

/-- The builder in block b (of the call's own from B on) holds the bytes l. -/
def Bld (B b : Nat) (l : List UInt8) (w : World) : Prop := Lib.IsBuilderF 144 5 B b (Lib.byteCells l) w
theorem strCells_bs (l : List UInt8) : Lib.strCells (bs l) = Lib.byteCells l := by simp [Lib.strCells, Lib.byteCells, bs]
theorem Bld.now {B b : Nat} {l : List UInt8} {w w' : World} (h : Bld B b l w) (hb : Below w.heap.size w w') : Bld B b l w' := by
  have one : ∀ p, Lib.BuilderAtF 144 5 B b p (Lib.byteCells l) w → Lib.BuilderAtF 144 5 B b p (Lib.byteCells l) w' := by
    rintro p ⟨hB, v, hv, hown, hne⟩
    refine ⟨hB, v, (hb.block _ (box_lt hv)).trans hv, hown.kept (grown_of_below hb none) ?_, hne⟩
    cases h : v.ownBlock with
    | none => exact .inl rfl
    | some k => exact .inr (by simp)
  rcases h with h | h
  · exact .inl (one _ h)
  · exact .inr (one _ h)
theorem bld_write {B b : Nat} {l m : List UInt8} {w : World} (h : Bld B b l w) (hlen : l.length + m.length ≤ 140737488355328) (hBw : B ≤ w.heap.size) :
    Calls Tryz.prog 117 #[.pointer (some ⟨b, 0, none⟩), .string (bs m)] w fun e w' => e = .returned (.tuple #[.int .i64 m.length, .nilIface]) ∧ Bld B b (l ++ m) w' ∧ Below B w w' := by
  refine (writeString_any B b _ (bs m) w h (by rw [Lib.byteCells_length, bs_size]; omega) hBw).mono ?_
  rintro e w' ⟨rfl, h1, h2⟩
  refine ⟨by rw [bs_size], ?_, h2⟩
  unfold Bld
  rw [Lib.byteCells_append, ← strCells_bs m]
  exact h1
theorem bld_string {B b : Nat} {l : List UInt8} {w : World} (h : Bld B b l w) (hBw : B ≤ w.heap.size) :
    Calls Tryz.prog 118 #[.pointer (some ⟨b, 0, none⟩)] w fun e w' => e = .returned (.string (bs l)) ∧ Bld B b l w' ∧ Below B w w' := by
  refine (Tryz.Builder_String_any_k B b l w h hBw).mono ?_
  rintro e w' ⟨rfl, h1, h2, _⟩
  exact ⟨rfl, h1, h2⟩
theorem bld_new (w : World) : Bld w.heap.size w.heap.size [] (w.alloc (.cells #[.pointer none, .slice none 0 0] 144)) :=
  .of (Lib.fresh_isBuilder 144 5 w)

theorem flat_succ {T : Type} (one : T → List UInt8) (xs : List T) (k : Nat) (hk : k < xs.length) : (xs.take (k + 1)).flatMap one = (xs.take k).flatMap one ++ one xs[k] := by
  rw [List.take_succ_eq_append_getElem hk, List.flatMap_append]; simp
theorem flat_le {T : Type} (one : T → List UInt8) (xs : List T) (k : Nat) : ((xs.take k).flatMap one).length ≤ (xs.flatMap one).length := by
  conv => rhs; rw [← List.take_append_drop k xs, List.flatMap_append, List.length_append]
  omega

theorem flat_bound {T : Type} (one : T → List UInt8) (m : Nat) : ∀ xs : List T, (∀ x ∈ xs, (one x).length ≤ m) → (xs.flatMap one).length ≤ xs.length * m
  | [], _ => by simp
  | x :: r, h => by
    have h1 := h x (by simp)
    have h2 := flat_bound one m r (fun y hy => h y (by simp [hy]))
    simp only [List.flatMap_cons, List.length_append, List.length_cons, Nat.add_mul]
    omega

set_option maxHeartbeats 1000000 in
theorem listS_any {B : Nat} (xs : List (List UInt8)) (A : Option Addr) (c : Nat) (w : World) (hV : Vs B w) (hr : RdL 1 strE w w.heap.size A xs) (hlen : (xs.flatMap encT).length ≤ 1000000000000) (hx : ∀ x ∈ xs, x.length ≤ 1000000000000) (hn : xs.length ≤ 1000000000000) :
    Calls Tryz.prog 108 #[.slice A xs.length c, .func (.func 109) #[] #[]] w fun e w' => e = .returned (.string (bs (encL encT xs))) ∧ Below w.heap.size w w' := by
  have hli := Lib.itoa_length_le xs.length (by omega) (by omega)
  have HV := Lib.hid hV
  have HR := Lib.hid hr
  have HX := Lib.hid hx
  have HF := Lib.hid (flat_le encT xs)
  have HL := Lib.hid hlen
  clear hr hx hlen
  go_enter Tryz.func108, Tryz.ntmps108
  go_wp2_with fail
  have hB0 := bld_new w
  have hw0 := (Below.refl w.heap.size w).alloc (Nat.le_refl _) (.cells #[.pointer none, .slice none 0 0] 144)
  obtain ⟨w0, hw0e⟩ : ∃ x, x = w.alloc (.cells #[.pointer none, .slice none 0 0] 144) := ⟨_, rfl⟩
  rw [← hw0e] at hB0 hw0 ⊢
  clear hw0e
  refine (itoa_any xs.length w0 (HV.out.on (hw0.mono HV.out.le)) ⟨by omega, by omega⟩).mono ?_
  rintro e w1 ⟨rfl, hb1⟩
  have hB1 := Lib.hid (hB0.now hb1)
  have hw1 := Lib.hid (hw0.trans (hb1.mono hw0.size))
  clear hB0 hw0 hb1
  go_wp2_with (first
      | ((with_reducible show wpList _ _ _ (Oper.mk _ (Op.binOp .add 9 _ _ _) _ _ _ _ :: _) _ _); refine wp_cat rfl rfl Tryz.underlying9 rfl rfl (by first | omega | (simp; done) | (simp; omega)) ?_)
      | fail)
  refine (bld_write hB1.out (by simp; omega) hw1.out.size).mono ?_
  rintro e w2 ⟨rfl, hB2, hb2⟩
  have HB2 := Lib.hid hB2
  have HW2 := Lib.hid (hw1.out.trans hb2)
  clear hB1 hw1 hB2 hb2
  go_wp2_with fail
  go_loopw [7, 15] (fun _ i wr => ∃ k : Nat, k ≤ xs.length ∧ i = .int .i64 k ∧ Bld w.heap.size w.heap.size ((Lib.itoa xs.length ++ [91]) ++ (xs.take k).flatMap encT) wr ∧ Below w.heap.size w wr) (fun _ i _ => xs.length - (intOf i).toNat)
  case atStart => exact ⟨0, Nat.zero_le _, rfl, by simpa using HB2.out, HW2.out⟩
  case round =>
    obtain ⟨k, hk, rfl, hbd, hb⟩ := hrel
    have HB := Lib.hid hb
    have HD := Lib.hid hbd
    clear hbd HB2 HW2
    by_cases hlt : k < xs.length
    · obtain ⟨b, off, hA, hc⟩ := rd_str (HR.out.now hb) hlt
      subst hA
      have HXk := Lib.hid (HX.out _ (List.getElem_mem hlt))
      have HSt := Lib.hid (flat_succ encT xs k hlt)
      generalize xs[k] = x at *
      clear hb
      go_wp2_with fail
      refine (wText_any x _ (HV.out.on (HB.out.mono HV.out.le)) HXk.out).mono ?_
      rintro e w3 ⟨rfl, hb3⟩
      have HD3 := Lib.hid (HD.out.now hb3)
      have HB3 := Lib.hid (HB.out.trans (hb3.mono HB.out.size))
      clear hb3
      go_wp2_with fail
      refine (bld_write HD3.out (by have := HF.out (k + 1); have := HL.out; rw [HSt.out] at *; simp only [List.length_append, List.length_cons, List.length_nil] at *; omega) HB3.out.size).mono ?_
      rintro e w4 ⟨rfl, hB4, hb4⟩
      have HB4 := Lib.hid hB4
      have HW4 := Lib.hid (HB3.out.trans hb4)
      clear hB4 hb4
      go_wp2_with fail
      go_roundw
      case rel => exact ⟨k + 1, by omega, by go_num, by rw [HSt.out, ← List.append_assoc]; exact HB4.out, HW4.out⟩
      case measure => simp [intOf]; omega
    · have hke : xs.take k = xs := List.take_of_length_le (by omega)
      have hD2 := HD.out
      rw [hke] at hD2
      have HD2 := Lib.hid hD2
      clear hD2 HD hke
      go_wp2_with fail
      refine (bld_string HD2.out HB.out.size).mono ?_
      rintro e w5 ⟨rfl, hB5, hb5⟩
      have HW5 := Lib.hid (HB.out.trans hb5)
      have hl2 := HL.out
      clear hB5 hb5
      go_wp2_with (first
        | ((with_reducible show wpList _ _ _ (Oper.mk _ (Op.binOp .add 9 _ _ _) _ _ _ _ :: _) _ _); refine wp_cat rfl rfl Tryz.underlying9 rfl rfl (by simp only [List.length_append, List.length_cons, List.length_nil]; omega) ?_)
        | fail)
      go_ret
      exact ⟨ret_str (by simp [encL]), HW5.out⟩

/-- The bytes of a list of strings. -/
def tot (xs : List (List UInt8)) : Nat := (xs.map List.length).sum
theorem tot_le {xs : List (List UInt8)} {x : List UInt8} (h : x ∈ xs) : x.length ≤ tot xs := by
  induction xs with
  | nil => cases h
  | cons y r ih =>
    rcases List.mem_cons.1 h with rfl | h
    · simp [tot]
    · have := ih h
      simp only [tot, List.map_cons, List.sum_cons] at *
      omega
theorem flat_tot : ∀ xs : List (List UInt8), (∀ x ∈ xs, InInt x.length) → (xs.flatMap encT).length ≤ 23 * xs.length + tot xs
  | [], _ => by simp
  | x :: r, h => by
    have h1 := encT_len x (h x (by simp))
    have h2 := flat_tot r (fun y hy => h y (by simp [hy]))
    simp only [List.flatMap_cons, List.length_append, List.length_cons, tot, List.map_cons, List.sum_cons] at *
    omega
theorem wTexts_any {B : Nat} (xs : List (List UInt8)) (A : Option Addr) (c : Nat) (w : World) (hV : Vs B w) (hr : RdL 1 strE w w.heap.size A xs) (hx : tot xs ≤ 10000000000) (hn : xs.length ≤ 10000000000) :
    Calls Tryz.prog 90 #[.slice A xs.length c] w fun e w' => e = .returned (.string (bs (encL encT xs))) ∧ Below w.heap.size w w' := by
  have hb : ∀ x ∈ xs, x.length ≤ 10000000000 := fun x h => Nat.le_trans (tot_le h) hx
  have hlen : (xs.flatMap encT).length ≤ 1000000000000 := by
    have h := flat_tot xs (fun x h => ⟨by omega, by have := hb x h; omega⟩)
    omega
  go_enter Tryz.func90, Tryz.ntmps90
  go_wp2_with fail
  refine (listS_any xs A c w hV hr hlen (fun x h => by have := hb x h; omega) (by omega)).mono ?_
  rintro e w1 ⟨rfl, hb1⟩
  go_wp2_with fail
  go_ret
  exact ⟨rfl, hb1⟩
end Go.Proofs.YtjmkodkechahdaaGreatDoor
/- Lists of strings beside objects in memory. -/
set_option linter.unusedSimpArgs false
set_option linter.unusedVariables false
namespace Go.Proofs.YtjmkodkechahdaaGreatDoor
open Go.RowKit

/-- A list that the object does not change. -/
structure RdK (D : Ob) (w : World) (A : Option Addr) (xs : List (List UInt8)) : Prop where
  rd : RdL 1 strE w w.heap.size A xs
  ap : xs ≠ [] → ∀ i, slBlk A = some i → ¬ D.own i
section
variable {D D2 : Ob} {w w' : World} {A : Option Addr} {xs : List (List UInt8)}
theorem rd_blk (h : RdL 1 strE w w.heap.size A xs) (hne : xs ≠ []) {i : Nat} (hi : slBlk A = some i) : i < w.heap.size := by
  have hl : 0 < xs.length := List.length_pos_iff.2 hne
  obtain ⟨b, off, e, hb, _⟩ := h.at_ hl
  rw [e] at hi
  have := Option.some.inj hi
  simp only at this
  omega
theorem RdK.nil_ : RdK D w none [] := ⟨fun k x hx => by simp at hx, fun h => absurd rfl h⟩
theorem RdK.upd (h : RdK D w A xs) (u : OUpd D D2 w w') : RdK D2 w' A xs := by
  by_cases hne : xs = []
  · subst hne
    exact ⟨fun k x hx => by simp at hx, fun h => absurd rfl h⟩
  · refine ⟨h.rd.turn (fun i hi hl => u.turn.block i hl (h.ap hne i hi)) u.turn.size, fun _ i hi ho => ?_⟩
    rcases u.own i ho with h1 | h1
    · exact h.ap hne i hi h1
    · have := rd_blk h.rd hne hi; omega
theorem RdK.now (h : RdK D w A xs) (hb : Below w.heap.size w w') : RdK D w' A xs := ⟨h.rd.now hb, h.ap⟩
theorem RdK.fresh {D : Ob} (hd : D.ok w) (h : RdL 1 strE w' w'.heap.size A xs) (hA : ∀ i, slBlk A = some i → w.heap.size ≤ i) : RdK D w' A xs :=
  ⟨h, fun _ i hi ho => by have := D.lt w hd i (.inl ho); have := hA i hi; omega⟩
/-- Another object that owns no more. -/
theorem RdK.less (h : RdK D w A xs) (hD : ∀ i, D2.own i → D.own i) : RdK D2 w A xs := ⟨h.rd, fun hn i hi ho => h.ap hn i hi (hD i ho)⟩
end
/-! Lists that the call owns, as objects. -/
section
variable {T : Type} {sz : Nat} {enc : T → List Value}
def lsOb (e : TypeId) (sz : Nat) (enc : T → List Value) (A : Option Addr) (c : Nat) (xs : List T) : Ob where
  own i := slBlk A = some i
  see _ := False
  ok w := OwnL w 0 e sz enc A c xs
  lt w h i hi := hi.elim (fun hi => (h.blk_lt hi).2) (fun h => h.elim)
  frame w w' h hb _ := h.turn (fun i hi _ => hb i (.inl hi))
variable {w w5 : World} {e : TypeId} {A A2 : Option Addr} {c c2 : Nat} {xs ys : List T}
/-- What an append does to its list. -/
theorem OUpd.append (o : Obj) (hown : OwnL w5 0 e sz enc A2 c2 ys) (hg : (w.alloc o).grownBy w5 (slBlk A)) (hat : slBlk A2 = slBlk A ∨ slBlk A2 = some (w.alloc o).heap.size) :
    OUpd (lsOb e sz enc A c xs) (lsOb e sz enc A2 c2 ys) w w5 := by
  have hsz : (w.alloc o).heap.size = w.heap.size + 1 := by simp
  refine ⟨hown, ((Turn.refl (fun i => slBlk A = some i) w).alloc o).trans (Turn.grown (F := fun i => slBlk A = some i) hg (fun k hk => hk)) (fun i hi => .inl hi), fun i hi => ?_, fun _ h => h.elim⟩
  have hi' : slBlk A2 = some i := hi
  rcases hat with h | h
  · exact .inl (by show slBlk A = some i; rw [← h]; exact hi')
  · rw [hi', hsz] at h
    exact .inr (by have := Option.some.inj h; omega)
end
end Go.Proofs.YtjmkodkechahdaaGreatDoor
