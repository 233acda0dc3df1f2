/- Contracts of lingualaw01: small. -/
import Derived.Test.YtijknmocidggbaaDoorWrJ
namespace Go.Proofs.YtijknmocidggbaaDoor
open Go.RowKit

theorem num_c {B : Nat} (n : Int) (l : ByteArray) (hn : InInt n) (h : bs (encN n) = l) (w : World) (hV : Vs B w) :
    Calls Tryd.prog 11 #[.int .i64 n] w fun e w' => e = .returned (.string l) ∧ Below w.heap.size w w' := h ▸ wNum_any n w hV hn
theorem int_c {B : Nat} (n : Int) (l : ByteArray) (hn : InInt n) (h : bs (encI n) = l) (w : World) (hV : Vs B w) :
    Calls Tryd.prog 13 #[.int .i64 n] w fun e w' => e = .returned (.string l) ∧ Below w.heap.size w w' := h ▸ wInt_any n w hV hn
theorem text_c {B : Nat} (s : ByteArray) (l : ByteArray) (hs : s.size ≤ 1000000) (h : bs (encT s.data.toList) = l) (w : World) (hV : Vs B w) :
    Calls Tryd.prog 15 #[.string s] w fun e w' => e = .returned (.string l) ∧ Below w.heap.size w w' := h ▸ wText_any s.data.toList w hV (by
      have : s.data.toList.length = s.size := by rw [Array.length_toList]; rfl
      omega)
theorem texts_nil {B : Nat} (w : World) (hV : Vs B w) :
    Calls Tryd.prog 19 #[.slice none 0 0] w fun e w' => e = .returned (.string ⟨#[48, 91, 93]⟩) ∧ Below w.heap.size w w' :=
  (wTexts_any [] none 0 w hV RdL.nil_ (by simp [tot]) (by simp)).mono fun e w' ⟨he, hb⟩ => ⟨he.trans (by
    have : encL encT [] = [48, 91, 93] := by simp [encL, Lib.itoa, Lib.decDigits]
    rw [this]; rfl), hb⟩
theorem nums_c {B : Nat} (xs : List Int) (l : ByteArray) (A : Option Addr) (c : Nat) (hx : ∀ x ∈ xs, InInt x) (hn : xs.length ≤ 10) (h : bs (encL encI xs) = l) (w : World) (hV : Vs B w) (hr : RdL 1 intE w w.heap.size A xs) :
    Calls Tryd.prog 17 #[.slice A xs.length c] w fun e w' => e = .returned (.string l) ∧ Below w.heap.size w w' := h ▸ wNums_any xs A c w hV hr hx (by omega)
theorem RdL.block {T : Type} {sz : Nat} {enc : T → List Value} (L : Lay sz enc) (w : World) (xs : List T) (cs : Array Value) (t : TypeId) (h : cs.toList = xs.flatMap enc) (b : Nat) (hb : b = w.heap.size) :
    RdL sz enc (w.alloc (.cells cs t)) (w.alloc (.cells cs t)).heap.size (some ⟨b, 0, none⟩) xs := by
  subst hb
  intro k x hx
  refine ⟨_, _, rfl, by simp, fun j v hj => ?_⟩
  have hg := flat_get L xs k j x v hx hj
  rw [← h] at hg
  unfold World.cell?
  simp only [heap_alloc_new]
  simpa using hg
theorem num007 : rNum 59 0 ⟨[48, 48, 55, 59], false⟩ = (0, .fail) := by
  have h1 : Lib.indexByte ([48, 48, 55, 59] : List UInt8) 59 = 3 := by decide
  have h2 : Lib.atoiAll [48, 48, 55] = .ok 7 := by decide
  have h3 : Lib.itoa 7 = [55] := by simp [Lib.itoa, Lib.decDigits]
  simp [rNum, h1, h2, h3]
set_option maxRecDepth 100000 in
set_option maxHeartbeats 2000000 in
theorem small_any {B : Nat} (w : World) (hV : Vs B w) :
    Calls Tryd.prog 9 #[] w fun e w' => e = .returned (.bool true) ∧ Below w.heap.size w w' := by
  have HV0 := Lib.hid hV
  have HB0 := Lib.hid (Below.refl w.heap.size w)
  clear hV
  go_enter Tryd.func9, Tryd.ntmps9
  go_wp2_with fail
  refine (num_c 0 ⟨#[48, 59]⟩ ⟨by decide, by decide⟩ (by simp [encN, encI, Lib.itoa, Lib.decDigits, bs]) _ HV0.out).mono ?_
  rintro e w1 ⟨rfl, hb1⟩
  have HV1 := Lib.hid (HV0.out.now hb1)
  have HB1 := Lib.hid (HB0.out.trans (hb1.mono HB0.out.size))
  clear hb1 HV0 HB0
  go_wp2_with fail
  refine (num_c 300 ⟨#[51, 48, 48, 59]⟩ ⟨by decide, by decide⟩ (by simp [encN, encI, Lib.itoa, Lib.decDigits, bs]) _ HV1.out).mono ?_
  rintro e w2 ⟨rfl, hb2⟩
  have HV2 := Lib.hid (HV1.out.now hb2)
  have HB2 := Lib.hid (HB1.out.trans (hb2.mono HB1.out.size))
  clear hb2 HV1 HB1
  go_wp2_with fail
  refine (num_c (-1) ⟨#[]⟩ ⟨by decide, by decide⟩ (by simp [encN, encI, Lib.itoa, Lib.decDigits, bs]) _ HV2.out).mono ?_
  rintro e w3 ⟨rfl, hb3⟩
  have HV3 := Lib.hid (HV2.out.now hb3)
  have HB3 := Lib.hid (HB2.out.trans (hb3.mono HB2.out.size))
  clear hb3 HV2 HB2
  go_wp2_with fail
  refine (int_c (-7) ⟨#[45, 55, 59]⟩ ⟨by decide, by decide⟩ (by simp [encN, encI, Lib.itoa, Lib.decDigits, bs]) _ HV3.out).mono ?_
  rintro e w4 ⟨rfl, hb4⟩
  have HV4 := Lib.hid (HV3.out.now hb4)
  have HB4 := Lib.hid (HB3.out.trans (hb4.mono HB3.out.size))
  clear hb4 HV3 HB3
  go_wp2_with fail
  refine (int_c 7 ⟨#[55, 59]⟩ ⟨by decide, by decide⟩ (by simp [encN, encI, Lib.itoa, Lib.decDigits, bs]) _ HV4.out).mono ?_
  rintro e w5 ⟨rfl, hb5⟩
  have HV5 := Lib.hid (HV4.out.now hb5)
  have HB5 := Lib.hid (HB4.out.trans (hb5.mono HB4.out.size))
  clear hb5 HV4 HB4
  go_wp2_with fail
  refine (text_c ⟨#[97, 44, 98]⟩ ⟨#[51, 58, 97, 44, 98, 44]⟩ (by decide) (by simp [encT, Lib.itoa, Lib.decDigits, bs]) _ HV5.out).mono ?_
  rintro e w6 ⟨rfl, hb6⟩
  have HV6 := Lib.hid (HV5.out.now hb6)
  have HB6 := Lib.hid (HB5.out.trans (hb6.mono HB5.out.size))
  clear hb6 HV5 HB5
  go_wp2_with fail
  have hb7 : Below w6.heap.size w6 (w6.alloc (.cells #[.int .i64 1, .int .i64 (-1)] 3)) := (Below.refl _ _).alloc (Nat.le_refl _) _
  have hr7 := RdL.block intLay w6 [1, -1] #[.int .i64 1, .int .i64 (-1)] 3 rfl w6.heap.size rfl
  refine (nums_c [1, -1] ⟨#[50, 91, 49, 59, 45, 49, 59, 93]⟩ (some ⟨w6.heap.size, 0, none⟩) 2 (by intro x hx; simp at hx; rcases hx with rfl | rfl <;> exact ⟨by decide, by decide⟩) (by decide) (by simp [encL, encI, Lib.itoa, Lib.decDigits, bs]) _ (HV6.out.now hb7) hr7).mono ?_
  rintro e w8 ⟨rfl, hb8⟩
  have HV8 := Lib.hid ((HV6.out.now hb7).now hb8)
  have HB8 := Lib.hid (HB6.out.trans ((hb7.trans (hb8.mono hb7.size)).mono HB6.out.size))
  clear hb7 hr7 hb8 HV6 HB6
  go_wp2_with fail
  refine (texts_nil _ HV8.out).mono ?_
  rintro e w9 ⟨rfl, hb9⟩
  have HV9 := Lib.hid (HV8.out.now hb9)
  have HB9 := Lib.hid (HB8.out.trans (hb9.mono HB8.out.size))
  clear hb9 HV8 HB8
  go_wp2_with fail
  refine (open_any [48, 48, 55, 59] _).mono ?_
  rintro e w10 ⟨rfl, hr10, hb10⟩
  have HV10 := Lib.hid (HV9.out.now hb10)
  have HB10 := Lib.hid (HB9.out.trans (hb10.mono HB9.out.size))
  have HR10 := Lib.hid hr10
  have HZ := Lib.hid (show B ≤ w9.heap.size from HV9.out.le)
  have HZ2 := Lib.hid (show w.heap.size ≤ w9.heap.size from HB9.out.size)
  generalize w9.heap.size = b at *
  clear hb10 hr10 HV9 HB9
  go_wp2_with fail
  refine (rdNum_any b ⟨[48, 48, 55, 59], false⟩ _ HV10.out HZ.out HR10.out (by decide)).mono ?_
  rw [num007]
  rintro e w11 ⟨rfl, hr11, ht11⟩
  have HR11 := Lib.hid hr11
  have HB11 := Lib.hid (HB10.out.trans (ht11.to_below HB10.out.size (fun i hi => by cases hi; exact HZ2.out)))
  clear hr11 ht11 HR10 HB10 HV10
  go_wp2_with fail
  refine (left_any b .fail _ HR11.out).mono ?_
  rintro e w12 ⟨rfl, rfl⟩
  go_wp2_with fail
  refine (done_any b .fail _ HR11.out).mono ?_
  rintro e w13 ⟨rfl, rfl⟩
  go_wp2_with fail
  go_ret
  exact ⟨rfl, HB11.out⟩
end Go.Proofs.YtijknmocidggbaaDoor
