/- Contract of lingualaw10.small. -/
import Derived.Test.YtpcfmmiiokbjbaaDoorWdFind
import Derived.Test.YtpcfmmiiokbjbaaDoorWdDig
import Derived.Test.YtpcfmmiiokbjbaaDoorWdH
import Derived.Test.YtpcfmmiiokbjbaaDoorWdLine
namespace Go.Proofs.YtpcfmmiiokbjbaaDoor
open Go.RowKit

theorem RdL.block {T : Type} {sz : Nat} {enc : T → List Value} (L : Lay sz enc) (w : World) (xs : List T) (cs : Array Value) (t : TypeId) (h : cs.toList = xs.flatMap enc) (b : Nat) (hb : b = w.heap.size) :
    RdL sz enc (w.alloc (.cells cs t)) (w.alloc (.cells cs t)).heap.size (some ⟨b, 0, none⟩) xs := by
  subst hb
  intro k x hx
  refine ⟨_, _, rfl, by simp, fun j v hj => ?_⟩
  have hg := flat_get L xs k j x v hx hj
  rw [← h] at hg
  unfold World.cell?
  simp only [heap_alloc_new]
  simpa using hg
theorem words_c (s : ByteArray) (ws : List (List UInt8)) (hs : s.size ≤ 1000000) (h : wordsF s.data.toList = ws) (w : World) :
    Calls Tryd.prog 10 #[.string s] w fun x w' => ∃ A c, x = .returned (.slice A ws.length c) ∧ RdL 1 strE w' w'.heap.size A ws ∧ Below w.heap.size w w' :=
  (words_any s.data.toList w (by have : s.data.toList.length = s.size := by rw [Array.length_toList]; rfl
                                 omega)).mono fun x w' ⟨A, c, hx, ho, hb⟩ => ⟨A, c, h ▸ hx, h ▸ ho.rd strLay, hb⟩
theorem parts_c (s : ByteArray) (size most : Int) (ws : List (List UInt8)) (hs : s.size ≤ 1000) (h1 : InInt size) (h2 : InInt most) (h : partsF s.data.toList size most = ws) (w : World) :
    Calls Tryd.prog 12 #[.string s, .int .i64 size, .int .i64 most] w fun x w' => ∃ A c, x = .returned (.slice A ws.length c) ∧ RdL 1 strE w' w'.heap.size A ws ∧ Below w.heap.size w w' :=
  (parts_any s.data.toList size most w (by have : s.data.toList.length = s.size := by rw [Array.length_toList]; rfl
                                           omega) h1 h2).mono fun x w' ⟨A, c, hx, ho, hb⟩ => ⟨A, c, h ▸ hx, h ▸ ho.rd strLay, hb⟩
theorem line_c (s : ByteArray) (most : Int) (t : List UInt8) (hs : s.size ≤ 1000) (h2 : InInt most) (h : lineF s.data.toList most = t) (w : World) :
    Calls Tryd.prog 14 #[.string s, .int .i64 most] w fun x w' => x = .returned (.string (bs t)) ∧ Below w.heap.size w w' :=
  h ▸ line_any s.data.toList most w (by have : s.data.toList.length = s.size := by rw [Array.length_toList]; rfl
                                        omega) h2
theorem sm_words : wordsF [68, 111, 110, 39, 116, 32, 103, 111, 44, 32, 50, 110, 100, 33] = [[100, 111, 110], [116], [103, 111], [50, 110, 100]] := by decide
theorem sm_p1 : partsF [97, 98, 99, 100, 101, 102, 103] 3 4 = [[97, 98, 99], [100, 101, 102], [103]] := by decide
theorem sm_p2 : partsF [97, 98, 99, 100, 101, 102, 103] 3 2 = [[97, 98, 99], [100, 101, 43]] := by decide
theorem sm_p3 : partsF [] 3 2 = [[]] := by decide
theorem sm_p4 : partsF [97] 1 1 = [] := by decide
theorem sm_l1 : lineF [97, 98, 10, 99, 100] 9 = [97, 98] := by decide
theorem sm_l2 : lineF [97, 98, 99] 2 = [97, 98] := by decide
theorem sm_f : findF [[97, 32, 98], [66], [97, 98]] [98] = [0, 1] := by decide
theorem sm_d : digestF [[104, 105], [], [97, 10, 98]] = [48, 58, 32, 104, 105, 10, 50, 58, 32, 97, 10] := by
  have h0 : Lib.itoa 0 = [48] := by simp [Lib.itoa, Lib.decDigits]
  have h2 : Lib.itoa 2 = [50] := by simp [Lib.itoa, Lib.decDigits]
  simp [digestF, digL, digOne, lineF, h0, h2]
set_option maxRecDepth 100000 in
set_option maxHeartbeats 4000000 in
theorem small10_any {B : Nat} (w : World) (hV : Vs B w) :
    Calls Tryd.prog 7 #[] w fun e w' => e = .returned (.bool true) ∧ Below w.heap.size w w' := by
  have HV := Lib.hid hV
  have HBx0 := Lib.hid (Below.refl w.heap.size w)
  clear hV
  go_enter Tryd.func7, Tryd.ntmps7
  go_wp2_with fail
  refine (words_c ⟨#[68, 111, 110, 39, 116, 32, 103, 111, 44, 32, 50, 110, 100, 33]⟩ [[100, 111, 110], [116], [103, 111], [50, 110, 100]] (by decide) sm_words _).mono ?_
  rintro e wa ⟨A1, c1, rfl, hr, hb⟩
  have HR := Lib.hid hr
  have HB1 := Lib.hid (HBx0.out.trans (hb.mono HBx0.out.size))
  clear hb hr HBx0
  go_wp2_with fail
  refine (sameW_any [[100, 111, 110], [116], [103, 111], [50, 110, 100]] [[100, 111, 110], [116], [103, 111], [50, 110, 100]] A1 _ c1 _ _ (HR.out.now ((Below.refl _ _).alloc (Nat.le_refl _) _)) (RdL.block strLay _ _ _ _ rfl _ rfl) (by decide) (by decide)).mono ?_
  rintro e wb ⟨rfl, hb⟩
  rw [show (([[100, 111, 110], [116], [103, 111], [50, 110, 100]] : List (List UInt8)) == [[100, 111, 110], [116], [103, 111], [50, 110, 100]]) = true by decide]
  have HBx1 := Lib.hid ((HB1.out.alloc HB1.out.size _).trans (hb.mono (Nat.le_trans HB1.out.size (by simp))))
  clear hb HR HB1
  go_wp2_with fail
  refine (parts_c ⟨#[97, 98, 99, 100, 101, 102, 103]⟩ 3 4 [[97, 98, 99], [100, 101, 102], [103]] (by decide) ⟨by decide, by decide⟩ ⟨by decide, by decide⟩ sm_p1 _).mono ?_
  rintro e wa ⟨A1, c1, rfl, hr, hb⟩
  have HR := Lib.hid hr
  have HB2 := Lib.hid (HBx1.out.trans (hb.mono HBx1.out.size))
  clear hb hr HBx1
  go_wp2_with fail
  refine (sameW_any [[97, 98, 99], [100, 101, 102], [103]] [[97, 98, 99], [100, 101, 102], [103]] A1 _ c1 _ _ (HR.out.now ((Below.refl _ _).alloc (Nat.le_refl _) _)) (RdL.block strLay _ _ _ _ rfl _ rfl) (by decide) (by decide)).mono ?_
  rintro e wb ⟨rfl, hb⟩
  rw [show (([[97, 98, 99], [100, 101, 102], [103]] : List (List UInt8)) == [[97, 98, 99], [100, 101, 102], [103]]) = true by decide]
  have HBx2 := Lib.hid ((HB2.out.alloc HB2.out.size _).trans (hb.mono (Nat.le_trans HB2.out.size (by simp))))
  clear hb HR HB2
  go_wp2_with fail
  refine (parts_c ⟨#[97, 98, 99, 100, 101, 102, 103]⟩ 3 2 [[97, 98, 99], [100, 101, 43]] (by decide) ⟨by decide, by decide⟩ ⟨by decide, by decide⟩ sm_p2 _).mono ?_
  rintro e wa ⟨A1, c1, rfl, hr, hb⟩
  have HR := Lib.hid hr
  have HB3 := Lib.hid (HBx2.out.trans (hb.mono HBx2.out.size))
  clear hb hr HBx2
  go_wp2_with fail
  refine (sameW_any [[97, 98, 99], [100, 101, 43]] [[97, 98, 99], [100, 101, 43]] A1 _ c1 _ _ (HR.out.now ((Below.refl _ _).alloc (Nat.le_refl _) _)) (RdL.block strLay _ _ _ _ rfl _ rfl) (by decide) (by decide)).mono ?_
  rintro e wb ⟨rfl, hb⟩
  rw [show (([[97, 98, 99], [100, 101, 43]] : List (List UInt8)) == [[97, 98, 99], [100, 101, 43]]) = true by decide]
  have HBx3 := Lib.hid ((HB3.out.alloc HB3.out.size _).trans (hb.mono (Nat.le_trans HB3.out.size (by simp))))
  clear hb HR HB3
  go_wp2_with fail
  refine (parts_c ⟨#[]⟩ 3 2 [[]] (by decide) ⟨by decide, by decide⟩ ⟨by decide, by decide⟩ sm_p3 _).mono ?_
  rintro e wa ⟨A1, c1, rfl, hr, hb⟩
  have HR := Lib.hid hr
  have HB4 := Lib.hid (HBx3.out.trans (hb.mono HBx3.out.size))
  clear hb hr HBx3
  go_wp2_with fail
  refine (sameW_any [[]] [[]] A1 _ c1 _ _ (HR.out.now ((Below.refl _ _).alloc (Nat.le_refl _) _)) (RdL.block strLay _ _ _ _ rfl _ rfl) (by decide) (by decide)).mono ?_
  rintro e wb ⟨rfl, hb⟩
  rw [show (([[]] : List (List UInt8)) == [[]]) = true by decide]
  have HBx4 := Lib.hid ((HB4.out.alloc HB4.out.size _).trans (hb.mono (Nat.le_trans HB4.out.size (by simp))))
  clear hb HR HB4
  go_wp2_with fail
  refine (line_c ⟨#[97, 98, 10, 99, 100]⟩ 9 [97, 98] (by decide) ⟨by decide, by decide⟩ sm_l1 _).mono ?_
  rintro e wa ⟨rfl, hb⟩
  have HB5 := Lib.hid (HBx4.out.trans (hb.mono HBx4.out.size))
  clear hb HBx4
  have q1 : ((bs [97, 98]).toList == [97, 98]) = true := by rw [bs_toList]; decide
  go_wp2_with fail
  refine (line_c ⟨#[97, 98, 99]⟩ 2 [97, 98] (by decide) ⟨by decide, by decide⟩ sm_l2 _).mono ?_
  rintro e wc ⟨rfl, hb⟩
  have HB6 := Lib.hid (HB5.out.trans (hb.mono HB5.out.size))
  clear hb HB5
  go_wp2_with fail
  refine (find_any [[97, 32, 98], [66], [97, 98]] [98] _ 3 _ (RdL.block strLay _ _ _ _ rfl _ rfl) (by decide) (by decide) (by decide)).mono ?_
  rw [sm_f]
  rintro e wd ⟨A2, c2, rfl, ho, hb⟩
  have HB7 := Lib.hid ((HB6.out.alloc HB6.out.size _).trans (hb.mono (Nat.le_trans HB6.out.size (by simp))))
  have HR := Lib.hid (ho.rd intLay)
  clear hb ho HB6
  go_wp2_with fail
  refine (intsW_any [0, 1] [0, 1] A2 _ c2 _ _ (HR.out.now ((Below.refl _ _).alloc (Nat.le_refl _) _)) (RdL.block intLay _ _ _ _ rfl _ rfl) (by decide) (by decide)).mono ?_
  rintro e we ⟨rfl, hb⟩
  rw [show (([0, 1] : List Int) == [0, 1]) = true by decide]
  have HB8 := Lib.hid ((HB7.out.alloc HB7.out.size _).trans (hb.mono (Nat.le_trans HB7.out.size (by simp))))
  clear hb HR HB7
  go_wp2_with fail
  refine (digest_any (B := B) [[104, 105], [], [97, 10, 98]] _ 3 _ (HV.out.on ((HB8.out.alloc HB8.out.size _).mono HV.out.le)) (RdL.block strLay _ _ _ _ rfl _ rfl) (by decide) (by decide)).mono ?_
  rw [sm_d]
  rintro e wf ⟨rfl, hb⟩
  have HB9 := Lib.hid ((HB8.out.alloc HB8.out.size _).trans (hb.mono (Nat.le_trans HB8.out.size (by simp))))
  clear hb HB8
  have q2 : ((bs [48, 58, 32, 104, 105, 10, 50, 58, 32, 97, 10]).toList == [48, 58, 32, 104, 105, 10, 50, 58, 32, 97, 10]) = true := by rw [bs_toList]; decide
  go_wp2_with fail
  refine (parts_c ⟨#[97]⟩ 1 1 [] (by decide) ⟨by decide, by decide⟩ ⟨by decide, by decide⟩ sm_p4 _).mono ?_
  rintro e wg ⟨A3, c3, rfl, hr, hb⟩
  have HB10 := Lib.hid (HB9.out.trans (hb.mono HB9.out.size))
  clear hb HB9 hr
  go_wp2_with fail
  go_ret
  exact ⟨rfl, HB10.out⟩
end Go.Proofs.YtpcfmmiiokbjbaaDoor
