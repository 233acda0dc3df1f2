/- Contracts of package syntax: the tables, and the reader's rest. -/
import Derived.Test.YtnaejabgkfhlbaaDoorSyK
set_option linter.unusedSimpArgs false
set_option linter.unusedVariables false
namespace Go.Proofs.YtnaejabgkfhlbaaDoor
open Go.RowKit

/-- Strings in a block that was just made. -/
theorem tabS (w : World) (xs : List (List UInt8)) (cs : Array Value) (n : Nat) (hn : n = w.heap.size) (h : cs.toList = xs.map (fun l => Value.string (bs l))) : RdL 1 strE (w.alloc (.cells cs 9)) (w.alloc (.cells cs 9)).heap.size (some ⟨n, 0, none⟩) xs := by
  subst hn
  intro k x hx
  refine ⟨_, _, rfl, by simp, fun j v hj => ?_⟩
  have hj0 : j = 0 := by
    have := (List.getElem?_eq_some_iff.1 hj).1
    simp [strE] at this
    exact this
  subst hj0
  simp only [strE, List.getElem?_cons_zero, Option.some.injEq] at hj
  subst hj
  unfold World.cell?
  simp only [heap_alloc_new]
  have : cs.toList[k]? = some (.string (bs x)) := by rw [h, List.getElem?_map, hx]; rfl
  simpa using this
/-- A table's slice. -/
def TabOut (ws : List (List UInt8)) (w : World) (e : Ending) (w' : World) : Prop := e = .returned (.slice (some ⟨w.heap.size, 0, none⟩) ws.length ws.length) ∧ RdL 1 strE w' w'.heap.size (some ⟨w.heap.size, 0, none⟩) ws ∧ Below w.heap.size w w'
theorem noYes_any (w : World) : Calls Tryd.prog 27 #[] w (TabOut wNoYes w) := by
  go_enter Tryd.func27, Tryd.ntmps27
  go_wp2_with fail
  go_ret
  exact ⟨rfl, tabS w wNoYes _ _ rfl rfl, (Below.refl _ _).alloc (Nat.le_refl _) _⟩
theorem deletes_any (w : World) : Calls Tryd.prog 31 #[] w (TabOut wDeletes w) := by
  go_enter Tryd.func31, Tryd.ntmps31
  go_wp2_with fail
  go_ret
  exact ⟨rfl, tabS w wDeletes _ _ rfl rfl, (Below.refl _ _).alloc (Nat.le_refl _) _⟩
theorem threads_any (w : World) : Calls Tryd.prog 32 #[] w (TabOut wThreads w) := by
  go_enter Tryd.func32, Tryd.ntmps32
  go_wp2_with fail
  go_ret
  exact ⟨rfl, tabS w wThreads _ _ rfl rfl, (Below.refl _ _).alloc (Nat.le_refl _) _⟩
theorem joins_any (w : World) : Calls Tryd.prog 52 #[] w (TabOut wJoins w) := by
  go_enter Tryd.func52, Tryd.ntmps52
  go_wp2_with fail
  go_ret
  exact ⟨rfl, tabS w wJoins _ _ rfl rfl, (Below.refl _ _).alloc (Nat.le_refl _) _⟩
theorem receipts_any (w : World) : Calls Tryd.prog 53 #[] w (TabOut wReceipts w) := by
  go_enter Tryd.func53, Tryd.ntmps53
  go_wp2_with fail
  go_ret
  exact ⟨rfl, tabS w wReceipts _ _ rfl rfl, (Below.refl _ _).alloc (Nat.le_refl _) _⟩
theorem rYes_any (w : World) : Calls Tryd.prog 40 #[] w (TabOut wNoYes w) := by
  go_enter Tryd.func40, Tryd.ntmps40
  go_wp2_with fail
  go_ret
  exact ⟨rfl, tabS w wNoYes _ _ rfl rfl, (Below.refl _ _).alloc (Nat.le_refl _) _⟩
theorem rLevels_any (w : World) : Calls Tryd.prog 45 #[] w (TabOut wReceipts w) := by
  go_enter Tryd.func45, Tryd.ntmps45
  go_wp2_with fail
  go_ret
  exact ⟨rfl, tabS w wReceipts _ _ rfl rfl, (Below.refl _ _).alloc (Nat.le_refl _) _⟩
theorem PBox.any {p : Nat} {cs : Array Value} {w : World} (h : PBox p cs w) (j : Nat) (hj : j < cs.size) : ∃ v, w.cell? ⟨p, j, none⟩ = some v := ⟨_, h.c j _ (Array.getElem?_eq_getElem hj)⟩
theorem bndJ {α β : Type} (x : Jd α) (k : α → Jd β) (r : St) : opsJ.bnd x k r = k (x r).1 (x r).2 := rfl
theorem opsJ_want (ws : List (List UInt8)) : opsJ.want ws = wantJ ws := rfl
theorem opsJ_skip (ws : List (List UInt8)) : opsJ.skip ws = skipJ ws := rfl
theorem opsJ_num (n : Int) : opsJ.num n = numJ n := rfl
theorem opsJ_name : opsJ.name = nameJ := rfl
theorem opsJ_stop : opsJ.stop = stopJ := rfl
theorem retJ {α : Type} (a : α) (r : St) : opsJ.ret a r = (a, r) := rfl
-- kq CONTRACT | TERM | k | k0 : a call of the reader's method; nk, rk what it leaves, HKk, HE what is still to do
-- kst j | VALUE | k : a store into the profile's box
-- ktab CONTRACT | k | k0 : a table
theorem blk_ne {n b : Nat} (h : n ≠ b) : ∀ i, slBlk (some ⟨n, 0, none⟩ : Option Addr) = some i → i ≠ b := fun i hi => by
  have : n = i := by simpa [slBlk] using hi
  rw [← this]; exact h
theorem partTwo_any (b g : Nat) (r : St) (s x y : List UInt8) (w : World) (n : Nat) (hn : n = w.heap.size) (h : RdrAt b g r w) :
    Calls Tryd.prog 30 #[.pointer (some ⟨b, 0, none⟩), .string (bs s), .slice (some ⟨n, 0, none⟩) 2 2] (w.alloc (.cells #[.string (bs x), .string (bs y)] 9)) (RdrOut b g (.int .i64 (partG opsJ s [x, y] r).1) (partG opsJ s [x, y] r).2 w) := by
  subst hn
  exact (part_any b g r s [x, y] _ 2 _ (h.now ((Below.refl _ _).alloc (Nat.le_refl _) _)) (tabS w [x, y] _ _ rfl rfl) (blk_ne (Nat.ne_of_gt h.lt)) (by simp)).mono fun e w' ⟨h1, h2, h3⟩ => ⟨h1, h2, turn_one ((Turn.refl _ _).alloc _) h3⟩
/-- The profile's box behind the rest. -/
def restCs (cs : Array Value) (q : Rest) : Array Value := ((((((((cs.setIfInBounds 13 (.int .i64 q.join)).setIfInBounds 14 (.int .i64 q.history)).setIfInBounds 15 (.int .i64 q.remove)).setIfInBounds 16 (.int .i64 q.level)).setIfInBounds 17 (.bool q.batch)).setIfInBounds 18 (.int .i64 q.rate)).setIfInBounds 19 (.int .i64 q.down)).setIfInBounds 20 (.int .i64 q.window)).setIfInBounds 21 (.int .i64 q.keep)
theorem edit_no (r : St) (h : ¬ (wantJ wNoYes r).1 = 1) : editG opsJ r = ((0, 0), (wantJ wNoYes r).2) := by
  show (if (wantJ wNoYes r).1 = 1 then _ else opsJ.ret (0, 0)) (wantJ wNoYes r).2 = _
  rw [if_neg h]
  rfl
theorem edit_yes (r : St) (h : (wantJ wNoYes r).1 = 1) : editG opsJ r = (if (skipJ [kWithin] (wantJ wNoYes r).2).1 = 0 then ((2, (numJ 1 (skipJ [kWithin] (wantJ wNoYes r).2).2).1), (numJ 1 (skipJ [kWithin] (wantJ wNoYes r).2).2).2) else ((2, 0), (skipJ [kWithin] (wantJ wNoYes r).2).2)) := by
  show (if (wantJ wNoYes r).1 = 1 then opsJ.bnd (opsJ.skip [kWithin]) (fun k => if k = 0 then opsJ.bnd (opsJ.num 1) fun n => opsJ.ret (2, n) else opsJ.ret (2, 0)) else opsJ.ret (0, 0)) (wantJ wNoYes r).2 = _
  rw [if_pos h]
  show (if (skipJ [kWithin] (wantJ wNoYes r).2).1 = 0 then opsJ.bnd (opsJ.num 1) fun n => opsJ.ret (2, n) else opsJ.ret (2, 0)) (skipJ [kWithin] (wantJ wNoYes r).2).2 = _
  split <;> rfl
theorem keep_none (r : St) (h : ¬ (skipJ [kKeep] r).1 = 0) : keepG opsJ r = (0, (skipJ [kKeep] r).2) := by
  show (if (skipJ [kKeep] r).1 = 0 then _ else opsJ.ret 0) (skipJ [kKeep] r).2 = _
  rw [if_neg h]
  rfl
theorem keep_some (r : St) (h : (skipJ [kKeep] r).1 = 0) : keepG opsJ r = ((numJ 1 (skipJ [kKeep] r).2).1, (wantJ [kSemi] (numJ 1 (skipJ [kKeep] r).2).2).2) := by
  show (if (skipJ [kKeep] r).1 = 0 then _ else opsJ.ret 0) (skipJ [kKeep] r).2 = _
  rw [if_pos h]
  rfl
set_option maxRecDepth 100000 in
set_option maxHeartbeats 4000000 in
theorem rest_any (b g p : Nat) (r : St) (cs : Array Value) (w : World) (h : RdrAt b g r w) (hp : PBox p cs w) (hne : p ≠ b ∧ p ≠ g) (hsz : cs.size = 22) (h21 : cs[21]? = some (.int .i64 0)) :
    Calls Tryd.prog 34 #[.pointer (some ⟨b, 0, none⟩), .pointer (some ⟨p, 0, none⟩)] w fun e w' => e = .returned (.tuple #[]) ∧ KW b g p w (restG opsJ r).2 (restCs cs (restG opsJ r).1) w' := by
  have HK0 : Hid (KW b g p w r cs w) := Lib.hid ⟨h, hp, hne, Turn.refl _ _⟩
  have H21 := Lib.hid h21
  have hE : restG opsJ r = restG opsJ r := rfl
  conv at hE => rhs; unfold restG; simp only [opsJ_want, opsJ_skip, opsJ_num]
  have HE := Lib.hid hE
  clear h hp h21 hE
  go_enter Tryd.func34, Tryd.ntmps34
  go_wp2_with fail
  refine (joins_any _).mono ?_
  rintro e w1 ⟨rfl, hs1, hb1⟩
  have HK1 := Lib.hid (HK0.out.now hb1)
  have HS1 := Lib.hid hs1
  have hA1 := Nat.ne_of_gt HK0.out.rd.lt
  clear hs1 hb1 HK0
  go_wp2_with fail
  refine (part_any b g r kJoin wJoins _ _ _ HK1.out.rd HS1.out (blk_ne hA1) (by decide)).mono ?_
  rintro e w2 ⟨rfl, hr2, ht2⟩
  have HK2 := Lib.hid (HK1.out.call hr2 ht2)
  clear hr2 ht2 HK1
  have hE := HE.out
  clear HE
  rw [bndJ] at hE
  generalize partG opsJ kJoin wJoins r = q at *
  obtain ⟨n2, r2⟩ := q
  dsimp only at hE HK2 ⊢
  have HE := Lib.hid hE
  clear hE
  obtain ⟨v13, c13⟩ := HK2.out.box.any 13 (by first | (simp only [Array.size_setIfInBounds]; omega) | omega | (simp; done))
  have f13 := HK2.out.box.f 13
  have HK2 := Lib.hid (HK2.out.set 13 (.int .i64 n2))
  clear HS1
  go_wp2_with fail
  clear c13 f13
  refine (partTwo_any b g r2 kHistory kSince kAll _ _ (by simp) HK2.out.rd).mono ?_
  rintro e w3 ⟨rfl, hr3, ht3⟩
  have HK3 := Lib.hid (HK2.out.call hr3 ht3)
  clear hr3 ht3 HK2
  have hE := HE.out
  clear HE
  rw [bndJ] at hE
  generalize partG opsJ kHistory wHistory r2 = q at *
  obtain ⟨n3, r3⟩ := q
  dsimp only at hE HK3 ⊢
  have HE := Lib.hid hE
  clear hE
  obtain ⟨v14, c14⟩ := HK3.out.box.any 14 (by first | (simp only [Array.size_setIfInBounds]; omega) | omega | (simp; done))
  have f14 := HK3.out.box.f 14
  have HK3 := Lib.hid (HK3.out.set 14 (.int .i64 n3))
  go_wp2_with fail
  clear c14 f14
  refine (partTwo_any b g r3 kRemove kNow kKey _ _ (by simp) HK3.out.rd).mono ?_
  rintro e w4 ⟨rfl, hr4, ht4⟩
  have HK4 := Lib.hid (HK3.out.call hr4 ht4)
  clear hr4 ht4 HK3
  have hE := HE.out
  clear HE
  rw [bndJ] at hE
  generalize partG opsJ kRemove wRemove r3 = q at *
  obtain ⟨n4, r4⟩ := q
  dsimp only at hE HK4 ⊢
  have HE := Lib.hid hE
  clear hE
  obtain ⟨v15, c15⟩ := HK4.out.box.any 15 (by first | (simp only [Array.size_setIfInBounds]; omega) | omega | (simp; done))
  have f15 := HK4.out.box.f 15
  have HK4 := Lib.hid (HK4.out.set 15 (.int .i64 n4))
  go_wp2_with fail
  clear c15 f15
  refine (wantOne_any b g r4 kReceipts _ _ (by simp) HK4.out.rd).mono ?_
  rintro e w5 ⟨rfl, hr5, ht5⟩
  have HK5 := Lib.hid (HK4.out.call hr5 ht5)
  clear hr5 ht5 HK4
  have hE := HE.out
  clear HE
  rw [bndJ] at hE
  generalize wantJ [kReceipts] r4 = q at *
  obtain ⟨n5, r5⟩ := q
  dsimp only at hE HK5 ⊢
  have HE := Lib.hid hE
  clear hE
  go_wp2_with fail
  refine (receipts_any _).mono ?_
  rintro e w6 ⟨rfl, hs6, hb6⟩
  have HK6 := Lib.hid (HK5.out.now hb6)
  have HS6 := Lib.hid hs6
  have hA6 := Nat.ne_of_gt HK5.out.rd.lt
  clear hs6 hb6 HK5
  go_wp2_with fail
  refine (want_any b g r5 wReceipts _ _ _ HK6.out.rd HS6.out (by decide)).mono ?_
  rintro e w7 ⟨rfl, hr7, ht7⟩
  have HK7 := Lib.hid (HK6.out.call hr7 ht7)
  clear hr7 ht7 HK6
  have hE := HE.out
  clear HE
  rw [bndJ] at hE
  generalize wantJ wReceipts r5 = q at *
  obtain ⟨n7, r7⟩ := q
  dsimp only at hE HK7 ⊢
  have HE := Lib.hid hE
  clear hE
  obtain ⟨v16, c16⟩ := HK7.out.box.any 16 (by first | (simp only [Array.size_setIfInBounds]; omega) | omega | (simp; done))
  have f16 := HK7.out.box.f 16
  have HK7 := Lib.hid (HK7.out.set 16 (.int .i64 n7))
  clear HS6
  go_wp2_with fail
  clear c16 f16
  refine (skipOne_any b g r7 kBatch _ _ (by simp) HK7.out.rd).mono ?_
  rintro e w8 ⟨rfl, hr8, ht8⟩
  have HK8 := Lib.hid (HK7.out.call hr8 ht8)
  clear hr8 ht8 HK7
  have hE := HE.out
  clear HE
  rw [bndJ] at hE
  generalize skipJ [kBatch] r7 = q at *
  obtain ⟨n8, r8⟩ := q
  dsimp only at hE HK8 ⊢
  have HE := Lib.hid hE
  clear hE
  obtain ⟨v17, c17⟩ := HK8.out.box.any 17 (by first | (simp only [Array.size_setIfInBounds]; omega) | omega | (simp; done))
  have f17 := HK8.out.box.f 17
  have HK8 := Lib.hid (HK8.out.set 17 (.bool (decide (n8 = 0))))
  have hbe : (n8 == 0) = decide (n8 = 0) := rfl
  go_wp2_with fail
  clear c17 f17
  clear hbe
  refine (wantOne_any b g r8 kSemi _ _ (by simp) HK8.out.rd).mono ?_
  rintro e w9 ⟨rfl, hr9, ht9⟩
  have HK9 := Lib.hid (HK8.out.call hr9 ht9)
  clear hr9 ht9 HK8
  have hE := HE.out
  clear HE
  rw [bndJ] at hE
  generalize wantJ [kSemi] r8 = q at *
  obtain ⟨n9, r9⟩ := q
  dsimp only at hE HK9 ⊢
  have HE := Lib.hid hE
  clear hE
  go_wp2_with fail
  refine (wantOne_any b g r9 kRate _ _ rfl HK9.out.rd).mono ?_
  rintro e w10 ⟨rfl, hr10, ht10⟩
  have HK10 := Lib.hid (HK9.out.call hr10 ht10)
  clear hr10 ht10 HK9
  have hE := HE.out
  clear HE
  rw [bndJ] at hE
  generalize wantJ [kRate] r9 = q at *
  obtain ⟨n10, r10⟩ := q
  dsimp only at hE HK10 ⊢
  have HE := Lib.hid hE
  clear hE
  go_wp2_with fail
  refine (number_any b g r10 0 _ HK10.out.rd).mono ?_
  rintro e w11 ⟨rfl, hr11, ht11⟩
  have HK11 := Lib.hid (HK10.out.call hr11 ht11)
  clear hr11 ht11 HK10
  have hE := HE.out
  clear HE
  rw [bndJ] at hE
  generalize numJ 0 r10 = q at *
  obtain ⟨n11, r11⟩ := q
  dsimp only at hE HK11 ⊢
  have HE := Lib.hid hE
  clear hE
  obtain ⟨v18, c18⟩ := HK11.out.box.any 18 (by first | (simp only [Array.size_setIfInBounds]; omega) | omega | (simp; done))
  have f18 := HK11.out.box.f 18
  have HK11 := Lib.hid (HK11.out.set 18 (.int .i64 n11))
  go_wp2_with fail
  clear c18 f18
  refine (wantOne_any b g r11 kDown _ _ (by simp) HK11.out.rd).mono ?_
  rintro e w12 ⟨rfl, hr12, ht12⟩
  have HK12 := Lib.hid (HK11.out.call hr12 ht12)
  clear hr12 ht12 HK11
  have hE := HE.out
  clear HE
  rw [bndJ] at hE
  generalize wantJ [kDown] r11 = q at *
  obtain ⟨n12, r12⟩ := q
  dsimp only at hE HK12 ⊢
  have HE := Lib.hid hE
  clear hE
  go_wp2_with fail
  refine (number_any b g r12 0 _ HK12.out.rd).mono ?_
  rintro e w13 ⟨rfl, hr13, ht13⟩
  have HK13 := Lib.hid (HK12.out.call hr13 ht13)
  clear hr13 ht13 HK12
  have hE := HE.out
  clear HE
  rw [bndJ] at hE
  generalize numJ 0 r12 = q at *
  obtain ⟨n13, r13⟩ := q
  dsimp only at hE HK13 ⊢
  have HE := Lib.hid hE
  clear hE
  obtain ⟨v19, c19⟩ := HK13.out.box.any 19 (by first | (simp only [Array.size_setIfInBounds]; omega) | omega | (simp; done))
  have f19 := HK13.out.box.f 19
  have HK13 := Lib.hid (HK13.out.set 19 (.int .i64 n13))
  go_wp2_with fail
  clear c19 f19
  refine (wantOne_any b g r13 kOf _ _ (by simp) HK13.out.rd).mono ?_
  rintro e w14 ⟨rfl, hr14, ht14⟩
  have HK14 := Lib.hid (HK13.out.call hr14 ht14)
  clear hr14 ht14 HK13
  have hE := HE.out
  clear HE
  rw [bndJ] at hE
  generalize wantJ [kOf] r13 = q at *
  obtain ⟨n14, r14⟩ := q
  dsimp only at hE HK14 ⊢
  have HE := Lib.hid hE
  clear hE
  go_wp2_with fail
  refine (number_any b g r14 0 _ HK14.out.rd).mono ?_
  rintro e w15 ⟨rfl, hr15, ht15⟩
  have HK15 := Lib.hid (HK14.out.call hr15 ht15)
  clear hr15 ht15 HK14
  have hE := HE.out
  clear HE
  rw [bndJ] at hE
  generalize numJ 0 r14 = q at *
  obtain ⟨n15, r15⟩ := q
  dsimp only at hE HK15 ⊢
  have HE := Lib.hid hE
  clear hE
  obtain ⟨v20, c20⟩ := HK15.out.box.any 20 (by first | (simp only [Array.size_setIfInBounds]; omega) | omega | (simp; done))
  have f20 := HK15.out.box.f 20
  have HK15 := Lib.hid (HK15.out.set 20 (.int .i64 n15))
  go_wp2_with fail
  clear c20 f20
  refine (wantOne_any b g r15 kSemi _ _ (by simp) HK15.out.rd).mono ?_
  rintro e w16 ⟨rfl, hr16, ht16⟩
  have HK16 := Lib.hid (HK15.out.call hr16 ht16)
  clear hr16 ht16 HK15
  have hE := HE.out
  clear HE
  rw [bndJ] at hE
  generalize wantJ [kSemi] r15 = q at *
  obtain ⟨n16, r16⟩ := q
  dsimp only at hE HK16 ⊢
  have HE := Lib.hid hE
  clear hE
  have hE := HE.out
  rw [bndJ, retJ] at hE
  have HE2 := Lib.hid hE
  have HNo := Lib.hid (keep_none r16)
  have HYes := Lib.hid (keep_some r16)
  clear HE hE
  go_wp2_with fail
  refine (skipOne_any b g r16 kKeep _ _ rfl HK16.out.rd).mono ?_
  rintro e w17 ⟨rfl, hr17, ht17⟩
  have HK17 := Lib.hid (HK16.out.call hr17 ht17)
  clear hr17 ht17 HK16
  generalize skipJ [kKeep] r16 = q at *
  obtain ⟨n17, r17⟩ := q
  dsimp only at HNo HYes HK17 ⊢
  by_cases h0 : n17 = 0
  · have HY := Lib.hid (HYes.out h0)
    subst h0
    clear HNo HYes
    go_wp2_with fail
    refine (number_any b g r17 1 _ HK17.out.rd).mono ?_
    rintro e w18 ⟨rfl, hr18, ht18⟩
    have HK18 := Lib.hid (HK17.out.call hr18 ht18)
    clear hr18 ht18 HK17
    generalize numJ 1 r17 = q at *
    obtain ⟨n18, r18⟩ := q
    dsimp only at HY HK18 ⊢
    obtain ⟨v21, c21⟩ := HK18.out.box.any 21 (by first | (simp only [Array.size_setIfInBounds]; omega) | omega | (simp; done))
    have f21 := HK18.out.box.f 21
    have HK18 := Lib.hid (HK18.out.set 21 (.int .i64 n18))
    go_wp2_with fail
    refine (wantOne_any b g r18 kSemi _ _ (by simp) HK18.out.rd).mono ?_
    rintro e w19 ⟨rfl, hr19, ht19⟩
    have HK19 := Lib.hid (HK18.out.call hr19 ht19)
    clear hr19 ht19 HK18
    go_wp2_with fail
    go_end0
    refine ⟨rfl, ?_⟩
    rw [HE2.out, HY.out]
    exact HK19.out
  · have HN := Lib.hid (HNo.out h0)
    have hne0 : (n17 == 0) = false := by simpa using h0
    clear HNo HYes
    go_wp2_with fail
    go_end0
    refine ⟨rfl, ?_⟩
    rw [HE2.out, HN.out]
    unfold restCs
    rw [set_same _ 21 _ (by simpa using H21.out)]
    exact HK17.out
end Go.Proofs.YtnaejabgkfhlbaaDoor
