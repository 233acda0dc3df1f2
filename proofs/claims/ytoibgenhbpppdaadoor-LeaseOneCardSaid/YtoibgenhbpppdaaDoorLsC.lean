/- Contracts of lease.Grant and of its reference. -/
import Derived.Test.YtoibgenhbpppdaaDoorLsB
namespace Go.Proofs.YtoibgenhbpppdaaDoor
open Go.RowKit

/-- Two results: a struct that lies in a box, and a slot. -/
theorem ret_boxL {P : Program} {fn : Func} {R : Ending → World → Prop} {a : Act} {w : World} (s t : Nat) (ty : TypeId) (hf : fn.results = #[.cell s ty, .tmp t]) (b : Nat) (cs : List Value) (d : TypeDesc) (v : Value)
    (hs : a.tmps.getD s undef = .pointer (some ⟨b, 0, none⟩)) (hv : a.tmps.getD t undef = v) (hc : w.rangeAt b 0 cs) (hu : P.underlying ty = some d) (hd : d.isRow = true) (hi : (P.info? ty).map (·.size) = some cs.length)
    (hdf : a.defers = []) (hR : R (.returned (.tuple #[.agg cs.toArray, v])) w) : bodyPost P fn R .ret a w := by
  refine bodyPost_ret (v := .tuple #[.agg cs.toArray, v]) ?_ hdf hR
  unfold results
  rw [hf]
  simp only [List.mapM_toArray, List.mapM_cons, List.mapM_nil, hs, hv, asAddr, Sem.run_bind, Sem.run_pure, Result.andThen_ok, Sem.run_map, run_loadVar_mid w b 0 ty cs d hc hu hd hi]
  simp

theorem lsOne (l : Ls) : (l.cs.toArray).all (·.oneCell') = true := by simp [Ls.cs, Value.oneCell']

def badG (l : Ls) (who now span : Int) : Bool := !(l.fine && (withinB who 99 && (withinB now 1073741824 && decide (1 ≤ span))))
def heldG (l : Ls) (now : Int) : Bool := decide (0 < l.epoch) && decide (now ≤ l.till)
def grantL (l : Ls) (who now span : Int) : Ls :=
  if badG l who now span then l else if 1073741824 - now < span then l
  else if heldG l now then (if l.who = who then ⟨l.who, l.epoch, max l.till (now + span)⟩ else l)
  else if l.epoch = 1073741824 then l else ⟨who, l.epoch + 1, now + span⟩
def grantE (l : Ls) (who now span : Int) : Int :=
  if badG l who now span then 1 else if 1073741824 - now < span then 3
  else if heldG l now then (if l.who = who then 0 else 21)
  else if l.epoch = 1073741824 then 6 else 0

/-- The lease lies in the block of w's size, a box of zeros behind it. -/
structure GW (l : Ls) (w wx : World) : Prop where
  b : Below w.heap.size w wx
  z : w.heap.size + 2 ≤ wx.heap.size
  l0 : wx.rangeAt w.heap.size 0 l.cs
  r0 : wx.rangeAt (w.heap.size + 1) 0 [.int .i64 0, .int .i64 0, .int .i64 0]
  f0 : wx.there w.heap.size 0 3
  f1 : wx.there (w.heap.size + 1) 0 3
theorem GW.start (l : Ls) (w : World) {wy : World} (hb : Below ((w.alloc (.cells #[.int .i64 l.who, .int .i64 l.epoch, .int .i64 l.till] 23)).alloc (.cells #[.int .i64 0, .int .i64 0, .int .i64 0] 23)).heap.size ((w.alloc (.cells #[.int .i64 l.who, .int .i64 l.epoch, .int .i64 l.till] 23)).alloc (.cells #[.int .i64 0, .int .i64 0, .int .i64 0] 23)) wy) : GW l w wy := by
  have h1 : Below (w.alloc (.cells #[.int .i64 l.who, .int .i64 l.epoch, .int .i64 l.till] 23)).heap.size (w.alloc (.cells #[.int .i64 l.who, .int .i64 l.epoch, .int .i64 l.till] 23)) wy := ((Below.refl _ _).alloc (Nat.le_refl _) _).trans (hb.mono (by simp))
  have h2 := lsRange (w.alloc (.cells #[.int .i64 l.who, .int .i64 l.epoch, .int .i64 l.till] 23)) ⟨0, 0, 0⟩ 23 hb
  refine ⟨((Below.refl _ _).alloc (Nat.le_refl _) _).trans (h1.mono (by simp)), by have := hb.size; simp at this; omega, lsRange w l 23 h1, by simpa [Ls.cs] using h2, boxThere w _ _ h1 _ rfl 3 rfl, boxThere _ _ _ hb _ (by simp) 3 rfl⟩

def GOut (l m : Ls) (er : Int) (w : World) (e : Ending) (w' : World) : Prop := e = .returned (.tuple #[m.v, .int .i64 er]) ∧ Below w.heap.size w w'

theorem GOut.mk {l m : Ls} {a b c er : Int} {w w' : World} (hm : m = ⟨a, b, c⟩) (h : Below w.heap.size w w') : GOut l m er w (.returned (.tuple #[.agg #[.int .i64 a, .int .i64 b, .int .i64 c], .int .i64 er])) w' := by
  subst hm
  exact ⟨rfl, h⟩
/-- badG, one condition after the other. -/
theorem badG_of (l : Ls) (who now span : Int) : badG l who now span = (!l.fine || (decide (who < 0) || (decide (99 < who) || (decide (now < 0) || (decide (1073741824 < now) || decide (span < 1)))))) := by
  unfold badG withinB
  rw [Bool.eq_iff_iff]
  cases l.fine <;> simp <;> omega

set_option maxHeartbeats 2000000 in
theorem grant_any (l : Ls) (who now span : Int) (w : World) (hi : InInt span) : Calls Tryd.prog 9 #[l.v, .int .i64 who, .int .i64 now, .int .i64 span] w (GOut l (grantL l who now span) (grantE l who now span) w) := by
  have HBd := Lib.hid (badG_of l who now span)
  unfold Ls.v
  go_enter Tryd.func9, Tryd.ntmps9
  go_wp2_with fail
  refine (validL_any l _).mono ?_
  rintro e w1 ⟨rfl, hb1⟩
  have HK := Lib.hid (GW.start l w hb1)
  clear hb1
  have c0 : w1.cell? ⟨w.heap.size, 0, none⟩ = some (.int .i64 l.who) := range_cell HK.out.l0 0 _ rfl
  have c1 : w1.cell? ⟨w.heap.size, 1, none⟩ = some (.int .i64 l.epoch) := range_cell HK.out.l0 1 _ rfl
  have c2 : w1.cell? ⟨w.heap.size, 2, none⟩ = some (.int .i64 l.till) := range_cell HK.out.l0 2 _ rfl
  have f2 := there_free HK.out.f0 2 (by decide)
  have e0 : w1.cell? ⟨w.heap.size + 1, 0, none⟩ = some (.int .i64 0) := range_cell HK.out.r0 0 _ rfl
  have e1 : w1.cell? ⟨w.heap.size + 1, 1, none⟩ = some (.int .i64 0) := range_cell HK.out.r0 1 _ rfl
  have e2 : w1.cell? ⟨w.heap.size + 1, 2, none⟩ = some (.int .i64 0) := range_cell HK.out.r0 2 _ rfl
  have k0 := there_free HK.out.f1 0 (by decide)
  have k1 := there_free HK.out.f1 1 (by decide)
  have k2 := there_free HK.out.f1 2 (by decide)
  cases hv : l.fine
  · have HE : Hid (grantE l who now span = 1) := Lib.hid (by rw [grantE, HBd.out, if_pos]; simp [*])
    have HG : Hid (grantL l who now span = ⟨l.who, l.epoch, l.till⟩) := Lib.hid (by rw [grantL, HBd.out, if_pos]; simp [*])
    go_wp2_with fail
    refine bodyPost_ret (v := .tuple #[.agg #[.int .i64 (l.who), .int .i64 (l.epoch), .int .i64 (l.till)], .int .i64 1]) (by simp [results, Tryd.results9, go_sem, c0, c1, c2, e0, e1, e2]) rfl ?_
    rw [HE.out]
    refine GOut.mk ?_ ?_
    · exact HG.out
    · have hz := HK.out.z
      repeat (first | exact HK.out.b | refine Below.setCell ?_ (by simp; done) _ | refine Below.setCell ?_ (by simp; omega) _)
  cases d0 : decide (who < 0)
  rotate_left
  · have HE : Hid (grantE l who now span = 1) := Lib.hid (by rw [grantE, HBd.out, if_pos]; simp [*])
    have HG : Hid (grantL l who now span = ⟨l.who, l.epoch, l.till⟩) := Lib.hid (by rw [grantL, HBd.out, if_pos]; simp [*])
    go_wp2_with fail
    refine bodyPost_ret (v := .tuple #[.agg #[.int .i64 (l.who), .int .i64 (l.epoch), .int .i64 (l.till)], .int .i64 1]) (by simp [results, Tryd.results9, go_sem, c0, c1, c2, e0, e1, e2]) rfl ?_
    rw [HE.out]
    refine GOut.mk ?_ ?_
    · exact HG.out
    · have hz := HK.out.z
      repeat (first | exact HK.out.b | refine Below.setCell ?_ (by simp; done) _ | refine Below.setCell ?_ (by simp; omega) _)
  cases d1 : decide (99 < who)
  rotate_left
  · have HE : Hid (grantE l who now span = 1) := Lib.hid (by rw [grantE, HBd.out, if_pos]; simp [*])
    have HG : Hid (grantL l who now span = ⟨l.who, l.epoch, l.till⟩) := Lib.hid (by rw [grantL, HBd.out, if_pos]; simp [*])
    go_wp2_with fail
    refine bodyPost_ret (v := .tuple #[.agg #[.int .i64 (l.who), .int .i64 (l.epoch), .int .i64 (l.till)], .int .i64 1]) (by simp [results, Tryd.results9, go_sem, c0, c1, c2, e0, e1, e2]) rfl ?_
    rw [HE.out]
    refine GOut.mk ?_ ?_
    · exact HG.out
    · have hz := HK.out.z
      repeat (first | exact HK.out.b | refine Below.setCell ?_ (by simp; done) _ | refine Below.setCell ?_ (by simp; omega) _)
  cases d2 : decide (now < 0)
  rotate_left
  · have HE : Hid (grantE l who now span = 1) := Lib.hid (by rw [grantE, HBd.out, if_pos]; simp [*])
    have HG : Hid (grantL l who now span = ⟨l.who, l.epoch, l.till⟩) := Lib.hid (by rw [grantL, HBd.out, if_pos]; simp [*])
    go_wp2_with fail
    refine bodyPost_ret (v := .tuple #[.agg #[.int .i64 (l.who), .int .i64 (l.epoch), .int .i64 (l.till)], .int .i64 1]) (by simp [results, Tryd.results9, go_sem, c0, c1, c2, e0, e1, e2]) rfl ?_
    rw [HE.out]
    refine GOut.mk ?_ ?_
    · exact HG.out
    · have hz := HK.out.z
      repeat (first | exact HK.out.b | refine Below.setCell ?_ (by simp; done) _ | refine Below.setCell ?_ (by simp; omega) _)
  cases d3 : decide (1073741824 < now)
  rotate_left
  · have HE : Hid (grantE l who now span = 1) := Lib.hid (by rw [grantE, HBd.out, if_pos]; simp [*])
    have HG : Hid (grantL l who now span = ⟨l.who, l.epoch, l.till⟩) := Lib.hid (by rw [grantL, HBd.out, if_pos]; simp [*])
    go_wp2_with fail
    refine bodyPost_ret (v := .tuple #[.agg #[.int .i64 (l.who), .int .i64 (l.epoch), .int .i64 (l.till)], .int .i64 1]) (by simp [results, Tryd.results9, go_sem, c0, c1, c2, e0, e1, e2]) rfl ?_
    rw [HE.out]
    refine GOut.mk ?_ ?_
    · exact HG.out
    · have hz := HK.out.z
      repeat (first | exact HK.out.b | refine Below.setCell ?_ (by simp; done) _ | refine Below.setCell ?_ (by simp; omega) _)
  cases d4 : decide (span < 1)
  rotate_left
  · have HE : Hid (grantE l who now span = 1) := Lib.hid (by rw [grantE, HBd.out, if_pos]; simp [*])
    have HG : Hid (grantL l who now span = ⟨l.who, l.epoch, l.till⟩) := Lib.hid (by rw [grantL, HBd.out, if_pos]; simp [*])
    go_wp2_with fail
    refine bodyPost_ret (v := .tuple #[.agg #[.int .i64 (l.who), .int .i64 (l.epoch), .int .i64 (l.till)], .int .i64 1]) (by simp [results, Tryd.results9, go_sem, c0, c1, c2, e0, e1, e2]) rfl ?_
    rw [HE.out]
    refine GOut.mk ?_ ?_
    · exact HG.out
    · have hz := HK.out.z
      repeat (first | exact HK.out.b | refine Below.setCell ?_ (by simp; done) _ | refine Below.setCell ?_ (by simp; omega) _)
  have HB0 : Hid (badG l who now span = false) := Lib.hid (by rw [HBd.out]; simp [*])
  have g2 : 0 ≤ now := by simpa using d2
  have g3 : now ≤ 1073741824 := by simpa using d3
  have g4 : 1 ≤ span := by simpa using d4
  cases d5 : decide (1073741824 - now < span)
  rotate_left
  · have HE : Hid (grantE l who now span = 3) := Lib.hid (by rw [grantE, HB0.out]; simp at d5; simp [d5])
    have HG : Hid (grantL l who now span = ⟨l.who, l.epoch, l.till⟩) := Lib.hid (by rw [grantL, HB0.out]; simp at d5; simp [d5])
    go_wp2_with fail
    refine bodyPost_ret (v := .tuple #[.agg #[.int .i64 (l.who), .int .i64 (l.epoch), .int .i64 (l.till)], .int .i64 3]) (by simp [results, Tryd.results9, go_sem, c0, c1, c2, e0, e1, e2]) rfl ?_
    rw [HE.out]
    refine GOut.mk ?_ ?_
    · exact HG.out
    · have hz := HK.out.z
      repeat (first | exact HK.out.b | refine Below.setCell ?_ (by simp; done) _ | refine Below.setCell ?_ (by simp; omega) _)
  have g5 : span ≤ 1073741824 - now := by simpa using d5
  have HF := Lib.hid hv
  have HW : Hid (grantL l who now span = if heldG l now then (if l.who = who then ⟨l.who, l.epoch, max l.till (now + span)⟩ else l) else if l.epoch = 1073741824 then l else ⟨who, l.epoch + 1, now + span⟩) := Lib.hid (by rw [grantL, HB0.out, if_neg (by simp), if_neg (by omega)])
  have HX : Hid (grantE l who now span = if heldG l now then (if l.who = who then 0 else 21) else if l.epoch = 1073741824 then 6 else 0) := Lib.hid (by rw [grantE, HB0.out, if_neg (by simp), if_neg (by omega)])
  clear HB0 HBd
  cases e5 : decide (0 < l.epoch)
  · have HH : Hid (heldG l now = false) := Lib.hid (by simp [heldG, e5])
    have e6 : ¬ l.epoch = 1073741824 := by simp at e5; omega
    have HE : Hid (grantE l who now span = 0) := Lib.hid (by rw [HX.out, HH.out, if_neg (by simp), if_neg e6])
    have HG : Hid (grantL l who now span = ⟨who, l.epoch + 1, now + span⟩) := Lib.hid (by rw [HW.out, HH.out, if_neg (by simp), if_neg e6])
    have e7 : 0 ≤ l.epoch := by have := HF.out; simp [Ls.fine, withinB] at this; omega
    have e8 : l.epoch ≤ 0 := by simpa using e5
    go_wp2_with fail
    refine bodyPost_ret (v := .tuple #[.agg #[.int .i64 (who), .int .i64 (l.epoch + 1), .int .i64 (now + span)], .int .i64 0]) (by simp [results, Tryd.results9, go_sem, c0, c1, c2, e0, e1, e2]) rfl ?_
    rw [HE.out]
    refine GOut.mk ?_ ?_
    · exact HG.out
    · have hz := HK.out.z
      repeat (first | exact HK.out.b | refine Below.setCell ?_ (by simp; done) _ | refine Below.setCell ?_ (by simp; omega) _)
  have e7 : 0 < l.epoch := by simpa using e5
  have e8 : l.epoch ≤ 1073741824 := by have := HF.out; simp [Ls.fine, withinB] at this; omega
  cases e9 : decide (now ≤ l.till)
  · have HH : Hid (heldG l now = false) := Lib.hid (by simp [heldG, e9])
    by_cases e6 : l.epoch = 1073741824
    · have HE : Hid (grantE l who now span = 6) := Lib.hid (by rw [HX.out, HH.out, if_neg (by simp), if_pos e6])
      have HG : Hid (grantL l who now span = ⟨l.who, 1073741824, l.till⟩) := Lib.hid (by rw [HW.out, HH.out, if_neg (by simp), if_pos e6, ← e6])
      go_wp2_with fail
      refine bodyPost_ret (v := .tuple #[.agg #[.int .i64 (l.who), .int .i64 (1073741824), .int .i64 (l.till)], .int .i64 6]) (by simp [results, Tryd.results9, go_sem, c0, c1, c2, e0, e1, e2]) rfl ?_
      rw [HE.out]
      refine GOut.mk ?_ ?_
      · exact HG.out
      · have hz := HK.out.z
        repeat (first | exact HK.out.b | refine Below.setCell ?_ (by simp; done) _ | refine Below.setCell ?_ (by simp; omega) _)
    · have HE : Hid (grantE l who now span = 0) := Lib.hid (by rw [HX.out, HH.out, if_neg (by simp), if_neg e6])
      have HG : Hid (grantL l who now span = ⟨who, l.epoch + 1, now + span⟩) := Lib.hid (by rw [HW.out, HH.out, if_neg (by simp), if_neg e6])
      go_wp2_with fail
      refine bodyPost_ret (v := .tuple #[.agg #[.int .i64 (who), .int .i64 (l.epoch + 1), .int .i64 (now + span)], .int .i64 0]) (by simp [results, Tryd.results9, go_sem, c0, c1, c2, e0, e1, e2]) rfl ?_
      rw [HE.out]
      refine GOut.mk ?_ ?_
      · exact HG.out
      · have hz := HK.out.z
        repeat (first | exact HK.out.b | refine Below.setCell ?_ (by simp; done) _ | refine Below.setCell ?_ (by simp; omega) _)
  · have HH : Hid (heldG l now = true) := Lib.hid (by simp [heldG, e5, e9])
    have e10 : now ≤ l.till := by simpa using e9
    by_cases e6 : l.who = who
    · have HE : Hid (grantE l who now span = 0) := Lib.hid (by rw [HX.out, HH.out, if_pos rfl, if_pos e6])
      have HG : Hid (grantL l who now span = ⟨who, l.epoch, max l.till (now + span)⟩) := Lib.hid (by rw [HW.out, HH.out, if_pos rfl, if_pos e6, e6])
      have e11 : l.till ≤ 1073741824 := by have := HF.out; simp [Ls.fine, withinB] at this; omega
      go_wp2_with fail
      refine bodyPost_ret (v := .tuple #[.agg #[.int .i64 (who), .int .i64 (l.epoch), .int .i64 (max l.till (now + span))], .int .i64 0]) (by simp [results, Tryd.results9, go_sem, c0, c1, c2, e0, e1, e2]) rfl ?_
      rw [HE.out]
      refine GOut.mk ?_ ?_
      · exact HG.out
      · have hz := HK.out.z
        repeat (first | exact HK.out.b | refine Below.setCell ?_ (by simp; done) _ | refine Below.setCell ?_ (by simp; omega) _)
    · have HE : Hid (grantE l who now span = 21) := Lib.hid (by rw [HX.out, HH.out, if_pos rfl, if_neg e6])
      have HG : Hid (grantL l who now span = ⟨l.who, l.epoch, l.till⟩) := Lib.hid (by rw [HW.out, HH.out, if_pos rfl, if_neg e6])
      go_wp2_with fail
      refine bodyPost_ret (v := .tuple #[.agg #[.int .i64 (l.who), .int .i64 (l.epoch), .int .i64 (l.till)], .int .i64 21]) (by simp [results, Tryd.results9, go_sem, c0, c1, c2, e0, e1, e2]) rfl ?_
      rw [HE.out]
      refine GOut.mk ?_ ?_
      · exact HG.out
      · have hz := HK.out.z
        repeat (first | exact HK.out.b | refine Below.setCell ?_ (by simp; done) _ | refine Below.setCell ?_ (by simp; omega) _)

set_option maxHeartbeats 2000000 in
theorem grantR_any (l : Ls) (who now span : Int) (w : World) (hi : InInt span) : Calls Tryd.prog 10 #[l.v, .int .i64 who, .int .i64 now, .int .i64 span] w (GOut l (grantL l who now span) (grantE l who now span) w) := by
  have HBd := Lib.hid (badG_of l who now span)
  unfold Ls.v
  go_enter Tryd.func10, Tryd.ntmps10
  go_wp2_with fail
  refine (right_any l _).mono ?_
  rintro e w1 ⟨rfl, hb1⟩
  have HK := Lib.hid (GW.start l w hb1)
  clear hb1
  have c0 : w1.cell? ⟨w.heap.size, 0, none⟩ = some (.int .i64 l.who) := range_cell HK.out.l0 0 _ rfl
  have c1 : w1.cell? ⟨w.heap.size, 1, none⟩ = some (.int .i64 l.epoch) := range_cell HK.out.l0 1 _ rfl
  have c2 : w1.cell? ⟨w.heap.size, 2, none⟩ = some (.int .i64 l.till) := range_cell HK.out.l0 2 _ rfl
  have f2 := there_free HK.out.f0 2 (by decide)
  have e0 : w1.cell? ⟨w.heap.size + 1, 0, none⟩ = some (.int .i64 0) := range_cell HK.out.r0 0 _ rfl
  have e1 : w1.cell? ⟨w.heap.size + 1, 1, none⟩ = some (.int .i64 0) := range_cell HK.out.r0 1 _ rfl
  have e2 : w1.cell? ⟨w.heap.size + 1, 2, none⟩ = some (.int .i64 0) := range_cell HK.out.r0 2 _ rfl
  have k0 := there_free HK.out.f1 0 (by decide)
  have k1 := there_free HK.out.f1 1 (by decide)
  have k2 := there_free HK.out.f1 2 (by decide)
  cases hv : l.fine
  · have HE : Hid (grantE l who now span = 1) := Lib.hid (by rw [grantE, HBd.out, if_pos]; simp [*])
    have HG : Hid (grantL l who now span = ⟨l.who, l.epoch, l.till⟩) := Lib.hid (by rw [grantL, HBd.out, if_pos]; simp [*])
    go_wp2_with fail
    refine bodyPost_ret (v := .tuple #[.agg #[.int .i64 (l.who), .int .i64 (l.epoch), .int .i64 (l.till)], .int .i64 1]) (by simp [results, Tryd.results10, go_sem, c0, c1, c2, e0, e1, e2]) rfl ?_
    rw [HE.out]
    refine GOut.mk ?_ ?_
    · exact HG.out
    · have hz := HK.out.z
      repeat (first | exact HK.out.b | refine Below.setCell ?_ (by simp; done) _ | refine Below.setCell ?_ (by simp; omega) _)
  have HV := Lib.hid hv
  cases x0 : withinB who 99
  · have HE : Hid (grantE l who now span = 1) := Lib.hid (by rw [grantE, badG, hv, x0]; simp)
    have HG : Hid (grantL l who now span = ⟨l.who, l.epoch, l.till⟩) := Lib.hid (by rw [grantL, badG, hv, x0]; simp)
    go_wp2_with fail
    refine (within_any _ _ _).mono ?_
    rintro e w2 ⟨rfl, rfl⟩
    go_wp2_with fail
    refine bodyPost_ret (v := .tuple #[.agg #[.int .i64 (l.who), .int .i64 (l.epoch), .int .i64 (l.till)], .int .i64 1]) (by simp [results, Tryd.results10, go_sem, c0, c1, c2, e0, e1, e2]) rfl ?_
    rw [HE.out]
    refine GOut.mk ?_ ?_
    · exact HG.out
    · have hz := HK.out.z
      repeat (first | exact HK.out.b | refine Below.setCell ?_ (by simp; done) _ | refine Below.setCell ?_ (by simp; omega) _)
  go_wp2_with fail
  refine (within_any _ _ _).mono ?_
  rintro e w2 ⟨rfl, rfl⟩
  cases x1 : withinB now 1073741824
  · have HE : Hid (grantE l who now span = 1) := Lib.hid (by rw [grantE, badG, hv, x0, x1]; simp)
    have HG : Hid (grantL l who now span = ⟨l.who, l.epoch, l.till⟩) := Lib.hid (by rw [grantL, badG, hv, x0, x1]; simp)
    go_wp2_with fail
    refine (within_any _ _ _).mono ?_
    rintro e w2 ⟨rfl, rfl⟩
    go_wp2_with fail
    refine bodyPost_ret (v := .tuple #[.agg #[.int .i64 (l.who), .int .i64 (l.epoch), .int .i64 (l.till)], .int .i64 1]) (by simp [results, Tryd.results10, go_sem, c0, c1, c2, e0, e1, e2]) rfl ?_
    rw [HE.out]
    refine GOut.mk ?_ ?_
    · exact HG.out
    · have hz := HK.out.z
      repeat (first | exact HK.out.b | refine Below.setCell ?_ (by simp; done) _ | refine Below.setCell ?_ (by simp; omega) _)
  go_wp2_with fail
  refine (within_any _ _ _).mono ?_
  rintro e w2 ⟨rfl, rfl⟩
  have d0 : decide (who < 0) = false := by simp [withinB] at x0; simp; omega
  have d1 : decide (99 < who) = false := by simp [withinB] at x0; simp; omega
  have d2 : decide (now < 0) = false := by simp [withinB] at x1; simp; omega
  have d3 : decide (1073741824 < now) = false := by simp [withinB] at x1; simp; omega
  cases d4 : decide (span < 1)
  rotate_left
  · have HE : Hid (grantE l who now span = 1) := Lib.hid (by rw [grantE, HBd.out, if_pos]; simp [*])
    have HG : Hid (grantL l who now span = ⟨l.who, l.epoch, l.till⟩) := Lib.hid (by rw [grantL, HBd.out, if_pos]; simp [*])
    go_wp2_with fail
    refine bodyPost_ret (v := .tuple #[.agg #[.int .i64 (l.who), .int .i64 (l.epoch), .int .i64 (l.till)], .int .i64 1]) (by simp [results, Tryd.results10, go_sem, c0, c1, c2, e0, e1, e2]) rfl ?_
    rw [HE.out]
    refine GOut.mk ?_ ?_
    · exact HG.out
    · have hz := HK.out.z
      repeat (first | exact HK.out.b | refine Below.setCell ?_ (by simp; done) _ | refine Below.setCell ?_ (by simp; omega) _)
  have HB0 : Hid (badG l who now span = false) := Lib.hid (by rw [HBd.out]; simp [*])
  have g2 : 0 ≤ now := by simpa using d2
  have g3 : now ≤ 1073741824 := by simpa using d3
  have g4 : 1 ≤ span := by simpa using d4
  cases d5 : decide (1073741824 - now < span)
  rotate_left
  · have HE : Hid (grantE l who now span = 3) := Lib.hid (by rw [grantE, HB0.out]; simp at d5; simp [d5])
    have HG : Hid (grantL l who now span = ⟨l.who, l.epoch, l.till⟩) := Lib.hid (by rw [grantL, HB0.out]; simp at d5; simp [d5])
    go_wp2_with fail
    refine bodyPost_ret (v := .tuple #[.agg #[.int .i64 (l.who), .int .i64 (l.epoch), .int .i64 (l.till)], .int .i64 3]) (by simp [results, Tryd.results10, go_sem, c0, c1, c2, e0, e1, e2]) rfl ?_
    rw [HE.out]
    refine GOut.mk ?_ ?_
    · exact HG.out
    · have hz := HK.out.z
      repeat (first | exact HK.out.b | refine Below.setCell ?_ (by simp; done) _ | refine Below.setCell ?_ (by simp; omega) _)
  have g5 : span ≤ 1073741824 - now := by simpa using d5
  have HF := Lib.hid hv
  have HW : Hid (grantL l who now span = if heldG l now then (if l.who = who then ⟨l.who, l.epoch, max l.till (now + span)⟩ else l) else if l.epoch = 1073741824 then l else ⟨who, l.epoch + 1, now + span⟩) := Lib.hid (by rw [grantL, HB0.out, if_neg (by simp), if_neg (by omega)])
  have HX : Hid (grantE l who now span = if heldG l now then (if l.who = who then 0 else 21) else if l.epoch = 1073741824 then 6 else 0) := Lib.hid (by rw [grantE, HB0.out, if_neg (by simp), if_neg (by omega)])
  clear HB0 HBd
  cases e5 : decide (0 < l.epoch)
  · have HH : Hid (heldG l now = false) := Lib.hid (by simp [heldG, e5])
    have e6 : ¬ l.epoch = 1073741824 := by simp at e5; omega
    have HE : Hid (grantE l who now span = 0) := Lib.hid (by rw [HX.out, HH.out, if_neg (by simp), if_neg e6])
    have HG : Hid (grantL l who now span = ⟨who, l.epoch + 1, now + span⟩) := Lib.hid (by rw [HW.out, HH.out, if_neg (by simp), if_neg e6])
    have e7 : 0 ≤ l.epoch := by have := HF.out; simp [Ls.fine, withinB] at this; omega
    have e8 : l.epoch ≤ 0 := by simpa using e5
    go_wp2_with fail
    refine bodyPost_ret (v := .tuple #[.agg #[.int .i64 (who), .int .i64 (l.epoch + 1), .int .i64 (now + span)], .int .i64 0]) (by simp [results, Tryd.results10, go_sem, c0, c1, c2, e0, e1, e2]) rfl ?_
    rw [HE.out]
    refine GOut.mk ?_ ?_
    · exact HG.out
    · have hz := HK.out.z
      repeat (first | exact HK.out.b | refine Below.setCell ?_ (by simp; done) _ | refine Below.setCell ?_ (by simp; omega) _)
  have e7 : 0 < l.epoch := by simpa using e5
  have e8 : l.epoch ≤ 1073741824 := by have := HF.out; simp [Ls.fine, withinB] at this; omega
  cases e9 : decide (now ≤ l.till)
  · have HH : Hid (heldG l now = false) := Lib.hid (by simp [heldG, e9])
    by_cases e6 : l.epoch = 1073741824
    · have HE : Hid (grantE l who now span = 6) := Lib.hid (by rw [HX.out, HH.out, if_neg (by simp), if_pos e6])
      have HG : Hid (grantL l who now span = ⟨l.who, 1073741824, l.till⟩) := Lib.hid (by rw [HW.out, HH.out, if_neg (by simp), if_pos e6, ← e6])
      go_wp2_with fail
      refine bodyPost_ret (v := .tuple #[.agg #[.int .i64 (l.who), .int .i64 (1073741824), .int .i64 (l.till)], .int .i64 6]) (by simp [results, Tryd.results10, go_sem, c0, c1, c2, e0, e1, e2]) rfl ?_
      rw [HE.out]
      refine GOut.mk ?_ ?_
      · exact HG.out
      · have hz := HK.out.z
        repeat (first | exact HK.out.b | refine Below.setCell ?_ (by simp; done) _ | refine Below.setCell ?_ (by simp; omega) _)
    · have HE : Hid (grantE l who now span = 0) := Lib.hid (by rw [HX.out, HH.out, if_neg (by simp), if_neg e6])
      have HG : Hid (grantL l who now span = ⟨who, l.epoch + 1, now + span⟩) := Lib.hid (by rw [HW.out, HH.out, if_neg (by simp), if_neg e6])
      go_wp2_with fail
      refine bodyPost_ret (v := .tuple #[.agg #[.int .i64 (who), .int .i64 (l.epoch + 1), .int .i64 (now + span)], .int .i64 0]) (by simp [results, Tryd.results10, go_sem, c0, c1, c2, e0, e1, e2]) rfl ?_
      rw [HE.out]
      refine GOut.mk ?_ ?_
      · exact HG.out
      · have hz := HK.out.z
        repeat (first | exact HK.out.b | refine Below.setCell ?_ (by simp; done) _ | refine Below.setCell ?_ (by simp; omega) _)
  · have HH : Hid (heldG l now = true) := Lib.hid (by simp [heldG, e5, e9])
    have e10 : now ≤ l.till := by simpa using e9
    by_cases e6 : l.who = who
    · have HE : Hid (grantE l who now span = 0) := Lib.hid (by rw [HX.out, HH.out, if_pos rfl, if_pos e6])
      have HG : Hid (grantL l who now span = ⟨who, l.epoch, max l.till (now + span)⟩) := Lib.hid (by rw [HW.out, HH.out, if_pos rfl, if_pos e6, e6])
      have e11 : l.till ≤ 1073741824 := by have := HF.out; simp [Ls.fine, withinB] at this; omega
      go_wp2_with fail
      refine bodyPost_ret (v := .tuple #[.agg #[.int .i64 (who), .int .i64 (l.epoch), .int .i64 (max l.till (now + span))], .int .i64 0]) (by simp [results, Tryd.results10, go_sem, c0, c1, c2, e0, e1, e2]) rfl ?_
      rw [HE.out]
      refine GOut.mk ?_ ?_
      · exact HG.out
      · have hz := HK.out.z
        repeat (first | exact HK.out.b | refine Below.setCell ?_ (by simp; done) _ | refine Below.setCell ?_ (by simp; omega) _)
    · have HE : Hid (grantE l who now span = 21) := Lib.hid (by rw [HX.out, HH.out, if_pos rfl, if_neg e6])
      have HG : Hid (grantL l who now span = ⟨l.who, l.epoch, l.till⟩) := Lib.hid (by rw [HW.out, HH.out, if_pos rfl, if_neg e6])
      go_wp2_with fail
      refine bodyPost_ret (v := .tuple #[.agg #[.int .i64 (l.who), .int .i64 (l.epoch), .int .i64 (l.till)], .int .i64 21]) (by simp [results, Tryd.results10, go_sem, c0, c1, c2, e0, e1, e2]) rfl ?_
      rw [HE.out]
      refine GOut.mk ?_ ?_
      · exact HG.out
      · have hz := HK.out.z
        repeat (first | exact HK.out.b | refine Below.setCell ?_ (by simp; done) _ | refine Below.setCell ?_ (by simp; omega) _)
end Go.Proofs.YtoibgenhbpppdaaDoor
