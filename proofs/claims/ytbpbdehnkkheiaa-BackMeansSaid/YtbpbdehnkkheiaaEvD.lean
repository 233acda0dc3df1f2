/- Contracts of event.Same and of linguaref14.Same (written by gensame.py). -/
import Derived.Test.YtbpbdehnkkheiaaEvC
namespace Go.Proofs.Ytbpbdehnkkheiaa
open Go.RowKit

theorem toList_inj {s t : ByteArray} (h : s.toList = t.toList) : s = t := by
  rw [ByteArray.toList_eq, ByteArray.toList_eq] at h
  exact ByteArray.ext (Array.toList_inj.1 h)
theorem str_eqB (s t : ByteArray) : decide (s = t) = (s.toList == t.toList) := by
  by_cases h : s = t
  · subst h
    simp
  · have : ¬ s.toList = t.toList := fun e => h (toList_inj e)
    simp [h, this]
set_option maxRecDepth 100000 in
set_option maxHeartbeats 4000000 in
theorem evSame_any (a b : EvM) (cA : Option Addr) (cc : Nat) (fA : Option Addr) (fc : Nat) (dA : Option Addr) (dc : Nat) (gA : Option Addr) (gc : Nat) (w : World) (ha : EvOk w w.heap.size cA fA a) (hb : EvOk w w.heap.size dA gA b) :
    Calls Try.prog 29 #[a.v cA cc fA fc, b.v dA dc gA gc] w fun e w' => e = .returned (.bool (sameE a b)) ∧ Below w.heap.size w w' := by
  have hb0 : Below w.heap.size w ((w.alloc (.cells (a.cs cA cc fA fc) 33)).alloc (.cells (b.cs dA dc gA gc) 33)) := by repeat (first | with_reducible exact Below.refl _ _ | with_reducible assumption | with_reducible refine Below.drew ?_ | with_reducible refine Below.alloc ?_ (by first | omega | (simp; done) | (simp; omega)) _)
  have HB := Lib.hid hb0
  have HC := Lib.hid (fun w' (h : Below w.heap.size w w') => intEq_any a.causes b.causes cA dA _ _ cc dc w' rfl rfl (ha.now h).ca (hb.now h).ca ha.cl hb.cl)
  have HFi := Lib.hid (fun w' (h : Below w.heap.size w w') => intEq_any a.files b.files fA gA _ _ fc gc w' rfl rfl (ha.now h).fi (hb.now h).fi ha.fl hb.fl)
  have hst := str_eqB a.text b.text
  clear ha hb hb0
  have HS : Hid (sameE a b = ((a.author == b.author) && ((a.seq == b.seq) && ((a.kind == b.kind) && ((a.group == b.group) && ((a.target == b.target) && ((a.quote == b.quote) && ((a.who == b.who) && ((a.n == b.n) && ((a.step == b.step) && ((a.text.toList == b.text.toList) && (decide (a.causes = b.causes) && decide (a.files = b.files))))))))))))) := Lib.hid (by rw [← hst]; rfl)
  clear hst
  go_enter Try.func29, Try.ntmps29
  cases h0 : (a.author == b.author)
  · go_wp2
    go_ret
    exact ⟨ret_bool (by rw [HS.out]; simp only [h0, Bool.false_and, Bool.true_and]), HB.out⟩
  · skip
    cases h1 : (a.seq == b.seq)
    · go_wp2
      go_ret
      exact ⟨ret_bool (by rw [HS.out]; simp only [h0, h1, Bool.false_and, Bool.true_and]), HB.out⟩
    · skip
      cases h2 : (a.kind == b.kind)
      · go_wp2
        go_ret
        exact ⟨ret_bool (by rw [HS.out]; simp only [h0, h1, h2, Bool.false_and, Bool.true_and]), HB.out⟩
      · skip
        cases h3 : (a.group == b.group)
        · go_wp2
          go_ret
          exact ⟨ret_bool (by rw [HS.out]; simp only [h0, h1, h2, h3, Bool.false_and, Bool.true_and]), HB.out⟩
        · skip
          cases h4 : (a.target == b.target)
          · go_wp2
            go_ret
            exact ⟨ret_bool (by rw [HS.out]; simp only [h0, h1, h2, h3, h4, Bool.false_and, Bool.true_and]), HB.out⟩
          · skip
            cases h5 : (a.quote == b.quote)
            · go_wp2
              go_ret
              exact ⟨ret_bool (by rw [HS.out]; simp only [h0, h1, h2, h3, h4, h5, Bool.false_and, Bool.true_and]), HB.out⟩
            · skip
              cases h6 : (a.who == b.who)
              · go_wp2
                go_ret
                exact ⟨ret_bool (by rw [HS.out]; simp only [h0, h1, h2, h3, h4, h5, h6, Bool.false_and, Bool.true_and]), HB.out⟩
              · skip
                cases h7 : (a.n == b.n)
                · go_wp2
                  go_ret
                  exact ⟨ret_bool (by rw [HS.out]; simp only [h0, h1, h2, h3, h4, h5, h6, h7, Bool.false_and, Bool.true_and]), HB.out⟩
                · skip
                  cases h8 : (a.step == b.step)
                  · go_wp2
                    go_ret
                    exact ⟨ret_bool (by rw [HS.out]; simp only [h0, h1, h2, h3, h4, h5, h6, h7, h8, Bool.false_and, Bool.true_and]), HB.out⟩
                  · skip
                    cases h9 : (a.text.toList == b.text.toList)
                    · go_wp2
                      go_ret
                      exact ⟨ret_bool (by rw [HS.out]; simp only [h0, h1, h2, h3, h4, h5, h6, h7, h8, h9, Bool.false_and, Bool.true_and]), HB.out⟩
                    · cases h10 : decide (a.causes = b.causes)
                      · go_wp2_with fail
                        refine (HC.out _ HB.out).mono ?_
                        rintro e w1 ⟨rfl, hb1⟩
                        rw [h10]
                        have HB1 := Lib.hid (HB.out.trans (hb1.mono HB.out.size))
                        clear hb1
                        go_wp2
                        go_ret
                        exact ⟨ret_bool (by rw [HS.out]; simp only [h0, h1, h2, h3, h4, h5, h6, h7, h8, h9, h10, Bool.false_and, Bool.true_and]), HB1.out⟩
                      · go_wp2_with fail
                        refine (HC.out _ HB.out).mono ?_
                        rintro e w1 ⟨rfl, hb1⟩
                        rw [h10]
                        have HB1 := Lib.hid (HB.out.trans (hb1.mono HB.out.size))
                        have hz1 : w.heap.size + 2 ≤ w1.heap.size := by have := hb1.size; simpa using this
                        have q0 : w1.cell? ⟨w.heap.size, 10, none⟩ = some (.slice fA a.files.length fc) := (hb1.cell (p := ⟨w.heap.size, 10, none⟩) (by simp; omega)).trans (by simp)
                        have q1 : w1.cell? ⟨w.heap.size + 1, 10, none⟩ = some (.slice gA b.files.length gc) := (hb1.cell (p := ⟨w.heap.size + 1, 10, none⟩) (by simp)).trans (by simp)
                        clear hb1
                        go_wp2_with fail
                        refine (HFi.out _ HB1.out).mono ?_
                        rintro e w2 ⟨rfl, hb2⟩
                        have HB2 := Lib.hid (HB1.out.trans (hb2.mono HB1.out.size))
                        clear hb2 q0 q1
                        go_wp2
                        go_ret
                        exact ⟨ret_bool (by rw [HS.out]; simp only [h0, h1, h2, h3, h4, h5, h6, h7, h8, h9, h10, Bool.false_and, Bool.true_and]), HB2.out⟩
set_option maxRecDepth 100000 in
set_option maxHeartbeats 4000000 in
theorem rSameE_any (a b : EvM) (cA : Option Addr) (cc : Nat) (fA : Option Addr) (fc : Nat) (dA : Option Addr) (dc : Nat) (gA : Option Addr) (gc : Nat) (w : World) (ha : EvOk w w.heap.size cA fA a) (hb : EvOk w w.heap.size dA gA b) :
    Calls Try.prog 10 #[a.v cA cc fA fc, b.v dA dc gA gc] w fun e w' => e = .returned (.bool (sameE a b)) ∧ Below w.heap.size w w' := by
  have hb0 : Below w.heap.size w ((w.alloc (.cells (a.cs cA cc fA fc) 33)).alloc (.cells (b.cs dA dc gA gc) 33)) := by repeat (first | with_reducible exact Below.refl _ _ | with_reducible assumption | with_reducible refine Below.drew ?_ | with_reducible refine Below.alloc ?_ (by first | omega | (simp; done) | (simp; omega)) _)
  have HB := Lib.hid hb0
  have HC := Lib.hid (fun w' (h : Below w.heap.size w w') => rInts_any a.causes b.causes cA dA _ _ cc dc w' rfl rfl (ha.now h).ca (hb.now h).ca ha.cl hb.cl)
  have HFi := Lib.hid (fun w' (h : Below w.heap.size w w') => rInts_any a.files b.files fA gA _ _ fc gc w' rfl rfl (ha.now h).fi (hb.now h).fi ha.fl hb.fl)
  have hst := str_eqB a.text b.text
  clear ha hb hb0
  have HS : Hid (sameE a b = ((a.author == b.author) && ((a.seq == b.seq) && ((a.kind == b.kind) && ((a.group == b.group) && ((a.target == b.target) && ((a.quote == b.quote) && ((a.who == b.who) && ((a.n == b.n) && ((a.step == b.step) && ((a.text.toList == b.text.toList) && (decide (a.causes = b.causes) && decide (a.files = b.files))))))))))))) := Lib.hid (by rw [← hst]; rfl)
  clear hst
  go_enter Try.func10, Try.ntmps10
  cases h0 : (a.author == b.author)
  · go_wp2
    go_ret
    exact ⟨ret_bool (by rw [HS.out]; simp only [h0, Bool.false_and, Bool.true_and]), HB.out⟩
  · skip
    cases h1 : (a.seq == b.seq)
    · go_wp2
      go_ret
      exact ⟨ret_bool (by rw [HS.out]; simp only [h0, h1, Bool.false_and, Bool.true_and]), HB.out⟩
    · skip
      cases h2 : (a.kind == b.kind)
      · go_wp2
        go_ret
        exact ⟨ret_bool (by rw [HS.out]; simp only [h0, h1, h2, Bool.false_and, Bool.true_and]), HB.out⟩
      · skip
        cases h3 : (a.group == b.group)
        · go_wp2
          go_ret
          exact ⟨ret_bool (by rw [HS.out]; simp only [h0, h1, h2, h3, Bool.false_and, Bool.true_and]), HB.out⟩
        · skip
          cases h4 : (a.target == b.target)
          · go_wp2
            go_ret
            exact ⟨ret_bool (by rw [HS.out]; simp only [h0, h1, h2, h3, h4, Bool.false_and, Bool.true_and]), HB.out⟩
          · skip
            cases h5 : (a.quote == b.quote)
            · go_wp2
              go_ret
              exact ⟨ret_bool (by rw [HS.out]; simp only [h0, h1, h2, h3, h4, h5, Bool.false_and, Bool.true_and]), HB.out⟩
            · skip
              cases h6 : (a.who == b.who)
              · go_wp2
                go_ret
                exact ⟨ret_bool (by rw [HS.out]; simp only [h0, h1, h2, h3, h4, h5, h6, Bool.false_and, Bool.true_and]), HB.out⟩
              · skip
                cases h7 : (a.n == b.n)
                · go_wp2
                  go_ret
                  exact ⟨ret_bool (by rw [HS.out]; simp only [h0, h1, h2, h3, h4, h5, h6, h7, Bool.false_and, Bool.true_and]), HB.out⟩
                · skip
                  cases h8 : (a.step == b.step)
                  · go_wp2
                    go_ret
                    exact ⟨ret_bool (by rw [HS.out]; simp only [h0, h1, h2, h3, h4, h5, h6, h7, h8, Bool.false_and, Bool.true_and]), HB.out⟩
                  · skip
                    cases h9 : (a.text.toList == b.text.toList)
                    · go_wp2
                      go_ret
                      exact ⟨ret_bool (by rw [HS.out]; simp only [h0, h1, h2, h3, h4, h5, h6, h7, h8, h9, Bool.false_and, Bool.true_and]), HB.out⟩
                    · cases h10 : decide (a.causes = b.causes)
                      · go_wp2_with fail
                        refine (HC.out _ HB.out).mono ?_
                        rintro e w1 ⟨rfl, hb1⟩
                        rw [h10]
                        have HB1 := Lib.hid (HB.out.trans (hb1.mono HB.out.size))
                        clear hb1
                        go_wp2
                        go_ret
                        exact ⟨ret_bool (by rw [HS.out]; simp only [h0, h1, h2, h3, h4, h5, h6, h7, h8, h9, h10, Bool.false_and, Bool.true_and]), HB1.out⟩
                      · go_wp2_with fail
                        refine (HC.out _ HB.out).mono ?_
                        rintro e w1 ⟨rfl, hb1⟩
                        rw [h10]
                        have HB1 := Lib.hid (HB.out.trans (hb1.mono HB.out.size))
                        have hz1 : w.heap.size + 2 ≤ w1.heap.size := by have := hb1.size; simpa using this
                        have q0 : w1.cell? ⟨w.heap.size, 10, none⟩ = some (.slice fA a.files.length fc) := (hb1.cell (p := ⟨w.heap.size, 10, none⟩) (by simp; omega)).trans (by simp)
                        have q1 : w1.cell? ⟨w.heap.size + 1, 10, none⟩ = some (.slice gA b.files.length gc) := (hb1.cell (p := ⟨w.heap.size + 1, 10, none⟩) (by simp)).trans (by simp)
                        clear hb1
                        go_wp2_with fail
                        refine (HFi.out _ HB1.out).mono ?_
                        rintro e w2 ⟨rfl, hb2⟩
                        have HB2 := Lib.hid (HB1.out.trans (hb2.mono HB1.out.size))
                        clear hb2 q0 q1
                        go_wp2
                        go_ret
                        exact ⟨ret_bool (by rw [HS.out]; simp only [h0, h1, h2, h3, h4, h5, h6, h7, h8, h9, h10, Bool.false_and, Bool.true_and]), HB2.out⟩
end Go.Proofs.Ytbpbdehnkkheiaa
