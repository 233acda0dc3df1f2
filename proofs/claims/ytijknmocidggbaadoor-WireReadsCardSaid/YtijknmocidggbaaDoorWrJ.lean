/- Contracts of lingualaw01: few. -/
import Derived.Test.YtijknmocidggbaaDoorWrI
namespace Go.Proofs.YtijknmocidggbaaDoor
open Go.RowKit

def VM.ok (v : VM) : Bool := decide (v.l.length ≤ 400) && (decide (v.t.length ≤ 400) && (decide (v.s.length ≤ 400) && v.t.all fun x => decide (x.length ≤ 400)))
def VM.sz (v : VM) : Nat := v.s.length + v.l.length + v.t.length + tot v.t
def sumSz (xs : List VM) : Nat := (xs.map VM.sz).sum
def fewV (xs : List VM) : Bool := decide (xs.length ≤ 20) && (xs.all VM.ok && decide (sumSz xs ≤ 400))
theorem sumSz_succ (xs : List VM) (k : Nat) (hk : k < xs.length) : sumSz (xs.take (k + 1)) = sumSz (xs.take k) + xs[k].sz := by
  rw [List.take_succ_eq_append_getElem hk]; simp only [sumSz, List.map_append, List.sum_append, List.map_cons, List.map_nil, List.sum_cons, List.sum_nil, Nat.add_zero]
theorem tot_succ (xs : List (List UInt8)) (k : Nat) (hk : k < xs.length) : tot (xs.take (k + 1)) = tot (xs.take k) + xs[k].length := by
  rw [List.take_succ_eq_append_getElem hk]; simp only [tot, List.map_append, List.sum_append, List.map_cons, List.map_nil, List.sum_cons, List.sum_nil, Nat.add_zero]
theorem tot_take_le (xs : List (List UInt8)) (k : Nat) : tot (xs.take k) ≤ tot xs := by
  conv => rhs; rw [← List.take_append_drop k xs]
  simp only [tot, List.map_append, List.sum_append]
  omega
theorem tot_bound (xs : List (List UInt8)) (m : Nat) (h : ∀ x ∈ xs, x.length ≤ m) : tot xs ≤ xs.length * m := by
  induction xs with
  | nil => simp [tot]
  | cons x r ih =>
    have h1 := h x (by simp)
    have h2 := ih (fun y hy => h y (by simp [hy]))
    simp only [tot, List.map_cons, List.sum_cons, List.length_cons, Nat.add_mul] at *
    omega
theorem VM.sz_le (v : VM) (h : v.ok = true) : v.sz ≤ 200000 := by
  unfold VM.ok at h
  simp only [Bool.and_eq_true, decide_eq_true_eq, List.all_eq_true] at h
  obtain ⟨h1, h2, h3, h4⟩ := h
  have := tot_bound v.t 400 h4
  have h5 : v.t.length * 400 ≤ 400 * 400 := Nat.mul_le_mul_right _ h2
  unfold VM.sz
  omega
theorem sum_le (xs : List VM) (h : ∀ x ∈ xs, x.ok = true) : sumSz xs ≤ xs.length * 200000 := by
  induction xs with
  | nil => simp [sumSz]
  | cons x r ih =>
    have h1 := VM.sz_le x (h x (by simp))
    have h2 := ih (fun y hy => h y (by simp [hy]))
    simp only [sumSz, List.map_cons, List.sum_cons, List.length_cons, Nat.add_mul] at *
    omega
theorem few_bad (xs : List VM) (k : Nat) (hk : k < xs.length) (h : xs[k].ok = false) : fewV xs = false := by
  have : xs.all VM.ok = false := by
    rw [List.all_eq_false]
    exact ⟨xs[k], List.getElem_mem hk, by simp [h]⟩
  simp [fewV, this]
theorem few_end (xs : List VM) (h20 : xs.length ≤ 20) (h : ∀ x ∈ xs, x.ok = true) : fewV xs = decide (sumSz xs ≤ 400) := by
  have : xs.all VM.ok = true := List.all_eq_true.2 h
  simp [fewV, this, h20]
theorem wrap_id {x : Int} (h : -9223372036854775808 ≤ x ∧ x ≤ 9223372036854775807) : wrap64 x = x := by unfold wrap64; omega
theorem take_grow {T : Type} (P : T → Prop) (q : List T) (k : Nat) (hk : k < q.length) (h : ∀ p ∈ q.take k, P p) (h1 : P q[k]) : ∀ p ∈ q.take (k + 1), P p := by
  intro p hp
  rw [List.take_succ_eq_append_getElem hk, List.mem_append, List.mem_singleton] at hp
  rcases hp with hp | rfl
  · exact h p hp
  · exact h1
theorem rd_val {w : World} {A : Option Addr} {xs : List VM} {k : Nat} (h : RdL 5 VM.cs w w.heap.size A xs) (hk : k < xs.length) : ∃ b off v, A = some ⟨b, off, none⟩ ∧ b < w.heap.size ∧ xs[k] = v ∧
    w.cell? ⟨b, off + k * 5, none⟩ = some (.int .i64 v.kind) ∧ w.cell? ⟨b, off + k * 5 + 1, none⟩ = some (.int .i64 v.n) ∧ w.cell? ⟨b, off + k * 5 + 2, none⟩ = some (.string (bs v.s)) ∧ w.cell? ⟨b, off + k * 5 + 3, none⟩ = some (.slice v.lA v.l.length v.lc) ∧ w.cell? ⟨b, off + k * 5 + 4, none⟩ = some (.slice v.tA v.t.length v.tc) := by
  obtain ⟨b, off, e, hb, hc⟩ := h.at_ hk
  exact ⟨b, off, xs[k], e, hb, rfl, by simpa using hc 0 _ rfl, hc 1 _ rfl, hc 2 _ rfl, hc 3 _ rfl, hc 4 _ rfl⟩

set_option maxRecDepth 100000 in
set_option maxHeartbeats 4000000 in
theorem few_any (xs : List VM) (A : Option Addr) (c : Nat) (w : World) (hr : RdL 5 VM.cs w w.heap.size A xs) (hok : ∀ x ∈ xs, x.Ok w w.heap.size) (hn : xs.length ≤ 9223372036854775807) :
    Calls Tryd.prog 10 #[.slice A xs.length c] w fun e w' => e = .returned (.bool (fewV xs)) ∧ Below w.heap.size w w' := by
  have HR := Lib.hid hr
  have HOk := Lib.hid hok
  clear hr hok
  go_enter Tryd.func10, Tryd.ntmps10
  by_cases h20 : 20 < xs.length
  · have HF := Lib.hid (show fewV xs = false by simp [fewV]; omega)
    go_wp2_with fail
    go_ret
    exact ⟨ret_bool HF.out.symm, Below.refl _ _⟩
  · go_wp2_with fail
    go_loopw [3, 4, 5] (fun n i _ wr => ∃ k : Nat, k ≤ xs.length ∧ i = .int .i64 k ∧ n = .int .i64 (sumSz (xs.take k)) ∧ (∀ x ∈ xs.take k, x.ok = true) ∧ Below w.heap.size w wr) (fun _ i _ _ => xs.length - (intOf i).toNat)
    case atStart => exact ⟨0, Nat.zero_le _, rfl, by simp [sumSz], by simp, Below.refl _ _⟩
    case round =>
      obtain ⟨k, hk, rfl, rfl, hall, hb⟩ := hrel
      have HB := Lib.hid hb
      have HA := Lib.hid hall
      have hsum : sumSz (xs.take k) ≤ 4000000 := by
        have := sum_le (xs.take k) hall
        simp only [List.length_take] at this
        omega
      clear hall
      by_cases hlt : k < xs.length
      · obtain ⟨b, off, v, hA, hbl, hv, d0, d1, d2, d3, d4⟩ := rd_val (HR.out.now hb) hlt
        have HBad := Lib.hid (few_bad xs k hlt)
        have HGr := Lib.hid (take_grow (fun x : VM => x.ok = true) xs k hlt HA.out)
        have HSum := Lib.hid (sumSz_succ xs k hlt)
        have HO := Lib.hid (HOk.out _ (List.getElem_mem hlt))
        rw [hv] at HBad HGr HSum HO
        have hrt := HO.out.rt.now hb
        have HRt := Lib.hid hrt
        subst hA
        have hsl : (bs v.s).size = v.s.length := bs_size _
        clear hb hv hrt
        by_cases h1 : v.l.length ≤ 400 ∧ v.t.length ≤ 400 ∧ v.s.length ≤ 400
        · obtain ⟨h1, h2, h3⟩ := h1
          have e1 : ¬ (400 : Int) < v.l.length := by omega
          have e2 : ¬ (400 : Int) < v.t.length := by omega
          have e3 : ¬ (400 : Int) < v.s.length := by omega
          go_wp2_with fail
          go_quiet (fail)
          have HB2 := Lib.hid (below_drewN HB.out nq)
          have HRt2 := Lib.hid (HRt.out.now (below_drewN (Below.refl wr.heap.size wr) nq))
          have c2 : (wr.drewN nq).cell? ⟨b, off + k * 5 + 2, none⟩ = some (.string (bs v.s)) := d2
          have c4 : (wr.drewN nq).cell? ⟨b, off + k * 5 + 4, none⟩ = some (.slice v.tA v.t.length v.tc) := d4
          have hb2 : b < (wr.drewN nq).heap.size := hbl
          generalize wr.drewN nq = w2 at *
          clear d0 d1 d2 d3 d4 HB HRt hbl
          go_wp2_with fail
          go_loopw [3, 5] (fun n j wx => ∃ m : Nat, m ≤ v.t.length ∧ j = .int .i64 m ∧ n = .int .i64 ((sumSz (xs.take k) + v.s.length + v.l.length + v.t.length + tot (v.t.take m) : Nat)) ∧ (∀ x ∈ v.t.take m, x.length ≤ 400) ∧ Below w2.heap.size w2 wx) (fun _ j _ => v.t.length - (intOf j).toNat)
          case atStart =>
            refine ⟨0, Nat.zero_le _, rfl, ?_, by simp, Below.refl _ _⟩
            exact congrArg (Value.int .i64) (by simp only [List.take_zero, tot, List.map_nil, List.sum_nil]; omega)
          case round =>
            obtain ⟨m, hm, rfl, rfl, hallt, hbx⟩ := hrel
            have HAt := Lib.hid hallt
            have HBx := Lib.hid hbx
            have c4x := (hbx.cell (p := ⟨b, off + k * 5 + 4, none⟩) hb2).trans c4
            have htot : tot (v.t.take m) ≤ 160000 := by
              have h1 := tot_bound (v.t.take m) 400 hallt
              have h2 : (v.t.take m).length * 400 ≤ 400 * 400 := Nat.mul_le_mul_right _ (by simp; omega)
              omega
            clear hallt
            by_cases hmt : m < v.t.length
            · obtain ⟨b3, off3, hA3, hb3, c3x⟩ := rd_str' (HRt2.out.now hbx) hmt
              have HTs := Lib.hid (tot_succ v.t m hmt)
              have HTg := Lib.hid (take_grow (fun x : List UInt8 => x.length ≤ 400) v.t m hmt HAt.out)
              have HMem := Lib.hid (List.getElem_mem hmt)
              generalize v.t[m] = x at *
              have hsx : (bs x).size = x.length := bs_size _
              have HA3 := Lib.hid hA3
              rw [hA3] at c4x
              clear hbx hA3
              by_cases hx : (400 : Int) < x.length
              · have HF : Hid (fewV xs = false) := Lib.hid (HBad.out (by
                  have : (v.t.all fun x => decide (x.length ≤ 400)) = false := by
                    rw [List.all_eq_false]
                    exact ⟨x, HMem.out, by simp; omega⟩
                  unfold VM.ok
                  rw [this]
                  simp))
                go_wp2_with fail
                go_ret
                exact ⟨ret_bool HF.out.symm, HB2.out.trans (HBx.out.mono HB2.out.size)⟩
              · go_wp2_with fail
                go_roundw
                case rel =>
                  refine ⟨m + 1, by omega, by go_num, ?_, HTg.out (by omega), HBx.out⟩
                  rw [HTs.out]
                  exact congrArg (Value.int .i64) (by omega)
                case measure => simp [intOf]; omega
            · have hok : v.ok = true := by
                have h5 := HAt.out
                rw [List.take_of_length_le (by omega)] at h5
                unfold VM.ok
                simp only [Bool.and_eq_true, decide_eq_true_eq, List.all_eq_true]
                exact ⟨h1, h2, h3, h5⟩
              have htk : v.t.take m = v.t := List.take_of_length_le (by omega)
              have HTk := Lib.hid htk
              have HOk2 := Lib.hid hok
              clear htk hok hbx
              go_wp2_with fail
              go_roundw
              case rel =>
                refine ⟨k + 1, by omega, by go_num, ?_, HGr.out HOk2.out, HB2.out.trans (HBx.out.mono HB2.out.size)⟩
                rw [HSum.out, HTk.out]
                unfold VM.sz
                exact congrArg (Value.int .i64) (by omega)
              case measure => simp [intOf]; omega
        · have HF : Hid (fewV xs = false) := Lib.hid (HBad.out (by
            unfold VM.ok
            by_cases g1 : v.l.length ≤ 400
            · by_cases g2 : v.t.length ≤ 400
              · have g3 : ¬ v.s.length ≤ 400 := fun g3 => h1 ⟨g1, g2, g3⟩
                simp [g3]
              · simp [g2]
            · simp [g1]))
          by_cases g1 : (400 : Int) < v.l.length
          · go_wp2_with fail
            go_ret
            exact ⟨ret_bool HF.out.symm, HB.out⟩
          · by_cases g2 : (400 : Int) < v.t.length
            · go_wp2_with fail
              go_ret
              exact ⟨ret_bool HF.out.symm, HB.out⟩
            · have g3 : (400 : Int) < v.s.length := by omega
              clear h1
              go_wp2_with fail
              go_ret
              exact ⟨ret_bool HF.out.symm, HB.out⟩
      · have htk : xs.take k = xs := List.take_of_length_le (by omega)
        have HF : Hid (fewV xs = decide ((sumSz xs : Int) ≤ 400)) := Lib.hid (by
          have h := HA.out
          rw [htk] at h
          rw [few_end xs (by omega) h]
          congr 1
          simp only [eq_iff_iff]
          omega)
        rw [htk]
        clear htk
        go_wp2_with fail
        go_ret
        exact ⟨ret_bool HF.out.symm, HB.out⟩
end Go.Proofs.YtijknmocidggbaaDoor
