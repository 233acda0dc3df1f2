/- Contracts and plain laws, joined: SyX. -/
import Derived.Test.YtnaejabgkfhlbaaDoorQay
/- Contract of linguaref12.Same (written by gensamep.py). -/
set_option linter.unusedSimpArgs false
set_option linter.unusedVariables false
namespace Go.Proofs.YtnaejabgkfhlbaaDoor
open Go.RowKit

set_option maxRecDepth 100000 in
set_option maxHeartbeats 8000000 in
theorem rSame_any (p q : Prof) (A A2 : Option Addr) (c d : Nat) (w : World) (hp : ProfOk w w.heap.size A p) (hq : ProfOk w w.heap.size A2 q) (hl : p.types.length ≤ 1000) (hm : q.types.length ≤ 1000) :
    Calls Tryd.prog 15 #[p.v A c, q.v A2 d] w fun e w' => e = .returned (.bool (sameP p q)) ∧ Below w.heap.size w w' := by
  have hb0 : Below w.heap.size w ((w.alloc (.cells (p.cs A c) 24)).alloc (.cells (q.cs A2 d) 24)) := by repeat (first | with_reducible exact Below.refl _ _ | with_reducible assumption | with_reducible refine Below.drew ?_ | with_reducible refine Below.alloc ?_ (by first | omega | (simp; done) | (simp; omega)) _)
  have HB := Lib.hid hb0
  have HP := Lib.hid hp.rd
  have HQ := Lib.hid hq.rd
  have HF := Lib.hid (fun h : ¬ p.types = q.types => show sameP p q = false by
    cases e : sameP p q with
    | false => rfl
    | true => exact absurd (congrArg Prof.types ((sameP_iff p q).1 e)) h)
  have HT := Lib.hid (sameP_two p q)
  have HBx := Lib.hid (boxAll2 w (p.cs A c) (q.cs A2 d) 24)
  clear hp hq hb0
  go_enter Tryd.func15, Tryd.ntmps15
  by_cases hne : p.types.length = q.types.length
  · have hnb : ((p.types.length : Int) != (q.types.length : Int)) = false := by rw [hne]; simp
    have HNe := Lib.hid hne
    clear hne
    go_wp2_with fail
    go_loopw [5] (fun i wr => ∃ k : Nat, k ≤ p.types.length ∧ i = .int .i64 k ∧ Below (w.heap.size + 2) ((w.alloc (.cells (p.cs A c) 24)).alloc (.cells (q.cs A2 d) 24)) wr ∧ ∀ j, j < k → p.types[j]? = q.types[j]?) (fun i _ => p.types.length - (intOf i).toNat)
    case atStart => exact ⟨0, Nat.zero_le _, rfl, Below.refl _ _, fun j hj => by omega⟩
    case round =>
      obtain ⟨k, hk, rfl, hb, hno⟩ := hrel
      have HC1 := Lib.hid (fun j v (hv : (p.cs A c)[j]? = some v) => (hb.cell (p := ⟨w.heap.size, j, none⟩) (by simp)).trans (HBx.out.1 j v hv))
      have HC2 := Lib.hid (fun j v (hv : (q.cs A2 d)[j]? = some v) => (hb.cell (p := ⟨w.heap.size + 1, j, none⟩) (by simp)).trans (HBx.out.2 j v hv))
      have HNo := Lib.hid hno
      have HBr := Lib.hid hb
      have hbw : Below w.heap.size w wr := HB.out.trans (hb.mono (by omega))
      have HB1 := Lib.hid hbw
      have hzr : w.heap.size + 2 ≤ wr.heap.size := by have := hb.size; simpa using this
      clear hb hno
      have c12 := HC1.out 12 _ rfl
      have d12 := HC2.out 12 _ rfl
      by_cases hlt : k < p.types.length
      · have hlq : k < q.types.length := HNe.out ▸ hlt
        obtain ⟨b1, o1, s1, rfl, hb1, hs1, hc1⟩ := RdS_at (HP.out.now hbw) hlt
        obtain ⟨b2, o2, s2, rfl, hb2, hs2, hc2⟩ := RdS_at (HQ.out.now hbw) hlq
        have HS1 := Lib.hid hs1
        have HS2 := Lib.hid hs2
        clear hbw hs1 hs2 hnb
        cases hss : (s1.toList == s2.toList) with
        | false =>
          have hss2 : (s1.toList != s2.toList) = true := by rw [bne, hss]; rfl
          have HD : Hid (sameP p q = false) := Lib.hid (HF.out fun e => by
            have h1 := HS1.out
            rw [e, HS2.out] at h1
            injection h1 with h1
            rw [h1] at hss
            simp at hss)
          clear HF HT
          go_wp2_with fail
          go_quiet (fail)
          go_wp2_with fail
          go_ret
          exact ⟨ret_bool HD.out.symm, below_drewN HB1.out _⟩
        | true =>
          have hss2 : (s1.toList != s2.toList) = false := by rw [bne, hss]; rfl
          have HE : Hid (s1 = s2) := Lib.hid (toList_inj2 (by simpa using hss))
          clear HF HT
          go_wp2_with fail
          go_quiet (fail)
          go_wp2_with fail
          refine ⟨⟨k + 1, by omega, by go_num, below_drewN HBr.out _, fun j hj => ?_⟩, ?_⟩
          · by_cases e : j = k
            · subst e; rw [HS1.out, HS2.out, HE.out]
            · exact HNo.out j (by omega)
          · simp [intOf]; omega
      · have hty : p.types = q.types := List.ext_getElem? fun j => by
          by_cases hj : j < p.types.length
          · exact HNo.out j (by omega)
          · rw [List.getElem?_eq_none (by omega), List.getElem?_eq_none (by have := HNe.out; omega)]
        have HSm := Lib.hid (HT.out hty)
        clear hty hbw HT HF hnb
        go_upto_region 8 with fail
        clear c12 d12
        refine wp_region_list ?_
        simp only [List.cons_append, List.nil_append]
        refine wpList_val (v := ?_) rfl ?_ ?_
        rotate_left
        · go_simp
          try with_reducible rfl
        simp only [Act.put, List.setIfInBounds_toArray, List.set_cons_zero, List.set_cons_succ]
        refine wpList_val (v := ?_) rfl ?_ ?_
        rotate_left
        · have cc := HC1.out 0 _ rfl
          go_simp
          try with_reducible rfl
        simp only [Act.put, List.setIfInBounds_toArray, List.set_cons_zero, List.set_cons_succ]
        refine wpList_val (v := ?_) rfl ?_ ?_
        rotate_left
        · go_simp
          try with_reducible rfl
        simp only [Act.put, List.setIfInBounds_toArray, List.set_cons_zero, List.set_cons_succ]
        refine wpList_val (v := ?_) rfl ?_ ?_
        rotate_left
        · have cc := HC2.out 0 _ rfl
          go_simp
          try with_reducible rfl
        simp only [Act.put, List.setIfInBounds_toArray, List.set_cons_zero, List.set_cons_succ]
        refine wpList_val (v := ?_) rfl ?_ ?_
        rotate_left
        · go_simp
          try with_reducible rfl
        simp only [Act.put, List.setIfInBounds_toArray, List.set_cons_zero, List.set_cons_succ]
        obtain ⟨a0, ha0⟩ : ∃ x, x = (p.name.toList == q.name.toList) := ⟨_, rfl⟩
        rw [← ha0]
        have Ha0 := Lib.hid ha0
        clear ha0
        refine wpList_val (v := ?_) rfl ?_ ?_
        rotate_left
        · go_simp
          try with_reducible rfl
        simp only [Act.put, List.setIfInBounds_toArray, List.set_cons_zero, List.set_cons_succ]
        refine wpList_opt (v := ?_) _ rfl (by rfl) (fun hq => ?_) ?_
        rotate_left
        · go_simp
          try with_reducible rfl
        simp only [Act.put, List.setIfInBounds_toArray, List.set_cons_zero, List.set_cons_succ]
        refine wpList_opt (v := ?_) _ rfl (by rfl) (fun hq => ?_) ?_
        rotate_left
        · have cc := HC1.out 1 _ rfl
          go_simp
          try with_reducible rfl
        simp only [Act.put, List.setIfInBounds_toArray, List.set_cons_zero, List.set_cons_succ]
        refine wpList_opt (v := ?_) _ rfl (by rfl) (fun hq => ?_) ?_
        rotate_left
        · go_simp
          try with_reducible rfl
        simp only [Act.put, List.setIfInBounds_toArray, List.set_cons_zero, List.set_cons_succ]
        refine wpList_opt (v := ?_) _ rfl (by rfl) (fun hq => ?_) ?_
        rotate_left
        · have cc := HC2.out 1 _ rfl
          go_simp
          try with_reducible rfl
        simp only [Act.put, List.setIfInBounds_toArray, List.set_cons_zero, List.set_cons_succ]
        refine wpList_opt (v := ?_) _ rfl (by rfl) (fun hq => ?_) ?_
        rotate_left
        · go_simp
          try with_reducible rfl
        simp only [Act.put, List.setIfInBounds_toArray, List.set_cons_zero, List.set_cons_succ]
        refine wpList_pick _ _ rfl rfl (by rfl) (by rfl) (fun a1 ha1 => ?_)
        simp only [Act.put, List.setIfInBounds_toArray, List.set_cons_zero, List.set_cons_succ]
        refine wpList_val (v := ?_) rfl ?_ ?_
        rotate_left
        · go_simp
          try with_reducible rfl
        simp only [Act.put, List.setIfInBounds_toArray, List.set_cons_zero, List.set_cons_succ]
        refine wpList_opt (v := ?_) _ rfl (by rfl) (fun hq => ?_) ?_
        rotate_left
        · go_simp
          try with_reducible rfl
        simp only [Act.put, List.setIfInBounds_toArray, List.set_cons_zero, List.set_cons_succ]
        refine wpList_opt (v := ?_) _ rfl (by rfl) (fun hq => ?_) ?_
        rotate_left
        · have cc := HC1.out 2 _ rfl
          go_simp
          try with_reducible rfl
        simp only [Act.put, List.setIfInBounds_toArray, List.set_cons_zero, List.set_cons_succ]
        refine wpList_opt (v := ?_) _ rfl (by rfl) (fun hq => ?_) ?_
        rotate_left
        · go_simp
          try with_reducible rfl
        simp only [Act.put, List.setIfInBounds_toArray, List.set_cons_zero, List.set_cons_succ]
        refine wpList_opt (v := ?_) _ rfl (by rfl) (fun hq => ?_) ?_
        rotate_left
        · have cc := HC2.out 2 _ rfl
          go_simp
          try with_reducible rfl
        simp only [Act.put, List.setIfInBounds_toArray, List.set_cons_zero, List.set_cons_succ]
        refine wpList_opt (v := ?_) _ rfl (by rfl) (fun hq => ?_) ?_
        rotate_left
        · go_simp
          try with_reducible rfl
        simp only [Act.put, List.setIfInBounds_toArray, List.set_cons_zero, List.set_cons_succ]
        refine wpList_pick _ _ rfl rfl (by rfl) (by rfl) (fun a2 ha2 => ?_)
        simp only [Act.put, List.setIfInBounds_toArray, List.set_cons_zero, List.set_cons_succ]
        refine wpList_val (v := ?_) rfl ?_ ?_
        rotate_left
        · go_simp
          try with_reducible rfl
        simp only [Act.put, List.setIfInBounds_toArray, List.set_cons_zero, List.set_cons_succ]
        refine wpList_opt (v := ?_) _ rfl (by rfl) (fun hq => ?_) ?_
        rotate_left
        · go_simp
          try with_reducible rfl
        simp only [Act.put, List.setIfInBounds_toArray, List.set_cons_zero, List.set_cons_succ]
        refine wpList_opt (v := ?_) _ rfl (by rfl) (fun hq => ?_) ?_
        rotate_left
        · have cc := HC1.out 3 _ rfl
          go_simp
          try with_reducible rfl
        simp only [Act.put, List.setIfInBounds_toArray, List.set_cons_zero, List.set_cons_succ]
        refine wpList_opt (v := ?_) _ rfl (by rfl) (fun hq => ?_) ?_
        rotate_left
        · go_simp
          try with_reducible rfl
        simp only [Act.put, List.setIfInBounds_toArray, List.set_cons_zero, List.set_cons_succ]
        refine wpList_opt (v := ?_) _ rfl (by rfl) (fun hq => ?_) ?_
        rotate_left
        · have cc := HC2.out 3 _ rfl
          go_simp
          try with_reducible rfl
        simp only [Act.put, List.setIfInBounds_toArray, List.set_cons_zero, List.set_cons_succ]
        refine wpList_opt (v := ?_) _ rfl (by rfl) (fun hq => ?_) ?_
        rotate_left
        · go_simp
          try with_reducible rfl
        simp only [Act.put, List.setIfInBounds_toArray, List.set_cons_zero, List.set_cons_succ]
        refine wpList_pick _ _ rfl rfl (by rfl) (by rfl) (fun a3 ha3 => ?_)
        simp only [Act.put, List.setIfInBounds_toArray, List.set_cons_zero, List.set_cons_succ]
        refine wpList_val (v := ?_) rfl ?_ ?_
        rotate_left
        · go_simp
          try with_reducible rfl
        simp only [Act.put, List.setIfInBounds_toArray, List.set_cons_zero, List.set_cons_succ]
        refine wpList_opt (v := ?_) _ rfl (by rfl) (fun hq => ?_) ?_
        rotate_left
        · go_simp
          try with_reducible rfl
        simp only [Act.put, List.setIfInBounds_toArray, List.set_cons_zero, List.set_cons_succ]
        refine wpList_opt (v := ?_) _ rfl (by rfl) (fun hq => ?_) ?_
        rotate_left
        · have cc := HC1.out 4 _ rfl
          go_simp
          try with_reducible rfl
        simp only [Act.put, List.setIfInBounds_toArray, List.set_cons_zero, List.set_cons_succ]
        refine wpList_opt (v := ?_) _ rfl (by rfl) (fun hq => ?_) ?_
        rotate_left
        · go_simp
          try with_reducible rfl
        simp only [Act.put, List.setIfInBounds_toArray, List.set_cons_zero, List.set_cons_succ]
        refine wpList_opt (v := ?_) _ rfl (by rfl) (fun hq => ?_) ?_
        rotate_left
        · have cc := HC2.out 4 _ rfl
          go_simp
          try with_reducible rfl
        simp only [Act.put, List.setIfInBounds_toArray, List.set_cons_zero, List.set_cons_succ]
        refine wpList_opt (v := ?_) _ rfl (by rfl) (fun hq => ?_) ?_
        rotate_left
        · go_simp
          try with_reducible rfl
        simp only [Act.put, List.setIfInBounds_toArray, List.set_cons_zero, List.set_cons_succ]
        refine wpList_pick _ _ rfl rfl (by rfl) (by rfl) (fun a4 ha4 => ?_)
        simp only [Act.put, List.setIfInBounds_toArray, List.set_cons_zero, List.set_cons_succ]
        refine wpList_val (v := ?_) rfl ?_ ?_
        rotate_left
        · go_simp
          try with_reducible rfl
        simp only [Act.put, List.setIfInBounds_toArray, List.set_cons_zero, List.set_cons_succ]
        refine wpList_opt (v := ?_) _ rfl (by rfl) (fun hq => ?_) ?_
        rotate_left
        · go_simp
          try with_reducible rfl
        simp only [Act.put, List.setIfInBounds_toArray, List.set_cons_zero, List.set_cons_succ]
        refine wpList_opt (v := ?_) _ rfl (by rfl) (fun hq => ?_) ?_
        rotate_left
        · have cc := HC1.out 5 _ rfl
          go_simp
          try with_reducible rfl
        simp only [Act.put, List.setIfInBounds_toArray, List.set_cons_zero, List.set_cons_succ]
        refine wpList_opt (v := ?_) _ rfl (by rfl) (fun hq => ?_) ?_
        rotate_left
        · go_simp
          try with_reducible rfl
        simp only [Act.put, List.setIfInBounds_toArray, List.set_cons_zero, List.set_cons_succ]
        refine wpList_opt (v := ?_) _ rfl (by rfl) (fun hq => ?_) ?_
        rotate_left
        · have cc := HC2.out 5 _ rfl
          go_simp
          try with_reducible rfl
        simp only [Act.put, List.setIfInBounds_toArray, List.set_cons_zero, List.set_cons_succ]
        refine wpList_opt (v := ?_) _ rfl (by rfl) (fun hq => ?_) ?_
        rotate_left
        · go_simp
          try with_reducible rfl
        simp only [Act.put, List.setIfInBounds_toArray, List.set_cons_zero, List.set_cons_succ]
        refine wpList_pick _ _ rfl rfl (by rfl) (by rfl) (fun a5 ha5 => ?_)
        simp only [Act.put, List.setIfInBounds_toArray, List.set_cons_zero, List.set_cons_succ]
        refine wpList_val (v := ?_) rfl ?_ ?_
        rotate_left
        · go_simp
          try with_reducible rfl
        simp only [Act.put, List.setIfInBounds_toArray, List.set_cons_zero, List.set_cons_succ]
        refine wpList_opt (v := ?_) _ rfl (by rfl) (fun hq => ?_) ?_
        rotate_left
        · go_simp
          try with_reducible rfl
        simp only [Act.put, List.setIfInBounds_toArray, List.set_cons_zero, List.set_cons_succ]
        refine wpList_opt (v := ?_) _ rfl (by rfl) (fun hq => ?_) ?_
        rotate_left
        · have cc := HC1.out 6 _ rfl
          go_simp
          try with_reducible rfl
        simp only [Act.put, List.setIfInBounds_toArray, List.set_cons_zero, List.set_cons_succ]
        refine wpList_opt (v := ?_) _ rfl (by rfl) (fun hq => ?_) ?_
        rotate_left
        · go_simp
          try with_reducible rfl
        simp only [Act.put, List.setIfInBounds_toArray, List.set_cons_zero, List.set_cons_succ]
        refine wpList_opt (v := ?_) _ rfl (by rfl) (fun hq => ?_) ?_
        rotate_left
        · have cc := HC2.out 6 _ rfl
          go_simp
          try with_reducible rfl
        simp only [Act.put, List.setIfInBounds_toArray, List.set_cons_zero, List.set_cons_succ]
        refine wpList_opt (v := ?_) _ rfl (by rfl) (fun hq => ?_) ?_
        rotate_left
        · go_simp
          try with_reducible rfl
        simp only [Act.put, List.setIfInBounds_toArray, List.set_cons_zero, List.set_cons_succ]
        refine wpList_pick _ _ rfl rfl (by rfl) (by rfl) (fun a6 ha6 => ?_)
        simp only [Act.put, List.setIfInBounds_toArray, List.set_cons_zero, List.set_cons_succ]
        refine wpList_val (v := ?_) rfl ?_ ?_
        rotate_left
        · go_simp
          try with_reducible rfl
        simp only [Act.put, List.setIfInBounds_toArray, List.set_cons_zero, List.set_cons_succ]
        refine wpList_opt (v := ?_) _ rfl (by rfl) (fun hq => ?_) ?_
        rotate_left
        · go_simp
          try with_reducible rfl
        simp only [Act.put, List.setIfInBounds_toArray, List.set_cons_zero, List.set_cons_succ]
        refine wpList_opt (v := ?_) _ rfl (by rfl) (fun hq => ?_) ?_
        rotate_left
        · have cc := HC1.out 7 _ rfl
          go_simp
          try with_reducible rfl
        simp only [Act.put, List.setIfInBounds_toArray, List.set_cons_zero, List.set_cons_succ]
        refine wpList_opt (v := ?_) _ rfl (by rfl) (fun hq => ?_) ?_
        rotate_left
        · go_simp
          try with_reducible rfl
        simp only [Act.put, List.setIfInBounds_toArray, List.set_cons_zero, List.set_cons_succ]
        refine wpList_opt (v := ?_) _ rfl (by rfl) (fun hq => ?_) ?_
        rotate_left
        · have cc := HC2.out 7 _ rfl
          go_simp
          try with_reducible rfl
        simp only [Act.put, List.setIfInBounds_toArray, List.set_cons_zero, List.set_cons_succ]
        refine wpList_opt (v := ?_) _ rfl (by rfl) (fun hq => ?_) ?_
        rotate_left
        · go_simp
          try with_reducible rfl
        simp only [Act.put, List.setIfInBounds_toArray, List.set_cons_zero, List.set_cons_succ]
        refine wpList_pick _ _ rfl rfl (by rfl) (by rfl) (fun a7 ha7 => ?_)
        simp only [Act.put, List.setIfInBounds_toArray, List.set_cons_zero, List.set_cons_succ]
        refine wpList_val (v := ?_) rfl ?_ ?_
        rotate_left
        · go_simp
          try with_reducible rfl
        simp only [Act.put, List.setIfInBounds_toArray, List.set_cons_zero, List.set_cons_succ]
        refine wpList_opt (v := ?_) _ rfl (by rfl) (fun hq => ?_) ?_
        rotate_left
        · go_simp
          try with_reducible rfl
        simp only [Act.put, List.setIfInBounds_toArray, List.set_cons_zero, List.set_cons_succ]
        refine wpList_opt (v := ?_) _ rfl (by rfl) (fun hq => ?_) ?_
        rotate_left
        · have cc := HC1.out 8 _ rfl
          go_simp
          try with_reducible rfl
        simp only [Act.put, List.setIfInBounds_toArray, List.set_cons_zero, List.set_cons_succ]
        refine wpList_opt (v := ?_) _ rfl (by rfl) (fun hq => ?_) ?_
        rotate_left
        · go_simp
          try with_reducible rfl
        simp only [Act.put, List.setIfInBounds_toArray, List.set_cons_zero, List.set_cons_succ]
        refine wpList_opt (v := ?_) _ rfl (by rfl) (fun hq => ?_) ?_
        rotate_left
        · have cc := HC2.out 8 _ rfl
          go_simp
          try with_reducible rfl
        simp only [Act.put, List.setIfInBounds_toArray, List.set_cons_zero, List.set_cons_succ]
        refine wpList_opt (v := ?_) _ rfl (by rfl) (fun hq => ?_) ?_
        rotate_left
        · go_simp
          try with_reducible rfl
        simp only [Act.put, List.setIfInBounds_toArray, List.set_cons_zero, List.set_cons_succ]
        refine wpList_pick _ _ rfl rfl (by rfl) (by rfl) (fun a8 ha8 => ?_)
        simp only [Act.put, List.setIfInBounds_toArray, List.set_cons_zero, List.set_cons_succ]
        refine wpList_val (v := ?_) rfl ?_ ?_
        rotate_left
        · go_simp
          try with_reducible rfl
        simp only [Act.put, List.setIfInBounds_toArray, List.set_cons_zero, List.set_cons_succ]
        refine wpList_opt (v := ?_) _ rfl (by rfl) (fun hq => ?_) ?_
        rotate_left
        · go_simp
          try with_reducible rfl
        simp only [Act.put, List.setIfInBounds_toArray, List.set_cons_zero, List.set_cons_succ]
        refine wpList_opt (v := ?_) _ rfl (by rfl) (fun hq => ?_) ?_
        rotate_left
        · have cc := HC1.out 9 _ rfl
          go_simp
          try with_reducible rfl
        simp only [Act.put, List.setIfInBounds_toArray, List.set_cons_zero, List.set_cons_succ]
        refine wpList_opt (v := ?_) _ rfl (by rfl) (fun hq => ?_) ?_
        rotate_left
        · go_simp
          try with_reducible rfl
        simp only [Act.put, List.setIfInBounds_toArray, List.set_cons_zero, List.set_cons_succ]
        refine wpList_opt (v := ?_) _ rfl (by rfl) (fun hq => ?_) ?_
        rotate_left
        · have cc := HC2.out 9 _ rfl
          go_simp
          try with_reducible rfl
        simp only [Act.put, List.setIfInBounds_toArray, List.set_cons_zero, List.set_cons_succ]
        refine wpList_opt (v := ?_) _ rfl (by rfl) (fun hq => ?_) ?_
        rotate_left
        · go_simp
          try with_reducible rfl
        simp only [Act.put, List.setIfInBounds_toArray, List.set_cons_zero, List.set_cons_succ]
        refine wpList_pick _ _ rfl rfl (by rfl) (by rfl) (fun a9 ha9 => ?_)
        simp only [Act.put, List.setIfInBounds_toArray, List.set_cons_zero, List.set_cons_succ]
        refine wpList_val (v := ?_) rfl ?_ ?_
        rotate_left
        · go_simp
          try with_reducible rfl
        simp only [Act.put, List.setIfInBounds_toArray, List.set_cons_zero, List.set_cons_succ]
        rename_i Ka hKa
        show Ka _ _
        refine hKa _ _ ?_
        generalize (if a0 = true then Value.pointer (some ⟨w.heap.size, 1, none⟩) else undef) = u
        generalize (if a0 = true then Value.int .i64 p.edit else undef) = u
        generalize (if a0 = true then Value.pointer (some ⟨w.heap.size + 1, 1, none⟩) else undef) = u
        generalize (if a0 = true then Value.int .i64 q.edit else undef) = u
        generalize (if a0 = true then Value.bool (p.edit == q.edit) else undef) = u
        generalize (if a1 = true then Value.pointer (some ⟨w.heap.size, 2, none⟩) else undef) = u
        generalize (if a1 = true then Value.int .i64 p.within_ else undef) = u
        generalize (if a1 = true then Value.pointer (some ⟨w.heap.size + 1, 2, none⟩) else undef) = u
        generalize (if a1 = true then Value.int .i64 q.within_ else undef) = u
        generalize (if a1 = true then Value.bool (p.within_ == q.within_) else undef) = u
        generalize (if a2 = true then Value.pointer (some ⟨w.heap.size, 3, none⟩) else undef) = u
        generalize (if a2 = true then Value.int .i64 p.delete else undef) = u
        generalize (if a2 = true then Value.pointer (some ⟨w.heap.size + 1, 3, none⟩) else undef) = u
        generalize (if a2 = true then Value.int .i64 q.delete else undef) = u
        generalize (if a2 = true then Value.bool (p.delete == q.delete) else undef) = u
        generalize (if a3 = true then Value.pointer (some ⟨w.heap.size, 4, none⟩) else undef) = u
        generalize (if a3 = true then Value.bool p.react else undef) = u
        generalize (if a3 = true then Value.pointer (some ⟨w.heap.size + 1, 4, none⟩) else undef) = u
        generalize (if a3 = true then Value.bool q.react else undef) = u
        generalize (if a3 = true then Value.bool (p.react == q.react) else undef) = u
        generalize (if a4 = true then Value.pointer (some ⟨w.heap.size, 5, none⟩) else undef) = u
        generalize (if a4 = true then Value.int .i64 p.thread else undef) = u
        generalize (if a4 = true then Value.pointer (some ⟨w.heap.size + 1, 5, none⟩) else undef) = u
        generalize (if a4 = true then Value.int .i64 q.thread else undef) = u
        generalize (if a4 = true then Value.bool (p.thread == q.thread) else undef) = u
        generalize (if a5 = true then Value.pointer (some ⟨w.heap.size, 6, none⟩) else undef) = u
        generalize (if a5 = true then Value.bool p.quote else undef) = u
        generalize (if a5 = true then Value.pointer (some ⟨w.heap.size + 1, 6, none⟩) else undef) = u
        generalize (if a5 = true then Value.bool q.quote else undef) = u
        generalize (if a5 = true then Value.bool (p.quote == q.quote) else undef) = u
        generalize (if a6 = true then Value.pointer (some ⟨w.heap.size, 7, none⟩) else undef) = u
        generalize (if a6 = true then Value.bool p.mention else undef) = u
        generalize (if a6 = true then Value.pointer (some ⟨w.heap.size + 1, 7, none⟩) else undef) = u
        generalize (if a6 = true then Value.bool q.mention else undef) = u
        generalize (if a6 = true then Value.bool (p.mention == q.mention) else undef) = u
        generalize (if a7 = true then Value.pointer (some ⟨w.heap.size, 8, none⟩) else undef) = u
        generalize (if a7 = true then Value.int .i64 p.size else undef) = u
        generalize (if a7 = true then Value.pointer (some ⟨w.heap.size + 1, 8, none⟩) else undef) = u
        generalize (if a7 = true then Value.int .i64 q.size else undef) = u
        generalize (if a7 = true then Value.bool (p.size == q.size) else undef) = u
        generalize (if a8 = true then Value.pointer (some ⟨w.heap.size, 9, none⟩) else undef) = u
        generalize (if a8 = true then Value.int .i64 p.parts else undef) = u
        generalize (if a8 = true then Value.pointer (some ⟨w.heap.size + 1, 9, none⟩) else undef) = u
        generalize (if a8 = true then Value.int .i64 q.parts else undef) = u
        generalize (if a8 = true then Value.bool (p.parts == q.parts) else undef) = u
        go_upto_region 9 with fail
        refine wp_region_list ?_
        simp only [List.cons_append, List.nil_append]
        refine wpList_val (v := ?_) rfl ?_ ?_
        rotate_left
        · go_simp
          try with_reducible rfl
        simp only [Act.put, List.setIfInBounds_toArray, List.set_cons_zero, List.set_cons_succ]
        refine wpList_val (v := ?_) rfl ?_ ?_
        rotate_left
        · have cc := HC1.out 10 _ rfl
          go_simp
          try with_reducible rfl
        simp only [Act.put, List.setIfInBounds_toArray, List.set_cons_zero, List.set_cons_succ]
        refine wpList_val (v := ?_) rfl ?_ ?_
        rotate_left
        · go_simp
          try with_reducible rfl
        simp only [Act.put, List.setIfInBounds_toArray, List.set_cons_zero, List.set_cons_succ]
        refine wpList_val (v := ?_) rfl ?_ ?_
        rotate_left
        · have cc := HC2.out 10 _ rfl
          go_simp
          try with_reducible rfl
        simp only [Act.put, List.setIfInBounds_toArray, List.set_cons_zero, List.set_cons_succ]
        refine wpList_val (v := ?_) rfl ?_ ?_
        rotate_left
        · go_simp
          try with_reducible rfl
        simp only [Act.put, List.setIfInBounds_toArray, List.set_cons_zero, List.set_cons_succ]
        obtain ⟨b0, hb0⟩ : ∃ x, x = (p.files == q.files) := ⟨_, rfl⟩
        rw [← hb0]
        have Hb0 := Lib.hid hb0
        clear hb0
        refine wpList_val (v := ?_) rfl ?_ ?_
        rotate_left
        · go_simp
          try with_reducible rfl
        simp only [Act.put, List.setIfInBounds_toArray, List.set_cons_zero, List.set_cons_succ]
        refine wpList_opt (v := ?_) _ rfl (by rfl) (fun hq => ?_) ?_
        rotate_left
        · go_simp
          try with_reducible rfl
        simp only [Act.put, List.setIfInBounds_toArray, List.set_cons_zero, List.set_cons_succ]
        refine wpList_opt (v := ?_) _ rfl (by rfl) (fun hq => ?_) ?_
        rotate_left
        · have cc := HC1.out 11 _ rfl
          go_simp
          try with_reducible rfl
        simp only [Act.put, List.setIfInBounds_toArray, List.set_cons_zero, List.set_cons_succ]
        refine wpList_opt (v := ?_) _ rfl (by rfl) (fun hq => ?_) ?_
        rotate_left
        · go_simp
          try with_reducible rfl
        simp only [Act.put, List.setIfInBounds_toArray, List.set_cons_zero, List.set_cons_succ]
        refine wpList_opt (v := ?_) _ rfl (by rfl) (fun hq => ?_) ?_
        rotate_left
        · have cc := HC2.out 11 _ rfl
          go_simp
          try with_reducible rfl
        simp only [Act.put, List.setIfInBounds_toArray, List.set_cons_zero, List.set_cons_succ]
        refine wpList_opt (v := ?_) _ rfl (by rfl) (fun hq => ?_) ?_
        rotate_left
        · go_simp
          try with_reducible rfl
        simp only [Act.put, List.setIfInBounds_toArray, List.set_cons_zero, List.set_cons_succ]
        refine wpList_pick _ _ rfl rfl (by rfl) (by rfl) (fun b1 hb1 => ?_)
        simp only [Act.put, List.setIfInBounds_toArray, List.set_cons_zero, List.set_cons_succ]
        refine wpList_val (v := ?_) rfl ?_ ?_
        rotate_left
        · go_simp
          try with_reducible rfl
        simp only [Act.put, List.setIfInBounds_toArray, List.set_cons_zero, List.set_cons_succ]
        refine wpList_opt (v := ?_) _ rfl (by rfl) (fun hq => ?_) ?_
        rotate_left
        · go_simp
          try with_reducible rfl
        simp only [Act.put, List.setIfInBounds_toArray, List.set_cons_zero, List.set_cons_succ]
        refine wpList_opt (v := ?_) _ rfl (by rfl) (fun hq => ?_) ?_
        rotate_left
        · have cc := HC1.out 13 _ rfl
          go_simp
          try with_reducible rfl
        simp only [Act.put, List.setIfInBounds_toArray, List.set_cons_zero, List.set_cons_succ]
        refine wpList_opt (v := ?_) _ rfl (by rfl) (fun hq => ?_) ?_
        rotate_left
        · go_simp
          try with_reducible rfl
        simp only [Act.put, List.setIfInBounds_toArray, List.set_cons_zero, List.set_cons_succ]
        refine wpList_opt (v := ?_) _ rfl (by rfl) (fun hq => ?_) ?_
        rotate_left
        · have cc := HC2.out 13 _ rfl
          go_simp
          try with_reducible rfl
        simp only [Act.put, List.setIfInBounds_toArray, List.set_cons_zero, List.set_cons_succ]
        refine wpList_opt (v := ?_) _ rfl (by rfl) (fun hq => ?_) ?_
        rotate_left
        · go_simp
          try with_reducible rfl
        simp only [Act.put, List.setIfInBounds_toArray, List.set_cons_zero, List.set_cons_succ]
        refine wpList_pick _ _ rfl rfl (by rfl) (by rfl) (fun b2 hb2 => ?_)
        simp only [Act.put, List.setIfInBounds_toArray, List.set_cons_zero, List.set_cons_succ]
        refine wpList_val (v := ?_) rfl ?_ ?_
        rotate_left
        · go_simp
          try with_reducible rfl
        simp only [Act.put, List.setIfInBounds_toArray, List.set_cons_zero, List.set_cons_succ]
        refine wpList_opt (v := ?_) _ rfl (by rfl) (fun hq => ?_) ?_
        rotate_left
        · go_simp
          try with_reducible rfl
        simp only [Act.put, List.setIfInBounds_toArray, List.set_cons_zero, List.set_cons_succ]
        refine wpList_opt (v := ?_) _ rfl (by rfl) (fun hq => ?_) ?_
        rotate_left
        · have cc := HC1.out 14 _ rfl
          go_simp
          try with_reducible rfl
        simp only [Act.put, List.setIfInBounds_toArray, List.set_cons_zero, List.set_cons_succ]
        refine wpList_opt (v := ?_) _ rfl (by rfl) (fun hq => ?_) ?_
        rotate_left
        · go_simp
          try with_reducible rfl
        simp only [Act.put, List.setIfInBounds_toArray, List.set_cons_zero, List.set_cons_succ]
        refine wpList_opt (v := ?_) _ rfl (by rfl) (fun hq => ?_) ?_
        rotate_left
        · have cc := HC2.out 14 _ rfl
          go_simp
          try with_reducible rfl
        simp only [Act.put, List.setIfInBounds_toArray, List.set_cons_zero, List.set_cons_succ]
        refine wpList_opt (v := ?_) _ rfl (by rfl) (fun hq => ?_) ?_
        rotate_left
        · go_simp
          try with_reducible rfl
        simp only [Act.put, List.setIfInBounds_toArray, List.set_cons_zero, List.set_cons_succ]
        refine wpList_pick _ _ rfl rfl (by rfl) (by rfl) (fun b3 hb3 => ?_)
        simp only [Act.put, List.setIfInBounds_toArray, List.set_cons_zero, List.set_cons_succ]
        refine wpList_val (v := ?_) rfl ?_ ?_
        rotate_left
        · go_simp
          try with_reducible rfl
        simp only [Act.put, List.setIfInBounds_toArray, List.set_cons_zero, List.set_cons_succ]
        refine wpList_opt (v := ?_) _ rfl (by rfl) (fun hq => ?_) ?_
        rotate_left
        · go_simp
          try with_reducible rfl
        simp only [Act.put, List.setIfInBounds_toArray, List.set_cons_zero, List.set_cons_succ]
        refine wpList_opt (v := ?_) _ rfl (by rfl) (fun hq => ?_) ?_
        rotate_left
        · have cc := HC1.out 15 _ rfl
          go_simp
          try with_reducible rfl
        simp only [Act.put, List.setIfInBounds_toArray, List.set_cons_zero, List.set_cons_succ]
        refine wpList_opt (v := ?_) _ rfl (by rfl) (fun hq => ?_) ?_
        rotate_left
        · go_simp
          try with_reducible rfl
        simp only [Act.put, List.setIfInBounds_toArray, List.set_cons_zero, List.set_cons_succ]
        refine wpList_opt (v := ?_) _ rfl (by rfl) (fun hq => ?_) ?_
        rotate_left
        · have cc := HC2.out 15 _ rfl
          go_simp
          try with_reducible rfl
        simp only [Act.put, List.setIfInBounds_toArray, List.set_cons_zero, List.set_cons_succ]
        refine wpList_opt (v := ?_) _ rfl (by rfl) (fun hq => ?_) ?_
        rotate_left
        · go_simp
          try with_reducible rfl
        simp only [Act.put, List.setIfInBounds_toArray, List.set_cons_zero, List.set_cons_succ]
        refine wpList_pick _ _ rfl rfl (by rfl) (by rfl) (fun b4 hb4 => ?_)
        simp only [Act.put, List.setIfInBounds_toArray, List.set_cons_zero, List.set_cons_succ]
        refine wpList_val (v := ?_) rfl ?_ ?_
        rotate_left
        · go_simp
          try with_reducible rfl
        simp only [Act.put, List.setIfInBounds_toArray, List.set_cons_zero, List.set_cons_succ]
        refine wpList_opt (v := ?_) _ rfl (by rfl) (fun hq => ?_) ?_
        rotate_left
        · go_simp
          try with_reducible rfl
        simp only [Act.put, List.setIfInBounds_toArray, List.set_cons_zero, List.set_cons_succ]
        refine wpList_opt (v := ?_) _ rfl (by rfl) (fun hq => ?_) ?_
        rotate_left
        · have cc := HC1.out 16 _ rfl
          go_simp
          try with_reducible rfl
        simp only [Act.put, List.setIfInBounds_toArray, List.set_cons_zero, List.set_cons_succ]
        refine wpList_opt (v := ?_) _ rfl (by rfl) (fun hq => ?_) ?_
        rotate_left
        · go_simp
          try with_reducible rfl
        simp only [Act.put, List.setIfInBounds_toArray, List.set_cons_zero, List.set_cons_succ]
        refine wpList_opt (v := ?_) _ rfl (by rfl) (fun hq => ?_) ?_
        rotate_left
        · have cc := HC2.out 16 _ rfl
          go_simp
          try with_reducible rfl
        simp only [Act.put, List.setIfInBounds_toArray, List.set_cons_zero, List.set_cons_succ]
        refine wpList_opt (v := ?_) _ rfl (by rfl) (fun hq => ?_) ?_
        rotate_left
        · go_simp
          try with_reducible rfl
        simp only [Act.put, List.setIfInBounds_toArray, List.set_cons_zero, List.set_cons_succ]
        refine wpList_pick _ _ rfl rfl (by rfl) (by rfl) (fun b5 hb5 => ?_)
        simp only [Act.put, List.setIfInBounds_toArray, List.set_cons_zero, List.set_cons_succ]
        refine wpList_val (v := ?_) rfl ?_ ?_
        rotate_left
        · go_simp
          try with_reducible rfl
        simp only [Act.put, List.setIfInBounds_toArray, List.set_cons_zero, List.set_cons_succ]
        refine wpList_opt (v := ?_) _ rfl (by rfl) (fun hq => ?_) ?_
        rotate_left
        · go_simp
          try with_reducible rfl
        simp only [Act.put, List.setIfInBounds_toArray, List.set_cons_zero, List.set_cons_succ]
        refine wpList_opt (v := ?_) _ rfl (by rfl) (fun hq => ?_) ?_
        rotate_left
        · have cc := HC1.out 17 _ rfl
          go_simp
          try with_reducible rfl
        simp only [Act.put, List.setIfInBounds_toArray, List.set_cons_zero, List.set_cons_succ]
        refine wpList_opt (v := ?_) _ rfl (by rfl) (fun hq => ?_) ?_
        rotate_left
        · go_simp
          try with_reducible rfl
        simp only [Act.put, List.setIfInBounds_toArray, List.set_cons_zero, List.set_cons_succ]
        refine wpList_opt (v := ?_) _ rfl (by rfl) (fun hq => ?_) ?_
        rotate_left
        · have cc := HC2.out 17 _ rfl
          go_simp
          try with_reducible rfl
        simp only [Act.put, List.setIfInBounds_toArray, List.set_cons_zero, List.set_cons_succ]
        refine wpList_opt (v := ?_) _ rfl (by rfl) (fun hq => ?_) ?_
        rotate_left
        · go_simp
          try with_reducible rfl
        simp only [Act.put, List.setIfInBounds_toArray, List.set_cons_zero, List.set_cons_succ]
        refine wpList_pick _ _ rfl rfl (by rfl) (by rfl) (fun b6 hb6 => ?_)
        simp only [Act.put, List.setIfInBounds_toArray, List.set_cons_zero, List.set_cons_succ]
        refine wpList_val (v := ?_) rfl ?_ ?_
        rotate_left
        · go_simp
          try with_reducible rfl
        simp only [Act.put, List.setIfInBounds_toArray, List.set_cons_zero, List.set_cons_succ]
        refine wpList_opt (v := ?_) _ rfl (by rfl) (fun hq => ?_) ?_
        rotate_left
        · go_simp
          try with_reducible rfl
        simp only [Act.put, List.setIfInBounds_toArray, List.set_cons_zero, List.set_cons_succ]
        refine wpList_opt (v := ?_) _ rfl (by rfl) (fun hq => ?_) ?_
        rotate_left
        · have cc := HC1.out 18 _ rfl
          go_simp
          try with_reducible rfl
        simp only [Act.put, List.setIfInBounds_toArray, List.set_cons_zero, List.set_cons_succ]
        refine wpList_opt (v := ?_) _ rfl (by rfl) (fun hq => ?_) ?_
        rotate_left
        · go_simp
          try with_reducible rfl
        simp only [Act.put, List.setIfInBounds_toArray, List.set_cons_zero, List.set_cons_succ]
        refine wpList_opt (v := ?_) _ rfl (by rfl) (fun hq => ?_) ?_
        rotate_left
        · have cc := HC2.out 18 _ rfl
          go_simp
          try with_reducible rfl
        simp only [Act.put, List.setIfInBounds_toArray, List.set_cons_zero, List.set_cons_succ]
        refine wpList_opt (v := ?_) _ rfl (by rfl) (fun hq => ?_) ?_
        rotate_left
        · go_simp
          try with_reducible rfl
        simp only [Act.put, List.setIfInBounds_toArray, List.set_cons_zero, List.set_cons_succ]
        refine wpList_pick _ _ rfl rfl (by rfl) (by rfl) (fun b7 hb7 => ?_)
        simp only [Act.put, List.setIfInBounds_toArray, List.set_cons_zero, List.set_cons_succ]
        refine wpList_val (v := ?_) rfl ?_ ?_
        rotate_left
        · go_simp
          try with_reducible rfl
        simp only [Act.put, List.setIfInBounds_toArray, List.set_cons_zero, List.set_cons_succ]
        refine wpList_opt (v := ?_) _ rfl (by rfl) (fun hq => ?_) ?_
        rotate_left
        · go_simp
          try with_reducible rfl
        simp only [Act.put, List.setIfInBounds_toArray, List.set_cons_zero, List.set_cons_succ]
        refine wpList_opt (v := ?_) _ rfl (by rfl) (fun hq => ?_) ?_
        rotate_left
        · have cc := HC1.out 19 _ rfl
          go_simp
          try with_reducible rfl
        simp only [Act.put, List.setIfInBounds_toArray, List.set_cons_zero, List.set_cons_succ]
        refine wpList_opt (v := ?_) _ rfl (by rfl) (fun hq => ?_) ?_
        rotate_left
        · go_simp
          try with_reducible rfl
        simp only [Act.put, List.setIfInBounds_toArray, List.set_cons_zero, List.set_cons_succ]
        refine wpList_opt (v := ?_) _ rfl (by rfl) (fun hq => ?_) ?_
        rotate_left
        · have cc := HC2.out 19 _ rfl
          go_simp
          try with_reducible rfl
        simp only [Act.put, List.setIfInBounds_toArray, List.set_cons_zero, List.set_cons_succ]
        refine wpList_opt (v := ?_) _ rfl (by rfl) (fun hq => ?_) ?_
        rotate_left
        · go_simp
          try with_reducible rfl
        simp only [Act.put, List.setIfInBounds_toArray, List.set_cons_zero, List.set_cons_succ]
        refine wpList_pick _ _ rfl rfl (by rfl) (by rfl) (fun b8 hb8 => ?_)
        simp only [Act.put, List.setIfInBounds_toArray, List.set_cons_zero, List.set_cons_succ]
        refine wpList_val (v := ?_) rfl ?_ ?_
        rotate_left
        · go_simp
          try with_reducible rfl
        simp only [Act.put, List.setIfInBounds_toArray, List.set_cons_zero, List.set_cons_succ]
        refine wpList_opt (v := ?_) _ rfl (by rfl) (fun hq => ?_) ?_
        rotate_left
        · go_simp
          try with_reducible rfl
        simp only [Act.put, List.setIfInBounds_toArray, List.set_cons_zero, List.set_cons_succ]
        refine wpList_opt (v := ?_) _ rfl (by rfl) (fun hq => ?_) ?_
        rotate_left
        · have cc := HC1.out 20 _ rfl
          go_simp
          try with_reducible rfl
        simp only [Act.put, List.setIfInBounds_toArray, List.set_cons_zero, List.set_cons_succ]
        refine wpList_opt (v := ?_) _ rfl (by rfl) (fun hq => ?_) ?_
        rotate_left
        · go_simp
          try with_reducible rfl
        simp only [Act.put, List.setIfInBounds_toArray, List.set_cons_zero, List.set_cons_succ]
        refine wpList_opt (v := ?_) _ rfl (by rfl) (fun hq => ?_) ?_
        rotate_left
        · have cc := HC2.out 20 _ rfl
          go_simp
          try with_reducible rfl
        simp only [Act.put, List.setIfInBounds_toArray, List.set_cons_zero, List.set_cons_succ]
        refine wpList_opt (v := ?_) _ rfl (by rfl) (fun hq => ?_) ?_
        rotate_left
        · go_simp
          try with_reducible rfl
        simp only [Act.put, List.setIfInBounds_toArray, List.set_cons_zero, List.set_cons_succ]
        refine wpList_pick _ _ rfl rfl (by rfl) (by rfl) (fun b9 hb9 => ?_)
        simp only [Act.put, List.setIfInBounds_toArray, List.set_cons_zero, List.set_cons_succ]
        refine wpList_val (v := ?_) rfl ?_ ?_
        rotate_left
        · go_simp
          try with_reducible rfl
        simp only [Act.put, List.setIfInBounds_toArray, List.set_cons_zero, List.set_cons_succ]
        refine wpList_opt (v := ?_) _ rfl (by rfl) (fun hq => ?_) ?_
        rotate_left
        · go_simp
          try with_reducible rfl
        simp only [Act.put, List.setIfInBounds_toArray, List.set_cons_zero, List.set_cons_succ]
        refine wpList_opt (v := ?_) _ rfl (by rfl) (fun hq => ?_) ?_
        rotate_left
        · have cc := HC1.out 21 _ rfl
          go_simp
          try with_reducible rfl
        simp only [Act.put, List.setIfInBounds_toArray, List.set_cons_zero, List.set_cons_succ]
        refine wpList_opt (v := ?_) _ rfl (by rfl) (fun hq => ?_) ?_
        rotate_left
        · go_simp
          try with_reducible rfl
        simp only [Act.put, List.setIfInBounds_toArray, List.set_cons_zero, List.set_cons_succ]
        refine wpList_opt (v := ?_) _ rfl (by rfl) (fun hq => ?_) ?_
        rotate_left
        · have cc := HC2.out 21 _ rfl
          go_simp
          try with_reducible rfl
        simp only [Act.put, List.setIfInBounds_toArray, List.set_cons_zero, List.set_cons_succ]
        refine wpList_opt (v := ?_) _ rfl (by rfl) (fun hq => ?_) ?_
        rotate_left
        · go_simp
          try with_reducible rfl
        simp only [Act.put, List.setIfInBounds_toArray, List.set_cons_zero, List.set_cons_succ]
        refine wpList_pick _ _ rfl rfl (by rfl) (by rfl) (fun b10 hb10 => ?_)
        simp only [Act.put, List.setIfInBounds_toArray, List.set_cons_zero, List.set_cons_succ]
        refine wpList_val (v := ?_) rfl ?_ ?_
        rotate_left
        · go_simp
          try with_reducible rfl
        simp only [Act.put, List.setIfInBounds_toArray, List.set_cons_zero, List.set_cons_succ]
        rename_i Kb hKb
        show Kb _ _
        refine hKb _ _ ?_
        generalize (if b0 = true then Value.pointer (some ⟨w.heap.size, 11, none⟩) else undef) = u
        generalize (if b0 = true then Value.int .i64 p.bytes else undef) = u
        generalize (if b0 = true then Value.pointer (some ⟨w.heap.size + 1, 11, none⟩) else undef) = u
        generalize (if b0 = true then Value.int .i64 q.bytes else undef) = u
        generalize (if b0 = true then Value.bool (p.bytes == q.bytes) else undef) = u
        generalize (if b1 = true then Value.pointer (some ⟨w.heap.size, 13, none⟩) else undef) = u
        generalize (if b1 = true then Value.int .i64 p.join else undef) = u
        generalize (if b1 = true then Value.pointer (some ⟨w.heap.size + 1, 13, none⟩) else undef) = u
        generalize (if b1 = true then Value.int .i64 q.join else undef) = u
        generalize (if b1 = true then Value.bool (p.join == q.join) else undef) = u
        generalize (if b2 = true then Value.pointer (some ⟨w.heap.size, 14, none⟩) else undef) = u
        generalize (if b2 = true then Value.int .i64 p.history else undef) = u
        generalize (if b2 = true then Value.pointer (some ⟨w.heap.size + 1, 14, none⟩) else undef) = u
        generalize (if b2 = true then Value.int .i64 q.history else undef) = u
        generalize (if b2 = true then Value.bool (p.history == q.history) else undef) = u
        generalize (if b3 = true then Value.pointer (some ⟨w.heap.size, 15, none⟩) else undef) = u
        generalize (if b3 = true then Value.int .i64 p.remove else undef) = u
        generalize (if b3 = true then Value.pointer (some ⟨w.heap.size + 1, 15, none⟩) else undef) = u
        generalize (if b3 = true then Value.int .i64 q.remove else undef) = u
        generalize (if b3 = true then Value.bool (p.remove == q.remove) else undef) = u
        generalize (if b4 = true then Value.pointer (some ⟨w.heap.size, 16, none⟩) else undef) = u
        generalize (if b4 = true then Value.int .i64 p.level else undef) = u
        generalize (if b4 = true then Value.pointer (some ⟨w.heap.size + 1, 16, none⟩) else undef) = u
        generalize (if b4 = true then Value.int .i64 q.level else undef) = u
        generalize (if b4 = true then Value.bool (p.level == q.level) else undef) = u
        generalize (if b5 = true then Value.pointer (some ⟨w.heap.size, 17, none⟩) else undef) = u
        generalize (if b5 = true then Value.bool p.batch else undef) = u
        generalize (if b5 = true then Value.pointer (some ⟨w.heap.size + 1, 17, none⟩) else undef) = u
        generalize (if b5 = true then Value.bool q.batch else undef) = u
        generalize (if b5 = true then Value.bool (p.batch == q.batch) else undef) = u
        generalize (if b6 = true then Value.pointer (some ⟨w.heap.size, 18, none⟩) else undef) = u
        generalize (if b6 = true then Value.int .i64 p.rate else undef) = u
        generalize (if b6 = true then Value.pointer (some ⟨w.heap.size + 1, 18, none⟩) else undef) = u
        generalize (if b6 = true then Value.int .i64 q.rate else undef) = u
        generalize (if b6 = true then Value.bool (p.rate == q.rate) else undef) = u
        generalize (if b7 = true then Value.pointer (some ⟨w.heap.size, 19, none⟩) else undef) = u
        generalize (if b7 = true then Value.int .i64 p.down else undef) = u
        generalize (if b7 = true then Value.pointer (some ⟨w.heap.size + 1, 19, none⟩) else undef) = u
        generalize (if b7 = true then Value.int .i64 q.down else undef) = u
        generalize (if b7 = true then Value.bool (p.down == q.down) else undef) = u
        generalize (if b8 = true then Value.pointer (some ⟨w.heap.size, 20, none⟩) else undef) = u
        generalize (if b8 = true then Value.int .i64 p.window else undef) = u
        generalize (if b8 = true then Value.pointer (some ⟨w.heap.size + 1, 20, none⟩) else undef) = u
        generalize (if b8 = true then Value.int .i64 q.window else undef) = u
        generalize (if b8 = true then Value.bool (p.window == q.window) else undef) = u
        generalize (if b9 = true then Value.pointer (some ⟨w.heap.size, 21, none⟩) else undef) = u
        generalize (if b9 = true then Value.int .i64 p.keep else undef) = u
        generalize (if b9 = true then Value.pointer (some ⟨w.heap.size + 1, 21, none⟩) else undef) = u
        generalize (if b9 = true then Value.int .i64 q.keep else undef) = u
        generalize (if b9 = true then Value.bool (p.keep == q.keep) else undef) = u
        have hra : a9 = ((((((((((p.name.toList == q.name.toList) && (p.edit == q.edit)) && (p.within_ == q.within_)) && (p.delete == q.delete)) && (p.react == q.react)) && (p.thread == q.thread)) && (p.quote == q.quote)) && (p.mention == q.mention)) && (p.size == q.size)) && (p.parts == q.parts)) := by rw [ha9.out, ha8.out, ha7.out, ha6.out, ha5.out, ha4.out, ha3.out, ha2.out, ha1.out, Ha0.out]
        have hrb : b10 = (((((((((((p.files == q.files) && (p.bytes == q.bytes)) && (p.join == q.join)) && (p.history == q.history)) && (p.remove == q.remove)) && (p.level == q.level)) && (p.batch == q.batch)) && (p.rate == q.rate)) && (p.down == q.down)) && (p.window == q.window)) && (p.keep == q.keep)) := by rw [hb10.out, hb9.out, hb8.out, hb7.out, hb6.out, hb5.out, hb4.out, hb3.out, hb2.out, hb1.out, Hb0.out]
        have hab : (a9 && b10) = sameP p q := by rw [hra, hrb]; exact HSm.out
        have HAB := Lib.hid hab
        clear hra hrb hab
        clear ha1 ha2 ha3 ha4 ha5 ha6 ha7 ha8 ha9 hb1 hb2 hb3 hb4 hb5 hb6 hb7 hb8 hb9 hb10 Ha0 Hb0
        cases a9 with
        | false =>
          go_wp2_with fail
          go_ret
          exact ⟨ret_bool HAB.out, HB1.out⟩
        | true =>
          go_wp2_with fail
          go_ret
          exact ⟨ret_bool HAB.out, HB1.out⟩
  · have hnb : ((p.types.length : Int) != (q.types.length : Int)) = true := by simpa using (fun h => hne (by omega) : ¬ ((p.types.length : Int) = (q.types.length : Int)))
    have HD : Hid (sameP p q = false) := Lib.hid (HF.out fun e => hne (by rw [e]))
    clear HF HT hne
    go_wp2_with fail
    go_ret
    exact ⟨ret_bool HD.out.symm, HB.out⟩
end Go.Proofs.YtnaejabgkfhlbaaDoor
