/- Contract of the reference of profile.Check. -/
import Derived.Test.YtebpnlbpdhgacaaWyF
namespace Go.Proofs.Ytebpnlbpdhgacaa
open Go.RowKit

def outA (p : Prof) : Bool := decide (p.size < 40) || (decide (4000 < p.size) || (decide (p.parts < 1) || (decide (20 < p.parts) || (decide (4 < p.files) || decide (65536 < p.bytes)))))
def outB (p : Prof) : Bool := decide (p.rate < 1) || ((p.down != 0) && decide (p.window ≤ p.down))
def noneB (p : Prof) : Bool := (p.files == 0) && ((p.bytes == 0) && decide (p.types = []))
def someB (p : Prof) : Bool := (p.files == 0) || ((p.bytes == 0) || decide (p.types = []))
def outC (p : Prof) : Bool := !noneB p && someB p
theorem off_eq (p : Prof) : offB p = (outA p || (outB p || outC p)) := by
  have h0 : togetherB p = !outC p := by
    unfold togetherB outC noneB someB
    cases (p.files == 0) <;> cases (p.bytes == 0) <;> cases (decide (p.types = [])) <;> rfl
  unfold offB boundsB outA outB
  rw [h0, Bool.eq_iff_iff]
  simp [inR]
  cases outC p <;> simp
  all_goals omega

theorem nodup_two {xs : List ByteArray} {j k : Nat} {s : ByteArray} (hj : xs[j]? = some s) (hk : xs[k]? = some s) (hl : j < k) : ¬ xs.Nodup := by
  intro hn
  obtain ⟨h1, e1⟩ := List.getElem?_eq_some_iff.1 hj
  obtain ⟨h2, e2⟩ := List.getElem?_eq_some_iff.1 hk
  have := nodup_inj hn h1 h2 (e1.trans e2.symm)
  omega

set_option maxRecDepth 100000 in
set_option maxHeartbeats 2000000 in
theorem rCheck_any (p : Prof) (A : Option Addr) (c : Nat) (w : World) (hr : ProfOk w w.heap.size A p) : Calls Try.prog 19 #[p.v A c] w fun e w' => e = .returned (.int .i64 (profCheck p)) ∧ Below w.heap.size w w' := by
  have hb0 : Below w.heap.size w (w.alloc (.cells (p.cs A c) 24)) := (Below.refl _ _).alloc (Nat.le_refl _) _
  have hr0 := hr.now hb0
  have HB := Lib.hid hb0
  clear hb0
  have HRA := Lib.hid (boxRange w (p.cs A c) 24 (Below.refl _ _))
  go_enter Try.func19, Try.ntmps19
  go_wp2_with ((with_reducible show wpList _ _ _ (Oper.mk _ (Op.load 24 _) _ _ _ _ :: _) _ _); refine wpList_load_g rfl 24 (.tmp 1) rfl w.heap.size 0 rfl (p.cs A c).toList _ HRA.out Try.underlying24 rfl (by kernel_rfl) ?_)
  refine (rRight_any p A c _ hr0).mono ?_
  rintro e w1 ⟨rfl, hb1⟩
  have hcc := boxCells w _ _ hb1
  have hr1 := hr0.now hb1
  have HB1 := Lib.hid (HB.out.trans (hb1.mono HB.out.size))
  clear hb1
  generalize hpr : profRight p = pr
  have HPR := Lib.hid hpr
  clear hpr HRA
  cases pr
  · go_wp2
    go_ret
    exact ⟨by simp [profCheck, HPR.out], HB1.out⟩
  obtain ⟨hrd, hnm, hlen, hts⟩ := hr1
  clear hts hr0
  have f8 := hcc 8 _ rfl
  have f9 := hcc 9 _ rfl
  have f10 := hcc 10 _ rfl
  have f11 := hcc 11 _ rfl
  have f12 := hcc 12 _ rfl
  have f18 := hcc 18 _ rfl
  have f19 := hcc 19 _ rfl
  have f20 := hcc 20 _ rfl
  clear hcc
  go_upto_region 3 with fail
  go_cut [36] (fun v wx => v = .bool (outA p) ∧ w1 = wx)
  case first =>
    go_wp2
    all_goals go_meet
    all_goals exact ⟨by simp_all [outA, Bool.or_assoc], rfl⟩
  case rest =>
    obtain ⟨rfl, rfl⟩ := hcut
    generalize hbb : outA p = oa
    have HA := Lib.hid hbb
    clear hbb
    cases oa
    rotate_left
    · go_wp2
      go_ret
      exact ⟨by simp [profCheck, HPR.out, off_eq, HA.out], HB1.out⟩
    go_upto_region 5 with fail
    go_cut [51] (fun v wx => v = .bool (outB p) ∧ w1 = wx)
    case first =>
      go_wp2
      all_goals go_meet
      all_goals exact ⟨by simp_all [outB], rfl⟩
    case rest =>
      obtain ⟨rfl, rfl⟩ := hcut
      generalize hbb : outB p = ob
      have HOB := Lib.hid hbb
      clear hbb
      cases ob
      rotate_left
      · go_wp2
        go_ret
        exact ⟨by simp [profCheck, HPR.out, off_eq, HA.out, HOB.out], HB1.out⟩
      go_upto_region 7 with fail
      go_cut [3] (fun v wx => v = .bool (noneB p) ∧ w1 = wx)
      case first =>
        go_wp2
        all_goals go_meet
        all_goals exact ⟨by simp_all [noneB, len0], rfl⟩
      case rest =>
        obtain ⟨rfl, rfl⟩ := hcut
        generalize hbb : noneB p = nb
        have HN := Lib.hid hbb
        clear hbb
        cases nb
        all_goals
          go_upto_region 8 with fail
          go_cut [83] (fun v wx => v = .bool (outC p) ∧ w1 = wx)
          case first =>
            go_wp2
            all_goals go_meet
            all_goals exact ⟨by simp_all [outC, someB, HN.out, len0, Bool.or_assoc], rfl⟩
          case rest =>
            obtain ⟨rfl, rfl⟩ := hcut
            generalize hbb : outC p = oc
            have HC := Lib.hid hbb
            clear hbb
            cases oc
            rotate_left
            · go_wp2
              go_ret
              exact ⟨by simp [profCheck, HPR.out, off_eq, HA.out, HOB.out, HC.out], HB1.out⟩
            have HOFF := Lib.hid (show offB p = false by simp [off_eq, HA.out, HOB.out, HC.out])
            clear HA HOB HC f8 f9 f10 f11 f18 f19 f20
            go_wp2_with fail
            go_loopw [4] (fun i wr => ∃ k n : Nat, k ≤ p.types.length ∧ i = .int .i64 k ∧ (p.types.take k).Nodup ∧ wr = w1.drewN n) (fun i _ => p.types.length - (intOf i).toNat)
            case atStart => exact ⟨0, 0, Nat.zero_le _, rfl, by simp, rfl⟩
            case round =>
              obtain ⟨k, n, hk, rfl, hnd, rfl⟩ := hrel
              have HND := Lib.hid hnd
              clear hnd
              by_cases hlt : k < p.types.length
              · obtain ⟨b, off, s, rfl, hbb, hp, hc⟩ := RdS_at hrd hlt
                have HP := Lib.hid hp
                clear hp
                go_wp2_with fail
                go_loopw [5] (fun i wr => ∃ j n : Nat, j ≤ k ∧ i = .int .i64 j ∧ hasS (p.types.take j) s = false ∧ wr = w1.drewN n) (fun i _ => k - (intOf i).toNat)
                case atStart => exact ⟨0, n, Nat.zero_le _, rfl, rfl, rfl⟩
                case round =>
                  obtain ⟨j, n, hj, rfl, hhs, rfl⟩ := hrel
                  have HHS := Lib.hid hhs
                  clear hhs
                  by_cases hlj : j < k
                  · obtain ⟨b', off', q, he, hbb', hq, hcq⟩ := RdS_at hrd (Nat.lt_trans hlj hlt)
                    injection he with he
                    injection he with he1 he2
                    subst he1
                    subst he2
                    have HQ := Lib.hid hq
                    clear hq
                    by_cases hv : s = q
                    · subst hv
                      go_wp2
                      go_quiet (fail)
                      go_wp2
                      go_ret
                      exact ⟨by simp [profCheck, HPR.out, HOFF.out, nodup_two HQ.out HP.out hlj], below_drewN (below_drewN HB1.out _) _⟩
                    · have hv2 := str_neq hv
                      have HV := Lib.hid hv
                      clear hv
                      go_wp2
                      go_quiet (fail)
                      go_wp2
                      go_roundw
                      case rel => exact ⟨j + 1, _, by omega, by go_num, any_miss (eqS s) _ j HQ.out (by simp [eqS, HV.out]) HHS.out, rfl⟩
                      case measure => simp [intOf]; omega
                  · obtain rfl : j = k := by omega
                    have HNX := Lib.hid (nodup_miss HP.out HHS.out HND.out)
                    go_wp2
                    go_roundw
                    case rel => exact ⟨j + 1, n, by omega, by go_num, HNX.out, rfl⟩
                    case measure => simp [intOf]; omega
              · have hall : p.types.Nodup := by have h := HND.out; rwa [List.take_of_length_le (by omega)] at h
                have HALL := Lib.hid hall
                clear hall
                go_wp2
                go_ret
                exact ⟨by simp [profCheck, HPR.out, HOFF.out, HALL.out], below_drewN HB1.out _⟩
end Go.Proofs.Ytebpnlbpdhgacaa
