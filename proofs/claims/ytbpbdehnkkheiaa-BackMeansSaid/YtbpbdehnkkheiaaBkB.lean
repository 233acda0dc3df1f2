/- Contract of means of package back. -/
import Derived.Test.YtbpbdehnkkheiaaBkA
namespace Go.Proofs.Ytbpbdehnkkheiaa
open Go.RowKit

set_option maxRecDepth 100000 in
set_option maxHeartbeats 4000000 in
theorem bMeans_any (p : Prof) (A : Option Addr) (c : Nat) (r : RawM) (fA : Option Addr) (fc : Nat) (w : World) : Calls Try.prog 18 #[p.v A c, r.v fA fc] w fun e w' => e = .returned (.bool (meansB p r)) ∧ Below w.heap.size w w' := by
  have HB := Lib.hid (show Below w.heap.size w ((w.alloc (.cells (p.cs A c) 24)).alloc (.cells (r.cs fA fc) 28)) by repeat (first | with_reducible exact Below.refl _ _ | with_reducible assumption | with_reducible refine Below.drew ?_ | with_reducible refine Below.alloc ?_ (by first | omega | (simp; done) | (simp; omega)) _))
  by_cases k0 : r.kind = 0
  · have HM : Hid (meansB p r = (((r.on == -1) || !(p.thread == 0)) && (((r.quote == -1) || p.quote) && ((r.who == -1) || p.mention)))) := Lib.hid (by unfold meansB meansPost; rw [if_pos k0])
    have d0 : (r.kind == 0) = true := by simpa using k0
    clear k0
    cases a0 : (r.on == -1)
    · cases b0 : (p.thread == 0)
      · skip
        cases a1 : (r.quote == -1)
        · cases b1 : p.quote
          · skip
            have hne : (p.thread != 0) = !(p.thread == 0) := rfl
            try rw [b0] at hne
            go_enter Try.func18, Try.ntmps18
            go_wp2_with fail
            go_quiet (fail)
            go_wp2
            go_ret
            exact ⟨ret_bool (by rw [HM.out]; simp [a0, b0, a1, b1]), below_drewN HB.out _⟩
          · skip
            cases a2 : (r.who == -1)
            · cases b2 : p.mention
              · skip
                have hne : (p.thread != 0) = !(p.thread == 0) := rfl
                try rw [b0] at hne
                go_enter Try.func18, Try.ntmps18
                go_wp2_with fail
                go_quiet (fail)
                go_wp2
                go_ret
                exact ⟨ret_bool (by rw [HM.out]; simp [a0, b0, a1, b1, a2, b2]), below_drewN HB.out _⟩
              · skip
                skip
                have hne : (p.thread != 0) = !(p.thread == 0) := rfl
                try rw [b0] at hne
                go_enter Try.func18, Try.ntmps18
                go_wp2_with fail
                go_quiet (fail)
                go_wp2
                go_ret
                exact ⟨ret_bool (by rw [HM.out]; simp [a0, b0, a1, b1, a2, b2]), below_drewN HB.out _⟩
            · skip
              skip
              have hne : (p.thread != 0) = !(p.thread == 0) := rfl
              try rw [b0] at hne
              go_enter Try.func18, Try.ntmps18
              go_wp2_with fail
              go_quiet (fail)
              go_wp2
              go_ret
              exact ⟨ret_bool (by rw [HM.out]; simp [a0, b0, a1, b1, a2]), below_drewN HB.out _⟩
        · skip
          cases a2 : (r.who == -1)
          · cases b2 : p.mention
            · skip
              have hne : (p.thread != 0) = !(p.thread == 0) := rfl
              try rw [b0] at hne
              go_enter Try.func18, Try.ntmps18
              go_wp2_with fail
              go_quiet (fail)
              go_wp2
              go_ret
              exact ⟨ret_bool (by rw [HM.out]; simp [a0, b0, a1, a2, b2]), below_drewN HB.out _⟩
            · skip
              skip
              have hne : (p.thread != 0) = !(p.thread == 0) := rfl
              try rw [b0] at hne
              go_enter Try.func18, Try.ntmps18
              go_wp2_with fail
              go_quiet (fail)
              go_wp2
              go_ret
              exact ⟨ret_bool (by rw [HM.out]; simp [a0, b0, a1, a2, b2]), below_drewN HB.out _⟩
          · skip
            skip
            have hne : (p.thread != 0) = !(p.thread == 0) := rfl
            try rw [b0] at hne
            go_enter Try.func18, Try.ntmps18
            go_wp2_with fail
            go_quiet (fail)
            go_wp2
            go_ret
            exact ⟨ret_bool (by rw [HM.out]; simp [a0, b0, a1, a2]), below_drewN HB.out _⟩
      · skip
        have hne : (p.thread != 0) = !(p.thread == 0) := rfl
        try rw [b0] at hne
        go_enter Try.func18, Try.ntmps18
        go_wp2_with fail
        go_quiet (fail)
        go_wp2
        go_ret
        exact ⟨ret_bool (by rw [HM.out]; simp [a0, b0]), below_drewN HB.out _⟩
    · skip
      cases a1 : (r.quote == -1)
      · cases b1 : p.quote
        · skip
          have hne : (p.thread != 0) = !(p.thread == 0) := rfl
          try rw [b0] at hne
          go_enter Try.func18, Try.ntmps18
          go_wp2_with fail
          go_quiet (fail)
          go_wp2
          go_ret
          exact ⟨ret_bool (by rw [HM.out]; simp [a0, a1, b1]), below_drewN HB.out _⟩
        · skip
          cases a2 : (r.who == -1)
          · cases b2 : p.mention
            · skip
              have hne : (p.thread != 0) = !(p.thread == 0) := rfl
              try rw [b0] at hne
              go_enter Try.func18, Try.ntmps18
              go_wp2_with fail
              go_quiet (fail)
              go_wp2
              go_ret
              exact ⟨ret_bool (by rw [HM.out]; simp [a0, a1, b1, a2, b2]), below_drewN HB.out _⟩
            · skip
              skip
              have hne : (p.thread != 0) = !(p.thread == 0) := rfl
              try rw [b0] at hne
              go_enter Try.func18, Try.ntmps18
              go_wp2_with fail
              go_quiet (fail)
              go_wp2
              go_ret
              exact ⟨ret_bool (by rw [HM.out]; simp [a0, a1, b1, a2, b2]), below_drewN HB.out _⟩
          · skip
            skip
            have hne : (p.thread != 0) = !(p.thread == 0) := rfl
            try rw [b0] at hne
            go_enter Try.func18, Try.ntmps18
            go_wp2_with fail
            go_quiet (fail)
            go_wp2
            go_ret
            exact ⟨ret_bool (by rw [HM.out]; simp [a0, a1, b1, a2]), below_drewN HB.out _⟩
      · skip
        cases a2 : (r.who == -1)
        · cases b2 : p.mention
          · skip
            have hne : (p.thread != 0) = !(p.thread == 0) := rfl
            try rw [b0] at hne
            go_enter Try.func18, Try.ntmps18
            go_wp2_with fail
            go_quiet (fail)
            go_wp2
            go_ret
            exact ⟨ret_bool (by rw [HM.out]; simp [a0, a1, a2, b2]), below_drewN HB.out _⟩
          · skip
            skip
            have hne : (p.thread != 0) = !(p.thread == 0) := rfl
            try rw [b0] at hne
            go_enter Try.func18, Try.ntmps18
            go_wp2_with fail
            go_quiet (fail)
            go_wp2
            go_ret
            exact ⟨ret_bool (by rw [HM.out]; simp [a0, a1, a2, b2]), below_drewN HB.out _⟩
        · skip
          skip
          have hne : (p.thread != 0) = !(p.thread == 0) := rfl
          try rw [b0] at hne
          go_enter Try.func18, Try.ntmps18
          go_wp2_with fail
          go_quiet (fail)
          go_wp2
          go_ret
          exact ⟨ret_bool (by rw [HM.out]; simp [a0, a1, a2]), below_drewN HB.out _⟩
  have d0 : (r.kind == 0) = false := by simpa using k0
  by_cases k1 : r.kind = 1
  · have HM : Hid (meansB p r = (p.edit == 2)) := Lib.hid (by unfold meansB; rw [if_neg k0, if_pos k1])
    have d1 : (r.kind == 1) = true := by simpa using k1
    clear k0 k1
    go_enter Try.func18, Try.ntmps18
    go_wp2
    go_ret
    exact ⟨ret_bool (by first | (rw [HM.out]; done) | (rw [HM.out]; rfl) | (rw [HM.out]; simp)), HB.out⟩
  have d1 : (r.kind == 1) = false := by simpa using k1
  by_cases k2 : r.kind = 2
  · have HM : Hid (meansB p r = !(p.delete == 0)) := Lib.hid (by unfold meansB; rw [if_neg k0, if_neg k1, if_pos k2])
    have d2 : (r.kind == 2) = true := by simpa using k2
    clear k0 k1 k2
    go_enter Try.func18, Try.ntmps18
    go_wp2
    go_ret
    exact ⟨ret_bool (by first | (rw [HM.out]; done) | (rw [HM.out]; rfl) | (rw [HM.out]; simp)), HB.out⟩
  have d2 : (r.kind == 2) = false := by simpa using k2
  by_cases k3 : r.kind = 3
  · have HM : Hid (meansB p r = p.react) := Lib.hid (by unfold meansB; rw [if_neg k0, if_neg k1, if_neg k2, if_pos (.inl k3)])
    have d3 : (r.kind == 3) = true := by simpa using k3
    clear k0 k1 k2 k3
    go_enter Try.func18, Try.ntmps18
    go_wp2
    go_ret
    exact ⟨ret_bool (by first | (rw [HM.out]; done) | (rw [HM.out]; rfl) | (rw [HM.out]; simp)), HB.out⟩
  have d3 : (r.kind == 3) = false := by simpa using k3
  by_cases k4 : r.kind = 4
  · have HM : Hid (meansB p r = p.react) := Lib.hid (by unfold meansB; rw [if_neg k0, if_neg k1, if_neg k2, if_pos (.inr k4)])
    have d4 : (r.kind == 4) = true := by simpa using k4
    clear k0 k1 k2 k3 k4
    go_enter Try.func18, Try.ntmps18
    go_wp2
    go_ret
    exact ⟨ret_bool (by first | (rw [HM.out]; done) | (rw [HM.out]; rfl) | (rw [HM.out]; simp)), HB.out⟩
  have d4 : (r.kind == 4) = false := by simpa using k4
  have HM : Hid (meansB p r = true) := Lib.hid (by unfold meansB; rw [if_neg k0, if_neg k1, if_neg k2, if_neg (by omega)])
  clear k0 k1 k2 k3 k4
  go_enter Try.func18, Try.ntmps18
  go_wp2
  go_ret
  exact ⟨ret_bool (by first | (rw [HM.out]; done) | (rw [HM.out]; rfl) | (rw [HM.out]; simp)), HB.out⟩
end Go.Proofs.Ytbpbdehnkkheiaa
