/- Contracts and plain laws, joined: WyF. -/
import Derived.Test.YtnaejabgkfhlbaaDoorQak
import Derived.Deep.MidRow
/- Contracts of profile.Check and of its reference. -/
set_option linter.unusedSimpArgs false
set_option linter.unusedVariables false
namespace Go.Proofs.YtnaejabgkfhlbaaDoor
open Go.RowKit

def togetherB (p : Prof) : Bool := ((p.files == 0) == (p.bytes == 0)) && ((p.files == 0) == decide (p.types = []))
def boundsB (p : Prof) : Bool := inR p.size 40 4000 && (inR p.parts 1 20 && (decide (p.files ≤ 4) && (decide (p.bytes ≤ 65536) && (decide (1 ≤ p.rate) && (decide (p.down = 0 ∨ p.down < p.window) && togetherB p)))))
def offB (p : Prof) : Bool := !boundsB p
def profCheck (p : Prof) : Int := if profRight p then (if offB p then 3 else (if p.types.Nodup then 0 else 5)) else 1

set_option maxHeartbeats 1000000 in
theorem together_any (p : Prof) (A : Option Addr) (c : Nat) (w : World) : Calls Tryd.prog 87 #[p.v A c] w fun e w' => e = .returned (.bool (togetherB p)) ∧ Below w.heap.size w w' := by
  have HB := Lib.hid ((Below.refl w.heap.size w).alloc (Nat.le_refl _) (.cells (p.cs A c) 24))
  go_enter Tryd.func87, Tryd.ntmps87
  go_wp2
  all_goals go_ret
  all_goals exact ⟨by simp_all [togetherB, len0], HB.out⟩

theorem boxCells (w : World) (cs : Array Value) (t : TypeId) {w' : World} (hb : Below (w.alloc (.cells cs t)).heap.size (w.alloc (.cells cs t)) w') : ∀ j v, cs[j]? = some v → w'.cell? ⟨w.heap.size, j, none⟩ = some v := fun j v hj => by
  have h := boxAll w cs t (w' := w') (hb.mono (by simp)) j
  rw [h, hj]

theorem boxRange (w : World) (cs : Array Value) (t : TypeId) {w' : World} (hb : Below (w.alloc (.cells cs t)).heap.size (w.alloc (.cells cs t)) w') : w'.rangeAt w.heap.size 0 cs.toList := fun j v hj => by
  rw [Nat.zero_add]; exact boxCells w cs t hb j v (by rw [← hj]; simp)
/-- A whole struct is read, also where a guard has let it. -/
theorem wpList_load_g {P : Program} {ops : Array Oper} {rest : List Oper} {op : Oper} {a : Act} {w : World} {Q : Exit → Act → World → Prop} (hgd : Region.wanted op (yielded ops a.tmps) = true) (ty : TypeId) (x : Operand) (ho : op.op = .load ty x)
    (b o : Nat) (hx : a.eval x = .pointer (some ⟨b, o, none⟩)) (cs : List Value) (d : TypeDesc) (hc : w.rangeAt b o cs)
    (hu : P.underlying ty = some d) (hd : d.isRow = true) (hi : (P.info? ty).map (·.size) = some cs.length)
    (h : wpList P ops Q rest (a.put op.dst (.agg cs.toArray)) w) : wpList P ops Q (op :: rest) a w :=
  BigFrame.wpList_want hgd fun _ hK => wp_load_mid ty x ho b o hx cs d hc hu hd hi (hK _ _ h)

theorem has_mem (xs : List ByteArray) (s : ByteArray) : hasS xs s = true ↔ s ∈ xs := by
  simp [hasS, eqS]
theorem nodup_hit {xs : List ByteArray} {k : Nat} {s : ByteArray} (h : xs[k]? = some s) (hm : hasS (xs.take k) s = true) : ¬ xs.Nodup := by
  intro hn
  rw [has_mem, List.mem_take_iff_getElem] at hm
  obtain ⟨j, hj, e⟩ := hm
  obtain ⟨hk, rfl⟩ := List.getElem?_eq_some_iff.1 h
  have := nodup_inj hn (by omega) hk e
  omega
theorem nodup_miss {xs : List ByteArray} {k : Nat} {s : ByteArray} (h : xs[k]? = some s) (hm : hasS (xs.take k) s = false) (hn : (xs.take k).Nodup) : (xs.take (k + 1)).Nodup := by
  obtain ⟨hk, rfl⟩ := List.getElem?_eq_some_iff.1 h
  have hm : ¬ xs[k] ∈ xs.take k := fun h => by rw [(has_mem _ _).2 h] at hm; cases hm
  rw [List.take_succ_eq_append_getElem hk, List.nodup_append]
  refine ⟨hn, by simp, fun x hx y hy => ?_⟩
  simp only [List.mem_singleton] at hy
  subst hy
  exact fun e => hm (e ▸ hx)
theorem RdL.take {T : Type} {sz : Nat} {enc : T → List Value} {w : World} {B : Nat} {A : Option Addr} {xs : List T} (h : RdL sz enc w B A xs) (n : Nat) : RdL sz enc w B A (xs.take n) := fun k x hx => h k x (by
  rw [List.getElem?_take] at hx
  split at hx
  · exact hx
  · cases hx)
theorem strCont_take (xs : List ByteArray) (n : Nat) (s : ByteArray) (A : Option Addr) (c : Nat) (w : World) (hr : RdS w w.heap.size A xs) (hm : xs.length ≤ 9223372036854775807) (hn : n ≤ xs.length) :
    Calls Tryd.prog 88 #[.slice A n c, .string s] w fun e w' => e = .returned (.bool (hasS (xs.take n) s)) ∧ w = w' := by
  have h := strCont_any (xs.take n) s A c w (hr.take n) (by rw [List.length_take]; omega)
  rwa [List.length_take, Nat.min_eq_left hn] at h

theorem bounds_cases (p : Prof) : inR p.size 40 4000 = false ∨ (inR p.size 40 4000 = true ∧ (inR p.parts 1 20 = false ∨ (inR p.parts 1 20 = true ∧ (decide (4 < p.files) = true ∨ (decide (4 < p.files) = false ∧ (decide (65536 < p.bytes) = true ∨ (decide (65536 < p.bytes) = false ∧ (decide (p.rate < 1) = true ∨ (decide (p.rate < 1) = false ∧
    (((p.down != 0) = true ∧ decide (p.window ≤ p.down) = true) ∨ (p.down != 0) = false ∨ ((p.down != 0) = true ∧ decide (p.window ≤ p.down) = false)))))))))))  := by
  cases inR p.size 40 4000 <;> cases inR p.parts 1 20 <;> simp <;> omega

set_option maxRecDepth 100000 in
set_option maxHeartbeats 2000000 in
theorem pCheck_any (p : Prof) (A : Option Addr) (c : Nat) (w : World) (hr : ProfOk w w.heap.size A p) (hcap : p.types.length ≤ c) : Calls Tryd.prog 69 #[p.v A c] w fun e w' => e = .returned (.int .i64 (profCheck p)) ∧ Below w.heap.size w w' := by
  have hb0 : Below w.heap.size w (w.alloc (.cells (p.cs A c) 24)) := (Below.refl _ _).alloc (Nat.le_refl _) _
  have hr0 := hr.now hb0
  have HB := Lib.hid hb0
  clear hb0
  have HRA := Lib.hid (boxRange w (p.cs A c) 24 (Below.refl _ _))
  go_enter Tryd.func69, Tryd.ntmps69
  go_wp2_with ((with_reducible show wpList _ _ _ (Oper.mk _ (Op.load 24 _) _ _ _ _ :: _) _ _); refine wpList_load_g rfl 24 (.tmp 1) rfl w.heap.size 0 rfl (p.cs A c).toList _ HRA.out Tryd.underlying24 rfl (by kernel_rfl) ?_)
  refine (pRight_any p A c _ hr0).mono ?_
  rintro e w1 ⟨rfl, hb1⟩
  have hcc := boxCells w _ _ hb1
  have HRA1 := Lib.hid (boxRange w _ _ hb1)
  have hr1 := hr0.now hb1
  have HB1 := Lib.hid (HB.out.trans (hb1.mono HB.out.size))
  have hs1 : w.heap.size < w1.heap.size := by have := hb1.size; simp at this; omega
  clear hb1
  generalize hpr : profRight p = pr
  have HPR := Lib.hid hpr
  clear hpr
  cases pr
  · go_wp2
    go_ret
    exact ⟨by simp [profCheck, HPR.out], HB1.out⟩
  · obtain ⟨hrd, hnm, hlen, hts⟩ := hr1
    clear hts hr0
    have f8 := hcc 8 _ rfl
    have f9 := hcc 9 _ rfl
    have f10 := hcc 10 _ rfl
    have f11 := hcc 11 _ rfl
    have f12 := hcc 12 _ rfl
    have f18 := hcc 18 _ rfl
    have f19 := hcc 19 _ rfl
    have f20 := hcc 20 _ rfl
    clear hcc
    have HT := fun (w : World) => Lib.hid (together_any p A c w)
    go_upto_region 3 with fail
    go_cut [49] (fun v wx => v = .bool (offB p) ∧ Below w1.heap.size w1 wx)
    case first =>
      have HBC := bounds_cases p
      rcases HBC with g | ⟨g1, g | ⟨g2, g | ⟨g3, g | ⟨g4, g | ⟨g5, ⟨g6, g⟩ | g6 | ⟨g6, g⟩⟩⟩⟩⟩⟩
      all_goals
        go_wp2_with (first
          | (go_at_call 86; refine (pWithin_any _ _ _ _).mono ?_; rintro e w' ⟨rfl, rfl⟩)
          | ((with_reducible show wpList _ _ _ (Oper.mk _ (Op.load 24 _) _ _ _ _ :: _) _ _); refine wpList_load_g rfl 24 (.tmp 1) rfl w.heap.size 0 rfl (p.cs A c).toList _ HRA1.out Tryd.underlying24 rfl (by kernel_rfl) ?_)
          | (go_at_call 87; refine ((HT _).out).mono ?_; rintro e w' ⟨rfl, hb'⟩))
      all_goals go_meet
      all_goals exact ⟨by simp_all [offB, boundsB], by first | assumption | exact Below.refl _ _⟩
    case rest =>
      obtain ⟨rfl, hb2⟩ := hcut
      generalize hbb : offB p = bb
      have HBB := Lib.hid hbb
      clear hbb
      cases bb
      rotate_left
      · go_wp2
        go_ret
        exact ⟨by simp [profCheck, HPR.out, HBB.out], HB1.out.trans (hb2.mono HB1.out.size)⟩
      have hrd2 := hrd.now hb2
      obtain ⟨wc, hwc, hb2⟩ : ∃ wc, wc = _ ∧ Below w1.heap.size w1 wc := ⟨_, rfl, hb2⟩
      subst hwc
      have hlt0 := Nat.lt_of_lt_of_le hs1 hb2.size
      have g12 := (hb2.cell (p := ⟨w.heap.size, 12, none⟩) hs1).trans f12
      have HB2 := Lib.hid (HB1.out.trans (hb2.mono HB1.out.size))
      clear f8 f9 f10 f11 f12 f18 f19 f20 hb2 HT
      go_wp2_with fail
      go_loopw [53] (fun i wr => ∃ k : Nat, k ≤ p.types.length ∧ i = .int .i64 k ∧ (p.types.take k).Nodup ∧ wr = wc) (fun i _ => p.types.length - (intOf i).toNat)
      case atStart => exact ⟨0, Nat.zero_le _, rfl, by simp, rfl⟩
      case round =>
        obtain ⟨k, hk, rfl, hnd, rfl⟩ := hrel
        have HND := Lib.hid hnd
        clear hnd
        by_cases hlt : k < p.types.length
        · obtain ⟨b, off, s, rfl, hbb, hp, hc⟩ := RdS_at hrd2 hlt
          have HP := Lib.hid hp
          clear hp
          have HC := Lib.hid (strCont_take p.types k s _ c _ hrd2 hlen (Nat.le_of_lt hlt))
          generalize hhs : hasS (p.types.take k) s = hh at HC
          have HHS := Lib.hid hhs
          clear hhs
          cases hh
          · go_wp2_with fail
            refine (HC.out).mono ?_
            rintro e w' ⟨rfl, rfl⟩
            go_wp2
            go_roundw
            case rel => exact ⟨k + 1, by omega, by go_num, nodup_miss HP.out HHS.out HND.out, trivial⟩
            case measure => simp [intOf]; omega
          · go_wp2_with fail
            refine (HC.out).mono ?_
            rintro e w' ⟨rfl, rfl⟩
            go_wp2
            go_ret
            exact ⟨by simp [profCheck, HPR.out, HBB.out, nodup_hit HP.out HHS.out], HB2.out⟩
        · have hall : p.types.Nodup := by have h := HND.out; rwa [List.take_of_length_le (by omega)] at h
          have HA := Lib.hid hall
          clear hall
          go_wp2
          go_ret
          exact ⟨by simp [profCheck, HPR.out, HBB.out, HA.out], HB2.out⟩
end Go.Proofs.YtnaejabgkfhlbaaDoor
