/- Contracts of rank, longer and AtMost, and of the library's Clone of strings. -/
import Derived.Test.YtebpnlbpdhgacaaWyL
namespace Go.Proofs.Ytebpnlbpdhgacaa
open Go.RowKit

def rankI (h : Int) : Int := if h = 0 then 0 else if h = 1 then 1 else if h = 4 then 2 else if h = 2 then 3 else if h = 3 then 4 else 5
set_option maxHeartbeats 400000 in
theorem rank_any (h : Int) (w : World) : Calls Try.prog 15 #[.int .i64 h] w fun e w' => e = .returned (.int .i64 (rankI h)) ∧ w = w' := by
  by_cases h0 : h = 0
  · subst h0
    go_enter Try.func15, Try.ntmps15
    go_wp2
    go_ret
    exact ⟨rfl, rfl⟩
  by_cases h1 : h = 1
  · subst h1
    go_enter Try.func15, Try.ntmps15
    go_wp2
    go_ret
    exact ⟨rfl, rfl⟩
  by_cases h4 : h = 4
  · subst h4
    go_enter Try.func15, Try.ntmps15
    go_wp2
    go_ret
    exact ⟨rfl, rfl⟩
  by_cases h2 : h = 2
  · subst h2
    go_enter Try.func15, Try.ntmps15
    go_wp2
    go_ret
    exact ⟨rfl, rfl⟩
  by_cases h3 : h = 3
  · subst h3
    go_enter Try.func15, Try.ntmps15
    go_wp2
    go_ret
    exact ⟨rfl, rfl⟩
  have hr : rankI h = 5 := by simp [rankI, *]
  have HR := Lib.hid hr
  have e0 : (h == 0) = false := by simpa using h0
  have e1 : (h == 1) = false := by simpa using h1
  have e2 : (h == 2) = false := by simpa using h2
  have e3 : (h == 3) = false := by simpa using h3
  have e4 : (h == 4) = false := by simpa using h4
  clear h0 h1 h2 h3 h4 hr
  go_enter Try.func15, Try.ntmps15
  go_wp2
  go_ret
  exact ⟨ret_int HR.out.symm, rfl⟩
def SomeInt (w : World) (e : Ending) (w' : World) : Prop := (∃ n, e = .returned (.int .i64 n)) ∧ Below w.heap.size w w'
set_option maxRecDepth 100000 in
set_option maxHeartbeats 1000000 in
theorem longer_any (p q : Prof) (A B : Option Addr) (c d : Nat) (w : World) : Calls Try.prog 32 #[p.v A c, q.v B d] w (SomeInt w) := by
  have HB := Lib.hid (((Below.refl w.heap.size w).alloc (Nat.le_refl _) (.cells (p.cs A c) 24)).alloc (by simp) (.cells (q.cs B d) 24))
  go_enter Try.func32, Try.ntmps32
  go_wp2
  all_goals go_ret
  all_goals exact ⟨⟨_, rfl⟩, HB.out⟩

theorem slS : SlTy Try.prog 22 9 1 16 := by
  obtain ⟨i, hi, h0, h1, h2⟩ := info_parts (show (Try.prog.info? 9).map (fun i => (i.zero, i.size, i.bytes)) = some (some (.string ByteArray.empty), 1, 16) by kernel_rfl)
  exact ⟨Try.underlying22, ⟨i, _, hi, h0, h1, h2, rfl⟩, by decide, by decide⟩
abbrev OwnS (w : World) (base : Nat) := OwnL w base 9 1 strCells
set_option maxHeartbeats 400000 in
theorem strClone_any (xs : List ByteArray) (A : Option Addr) (c : Nat) (w : World) (hr : RdS w w.heap.size A xs) (hm : xs.length ≤ 1000000) :
    Calls Try.prog 33 #[.slice A xs.length c] w fun e w' => ∃ A' c', e = .returned (.slice A' xs.length c') ∧ OwnS w' w.heap.size A' c' xs ∧ Below w.heap.size w w' := by
  have hm2 : xs.length ≤ 9223372036854775807 := by omega
  rcases A with _ | a
  · have hx : xs = [] := by
      rcases xs with _ | ⟨x, r⟩
      · rfl
      · obtain ⟨b, off, h0, _⟩ := hr 0 x rfl
        cases h0
    subst hx
    have h0 := fun w => Lib.run_eql_slice_nil (P := Try.prog) w 22 9 none 0 c 0 0 Try.underlying22
    go_enter Try.func33, Try.ntmps33
    go_wp2
    go_ret
    exact ⟨none, 0, rfl, OwnL.nil_, Below.refl _ _⟩
  · have h0 := fun w => Lib.run_eql_slice_nil (P := Try.prog) w 22 9 (some a) xs.length c 0 0 Try.underlying22
    have b1 : (([] : List ByteArray).length + xs.length) * 16 ≤ 140737488355328 := by simp; omega
    have b2 : w.heap.size ≤ (w.alloc (.cells #[] 9)).heap.size := by simp
    have b3 : Below w.heap.size w (w.alloc (.cells #[] 9)) := (Below.refl _ _).alloc (Nat.le_refl _) _
    have B1 := Lib.hid b1
    have B2 := Lib.hid b2
    clear b1 b2
    go_enter Try.func33, Try.ntmps33
    go_wp2_with (first | (at_builtin; refine wp_append_l rfl (.tmp 5) (.tmp 6) rfl slS strLay w.heap.size (xs := []) (ys := xs) (B := w.heap.size) rfl rfl (OwnL.empty w 9 w.heap.size (Nat.le_refl _) _ rfl) rfl rfl (hr.below b3) B1.out B2.out ?_; intro A2 c2 w2 hown hg hbl hat))
    go_ret
    exact ⟨A2, c2, rfl, hown, b3.trans hbl⟩

def lessB (p q : Prof) : Bool := decide (p.edit ≤ q.edit) && (decide (p.delete ≤ q.delete) && (decide (p.thread ≤ q.thread) && (decide (p.size ≤ q.size) && (decide (p.parts ≤ q.parts) && (decide (p.files ≤ q.files) && (decide (p.bytes ≤ q.bytes) && decide (p.level ≤ q.level)))))))
def flagsB (p q : Prof) : Bool := (!p.react || q.react) && ((!p.quote || q.quote) && (!p.mention || q.mention))
def timesB (p q : Prof) : Bool := (p.edit == 0) || ((q.within_ == 0) || ((p.within_ != 0) && decide (p.within_ ≤ q.within_)))
def lacks (q : Prof) (s : ByteArray) : Bool := !hasS q.types s
def atMostB (p q : Prof) : Bool := lessB p q && (flagsB p q && (timesB p q && !p.types.any (lacks q)))
theorem enters_atMost1 : ∀ (args : Array Value) (w : World), (callFunc 34 args).run Try.prog w = .ok (.enter 34 args) w := fun _ _ => by kernel_rfl
set_option maxHeartbeats 400000 in
theorem atMost1_any (q : Prof) (s : ByteArray) (b : Nat) (B : Option Addr) (d : Nat) (w : World) (hr : RdS w w.heap.size B q.types) (hm : q.types.length ≤ 9223372036854775807) (hc : w.cell? ⟨b, 12, none⟩ = some (.slice B q.types.length d)) :
    Calls Try.prog 34 #[.string s, .pointer (some ⟨b, 0, none⟩)] w fun e w' => e = .returned (.bool (lacks q s)) ∧ w = w' := by
  go_enter Try.func34, Try.ntmps34
  go_wp2_with fail
  refine (strCont_any q.types s B d _ hr hm).mono ?_
  rintro e w1 ⟨rfl, rfl⟩
  go_wp2
  go_ret
  exact ⟨rfl, rfl⟩

set_option maxRecDepth 100000 in
set_option maxHeartbeats 4000000 in
theorem atMost_any (p q : Prof) (A B : Option Addr) (c d : Nat) (w : World) (hr : ProfOk w w.heap.size A p) (hq : ProfOk w w.heap.size B q) : Calls Try.prog 14 #[p.v A c, q.v B d] w fun e w' => e = .returned (.bool (atMostB p q)) ∧ Below w.heap.size w w' := by
  obtain ⟨W, hW⟩ : ∃ W, W = (w.alloc (.cells (p.cs A c) 24)).alloc (.cells (q.cs B d) 24) := ⟨_, rfl⟩
  have hb0 : Below w.heap.size w W := by rw [hW]; exact ((Below.refl w.heap.size w).alloc (Nat.le_refl _) (.cells (p.cs A c) 24)).alloc (by simp) (.cells (q.cs B d) 24)
  have hrp := (hr.now hb0).rd
  have hrq := (hq.now hb0).rd
  have HB := Lib.hid hb0
  have hp : ∀ j v, (p.cs A c)[j]? = some v → W.cell? ⟨w.heap.size, j, none⟩ = some v := fun j v hj => by rw [hW, cell_old _ _ _ _ (by simp)]; exact boxCell w _ _ (Below.refl _ _) _ rfl j v hj
  have hqc : ∀ j v, (q.cs B d)[j]? = some v → W.cell? ⟨w.heap.size + 1, j, none⟩ = some v := fun j v hj => by rw [hW]; exact boxCell _ _ _ (Below.refl _ _) _ (by simp) j v hj
  have HP := Lib.hid hp
  have HQ := Lib.hid hqc
  have hlp := hr.len
  have hlq := hq.len
  clear hp hqc hb0 hr hq
  go_enter Try.func14, Try.ntmps14
  go_upto_region 1 with fail
  rw [← hW]
  clear hW
  go_cut [5] (fun v wx => v = .bool (lessB p q) ∧ W = wx)
  case first =>
    have a1 := HP.out 1 _ rfl
    have a3 := HP.out 3 _ rfl
    have a5 := HP.out 5 _ rfl
    have a8 := HP.out 8 _ rfl
    have a9 := HP.out 9 _ rfl
    have a10 := HP.out 10 _ rfl
    have a11 := HP.out 11 _ rfl
    have a16 := HP.out 16 _ rfl
    have b1 := HQ.out 1 _ rfl
    have b3 := HQ.out 3 _ rfl
    have b5 := HQ.out 5 _ rfl
    have b8 := HQ.out 8 _ rfl
    have b9 := HQ.out 9 _ rfl
    have b10 := HQ.out 10 _ rfl
    have b11 := HQ.out 11 _ rfl
    have b16 := HQ.out 16 _ rfl
    go_wp2
    all_goals go_meet
    all_goals exact ⟨by first | (simp_all [lessB]; done) | (simp_all [lessB]; intros; omega), rfl⟩
  case rest =>
    obtain ⟨rfl, rfl⟩ := hcut
    go_upto_region 2 with fail
    go_cut [6] (fun v wx => v = .bool (flagsB p q) ∧ W = wx)
    case first =>
      have a4 := HP.out 4 _ rfl
      have a6 := HP.out 6 _ rfl
      have a7 := HP.out 7 _ rfl
      have b4 := HQ.out 4 _ rfl
      have b6 := HQ.out 6 _ rfl
      have b7 := HQ.out 7 _ rfl
      go_wp2
      all_goals go_meet
      all_goals exact ⟨by simp_all [flagsB], rfl⟩
    case rest =>
      obtain ⟨rfl, rfl⟩ := hcut
      go_upto_region 3 with fail
      go_cut [7] (fun v wx => v = .bool (timesB p q) ∧ W = wx)
      case first =>
        have a1 := HP.out 1 _ rfl
        have a2 := HP.out 2 _ rfl
        have b2 := HQ.out 2 _ rfl
        go_wp2
        all_goals go_meet
        all_goals exact ⟨by simp_all [timesB, Bool.or_assoc], rfl⟩
      case rest =>
        obtain ⟨rfl, rfl⟩ := hcut
        generalize hlb : lessB p q = lb
        generalize hfb : flagsB p q = fb
        generalize htb : timesB p q = tb
        have HL := Lib.hid hlb
        have HF := Lib.hid hfb
        have HT := Lib.hid htb
        clear hlb hfb htb
        have a12 := HP.out 12 _ rfl
        have b12 := HQ.out 12 _ rfl
        have HC := Lib.hid (show ∀ s ∈ p.types, Calls Try.prog 34 (#[.string s] ++ #[.pointer (some ⟨w.heap.size + 1, 0, none⟩)]) W (fun e w'' => e = .returned (.bool (lacks q s)) ∧ W = w'') from fun s _ => atMost1_any q s (w.heap.size + 1) B d W hrq hlq b12)
        clear b12
        cases lb
        · go_wp2
          go_ret
          exact ⟨by simp [atMostB, HL.out], HB.out⟩
        cases fb
        · go_wp2
          go_ret
          exact ⟨by simp [atMostB, HF.out], HB.out⟩
        cases tb
        · go_wp2
          go_ret
          exact ⟨by simp [atMostB, HT.out], HB.out⟩
        go_wp2_with fail
        refine (strContF_any p.types A c 34 _ (lacks q) _ hrp hlp enters_atMost1 HC.out).mono ?_
        rintro e w1 ⟨rfl, rfl⟩
        go_wp2
        go_ret
        exact ⟨by simp [atMostB, HL.out, HF.out, HT.out], HB.out⟩
end Go.Proofs.Ytebpnlbpdhgacaa
