/- Contracts of package wire: the reader's methods. -/
import Derived.Test.YtoibgenhbpppdaaDoorWrE
namespace Go.Proofs.YtoibgenhbpppdaaDoor
open Go.RowKit

/-- What 'close' does. -/
def rClose (c : UInt8) (s : RS) : RS := if Lib.hasPrefix s.rest [c] then ⟨s.rest.tail, s.bad⟩ else .fail
set_option maxRecDepth 100000 in
theorem close_any (b : Nat) (s : RS) (c : UInt8) (w : World) (h : RdAt b s w) :
    Calls Tryd.prog 42 #[.pointer (some ⟨b, 0, none⟩), .string (bs [c])] w fun x w' => x = .returned (.tuple #[]) ∧ RdAt b (rClose c s) w' ∧ Turn (One b) w w' := by
  have c0 := h.c0
  have f0 := h.free 0
  go_enter Tryd.func42, Tryd.ntmps42
  go_wp2_with fail
  refine (Tryd.strings_CutPrefix (bs s.rest) (bs [c]) _).mono ?_
  rintro x w2 ⟨rfl, rfl⟩
  rw [bs_data, bs_data]
  have htr : Hid (∀ p, Lib.hasPrefix s.rest [c] = p → Lib.trimPrefix s.rest [c] = if p then s.rest.tail else s.rest) := Lib.hid fun p hp => by
    unfold Lib.trimPrefix; rw [hp]; cases p <;> simp
  have hcl : Hid (∀ p, Lib.hasPrefix s.rest [c] = p → rClose c s = if p then ⟨s.rest.tail, s.bad⟩ else .fail) := Lib.hid fun p hp => by
    unfold rClose; rw [hp]
  cases hp : Lib.hasPrefix s.rest [c] with
  | true =>
    have hT := htr.out _ hp
    have HC := Lib.hid (hcl.out _ hp)
    rw [show (⟨(Lib.trimPrefix s.rest [c]).toArray⟩ : ByteArray) = bs (s.rest.tail) by rw [hT]; rfl]
    clear hT hp htr hcl
    have H1 := Lib.hid (h.set0 (s.rest.tail))
    go_wp2_with fail
    go_end0
    exact ⟨rfl, by rw [HC.out]; simpa using H1.out, (Turn.refl (One b) w2).set b 0 _ (.inl rfl)⟩
  | false =>
    have hT := htr.out _ hp
    have HC := Lib.hid (hcl.out _ hp)
    rw [show (⟨(Lib.trimPrefix s.rest [c]).toArray⟩ : ByteArray) = bs s.rest by rw [hT]; rfl]
    clear hT hp htr hcl
    have H1 := Lib.hid (h.set0 s.rest)
    have T1 := Lib.hid ((Turn.refl (One b) w2).set b 0 (.string (bs s.rest)) (.inl rfl))
    clear h
    go_wp2_with fail
    refine (fail_any b _ _ H1.out).mono ?_
    rintro x w5 ⟨rfl, hr5, ht5⟩
    go_wp2_with fail
    go_end0
    exact ⟨rfl, by rw [HC.out, if_neg (by simp)]; exact hr5, T1.out.trans ht5 (fun i hi => .inl hi)⟩

theorem rdNum_any {B : Nat} (b : Nat) (s : RS) (w : World) (hV : Vs B w) (hb : B ≤ b) (h : RdAt b s w) (hl : s.rest.length ≤ 1000000000000) :
    Calls Tryd.prog 32 #[.pointer (some ⟨b, 0, none⟩)] w fun x w' => x = .returned (.int .i64 (rNum 59 0 s).1) ∧ RdAt b (rNum 59 0 s).2 w' ∧ Turn (One b) w w' := by
  have HC := Lib.hid (number_any b s 59 0 w hV hb h hl ⟨by decide, by decide⟩)
  go_enter Tryd.func32, Tryd.ntmps32
  go_wp2_with fail
  refine HC.out.mono ?_
  rintro x w2 ⟨rfl, h2, t2⟩
  go_wp2_with fail
  go_ret
  exact ⟨rfl, h2, t2⟩
theorem rNum_rest (e : UInt8) (m : Int) (s : RS) : (rNum e m s).2.rest.length ≤ s.rest.length := by
  unfold rNum RS.fail
  simp only
  repeat' split
  all_goals simp
theorem rNum_ge (e : UInt8) (s : RS) : 0 ≤ (rNum e 0 s).1 := by
  unfold rNum
  simp only
  repeat' split
  all_goals simp_all
theorem rNum_in (e : UInt8) (m : Int) (s : RS) : InInt (rNum e m s).1 := by
  unfold rNum
  simp only
  repeat' split
  all_goals first
    | exact ⟨by decide, by decide⟩
    | exact Lib.atoiAll_bounds (by assumption)
/-- What 'Text' does. -/
def rText (s : RS) : List UInt8 × RS :=
  let r := rNum 58 0 s
  if (r.2.rest.length : Int) < r.1 then ([], .fail) else
  let s3 := rClose 44 ⟨r.2.rest.drop r.1.toNat, r.2.bad⟩
  if s3.bad then ([], s3) else (r.2.rest.take r.1.toNat, s3)
theorem rClose_rest (c : UInt8) (s : RS) : (rClose c s).rest.length ≤ s.rest.length := by
  unfold rClose RS.fail
  split <;> simp
theorem rText_rest (s : RS) : (rText s).2.rest.length ≤ s.rest.length := by
  have h1 := rNum_rest 58 0 s
  unfold rText
  simp only
  split
  · simp [RS.fail]
  · have h2 := rClose_rest 44 ⟨(rNum 58 0 s).2.rest.drop (rNum 58 0 s).1.toNat, (rNum 58 0 s).2.bad⟩
    simp only [List.length_drop] at h2
    split
    · show (rClose _ _).rest.length ≤ _; omega
    · show (rClose _ _).rest.length ≤ _; omega
set_option maxRecDepth 100000 in
theorem rdText_any {B : Nat} (b : Nat) (s : RS) (w : World) (hV : Vs B w) (hb : B ≤ b) (h : RdAt b s w) (hl : s.rest.length ≤ 1000000000000) :
    Calls Tryd.prog 33 #[.pointer (some ⟨b, 0, none⟩)] w fun x w' => x = .returned (.string (bs (rText s).1)) ∧ RdAt b (rText s).2 w' ∧ Turn (One b) w w' := by
  have HC := Lib.hid (number_any b s 58 0 w hV hb h hl ⟨by decide, by decide⟩)
  have HD : Hid (rText s = _) := Lib.hid (show rText s = (let r := rNum 58 0 s
    if (r.2.rest.length : Int) < r.1 then ([], .fail) else
    let s3 := rClose 44 ⟨r.2.rest.drop r.1.toNat, r.2.bad⟩
    if s3.bad then ([], s3) else (r.2.rest.take r.1.toNat, s3)) from rfl)
  have HG := Lib.hid (rNum_ge 58 s)
  have HR := Lib.hid (rNum_rest 58 0 s)
  go_enter Tryd.func33, Tryd.ntmps33
  go_wp2_with fail
  refine HC.out.mono ?_
  rintro x w2 ⟨rfl, h2, t2⟩
  have T2 := Lib.hid t2
  have hD := HD.out
  have hG := HG.out
  have hR := HR.out
  clear HC HD HG HR t2 hV
  generalize hr : rNum 58 0 s = r at *
  clear hr h
  obtain ⟨n, q⟩ := r
  simp only at hD hG h2 hR ⊢
  have c0 := h2.c0
  have c1 := h2.c1
  have f0 := h2.free 0
  have f1 := h2.free 1
  have hsl : (bs q.rest).size = q.rest.length := bs_size _
  by_cases hc : (q.rest.length : Int) < n
  · rw [if_pos hc] at hD
    have HD := Lib.hid hD
    clear hD
    go_wp2_with fail
    refine (fail_any b _ _ h2).mono ?_
    rintro x w5 ⟨rfl, hr5, ht5⟩
    go_wp2_with fail
    go_ret
    exact ⟨by rw [HD.out]; rfl, by rw [HD.out]; exact hr5, T2.out.trans ht5 (fun i hi => .inl hi)⟩
  · rw [if_neg hc] at hD
    have HD := Lib.hid hD
    clear hD
    have hc2 : n ≤ q.rest.length := by omega
    have ht := bs_take q.rest n.toNat
    have hd := bs_drop q.rest n.toNat
    have H3 := Lib.hid (h2.set0 (q.rest.drop n.toNat))
    have T3 := Lib.hid (T2.out.set b 0 (.string (bs (q.rest.drop n.toNat))) (.inl rfl))
    go_wp2_with fail
    refine (close_any b _ 44 _ H3.out).mono ?_
    rintro x w4 ⟨rfl, h4, t4⟩
    have H4 := Lib.hid h4
    have T4 := Lib.hid (T3.out.trans t4 (fun i hi => .inl hi))
    have d1 := h4.c1
    clear h4 t4 H3 T3 T2 h2 c0 c1 f0 f1
    generalize rClose 44 ⟨q.rest.drop n.toNat, q.bad⟩ = s3 at *
    cases hb3 : s3.bad with
    | true =>
      rw [hb3] at d1
      have hD := HD.out
      rw [hb3] at hD
      have HD := Lib.hid hD
      clear hD hb3
      go_wp2_with fail
      go_ret
      exact ⟨by rw [HD.out]; rfl, by rw [HD.out]; exact H4.out, T4.out⟩
    | false =>
      rw [hb3] at d1
      have hD := HD.out
      rw [hb3] at hD
      have HD := Lib.hid hD
      clear hD hb3
      go_wp2_with fail
      go_ret
      exact ⟨by rw [HD.out]; rfl, by rw [HD.out]; exact H4.out, T4.out⟩

/-- What 'Done' says. -/
def rDone (s : RS) : Bool := !s.bad && s.rest.isEmpty
theorem done_any (b : Nat) (s : RS) (w : World) (h : RdAt b s w) :
    Calls Tryd.prog 34 #[.pointer (some ⟨b, 0, none⟩)] w fun x w' => x = .returned (.bool (rDone s)) ∧ w = w' := by
  have c0 := h.c0
  have c1 := h.c1
  have hq : (bs s.rest).toList.isEmpty = s.rest.isEmpty := by rw [bs_toList]
  have HD := Lib.hid (show rDone s = (!s.bad && s.rest.isEmpty) from rfl)
  go_enter Tryd.func34, Tryd.ntmps34
  generalize s.bad = bad at *
  cases bad
  · go_wp2_with fail
    go_ret
    exact ⟨by rw [HD.out]; simp, rfl⟩
  · go_wp2_with fail
    go_ret
    exact ⟨by rw [HD.out]; rfl, rfl⟩
theorem open_any (l : List UInt8) (w : World) :
    Calls Tryd.prog 31 #[.string (bs l)] w fun x w' => x = .returned (.pointer (some ⟨w.heap.size, 0, none⟩)) ∧ RdAt w.heap.size ⟨l, false⟩ w' ∧ Below w.heap.size w w' := by
  go_enter Tryd.func31, Tryd.ntmps31
  go_wp2_with fail
  go_ret
  exact ⟨rfl, (MapKept.heap_alloc w _).1, (Below.refl _ _).alloc (Nat.le_refl _) _⟩
end Go.Proofs.YtoibgenhbpppdaaDoor
