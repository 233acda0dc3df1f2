/- The walk of BackMeans. -/
import Derived.Test.YtbpbdehnkkheiaaBkG
import Derived.Test.YtbpbdehnkkheiaaBkR
import Derived.Test.YtbpbdehnkkheiaaBkS
namespace Go.Proofs.Ytbpbdehnkkheiaa
open Go.RowKit

/-- The three boxes at the head of the call. -/
structure MW (p q : Prof) (A B : Option Addr) (c d : Nat) (r : RawM) (fA : Option Addr) (fc : Nat) (w wx : World) : Prop where
  b : Below w.heap.size w wx
  z : w.heap.size + 3 ≤ wx.heap.size
  p0 : wx.heap[w.heap.size]? = some (.cells (p.cs A c) 24 (0, 0))
  p1 : wx.heap[w.heap.size + 1]? = some (.cells (q.cs B d) 24 (0, 0))
  r2 : wx.heap[w.heap.size + 2]? = some (.cells (r.cs fA fc) 28 (0, 0))
section
variable {p q : Prof} {A B : Option Addr} {c d : Nat} {r : RawM} {fA : Option Addr} {fc : Nat} {w wx wy : World}
theorem MW.start (p q : Prof) (A B : Option Addr) (c d : Nat) (r : RawM) (fA : Option Addr) (fc : Nat) (w : World) : MW p q A B c d r fA fc w (((w.alloc (.cells (p.cs A c) 24)).alloc (.cells (q.cs B d) 24)).alloc (.cells (r.cs fA fc) 28)) := by
  refine ⟨by repeat (first | with_reducible exact Below.refl _ _ | with_reducible assumption | with_reducible refine Below.drew ?_ | with_reducible refine Below.alloc ?_ (by first | omega | (simp; done) | (simp; omega)) _), by simp, ?_, ?_, ?_⟩
  · rw [Below.heap_alloc _ _ _ (by simp; omega), Below.heap_alloc _ _ _ (by simp)]
    exact (MapKept.heap_alloc w _).1
  · rw [Below.heap_alloc _ _ _ (by simp)]
    exact (by simpa using (MapKept.heap_alloc (w.alloc (.cells (p.cs A c) 24)) (.cells (q.cs B d) 24)).1)
  · exact (by simpa using (MapKept.heap_alloc ((w.alloc (.cells (p.cs A c) 24)).alloc (.cells (q.cs B d) 24)) (.cells (r.cs fA fc) 28)).1)
theorem MW.below (h : MW p q A B c d r fA fc w wx) (hb : Below wx.heap.size wx wy) : MW p q A B c d r fA fc w wy :=
  ⟨h.b.trans (hb.mono h.b.size), Nat.le_trans h.z hb.size, (hb.block _ (box_lt h.p0)).trans h.p0, (hb.block _ (box_lt h.p1)).trans h.p1, (hb.block _ (box_lt h.r2)).trans h.r2⟩
theorem MW.prof (h : MW p q A B c d r fA fc w wx) : wx.rangeAt w.heap.size 0 (p.cs A c).toList := range_block h.p0 rfl
theorem MW.prof2 (h : MW p q A B c d r fA fc w wx) : wx.rangeAt (w.heap.size + 1) 0 (q.cs B d).toList := range_block h.p1 rfl
theorem MW.raw (h : MW p q A B c d r fA fc w wx) : wx.rangeAt (w.heap.size + 2) 0 (r.cs fA fc).toList := range_block h.r2 rfl
end
set_option maxRecDepth 100000 in
set_option maxHeartbeats 16000000 in
theorem means_any (p q : Prof) (A B : Option Addr) (c d : Nat) (xs : List Pair) (X : Option Addr) (xd : Nat) (net : Int) (r : RawM) (fA : Option Addr) (fc : Nat) (step : Int) (w : World)
    (hp : ProfOk w w.heap.size A p) (hpc : p.types.length ≤ c) (hq : ProfOk w w.heap.size B q) (hqc : q.types.length ≤ d) (hx : RdP w w.heap.size X xs) (hxl : xs.length ≤ 9223372036854775807) (hr : RawOk w w.heap.size fA fc r) (hrc : r.files.length ≤ fc) :
    Calls Try.prog 4 #[p.v A c, q.v B d, .slice X xs.length xd, .int .i64 net, r.v fA fc, .int .i64 step] w fun e w' => e = .returned (.bool true) ∧ Below w.heap.size w w' := by
  have HP := Lib.hid hp
  have HQ := Lib.hid hq
  have HX := Lib.hid hx
  have HR := Lib.hid hr
  clear hp hq hx hr
  go_enter Try.func4, Try.ntmps4
  go_wp2_with fail
  obtain ⟨W0, hW0⟩ : ∃ W, W = ((w.alloc (.cells (p.cs A c) 24)).alloc (.cells (q.cs B d) 24)).alloc (.cells (r.cs fA fc) 28) := ⟨_, rfl⟩
  have HK0 : Hid (MW p q A B c d r fA fc w W0) := Lib.hid (by rw [hW0]; exact MW.start p q A B c d r fA fc w)
  rw [← hW0]
  clear hW0
  refine (lSmallB_any W0).mono ?_
  rintro en w1 ⟨rfl, hb1⟩
  have HK := Lib.hid (HK0.out.below hb1)
  clear hb1 HK0
  go_wp2_with (first
    | ((with_reducible show wpList _ _ _ (Oper.mk _ (Op.load 24 (.tmp 6)) _ _ _ _ :: _) _ _); refine wpList_load_g rfl 24 (.tmp 6) rfl w.heap.size 0 rfl (p.cs A c).toList _ HK.out.prof Try.underlying24 rfl (by kernel_rfl) ?_)
    | ((with_reducible show wpList _ _ _ (Oper.mk _ (Op.load 24 (.tmp 7)) _ _ _ _ :: _) _ _); refine wpList_load_g rfl 24 (.tmp 7) rfl (w.heap.size + 1) 0 rfl (q.cs B d).toList _ HK.out.prof2 Try.underlying24 rfl (by kernel_rfl) ?_)
    | ((with_reducible show wpList _ _ _ (Oper.mk _ (Op.load 28 (.tmp 10)) _ _ _ _ :: _) _ _); refine wpList_load_g rfl 28 (.tmp 10) rfl (w.heap.size + 2) 0 rfl (r.cs fA fc).toList _ HK.out.raw Try.underlying28 rfl (by kernel_rfl) ?_)
    | ((with_reducible show wpList _ _ _ (Oper.mk _ (Op.load 33 (.tmp 14)) _ _ _ _ :: _) _ _); refine wpList_load_g rfl 33 (.tmp 14) rfl bA 0 rfl (eA.cs none 0 gA gc).toList _ (range_block HEa.out.row rfl) Try.underlying33 rfl (by kernel_rfl) ?_)
    | ((with_reducible show wpList _ _ _ (Oper.mk _ (Op.load 33 (.tmp 18)) _ _ _ _ :: _) _ _); refine wpList_load_g rfl 33 (.tmp 18) rfl be 0 rfl (eA.cs none 0 gA5 gc5).toList _ HRow.out Try.underlying33 rfl (by kernel_rfl) ?_)
    )
  refine (few_any p A c _ (HP.out.now HK.out.b)).mono ?_
  rintro en w2 ⟨⟨fb, rfl, hfb⟩, hb2⟩
  have HK := Lib.hid (HK.out.below hb2)
  clear hb2
  cases fb
  · clear hfb
    go_wp2
    go_ret
    exact ⟨rfl, HK.out.b⟩
  have htp := hfb rfl
  clear hfb
  go_wp2_with (first
    | ((with_reducible show wpList _ _ _ (Oper.mk _ (Op.load 24 (.tmp 6)) _ _ _ _ :: _) _ _); refine wpList_load_g rfl 24 (.tmp 6) rfl w.heap.size 0 rfl (p.cs A c).toList _ HK.out.prof Try.underlying24 rfl (by kernel_rfl) ?_)
    | ((with_reducible show wpList _ _ _ (Oper.mk _ (Op.load 24 (.tmp 7)) _ _ _ _ :: _) _ _); refine wpList_load_g rfl 24 (.tmp 7) rfl (w.heap.size + 1) 0 rfl (q.cs B d).toList _ HK.out.prof2 Try.underlying24 rfl (by kernel_rfl) ?_)
    | ((with_reducible show wpList _ _ _ (Oper.mk _ (Op.load 28 (.tmp 10)) _ _ _ _ :: _) _ _); refine wpList_load_g rfl 28 (.tmp 10) rfl (w.heap.size + 2) 0 rfl (r.cs fA fc).toList _ HK.out.raw Try.underlying28 rfl (by kernel_rfl) ?_)
    | ((with_reducible show wpList _ _ _ (Oper.mk _ (Op.load 33 (.tmp 14)) _ _ _ _ :: _) _ _); refine wpList_load_g rfl 33 (.tmp 14) rfl bA 0 rfl (eA.cs none 0 gA gc).toList _ (range_block HEa.out.row rfl) Try.underlying33 rfl (by kernel_rfl) ?_)
    | ((with_reducible show wpList _ _ _ (Oper.mk _ (Op.load 33 (.tmp 18)) _ _ _ _ :: _) _ _); refine wpList_load_g rfl 33 (.tmp 18) rfl be 0 rfl (eA.cs none 0 gA5 gc5).toList _ HRow.out Try.underlying33 rfl (by kernel_rfl) ?_)
    )
  refine (few_any q B d _ (HQ.out.now HK.out.b)).mono ?_
  rintro en w3 ⟨⟨fb, rfl, hfb⟩, hb3⟩
  have HK := Lib.hid (HK.out.below hb3)
  clear hb3
  cases fb
  · clear hfb
    go_wp2
    go_ret
    exact ⟨rfl, HK.out.b⟩
  have htq := hfb rfl
  clear hfb
  go_wp2_with (first
    | ((with_reducible show wpList _ _ _ (Oper.mk _ (Op.load 24 (.tmp 6)) _ _ _ _ :: _) _ _); refine wpList_load_g rfl 24 (.tmp 6) rfl w.heap.size 0 rfl (p.cs A c).toList _ HK.out.prof Try.underlying24 rfl (by kernel_rfl) ?_)
    | ((with_reducible show wpList _ _ _ (Oper.mk _ (Op.load 24 (.tmp 7)) _ _ _ _ :: _) _ _); refine wpList_load_g rfl 24 (.tmp 7) rfl (w.heap.size + 1) 0 rfl (q.cs B d).toList _ HK.out.prof2 Try.underlying24 rfl (by kernel_rfl) ?_)
    | ((with_reducible show wpList _ _ _ (Oper.mk _ (Op.load 28 (.tmp 10)) _ _ _ _ :: _) _ _); refine wpList_load_g rfl 28 (.tmp 10) rfl (w.heap.size + 2) 0 rfl (r.cs fA fc).toList _ HK.out.raw Try.underlying28 rfl (by kernel_rfl) ?_)
    | ((with_reducible show wpList _ _ _ (Oper.mk _ (Op.load 33 (.tmp 14)) _ _ _ _ :: _) _ _); refine wpList_load_g rfl 33 (.tmp 14) rfl bA 0 rfl (eA.cs none 0 gA gc).toList _ (range_block HEa.out.row rfl) Try.underlying33 rfl (by kernel_rfl) ?_)
    | ((with_reducible show wpList _ _ _ (Oper.mk _ (Op.load 33 (.tmp 18)) _ _ _ _ :: _) _ _); refine wpList_load_g rfl 33 (.tmp 18) rfl be 0 rfl (eA.cs none 0 gA5 gc5).toList _ HRow.out Try.underlying33 rfl (by kernel_rfl) ?_)
    )
  refine (rFewB_any xs X xd r fA fc _).mono ?_
  rintro en w4 ⟨rfl, hb4⟩
  have HK := Lib.hid (HK.out.below hb4)
  clear hb4
  generalize hfw : fewBk xs r = fw
  have HFw := Lib.hid hfw
  clear hfw
  cases fw
  · go_wp2
    go_ret
    exact ⟨rfl, HK.out.b⟩
  have hl12 : xs.length ≤ 12 := by
    have := HFw.out
    unfold fewBk at this
    simp at this
    omega
  go_wp2_with (first
    | ((with_reducible show wpList _ _ _ (Oper.mk _ (Op.load 24 (.tmp 6)) _ _ _ _ :: _) _ _); refine wpList_load_g rfl 24 (.tmp 6) rfl w.heap.size 0 rfl (p.cs A c).toList _ HK.out.prof Try.underlying24 rfl (by kernel_rfl) ?_)
    | ((with_reducible show wpList _ _ _ (Oper.mk _ (Op.load 24 (.tmp 7)) _ _ _ _ :: _) _ _); refine wpList_load_g rfl 24 (.tmp 7) rfl (w.heap.size + 1) 0 rfl (q.cs B d).toList _ HK.out.prof2 Try.underlying24 rfl (by kernel_rfl) ?_)
    | ((with_reducible show wpList _ _ _ (Oper.mk _ (Op.load 28 (.tmp 10)) _ _ _ _ :: _) _ _); refine wpList_load_g rfl 28 (.tmp 10) rfl (w.heap.size + 2) 0 rfl (r.cs fA fc).toList _ HK.out.raw Try.underlying28 rfl (by kernel_rfl) ?_)
    | ((with_reducible show wpList _ _ _ (Oper.mk _ (Op.load 33 (.tmp 14)) _ _ _ _ :: _) _ _); refine wpList_load_g rfl 33 (.tmp 14) rfl bA 0 rfl (eA.cs none 0 gA gc).toList _ (range_block HEa.out.row rfl) Try.underlying33 rfl (by kernel_rfl) ?_)
    | ((with_reducible show wpList _ _ _ (Oper.mk _ (Op.load 33 (.tmp 18)) _ _ _ _ :: _) _ _); refine wpList_load_g rfl 33 (.tmp 18) rfl be 0 rfl (eA.cs none 0 gA5 gc5).toList _ HRow.out Try.underlying33 rfl (by kernel_rfl) ?_)
    )
  refine (bBack_any p A c xs X _ xd net r fA fc step _ rfl (HP.out.now HK.out.b) hpc (HX.out.now HK.out.b) (by omega) (HR.out.now HK.out.b) hrc).mono ?_
  rintro en w5 ⟨hb5, gA, gc, rfl, hf, hfl, hfb⟩
  have HK4z := HK.out.b.size
  have HK := Lib.hid (HK.out.below hb5)
  obtain ⟨bs, hbs⟩ : ∃ b, b = backS p xs net r step := ⟨_, rfl⟩
  rw [← hbs] at hf hfl
  simp only [← hbs]
  have HBs := Lib.hid hbs
  have HFl := Lib.hid hfl
  clear hbs
  have hb6 : Below w5.heap.size w5 (w5.alloc (.cells (bs.1.cs none 0 gA gc) 33)) := by repeat (first | with_reducible exact Below.refl _ _ | with_reducible assumption | with_reducible refine Below.drew ?_ | with_reducible refine Below.alloc ?_ (by first | omega | (simp; done) | (simp; omega)) _)
  have HEa : Hid (EvBox bs.1 w5.heap.size gA gc w (w5.alloc (.cells (bs.1.cs none 0 gA gc) 33))) := Lib.hid ⟨(MapKept.heap_alloc w5 _).1, hf.now hb6, (fun j hj => Nat.le_trans HK4z (hfb j hj)), HK.out.b.size⟩
  have HK := Lib.hid (HK.out.below hb6)
  obtain ⟨W6, hW6⟩ : ∃ W, W = w5.alloc (.cells (bs.1.cs none 0 gA gc) 33) := ⟨_, rfl⟩
  go_upto_region 5 with fail
  rw [← hW6] at HEa HK ⊢
  obtain ⟨bA, hbA⟩ : ∃ b, b = w5.heap.size := ⟨_, rfl⟩
  rw [← hbA] at HEa ⊢
  obtain ⟨eA, heA⟩ : ∃ e, e = bs.1 := ⟨_, rfl⟩
  rw [← heA] at HEa ⊢
  have HeA := Lib.hid heA
  clear hW6 hb6 hf hfl hfb hb5 hbA heA
  cases h0 : (bs.2 != 0)
  rotate_left
  · have hne : bs.2 ≠ 0 := by simpa using h0
    have hz : eA = zeroEv ∧ (bs.2 = 7 → meansB p r = false) := by
      rw [HeA.out]
      rw [HBs.out] at hne ⊢
      exact back_err p xs net r step hne
    obtain ⟨hz, h7⟩ := hz
    have HZ := Lib.hid hz
    have H7 := Lib.hid h7
    clear h7 hne hz
    go_wp2_with (first
      | ((with_reducible show wpList _ _ _ (Oper.mk _ (Op.load 24 (.tmp 6)) _ _ _ _ :: _) _ _); refine wpList_load_g rfl 24 (.tmp 6) rfl w.heap.size 0 rfl (p.cs A c).toList _ HK.out.prof Try.underlying24 rfl (by kernel_rfl) ?_)
      | ((with_reducible show wpList _ _ _ (Oper.mk _ (Op.load 24 (.tmp 7)) _ _ _ _ :: _) _ _); refine wpList_load_g rfl 24 (.tmp 7) rfl (w.heap.size + 1) 0 rfl (q.cs B d).toList _ HK.out.prof2 Try.underlying24 rfl (by kernel_rfl) ?_)
      | ((with_reducible show wpList _ _ _ (Oper.mk _ (Op.load 28 (.tmp 10)) _ _ _ _ :: _) _ _); refine wpList_load_g rfl 28 (.tmp 10) rfl (w.heap.size + 2) 0 rfl (r.cs fA fc).toList _ HK.out.raw Try.underlying28 rfl (by kernel_rfl) ?_)
      | ((with_reducible show wpList _ _ _ (Oper.mk _ (Op.load 33 (.tmp 14)) _ _ _ _ :: _) _ _); refine wpList_load_g rfl 33 (.tmp 14) rfl bA 0 rfl (eA.cs none 0 gA gc).toList _ (range_block HEa.out.row rfl) Try.underlying33 rfl (by kernel_rfl) ?_)
      | ((with_reducible show wpList _ _ _ (Oper.mk _ (Op.load 33 (.tmp 18)) _ _ _ _ :: _) _ _); refine wpList_load_g rfl 33 (.tmp 18) rfl be 0 rfl (eA.cs none 0 gA5 gc5).toList _ HRow.out Try.underlying33 rfl (by kernel_rfl) ?_)
      )
    refine (rSameE_any eA zeroEv none 0 gA gc none 0 none 0 _ (by rw [HZ.out]; exact ⟨RdL.nil_, RdL.nil_, by decide, by decide, by decide⟩) ⟨RdL.nil_, RdL.nil_, by decide, by decide, by decide⟩).mono ?_
    rintro en w7 ⟨rfl, hb7⟩
    rw [(sameE_iff eA zeroEv).2 HZ.out]
    have HK := Lib.hid (HK.out.below hb7)
    clear hb7 HEa
    cases h7 : (bs.2 != 7)
    · have hm : meansB p r = false := H7.out (by simpa using h7)
      go_wp2_with (first
        | ((with_reducible show wpList _ _ _ (Oper.mk _ (Op.load 24 (.tmp 6)) _ _ _ _ :: _) _ _); refine wpList_load_g rfl 24 (.tmp 6) rfl w.heap.size 0 rfl (p.cs A c).toList _ HK.out.prof Try.underlying24 rfl (by kernel_rfl) ?_)
        | ((with_reducible show wpList _ _ _ (Oper.mk _ (Op.load 24 (.tmp 7)) _ _ _ _ :: _) _ _); refine wpList_load_g rfl 24 (.tmp 7) rfl (w.heap.size + 1) 0 rfl (q.cs B d).toList _ HK.out.prof2 Try.underlying24 rfl (by kernel_rfl) ?_)
        | ((with_reducible show wpList _ _ _ (Oper.mk _ (Op.load 28 (.tmp 10)) _ _ _ _ :: _) _ _); refine wpList_load_g rfl 28 (.tmp 10) rfl (w.heap.size + 2) 0 rfl (r.cs fA fc).toList _ HK.out.raw Try.underlying28 rfl (by kernel_rfl) ?_)
        | ((with_reducible show wpList _ _ _ (Oper.mk _ (Op.load 33 (.tmp 14)) _ _ _ _ :: _) _ _); refine wpList_load_g rfl 33 (.tmp 14) rfl bA 0 rfl (eA.cs none 0 gA gc).toList _ (range_block HEa.out.row rfl) Try.underlying33 rfl (by kernel_rfl) ?_)
        | ((with_reducible show wpList _ _ _ (Oper.mk _ (Op.load 33 (.tmp 18)) _ _ _ _ :: _) _ _); refine wpList_load_g rfl 33 (.tmp 18) rfl be 0 rfl (eA.cs none 0 gA5 gc5).toList _ HRow.out Try.underlying33 rfl (by kernel_rfl) ?_)
        )
      refine (rMeans_any p A c r fA fc _).mono ?_
      rintro en w8 ⟨rfl, hb8⟩
      rw [hm]
      have HK := Lib.hid (HK.out.below hb8)
      clear hb8
      go_wp2
      go_ret
      exact ⟨rfl, HK.out.b⟩
    · go_wp2
      go_ret
      exact ⟨rfl, HK.out.b⟩
  have HOkd : Hid (BackOkd p xs net r step) := Lib.hid (back_ok p xs net r step (by rw [← HBs.out]; simpa using h0))
  have heq : eA = foldE xs net r step := by rw [HeA.out, HBs.out, HOkd.out.eq]
  obtain ⟨T, hT⟩ : ∃ T, T = (foldE xs net r step).target := ⟨_, rfl⟩
  obtain ⟨Q, hQ⟩ : ∃ T, T = (foldE xs net r step).quote := ⟨_, rfl⟩
  obtain ⟨Wh, hWh⟩ : ∃ T, T = (foldE xs net r step).who := ⟨_, rfl⟩
  obtain ⟨Nn, hNn⟩ : ∃ T, T = (foldE xs net r step).n := ⟨_, rfl⟩
  obtain ⟨Tx, hTx⟩ : ∃ T, T = (foldE xs net r step).text := ⟨_, rfl⟩
  obtain ⟨Fi, hFi⟩ : ∃ T, T = (foldE xs net r step).files := ⟨_, rfl⟩
  have hE : eA = ⟨r.account, 0, [], r.kind, r.group, T, Q, Wh, Nn, Tx, Fi, step⟩ := by rw [heq, hT, hQ, hWh, hNn, hTx, hFi]; rfl
  have HTt : Hid (0 ≤ T → tgtF net T xs ≠ []) := Lib.hid (fun h => by rw [hT] at h ⊢; exact back_target HOkd.out.ok h)
  have HRi : Hid (rightE eA = true) := Lib.hid (by rw [heq]; exact HOkd.out.right)
  have HOk : Hid (∀ (wx : World) (gA : Option Addr), RdI wx wx.heap.size gA eA.files → EvOk wx wx.heap.size none gA eA) := Lib.hid (fun wx gA h => by
    rw [HeA.out, HBs.out] at h ⊢
    exact back_evOk HR.out p xs net step h)
  have HEq := Lib.hid (show backS p xs net r step = (eA, 0) by rw [heq]; exact HOkd.out.eq)
  have HFc : Hid (eA.files.length ≤ gc) := Lib.hid (by rw [HeA.out]; exact HFl.out)
  have ha := args_acc HOkd.out.args
  have HPc := Lib.hid ha.1
  have HNa := Lib.hid ha.2
  clear ha hT hQ hWh hNn hTx hFi heq HFl
  obtain ⟨eC, heC⟩ : ∃ e, e = eA.cs none 0 gA gc := ⟨_, rfl⟩
  have HrA := Lib.hid (show eA.cs none 0 gA gc = #[.int .i64 r.account, .int .i64 0, .slice none 0 0, .int .i64 r.kind, .int .i64 r.group, .int .i64 T, .int .i64 Q, .int .i64 Wh, .int .i64 Nn, .string Tx, .slice gA Fi.length gc, .int .i64 step] by rw [hE]; rfl)
  clear heC eC hE
  have HX6 := Lib.hid (HX.out.now HK.out.b)
  have HKz := HK.out.b.size
  have r5 : ∀ wx, Below W6.heap.size W6 wx → wx.cell? ⟨bA, 5, none⟩ = some (.int .i64 T) := fun wx h => box_cell (HEa.out.below h).row 5 _ (by rw [HrA.out]; rfl)
  have HR5 := Lib.hid r5
  clear r5
  go_wp2_with fail
  go_loopw [16, 17] (fun v i wr => ∃ k : Nat, k ≤ xs.length ∧ i = .int .i64 k ∧ v = .int .i64 (tgtF net T (xs.take k)).length ∧ Below W6.heap.size W6 wr) (fun _ i _ => xs.length - (intOf i).toNat)
  case atStart => exact ⟨0, Nat.zero_le _, rfl, rfl, Below.refl _ _⟩
  case round =>
    obtain ⟨k, hk, rfl, rfl, hb⟩ := hrel
    have HB := Lib.hid hb
    have hol := tgt_len net T xs k
    by_cases hlt : k < xs.length
    · obtain ⟨b, off, e, hA, hbb, hq, d0, d1, d2, d3⟩ := RdP_at (HX6.out.now hb) hlt
      have hqe : xs[k] = e := by rw [List.getElem?_eq_getElem hlt] at hq; exact Option.some.inj hq
      have HSt := Lib.hid (tgt_step net T xs k hlt)
      rw [hqe] at HSt
      subst hA
      have r5 := HR5.out _ hb
      clear hb hq hqe
      cases hv : (e.net == net)
      · rw [hv] at HSt
        go_wp2_with fail
        go_quiet (fail)
        go_wp2
        go_roundw
        case rel => exact ⟨k + 1, by omega, by go_num, by rw [HSt.out]; simp, below_drewN HB.out _⟩
        case measure => simp [intOf]; omega
      · rw [hv] at HSt
        cases hv2 : (e.ev == T)
        · rw [hv2] at HSt
          go_wp2_with fail
          go_quiet (fail)
          go_wp2
          go_roundw
          case rel => exact ⟨k + 1, by omega, by go_num, by rw [HSt.out]; simp, below_drewN HB.out _⟩
          case measure => simp [intOf]; omega
        · rw [hv2] at HSt
          go_wp2_with fail
          go_quiet (fail)
          go_wp2
          go_roundw
          case rel => exact ⟨k + 1, by omega, by go_num, by rw [HSt.out]; simp, below_drewN HB.out _⟩
          case measure => simp [intOf]; omega
    · have HE : Hid (tgtF net T (xs.take k) = tgtF net T xs) := Lib.hid (by rw [List.take_of_length_le (by omega)])
      simp only [HE.out]
      have HK := Lib.hid (HK.out.below HB.out)
      have HEa := Lib.hid (HEa.out.below HB.out)
      clear hb HB HX6 hol HE
      obtain ⟨w7, hw7⟩ : ∃ x, x = wr := ⟨_, rfl⟩
      rw [← hw7] at HK HEa ⊢
      clear hw7
      go_upto_region 13 with fail
      go_cut [143] (fun v wx => v = .bool false ∧ Below w7.heap.size w7 wx)
      case first => as_aux_lemma =>
        have HBz := Lib.hid (Below.refl w7.heap.size w7)
        go_wp2_with (first
          | ((with_reducible show wpList _ _ _ (Oper.mk _ (Op.load 24 (.tmp 6)) _ _ _ _ :: _) _ _); refine wpList_load_g rfl 24 (.tmp 6) rfl w.heap.size 0 rfl (p.cs A c).toList _ HK.out.prof Try.underlying24 rfl (by kernel_rfl) ?_)
          | ((with_reducible show wpList _ _ _ (Oper.mk _ (Op.load 24 (.tmp 7)) _ _ _ _ :: _) _ _); refine wpList_load_g rfl 24 (.tmp 7) rfl (w.heap.size + 1) 0 rfl (q.cs B d).toList _ HK.out.prof2 Try.underlying24 rfl (by kernel_rfl) ?_)
          | ((with_reducible show wpList _ _ _ (Oper.mk _ (Op.load 28 (.tmp 10)) _ _ _ _ :: _) _ _); refine wpList_load_g rfl 28 (.tmp 10) rfl (w.heap.size + 2) 0 rfl (r.cs fA fc).toList _ HK.out.raw Try.underlying28 rfl (by kernel_rfl) ?_)
          | ((with_reducible show wpList _ _ _ (Oper.mk _ (Op.load 33 (.tmp 14)) _ _ _ _ :: _) _ _); refine wpList_load_g rfl 33 (.tmp 14) rfl bA 0 rfl (eA.cs none 0 gA gc).toList _ (range_block HEa.out.row rfl) Try.underlying33 rfl (by kernel_rfl) ?_)
          | ((with_reducible show wpList _ _ _ (Oper.mk _ (Op.load 33 (.tmp 18)) _ _ _ _ :: _) _ _); refine wpList_load_g rfl 33 (.tmp 18) rfl be 0 rfl (eA.cs none 0 gA5 gc5).toList _ HRow.out Try.underlying33 rfl (by kernel_rfl) ?_)
          )
        refine (evRight_any eA none 0 gA gc _ (HOk.out _ _ HEa.out.ok) HFc.out).mono ?_
        rintro en w8 ⟨rfl, hb8⟩
        rw [HRi.out]
        have HK := Lib.hid (HK.out.below hb8)
        have HEa := Lib.hid (HEa.out.below hb8)
        have HBz := Lib.hid (HBz.out.trans (hb8.mono HBz.out.size))
        clear hb8
        have a0 := box_cell HEa.out.row 0 (.int .i64 r.account) (by rw [HrA.out]; rfl)
        have a1 := box_cell HEa.out.row 1 (.int .i64 0) (by rw [HrA.out]; rfl)
        have a2 := box_cell HEa.out.row 2 (.slice none 0 0) (by rw [HrA.out]; rfl)
        have a3 := box_cell HEa.out.row 3 (.int .i64 r.kind) (by rw [HrA.out]; rfl)
        have a11 := box_cell HEa.out.row 11 (.int .i64 step) (by rw [HrA.out]; rfl)
        have q0 := range_cell HK.out.raw 0 _ rfl
        have q2 := range_cell HK.out.raw 2 _ rfl
        go_wp2_with (first
          | ((with_reducible show wpList _ _ _ (Oper.mk _ (Op.load 24 (.tmp 6)) _ _ _ _ :: _) _ _); refine wpList_load_g rfl 24 (.tmp 6) rfl w.heap.size 0 rfl (p.cs A c).toList _ HK.out.prof Try.underlying24 rfl (by kernel_rfl) ?_)
          | ((with_reducible show wpList _ _ _ (Oper.mk _ (Op.load 24 (.tmp 7)) _ _ _ _ :: _) _ _); refine wpList_load_g rfl 24 (.tmp 7) rfl (w.heap.size + 1) 0 rfl (q.cs B d).toList _ HK.out.prof2 Try.underlying24 rfl (by kernel_rfl) ?_)
          | ((with_reducible show wpList _ _ _ (Oper.mk _ (Op.load 28 (.tmp 10)) _ _ _ _ :: _) _ _); refine wpList_load_g rfl 28 (.tmp 10) rfl (w.heap.size + 2) 0 rfl (r.cs fA fc).toList _ HK.out.raw Try.underlying28 rfl (by kernel_rfl) ?_)
          | ((with_reducible show wpList _ _ _ (Oper.mk _ (Op.load 33 (.tmp 14)) _ _ _ _ :: _) _ _); refine wpList_load_g rfl 33 (.tmp 14) rfl bA 0 rfl (eA.cs none 0 gA gc).toList _ (range_block HEa.out.row rfl) Try.underlying33 rfl (by kernel_rfl) ?_)
          | ((with_reducible show wpList _ _ _ (Oper.mk _ (Op.load 33 (.tmp 18)) _ _ _ _ :: _) _ _); refine wpList_load_g rfl 33 (.tmp 18) rfl be 0 rfl (eA.cs none 0 gA5 gc5).toList _ HRow.out Try.underlying33 rfl (by kernel_rfl) ?_)
          )
        refine (evNet_any r.account _).mono ?_
        rintro en w9 ⟨rfl, rfl⟩
        rw [HNa.out]
        go_wp2_with (first
          | ((with_reducible show wpList _ _ _ (Oper.mk _ (Op.load 24 (.tmp 6)) _ _ _ _ :: _) _ _); refine wpList_load_g rfl 24 (.tmp 6) rfl w.heap.size 0 rfl (p.cs A c).toList _ HK.out.prof Try.underlying24 rfl (by kernel_rfl) ?_)
          | ((with_reducible show wpList _ _ _ (Oper.mk _ (Op.load 24 (.tmp 7)) _ _ _ _ :: _) _ _); refine wpList_load_g rfl 24 (.tmp 7) rfl (w.heap.size + 1) 0 rfl (q.cs B d).toList _ HK.out.prof2 Try.underlying24 rfl (by kernel_rfl) ?_)
          | ((with_reducible show wpList _ _ _ (Oper.mk _ (Op.load 28 (.tmp 10)) _ _ _ _ :: _) _ _); refine wpList_load_g rfl 28 (.tmp 10) rfl (w.heap.size + 2) 0 rfl (r.cs fA fc).toList _ HK.out.raw Try.underlying28 rfl (by kernel_rfl) ?_)
          | ((with_reducible show wpList _ _ _ (Oper.mk _ (Op.load 33 (.tmp 14)) _ _ _ _ :: _) _ _); refine wpList_load_g rfl 33 (.tmp 14) rfl bA 0 rfl (eA.cs none 0 gA gc).toList _ (range_block HEa.out.row rfl) Try.underlying33 rfl (by kernel_rfl) ?_)
          | ((with_reducible show wpList _ _ _ (Oper.mk _ (Op.load 33 (.tmp 18)) _ _ _ _ :: _) _ _); refine wpList_load_g rfl 33 (.tmp 18) rfl be 0 rfl (eA.cs none 0 gA5 gc5).toList _ HRow.out Try.underlying33 rfl (by kernel_rfl) ?_)
          )
        refine (rMeans_any p A c r fA fc _).mono ?_
        rintro en w10 ⟨rfl, hb10⟩
        rw [HOkd.out.means]
        clear a0 a1 a2 a3 a11 q0 q2
        have HK := Lib.hid (HK.out.below hb10)
        have HEa := Lib.hid (HEa.out.below hb10)
        have HBz := Lib.hid (HBz.out.trans (hb10.mono HBz.out.size))
        clear hb10
        have a5 := box_cell HEa.out.row 5 (.int .i64 T) (by rw [HrA.out]; rfl)
        have htn : decide (0 ≤ T) = true → (((tgtF net T xs).length : Int) == 0) = false := fun h => by
          have := HTt.out (by simpa using h)
          have hl : (tgtF net T xs).length ≠ 0 := fun e => this (List.eq_nil_of_length_eq_zero e)
          have : ((tgtF net T xs).length : Int) ≠ 0 := by omega
          simpa using this
        cases ht : decide (0 ≤ T)
        · go_wp2
          go_meet
          exact ⟨rfl, HBz.out⟩
        · have hn0 := htn ht
          clear htn
          go_wp2
          go_meet
          exact ⟨rfl, HBz.out⟩
      case rest =>
        obtain ⟨rfl, hb13⟩ := hcut
        have HK := Lib.hid (HK.out.below hb13)
        have HEa := Lib.hid (HEa.out.below hb13)
        clear hb13
        go_upto_region 15 with fail
        obtain ⟨bt, hbt⟩ : ∃ b, b = backS (joinP p q) xs net r step := ⟨_, rfl⟩
        have HBt := Lib.hid hbt
        clear hbt
        obtain ⟨W, hW⟩ : ∃ x, x = wc := ⟨_, rfl⟩
        rw [← hW] at HK HEa ⊢
        clear hW
        have HQp := Lib.hid (show ∀ w', Below W.heap.size W w' → w'.rangeAt w.heap.size 0 (p.cs A c).toList from fun w' h => (HK.out.below h).prof)
        have HQq := Lib.hid (show ∀ w', Below W.heap.size W w' → w'.rangeAt (w.heap.size + 1) 0 (q.cs B d).toList from fun w' h => (HK.out.below h).prof2)
        have HQr := Lib.hid (show ∀ w', Below W.heap.size W w' → w'.rangeAt (w.heap.size + 2) 0 (r.cs fA fc).toList from fun w' h => (HK.out.below h).raw)
        go_cut [18, 19] (fun v u wx => EvPost (backS (joinP p q) xs net r step) W v u wx)
        case first => as_aux_lemma =>
          go_wp2_with fail
          refine wp_region_held_drew (S := fun w' => Below W.heap.size W w') (by kernel_rfl) ((Below.refl _ _).drew) (fun hHeld => ?_)
          obtain ⟨Wd, hWd⟩ : ∃ x, x = W.drew := ⟨_, rfl⟩
          rw [← hWd] at hHeld ⊢
          clear hWd
          refine' wpAnyH_take (i := 0) rfl (by kernel_rfl) (by kernel_rfl) (by kernel_rfl) (fun _ _ _ h => h) (yieldsIf_load_mid (by rfl) _ _ rfl _ _ rfl _ _ HQp.out Try.underlying24 rfl (by kernel_rfl)) (by assumption) ?_
          simp only [Act.put, List.setIfInBounds_toArray, List.set_cons_zero, List.set_cons_succ, List.getElem_toArray, List.getElem_cons_zero, List.getElem_cons_succ]
          refine' wpAnyH_take (i := 1) rfl (by kernel_rfl) (by kernel_rfl) (by kernel_rfl) (fun _ _ _ h => h) (yieldsIf_load_mid (by rfl) _ _ rfl _ _ rfl _ _ HQq.out Try.underlying24 rfl (by kernel_rfl)) (by assumption) ?_
          simp only [Act.put, List.setIfInBounds_toArray, List.set_cons_zero, List.set_cons_succ, List.getElem_toArray, List.getElem_cons_zero, List.getElem_cons_succ]
          refine wpAnyH_take (i := 3) (v := ?_) rfl (by kernel_rfl) (by kernel_rfl) (by kernel_rfl) (fun _ _ _ h => h) (Or.inl ⟨by rfl, ?_⟩) (by assumption) ?_
          rotate_left
          · intro wq hSw
            go_simp
            try with_reducible rfl
          simp only [Act.put, List.setIfInBounds_toArray, List.set_cons_zero, List.set_cons_succ, List.getElem_toArray, List.getElem_cons_zero, List.getElem_cons_succ]
          refine wpAnyH_take (i := 4) (v := ?_) rfl (by kernel_rfl) (by kernel_rfl) (by kernel_rfl) (fun _ _ _ h => h) (Or.inl ⟨by rfl, ?_⟩) (by assumption) ?_
          rotate_left
          · intro wq hSw
            go_simp
            try with_reducible rfl
          simp only [Act.put, List.setIfInBounds_toArray, List.set_cons_zero, List.set_cons_succ, List.getElem_toArray, List.getElem_cons_zero, List.getElem_cons_succ]
          refine' wpAnyH_take (i := 5) rfl (by kernel_rfl) (by kernel_rfl) (by kernel_rfl) (fun _ _ _ h => h) (yieldsIf_load_mid (by rfl) _ _ rfl _ _ rfl _ _ HQr.out Try.underlying28 rfl (by kernel_rfl)) (by assumption) ?_
          simp only [Act.put, List.setIfInBounds_toArray, List.set_cons_zero, List.set_cons_succ, List.getElem_toArray, List.getElem_cons_zero, List.getElem_cons_succ]
          refine wpAnyH_take (i := 6) (v := ?_) rfl (by kernel_rfl) (by kernel_rfl) (by kernel_rfl) (fun _ _ _ h => h) (Or.inl ⟨by rfl, ?_⟩) (by assumption) ?_
          rotate_left
          · intro wq hSw
            go_simp
            try with_reducible rfl
          simp only [Act.put, List.setIfInBounds_toArray, List.set_cons_zero, List.set_cons_succ, List.getElem_toArray, List.getElem_cons_zero, List.getElem_cons_succ]
          refine wpAnyH_ready (rs := [2, 11]) (by kernel_rfl) (by simp) ?_
          refine AllReadyH.cons rfl (fun K hK => ?_) (AllReadyH.cons rfl (fun K hK => ?_) AllReadyH.nil)
          · skip
            go_simp
            refine (joinX_any p q A B c d _ (HP.out.now (HK.out.b.trans (hHeld.mono HK.out.b.size))) (HQ.out.now (HK.out.b.trans (hHeld.mono HK.out.b.size))) htp htq).mono ?_
            rintro en wj ⟨hbj, jA, jc, rfl, hjo, hjc, hjl⟩
            have HJo := Lib.hid hjo
            have HJc := Lib.hid hjc
            have HW1 := Lib.hid (hHeld.trans (hbj.mono hHeld.size))
            have HBd := Lib.hid hbj
            go_wp2_with fail
            refine hK.out _ _ HW1.out ?_
            clear hK K hHeld hjo hbj hjc hjl
            intro hHeld
            refine wpAnyH_ready (rs := [7, 11]) (by kernel_rfl) (by simp) ?_
            refine AllReadyH.cons rfl (fun K hK => ?_) (AllReadyH.cons rfl (fun K hK => ?_) AllReadyH.nil)
            · skip
              go_simp
              refine (bBack_any (joinP p q) jA jc xs X _ xd net r fA fc step _ rfl (HJo.out) HJc.out (HX.out.now (HK.out.b.trans (hHeld.mono HK.out.b.size))) (by omega) (HR.out.now (HK.out.b.trans (hHeld.mono HK.out.b.size))) hrc).mono ?_
              rintro en wb ⟨hbb, gA6, gc6, rfl, hf, hfl, hfb⟩
              simp only [← HBt.out] at hf hfl ⊢
              have HFb := Lib.hid hfb
              have HRf := Lib.hid hf
              have HFl := Lib.hid hfl
              have HWb := Lib.hid (hHeld.trans (hbb.mono hHeld.size))
              have HBb := Lib.hid hbb
              go_wp2_with fail
              refine hK.out _ _ HWb.out ?_
              clear hK K hHeld hf hfl hbb hfb
              intro hHeld
              refine wpAnyH_take (i := 8) (v := ?_) rfl (by kernel_rfl) (by kernel_rfl) (by kernel_rfl) (fun _ _ _ h => h) (Or.inl ⟨by rfl, ?_⟩) (by assumption) ?_
              rotate_left
              · intro wq hSw
                go_simp
                try with_reducible rfl
              simp only [Act.put, List.setIfInBounds_toArray, List.set_cons_zero, List.set_cons_succ, List.getElem_toArray, List.getElem_cons_zero, List.getElem_cons_succ]
              refine wpAnyH_take (i := 9) (v := ?_) rfl (by kernel_rfl) (by kernel_rfl) (by kernel_rfl) (fun _ _ _ h => h) (Or.inl ⟨by rfl, ?_⟩) (by assumption) ?_
              rotate_left
              · intro wq hSw
                go_simp
                try with_reducible rfl
              simp only [Act.put, List.setIfInBounds_toArray, List.set_cons_zero, List.set_cons_succ, List.getElem_toArray, List.getElem_cons_zero, List.getElem_cons_succ]
              refine wpAnyH_take (i := 10) (v := ?_) rfl (by kernel_rfl) (by kernel_rfl) (by kernel_rfl) (fun _ _ _ h => h) (Or.inl ⟨by rfl, ?_⟩) (by assumption) ?_
              rotate_left
              · intro wq hSw
                go_simp
                try with_reducible rfl
              simp only [Act.put, List.setIfInBounds_toArray, List.set_cons_zero, List.set_cons_succ, List.getElem_toArray, List.getElem_cons_zero, List.getElem_cons_succ]
              refine wpAnyH_ready (rs := [11]) (by kernel_rfl) (by simp) ?_
              refine AllReadyH.cons rfl (fun K hK => ?_) AllReadyH.nil
              go_simp
              obtain ⟨wa, hwa⟩ : ∃ x, x = (wb).alloc (.cells zeroE 33) := ⟨_, rfl⟩
              have hba : Below (wb).heap.size wb wa := by rw [hwa]; exact (Below.refl _ _).alloc (Nat.le_refl _) _
              have hze : wa.heap[(wb).heap.size]? = some (.cells zeroE 33 (0, 0)) := by rw [hwa]; exact (MapKept.heap_alloc _ _).1
              have HZe := Lib.hid hze
              have HBa := Lib.hid hba
              refine (hK.out _ _ (hHeld.alloc hHeld.size _) ?_)
              have hHa : Below W.heap.size W wa := hHeld.trans (hba.mono hHeld.size)
              have hlo := hHeld.size
              clear hK K hHeld
              intro hHeld
              have hwa' : (wb).alloc (.cells #[.int .i64 0, .int .i64 0, .slice none 0 0, .int .i64 0, .int .i64 0, .int .i64 0, .int .i64 0, .int .i64 0, .int .i64 0, .string ⟨#[]⟩, .slice none 0 0, .int .i64 0] 33) = wa := hwa.symm
              rw [hwa'] at hHeld ⊢
              obtain ⟨be, hbe⟩ : ∃ b, b = (wb).heap.size := ⟨_, rfl⟩
              rw [← hbe] at HZe
              rw [← hbe]
              have hbe0 : W.heap.size ≤ be := by omega
              clear hwa hwa' hba hze hHa
              have HZ := HZe
              refine wpAnyH_ready (rs := [12]) (by kernel_rfl) (by simp) ?_
              refine AllReadyH.cons rfl (fun K hK => ?_) AllReadyH.nil
              refine step_store_box rfl 33 _ _ rfl be (bt.1.cs none 0 gA6 gc6) (by first | rfl | (rw [hbe]; rfl)) rfl (zero_there HZ.out) (by kernel_rfl) (evOne bt.1 none 0 gA6 gc6) ?_
              obtain ⟨ws, hws⟩ : ∃ x, x = World.setCells wa be 0 (bt.1.cs none 0 gA6 gc6).toList := ⟨_, rfl⟩
              have hrow := zero_row HZ.out bt.1 none 0 gA6 gc6
              have hgs := grown_setCells wa be 0 (bt.1.cs none 0 gA6 gc6).toList
              rw [← hws] at hrow hgs ⊢
              have HRow := Lib.hid hrow
              have HGs := Lib.hid hgs
              have HWs : Hid (Below W.heap.size W ws) := Lib.hid (hHeld.grown hgs (by have := hHeld.size; omega) (fun k hk => by injection hk with hk; omega))
              refine hK.out _ _ HWs.out ?_
              clear hK K hHeld hws hrow hgs
              intro hHeld
              refine wpAnyH_take (i := 13) (v := ?_) rfl (by kernel_rfl) (by kernel_rfl) (by kernel_rfl) (fun _ _ _ h => h) (Or.inl ⟨by rfl, ?_⟩) (by assumption) ?_
              rotate_left
              · intro wq hSw
                go_simp
                try with_reducible rfl
              simp only [Act.put, List.setIfInBounds_toArray, List.set_cons_zero, List.set_cons_succ, List.getElem_toArray, List.getElem_cons_zero, List.getElem_cons_succ]
              refine wpAnyH_done (by kernel_rfl) ?_ _
              clear hHeld
              go_wp2
              go_meet
              rw [← HBt.out]
              exact ⟨HWs.out, rfl, be, gA6, gc6, (by first | rfl | (rw [hbe]; done)), hbe0, HRow.out, HRf.out.now (HBa.out.grown HGs.out HBa.out.size (fun k hk => by have := Option.some.inj hk; omega)), HFl.out⟩
            · skip
              go_simp
              obtain ⟨wa, hwa⟩ : ∃ x, x = (wj).alloc (.cells zeroE 33) := ⟨_, rfl⟩
              have hba : Below (wj).heap.size wj wa := by rw [hwa]; exact (Below.refl _ _).alloc (Nat.le_refl _) _
              have hze : wa.heap[(wj).heap.size]? = some (.cells zeroE 33 (0, 0)) := by rw [hwa]; exact (MapKept.heap_alloc _ _).1
              have HZe := Lib.hid hze
              have HBa := Lib.hid hba
              refine (hK.out _ _ (hHeld.alloc hHeld.size _) ?_)
              have hHa : Below W.heap.size W wa := hHeld.trans (hba.mono hHeld.size)
              have hlo := hHeld.size
              clear hK K hHeld
              intro hHeld
              have hwa' : (wj).alloc (.cells #[.int .i64 0, .int .i64 0, .slice none 0 0, .int .i64 0, .int .i64 0, .int .i64 0, .int .i64 0, .int .i64 0, .int .i64 0, .string ⟨#[]⟩, .slice none 0 0, .int .i64 0] 33) = wa := hwa.symm
              rw [hwa'] at hHeld ⊢
              obtain ⟨be, hbe⟩ : ∃ b, b = (wj).heap.size := ⟨_, rfl⟩
              rw [← hbe] at HZe
              rw [← hbe]
              have hbe0 : W.heap.size ≤ be := by omega
              clear hwa hwa' hba hze hHa
              refine wpAnyH_ready (rs := [7]) (by kernel_rfl) (by simp) ?_
              refine AllReadyH.cons rfl (fun K hK => ?_) AllReadyH.nil
              go_simp
              refine (bBack_any (joinP p q) jA jc xs X _ xd net r fA fc step _ rfl (HJo.out.now HBa.out) HJc.out (HX.out.now (HK.out.b.trans (hHeld.mono HK.out.b.size))) (by omega) (HR.out.now (HK.out.b.trans (hHeld.mono HK.out.b.size))) hrc).mono ?_
              rintro en wb ⟨hbb, gA6, gc6, rfl, hf, hfl, hfb⟩
              simp only [← HBt.out] at hf hfl ⊢
              have HFb := Lib.hid hfb
              have HRf := Lib.hid hf
              have HFl := Lib.hid hfl
              have HWb := Lib.hid (hHeld.trans (hbb.mono hHeld.size))
              have HBb := Lib.hid hbb
              go_wp2_with fail
              refine hK.out _ _ HWb.out ?_
              clear hK K hHeld hf hfl hbb hfb
              intro hHeld
              refine wpAnyH_take (i := 8) (v := ?_) rfl (by kernel_rfl) (by kernel_rfl) (by kernel_rfl) (fun _ _ _ h => h) (Or.inl ⟨by rfl, ?_⟩) (by assumption) ?_
              rotate_left
              · intro wq hSw
                go_simp
                try with_reducible rfl
              simp only [Act.put, List.setIfInBounds_toArray, List.set_cons_zero, List.set_cons_succ, List.getElem_toArray, List.getElem_cons_zero, List.getElem_cons_succ]
              refine wpAnyH_take (i := 9) (v := ?_) rfl (by kernel_rfl) (by kernel_rfl) (by kernel_rfl) (fun _ _ _ h => h) (Or.inl ⟨by rfl, ?_⟩) (by assumption) ?_
              rotate_left
              · intro wq hSw
                go_simp
                try with_reducible rfl
              simp only [Act.put, List.setIfInBounds_toArray, List.set_cons_zero, List.set_cons_succ, List.getElem_toArray, List.getElem_cons_zero, List.getElem_cons_succ]
              refine wpAnyH_take (i := 10) (v := ?_) rfl (by kernel_rfl) (by kernel_rfl) (by kernel_rfl) (fun _ _ _ h => h) (Or.inl ⟨by rfl, ?_⟩) (by assumption) ?_
              rotate_left
              · intro wq hSw
                go_simp
                try with_reducible rfl
              simp only [Act.put, List.setIfInBounds_toArray, List.set_cons_zero, List.set_cons_succ, List.getElem_toArray, List.getElem_cons_zero, List.getElem_cons_succ]
              have HZ := Lib.hid ((HBb.out.block be (box_lt HZe.out)).trans HZe.out)
              have hbw := box_lt HZe.out
              refine wpAnyH_ready (rs := [12]) (by kernel_rfl) (by simp) ?_
              refine AllReadyH.cons rfl (fun K hK => ?_) AllReadyH.nil
              refine step_store_box rfl 33 _ _ rfl be (bt.1.cs none 0 gA6 gc6) (by first | rfl | (rw [hbe]; rfl)) rfl (zero_there HZ.out) (by kernel_rfl) (evOne bt.1 none 0 gA6 gc6) ?_
              obtain ⟨ws, hws⟩ : ∃ x, x = World.setCells wb be 0 (bt.1.cs none 0 gA6 gc6).toList := ⟨_, rfl⟩
              have hrow := zero_row HZ.out bt.1 none 0 gA6 gc6
              have hgs := grown_setCells wb be 0 (bt.1.cs none 0 gA6 gc6).toList
              rw [← hws] at hrow hgs ⊢
              have HRow := Lib.hid hrow
              have HGs := Lib.hid hgs
              have HWs : Hid (Below W.heap.size W ws) := Lib.hid (hHeld.grown hgs (by have := hHeld.size; omega) (fun k hk => by injection hk with hk; omega))
              refine hK.out _ _ HWs.out ?_
              clear hK K hHeld hws hrow hgs
              intro hHeld
              refine wpAnyH_take (i := 13) (v := ?_) rfl (by kernel_rfl) (by kernel_rfl) (by kernel_rfl) (fun _ _ _ h => h) (Or.inl ⟨by rfl, ?_⟩) (by assumption) ?_
              rotate_left
              · intro wq hSw
                go_simp
                try with_reducible rfl
              simp only [Act.put, List.setIfInBounds_toArray, List.set_cons_zero, List.set_cons_succ, List.getElem_toArray, List.getElem_cons_zero, List.getElem_cons_succ]
              refine wpAnyH_done (by kernel_rfl) ?_ _
              clear hHeld
              go_wp2
              go_meet
              rw [← HBt.out]
              exact ⟨HWs.out, rfl, be, gA6, gc6, (by first | rfl | (rw [hbe]; done)), hbe0, HRow.out, HRf.out.turn (fun i hi hl => HGs.out.block i hl (fun e => by have := HFb.out i hi; have := Option.some.inj e; omega)) HGs.out.size, HFl.out⟩
          · skip
            go_simp
            obtain ⟨wa, hwa⟩ : ∃ x, x = (Wd).alloc (.cells zeroE 33) := ⟨_, rfl⟩
            have hba : Below (Wd).heap.size Wd wa := by rw [hwa]; exact (Below.refl _ _).alloc (Nat.le_refl _) _
            have hze : wa.heap[(Wd).heap.size]? = some (.cells zeroE 33 (0, 0)) := by rw [hwa]; exact (MapKept.heap_alloc _ _).1
            have HZe := Lib.hid hze
            have HBa := Lib.hid hba
            refine (hK.out _ _ (hHeld.alloc hHeld.size _) ?_)
            have hHa : Below W.heap.size W wa := hHeld.trans (hba.mono hHeld.size)
            have hlo := hHeld.size
            clear hK K hHeld
            intro hHeld
            have hwa' : (Wd).alloc (.cells #[.int .i64 0, .int .i64 0, .slice none 0 0, .int .i64 0, .int .i64 0, .int .i64 0, .int .i64 0, .int .i64 0, .int .i64 0, .string ⟨#[]⟩, .slice none 0 0, .int .i64 0] 33) = wa := hwa.symm
            rw [hwa'] at hHeld ⊢
            obtain ⟨be, hbe⟩ : ∃ b, b = (Wd).heap.size := ⟨_, rfl⟩
            rw [← hbe] at HZe
            rw [← hbe]
            have hbe0 : W.heap.size ≤ be := by omega
            clear hwa hwa' hba hze hHa
            refine wpAnyH_ready (rs := [2]) (by kernel_rfl) (by simp) ?_
            refine AllReadyH.cons rfl (fun K hK => ?_) AllReadyH.nil
            go_simp
            refine (joinX_any p q A B c d _ (HP.out.now (HK.out.b.trans (hHeld.mono HK.out.b.size))) (HQ.out.now (HK.out.b.trans (hHeld.mono HK.out.b.size))) htp htq).mono ?_
            rintro en wj ⟨hbj, jA, jc, rfl, hjo, hjc, hjl⟩
            have HJo := Lib.hid hjo
            have HJc := Lib.hid hjc
            have HW1 := Lib.hid (hHeld.trans (hbj.mono hHeld.size))
            have HBd := Lib.hid hbj
            go_wp2_with fail
            refine hK.out _ _ HW1.out ?_
            clear hK K hHeld hjo hbj hjc hjl
            intro hHeld
            refine wpAnyH_ready (rs := [7]) (by kernel_rfl) (by simp) ?_
            refine AllReadyH.cons rfl (fun K hK => ?_) AllReadyH.nil
            have HZm := Lib.hid ((HBd.out.block be (box_lt HZe.out)).trans HZe.out)
            have hbw := box_lt HZm.out
            go_simp
            refine (bBack_any (joinP p q) jA jc xs X _ xd net r fA fc step _ rfl (HJo.out) HJc.out (HX.out.now (HK.out.b.trans (hHeld.mono HK.out.b.size))) (by omega) (HR.out.now (HK.out.b.trans (hHeld.mono HK.out.b.size))) hrc).mono ?_
            rintro en wb ⟨hbb, gA6, gc6, rfl, hf, hfl, hfb⟩
            simp only [← HBt.out] at hf hfl ⊢
            have HFb := Lib.hid hfb
            have HRf := Lib.hid hf
            have HFl := Lib.hid hfl
            have HWb := Lib.hid (hHeld.trans (hbb.mono hHeld.size))
            have HBb := Lib.hid hbb
            go_wp2_with fail
            refine hK.out _ _ HWb.out ?_
            clear hK K hHeld hf hfl hbb hfb
            intro hHeld
            refine wpAnyH_take (i := 8) (v := ?_) rfl (by kernel_rfl) (by kernel_rfl) (by kernel_rfl) (fun _ _ _ h => h) (Or.inl ⟨by rfl, ?_⟩) (by assumption) ?_
            rotate_left
            · intro wq hSw
              go_simp
              try with_reducible rfl
            simp only [Act.put, List.setIfInBounds_toArray, List.set_cons_zero, List.set_cons_succ, List.getElem_toArray, List.getElem_cons_zero, List.getElem_cons_succ]
            refine wpAnyH_take (i := 9) (v := ?_) rfl (by kernel_rfl) (by kernel_rfl) (by kernel_rfl) (fun _ _ _ h => h) (Or.inl ⟨by rfl, ?_⟩) (by assumption) ?_
            rotate_left
            · intro wq hSw
              go_simp
              try with_reducible rfl
            simp only [Act.put, List.setIfInBounds_toArray, List.set_cons_zero, List.set_cons_succ, List.getElem_toArray, List.getElem_cons_zero, List.getElem_cons_succ]
            refine wpAnyH_take (i := 10) (v := ?_) rfl (by kernel_rfl) (by kernel_rfl) (by kernel_rfl) (fun _ _ _ h => h) (Or.inl ⟨by rfl, ?_⟩) (by assumption) ?_
            rotate_left
            · intro wq hSw
              go_simp
              try with_reducible rfl
            simp only [Act.put, List.setIfInBounds_toArray, List.set_cons_zero, List.set_cons_succ, List.getElem_toArray, List.getElem_cons_zero, List.getElem_cons_succ]
            have HZ := Lib.hid ((HBb.out.block be (box_lt HZm.out)).trans HZm.out)
            refine wpAnyH_ready (rs := [12]) (by kernel_rfl) (by simp) ?_
            refine AllReadyH.cons rfl (fun K hK => ?_) AllReadyH.nil
            refine step_store_box rfl 33 _ _ rfl be (bt.1.cs none 0 gA6 gc6) (by first | rfl | (rw [hbe]; rfl)) rfl (zero_there HZ.out) (by kernel_rfl) (evOne bt.1 none 0 gA6 gc6) ?_
            obtain ⟨ws, hws⟩ : ∃ x, x = World.setCells wb be 0 (bt.1.cs none 0 gA6 gc6).toList := ⟨_, rfl⟩
            have hrow := zero_row HZ.out bt.1 none 0 gA6 gc6
            have hgs := grown_setCells wb be 0 (bt.1.cs none 0 gA6 gc6).toList
            rw [← hws] at hrow hgs ⊢
            have HRow := Lib.hid hrow
            have HGs := Lib.hid hgs
            have HWs : Hid (Below W.heap.size W ws) := Lib.hid (hHeld.grown hgs (by have := hHeld.size; omega) (fun k hk => by injection hk with hk; omega))
            refine hK.out _ _ HWs.out ?_
            clear hK K hHeld hws hrow hgs
            intro hHeld
            refine wpAnyH_take (i := 13) (v := ?_) rfl (by kernel_rfl) (by kernel_rfl) (by kernel_rfl) (fun _ _ _ h => h) (Or.inl ⟨by rfl, ?_⟩) (by assumption) ?_
            rotate_left
            · intro wq hSw
              go_simp
              try with_reducible rfl
            simp only [Act.put, List.setIfInBounds_toArray, List.set_cons_zero, List.set_cons_succ, List.getElem_toArray, List.getElem_cons_zero, List.getElem_cons_succ]
            refine wpAnyH_done (by kernel_rfl) ?_ _
            clear hHeld
            go_wp2
            go_meet
            rw [← HBt.out]
            exact ⟨HWs.out, rfl, be, gA6, gc6, (by first | rfl | (rw [hbe]; done)), hbe0, HRow.out, HRf.out.turn (fun i hi hl => HGs.out.block i hl (fun e => by have := HFb.out i hi; have := Option.some.inj e; omega)) HGs.out.size, HFl.out⟩
        case rest =>
          obtain ⟨hbd, rfl, be, gA5, gc5, rfl, hbe, hrow, hri, hrl⟩ := hcut
          have HK := Lib.hid (HK.out.below hbd)
          have HEa := Lib.hid (HEa.out.below hbd)
          clear hbd HQp HQq HQr
          rw [← HBt.out] at hrow hri hrl
          simp only [← HBt.out]
          by_cases hck : profCheck (joinP p q) = 0
          · have hbb : bt = (eA, 0) := by rw [HBt.out, back_join HOkd.out hck, HEq.out]
            have HRow : Hid (World.rangeAt _ be 0 (eA.cs none 0 gA5 gc5).toList) := Lib.hid (range_block (by rw [hbb] at hrow; exact hrow) rfl)
            have HRi5 : Hid (RdI _ _ gA5 eA.files) := Lib.hid (by rw [hbb] at hri; exact hri)
            have hb2 : bt.2 = 0 := by rw [hbb]
            simp only [hb2]
            clear hbb hb2 hrow hri hrl
            go_wp2_with (first
              | ((with_reducible show wpList _ _ _ (Oper.mk _ (Op.load 24 (.tmp 6)) _ _ _ _ :: _) _ _); refine wpList_load_g rfl 24 (.tmp 6) rfl w.heap.size 0 rfl (p.cs A c).toList _ HK.out.prof Try.underlying24 rfl (by kernel_rfl) ?_)
              | ((with_reducible show wpList _ _ _ (Oper.mk _ (Op.load 24 (.tmp 7)) _ _ _ _ :: _) _ _); refine wpList_load_g rfl 24 (.tmp 7) rfl (w.heap.size + 1) 0 rfl (q.cs B d).toList _ HK.out.prof2 Try.underlying24 rfl (by kernel_rfl) ?_)
              | ((with_reducible show wpList _ _ _ (Oper.mk _ (Op.load 28 (.tmp 10)) _ _ _ _ :: _) _ _); refine wpList_load_g rfl 28 (.tmp 10) rfl (w.heap.size + 2) 0 rfl (r.cs fA fc).toList _ HK.out.raw Try.underlying28 rfl (by kernel_rfl) ?_)
              | ((with_reducible show wpList _ _ _ (Oper.mk _ (Op.load 33 (.tmp 14)) _ _ _ _ :: _) _ _); refine wpList_load_g rfl 33 (.tmp 14) rfl bA 0 rfl (eA.cs none 0 gA gc).toList _ (range_block HEa.out.row rfl) Try.underlying33 rfl (by kernel_rfl) ?_)
              | ((with_reducible show wpList _ _ _ (Oper.mk _ (Op.load 33 (.tmp 18)) _ _ _ _ :: _) _ _); refine wpList_load_g rfl 33 (.tmp 18) rfl be 0 rfl (eA.cs none 0 gA5 gc5).toList _ HRow.out Try.underlying33 rfl (by kernel_rfl) ?_)
              )
            refine (rSameE_any eA eA none 0 gA gc none 0 gA5 gc5 _ (HOk.out _ _ HEa.out.ok) (HOk.out _ _ HRi5.out)).mono ?_
            rintro en w12 ⟨rfl, hb12⟩
            rw [(sameE_iff eA eA).2 rfl]
            have HK := Lib.hid (HK.out.below hb12)
            clear hb12
            go_wp2
            go_ret
            exact ⟨rfl, HK.out.b⟩
          · have hbb : bt.2 = 1 := by rw [HBt.out, back_join_bad hck]
            simp only [hbb]
            clear hbb hrow hri hrl
            have hcn : (profCheck (joinP p q) != 0) = true := by simpa using hck
            go_wp2_with (first
              | ((with_reducible show wpList _ _ _ (Oper.mk _ (Op.load 24 (.tmp 6)) _ _ _ _ :: _) _ _); refine wpList_load_g rfl 24 (.tmp 6) rfl w.heap.size 0 rfl (p.cs A c).toList _ HK.out.prof Try.underlying24 rfl (by kernel_rfl) ?_)
              | ((with_reducible show wpList _ _ _ (Oper.mk _ (Op.load 24 (.tmp 7)) _ _ _ _ :: _) _ _); refine wpList_load_g rfl 24 (.tmp 7) rfl (w.heap.size + 1) 0 rfl (q.cs B d).toList _ HK.out.prof2 Try.underlying24 rfl (by kernel_rfl) ?_)
              | ((with_reducible show wpList _ _ _ (Oper.mk _ (Op.load 28 (.tmp 10)) _ _ _ _ :: _) _ _); refine wpList_load_g rfl 28 (.tmp 10) rfl (w.heap.size + 2) 0 rfl (r.cs fA fc).toList _ HK.out.raw Try.underlying28 rfl (by kernel_rfl) ?_)
              | ((with_reducible show wpList _ _ _ (Oper.mk _ (Op.load 33 (.tmp 14)) _ _ _ _ :: _) _ _); refine wpList_load_g rfl 33 (.tmp 14) rfl bA 0 rfl (eA.cs none 0 gA gc).toList _ (range_block HEa.out.row rfl) Try.underlying33 rfl (by kernel_rfl) ?_)
              | ((with_reducible show wpList _ _ _ (Oper.mk _ (Op.load 33 (.tmp 18)) _ _ _ _ :: _) _ _); refine wpList_load_g rfl 33 (.tmp 18) rfl be 0 rfl (eA.cs none 0 gA5 gc5).toList _ HRow.out Try.underlying33 rfl (by kernel_rfl) ?_)
              )
            refine (joinX_any p q A B c d _ (HP.out.now HK.out.b) (HQ.out.now HK.out.b) htp htq).mono ?_
            rintro en w12 ⟨hb12, jA, jc, rfl, hjo, hjc, hjl⟩
            have HJo := Lib.hid hjo
            have HJc := Lib.hid hjc
            have HK := Lib.hid (HK.out.below hb12)
            clear hb12 hjo hjc hjl
            go_wp2_with (first
              | ((with_reducible show wpList _ _ _ (Oper.mk _ (Op.load 24 (.tmp 6)) _ _ _ _ :: _) _ _); refine wpList_load_g rfl 24 (.tmp 6) rfl w.heap.size 0 rfl (p.cs A c).toList _ HK.out.prof Try.underlying24 rfl (by kernel_rfl) ?_)
              | ((with_reducible show wpList _ _ _ (Oper.mk _ (Op.load 24 (.tmp 7)) _ _ _ _ :: _) _ _); refine wpList_load_g rfl 24 (.tmp 7) rfl (w.heap.size + 1) 0 rfl (q.cs B d).toList _ HK.out.prof2 Try.underlying24 rfl (by kernel_rfl) ?_)
              | ((with_reducible show wpList _ _ _ (Oper.mk _ (Op.load 28 (.tmp 10)) _ _ _ _ :: _) _ _); refine wpList_load_g rfl 28 (.tmp 10) rfl (w.heap.size + 2) 0 rfl (r.cs fA fc).toList _ HK.out.raw Try.underlying28 rfl (by kernel_rfl) ?_)
              | ((with_reducible show wpList _ _ _ (Oper.mk _ (Op.load 33 (.tmp 14)) _ _ _ _ :: _) _ _); refine wpList_load_g rfl 33 (.tmp 14) rfl bA 0 rfl (eA.cs none 0 gA gc).toList _ (range_block HEa.out.row rfl) Try.underlying33 rfl (by kernel_rfl) ?_)
              | ((with_reducible show wpList _ _ _ (Oper.mk _ (Op.load 33 (.tmp 18)) _ _ _ _ :: _) _ _); refine wpList_load_g rfl 33 (.tmp 18) rfl be 0 rfl (eA.cs none 0 gA5 gc5).toList _ HRow.out Try.underlying33 rfl (by kernel_rfl) ?_)
              )
            refine (pCheck_any (joinP p q) jA jc _ HJo.out HJc.out).mono ?_
            rintro en w13 ⟨rfl, hb13⟩
            have HK := Lib.hid (HK.out.below hb13)
            clear hb13
            generalize profCheck (joinP p q) = pc at *
            go_wp2
            go_ret
            exact ⟨rfl, HK.out.b⟩
end Go.Proofs.Ytbpbdehnkkheiaa
