/- The walk of BackPairs. -/
import Derived.Test.YtbpbdehnkkheiaaBkF
import Derived.Test.YtbpbdehnkkheiaaBkQ
namespace Go.Proofs.Ytbpbdehnkkheiaa
open Go.RowKit

/-- The two boxes at the head of the call. -/
structure PW (p : Prof) (A : Option Addr) (c : Nat) (r : RawM) (fA : Option Addr) (fc : Nat) (w wx : World) : Prop where
  b : Below w.heap.size w wx
  z : w.heap.size + 2 ≤ wx.heap.size
  p0 : wx.heap[w.heap.size]? = some (.cells (p.cs A c) 24 (0, 0))
  r1 : wx.heap[w.heap.size + 1]? = some (.cells (r.cs fA fc) 28 (0, 0))
section
variable {p : Prof} {A : Option Addr} {c : Nat} {r : RawM} {fA : Option Addr} {fc : Nat} {w wx wy : World}
theorem PW.start (p : Prof) (A : Option Addr) (c : Nat) (r : RawM) (fA : Option Addr) (fc : Nat) (w : World) : PW p A c r fA fc w ((w.alloc (.cells (p.cs A c) 24)).alloc (.cells (r.cs fA fc) 28)) := by
  refine ⟨by repeat (first | with_reducible exact Below.refl _ _ | with_reducible assumption | with_reducible refine Below.drew ?_ | with_reducible refine Below.alloc ?_ (by first | omega | (simp; done) | (simp; omega)) _), by simp, ?_, ?_⟩
  · rw [Below.heap_alloc _ _ _ (by simp)]
    exact (MapKept.heap_alloc w _).1
  · exact (by simpa using (MapKept.heap_alloc (w.alloc (.cells (p.cs A c) 24)) (.cells (r.cs fA fc) 28)).1)
theorem PW.turn (h : PW p A c r fA fc w wx) (t : Turn (fun i => w.heap.size + 2 ≤ i) wx wy) : PW p A c r fA fc w wy := by
  have hz := h.z
  exact ⟨h.b.trans (t.to_below h.b.size (fun i hi => by omega)), Nat.le_trans h.z t.size, (t.block _ (by omega) (by omega)).trans h.p0, (t.block _ (by omega) (by omega)).trans h.r1⟩
theorem PW.below (h : PW p A c r fA fc w wx) (hb : Below wx.heap.size wx wy) : PW p A c r fA fc w wy := h.turn (Turn.below hb)
theorem PW.prof (h : PW p A c r fA fc w wx) : wx.rangeAt w.heap.size 0 (p.cs A c).toList := range_block h.p0 rfl
theorem PW.raw (h : PW p A c r fA fc w wx) : wx.rangeAt (w.heap.size + 1) 0 (r.cs fA fc).toList := range_block h.r1 rfl
end
theorem own_step (net : Int) (xs : List Pair) (k : Nat) (hk : k < xs.length) : ownP net (xs.take (k + 1)) = if (xs[k].net == net) = true then ownP net (xs.take k) ++ [xs[k]] else ownP net (xs.take k) := by
  unfold ownP
  rw [List.take_succ_eq_append_getElem hk, List.filter_append]
  by_cases h : (xs[k].net == net) = true <;> simp [h]
theorem own_len (net : Int) (xs : List Pair) (k : Nat) : (ownP net (xs.take k)).length ≤ xs.length := by
  unfold ownP
  refine Nat.le_trans (List.length_filter_le _ _) ?_
  rw [List.length_take]
  omega
/-- An event that a call of Back left, in its box. -/
structure EvBox (e : EvM) (b : Nat) (gA : Option Addr) (gc : Nat) (w0 wx : World) : Prop where
  row : wx.heap[b]? = some (.cells (e.cs none 0 gA gc) 33 (0, 0))
  ok : RdI wx wx.heap.size gA e.files
  nb : ∀ j, slBlk gA = some j → w0.heap.size ≤ j
  lo : w0.heap.size ≤ b
theorem EvBox.below {e : EvM} {b : Nat} {gA : Option Addr} {gc : Nat} {w0 wx wy : World} (h : EvBox e b gA gc w0 wx) (hb : Below wx.heap.size wx wy) : EvBox e b gA gc w0 wy := ⟨(hb.block b (box_lt h.row)).trans h.row, h.ok.now hb, h.nb, h.lo⟩
/-- What is handed in anew, in its box bO. -/
structure OW (bO : Nat) (o : RawM) (gA : Option Addr) (gc : Nat) (WO wx : World) : Prop where
  t : Turn (fun i => i = bO) WO wx
  row : wx.heap[bO]? = some (.cells (o.cs gA gc) 28 (0, 0))
theorem OW.set {bO : Nat} {o : RawM} {gA : Option Addr} {gc : Nat} {WO wx : World} (h : OW bO o gA gc WO wx) (o' : RawM) (gA' : Option Addr) (gc' : Nat) (j : Nat) (v : Value) (hv : (o.cs gA gc).setIfInBounds j v = o'.cs gA' gc') : OW bO o' gA' gc' WO (wx.setCell ⟨bO, j, none⟩ v) :=
  ⟨h.t.set bO j v (.inl rfl), by rw [← hv]; exact heap_setCell_same _ _ _ _ _ _ h.row⟩
theorem OW.below {bO : Nat} {o : RawM} {gA : Option Addr} {gc : Nat} {WO wx wy : World} (h : OW bO o gA gc WO wx) (hb : Below wx.heap.size wx wy) : OW bO o gA gc WO wy :=
  ⟨h.t.trans (Turn.below hb) (fun i hi => .inl hi), (hb.block bO (box_lt h.row)).trans h.row⟩
def OtherOut (bO : Nat) (hX : Bool) (rd : RawM) (n : Int) (fA : Option Addr) (fc : Nat) (WO wx : World) : Prop :=
  ∃ (o : RawM) (gA : Option Addr) (gc : Nat), o = (if hX = true then rd else { rd with text := zstr (min (max n 0) 5000).toNat, files := [n, n] }) ∧ OW bO o gA gc WO wx ∧ ((o.files = rd.files ∧ gA = fA ∧ gc = fc) ∨ (o.files = [n, n] ∧ 2 ≤ gc ∧ RdI wx wx.heap.size gA [n, n]))
set_option maxRecDepth 100000 in
set_option maxHeartbeats 16000000 in
theorem pairs_any (p : Prof) (A : Option Addr) (c : Nat) (xs : List Pair) (B : Option Addr) (d : Nat) (net : Int) (r : RawM) (fA : Option Addr) (fc : Nat) (step n : Int) (w : World)
    (hp : ProfOk w w.heap.size A p) (hpc : p.types.length ≤ c) (hx : RdP w w.heap.size B xs) (hxl : xs.length ≤ 9223372036854775807) (hr : RawOk w w.heap.size fA fc r) (hrc : r.files.length ≤ fc) :
    Calls Try.prog 3 #[p.v A c, .slice B xs.length d, .int .i64 net, r.v fA fc, .int .i64 step, .int .i64 n] w fun e w' => e = .returned (.bool true) ∧ Below w.heap.size w w' := by
  have HP := Lib.hid hp
  have HX := Lib.hid hx
  have HR := Lib.hid hr
  clear hp hx hr
  go_enter Try.func3, Try.ntmps3
  go_wp2_with fail
  obtain ⟨W0, hW0⟩ : ∃ W, W = (w.alloc (.cells (p.cs A c) 24)).alloc (.cells (r.cs fA fc) 28) := ⟨_, rfl⟩
  have HK0 : Hid (PW p A c r fA fc w W0) := Lib.hid (by rw [hW0]; exact PW.start p A c r fA fc w)
  rw [← hW0]
  clear hW0
  refine (lSmallB_any W0).mono ?_
  rintro en w1 ⟨rfl, hb1⟩
  have HK := Lib.hid (HK0.out.below hb1)
  clear hb1 HK0
  go_wp2_with (first
    | ((with_reducible show wpList _ _ _ (Oper.mk _ (Op.load 24 _) _ _ _ _ :: _) _ _); refine wpList_load_g rfl 24 (.tmp 6) rfl w.heap.size 0 rfl (p.cs A c).toList _ HK.out.prof Try.underlying24 rfl (by kernel_rfl) ?_)
    | ((with_reducible show wpList _ _ _ (Oper.mk _ (Op.load 28 (.tmp 9)) _ _ _ _ :: _) _ _); refine wpList_load_g rfl 28 (.tmp 9) rfl (w.heap.size + 1) 0 rfl (r.cs fA fc).toList _ HK.out.raw Try.underlying28 rfl (by kernel_rfl) ?_)
    )
  refine (few_any p A c _ (HP.out.now HK.out.b)).mono ?_
  rintro en w2 ⟨⟨fb, rfl, hfb⟩, hb2⟩
  have HK := Lib.hid (HK.out.below hb2)
  clear hb2
  cases fb
  · clear hfb
    go_wp2
    go_ret
    exact ⟨rfl, HK.out.b⟩
  have htl := hfb rfl
  clear hfb
  go_wp2_with (first
    | ((with_reducible show wpList _ _ _ (Oper.mk _ (Op.load 24 _) _ _ _ _ :: _) _ _); refine wpList_load_g rfl 24 (.tmp 6) rfl w.heap.size 0 rfl (p.cs A c).toList _ HK.out.prof Try.underlying24 rfl (by kernel_rfl) ?_)
    | ((with_reducible show wpList _ _ _ (Oper.mk _ (Op.load 28 (.tmp 9)) _ _ _ _ :: _) _ _); refine wpList_load_g rfl 28 (.tmp 9) rfl (w.heap.size + 1) 0 rfl (r.cs fA fc).toList _ HK.out.raw Try.underlying28 rfl (by kernel_rfl) ?_)
    )
  refine (rFewB_any xs B d r fA fc _).mono ?_
  rintro en w3 ⟨rfl, hb3⟩
  have HK := Lib.hid (HK.out.below hb3)
  clear hb3
  generalize hfw : fewBk xs r = fw
  have HFw := Lib.hid hfw
  clear hfw
  cases fw
  · go_wp2
    go_ret
    exact ⟨rfl, HK.out.b⟩
  have HK3z := HK.out.b.size
  have hl12 : xs.length ≤ 12 := by
    have := HFw.out
    unfold fewBk at this
    simp at this
    omega
  go_wp2_with (first
    | ((with_reducible show wpList _ _ _ (Oper.mk _ (Op.load 24 _) _ _ _ _ :: _) _ _); refine wpList_load_g rfl 24 (.tmp 6) rfl w.heap.size 0 rfl (p.cs A c).toList _ HK.out.prof Try.underlying24 rfl (by kernel_rfl) ?_)
    | ((with_reducible show wpList _ _ _ (Oper.mk _ (Op.load 28 (.tmp 9)) _ _ _ _ :: _) _ _); refine wpList_load_g rfl 28 (.tmp 9) rfl (w.heap.size + 1) 0 rfl (r.cs fA fc).toList _ HK.out.raw Try.underlying28 rfl (by kernel_rfl) ?_)
    )
  refine (bBack_any p A c xs B _ d net r fA fc step _ rfl (HP.out.now HK.out.b) hpc (HX.out.now HK.out.b) (by omega) (HR.out.now HK.out.b) hrc).mono ?_
  rintro en w4 ⟨hb4, gA, gc, rfl, hf, hfl, hfb⟩
  have HK := Lib.hid (HK.out.below hb4)
  obtain ⟨bs, hbs⟩ : ∃ b, b = backS p xs net r step := ⟨_, rfl⟩
  rw [← hbs] at hf hfl
  simp only [← hbs]
  have HBs := Lib.hid hbs
  have HFl := Lib.hid hfl
  clear hbs
  have hb5 : Below w4.heap.size w4 (w4.alloc (.cells (bs.1.cs none 0 gA gc) 33)) := by repeat (first | with_reducible exact Below.refl _ _ | with_reducible assumption | with_reducible refine Below.drew ?_ | with_reducible refine Below.alloc ?_ (by first | omega | (simp; done) | (simp; omega)) _)
  have HEa : Hid (EvBox bs.1 w4.heap.size gA gc w (w4.alloc (.cells (bs.1.cs none 0 gA gc) 33))) := Lib.hid ⟨(MapKept.heap_alloc w4 _).1, hf.now hb5, (fun j hj => Nat.le_trans HK3z (hfb j hj)), HK.out.b.size⟩
  have HK := Lib.hid (HK.out.below hb5)
  obtain ⟨W5, hW5⟩ : ∃ W, W = w4.alloc (.cells (bs.1.cs none 0 gA gc) 33) := ⟨_, rfl⟩
  go_upto_region 6 with fail
  rw [← hW5] at HEa HK ⊢
  have hb5' : Below w.heap.size w W5 := HK.out.b
  obtain ⟨bA, hbA⟩ : ∃ b, b = w4.heap.size := ⟨_, rfl⟩
  rw [← hbA] at HEa ⊢
  clear hW5 hb5 hf hfl hfb hb4 hbA
  have HX5 := Lib.hid (HX.out.now HK.out.b)
  go_wp2_with fail
  go_loopw [16, 17] (fun v i wr => ∃ (k : Nat) (A' : Option Addr) (c' : Nat), k ≤ xs.length ∧ i = .int .i64 k ∧ v = .slice A' (ownP net (xs.take k)).length c' ∧ OwnP wr W5.heap.size A' c' (ownP net (xs.take k)) ∧ Below W5.heap.size W5 wr) (fun _ i _ => xs.length - (intOf i).toNat)
  case atStart => exact ⟨0, none, 0, Nat.zero_le _, rfl, rfl, OwnL.nil_, Below.refl _ _⟩
  case round =>
    obtain ⟨k, A', c', hk, rfl, rfl, ho, hb⟩ := hrel
    have HO := Lib.hid ho
    have HB := Lib.hid hb
    have hz := hb.size
    have hol := own_len net xs k
    clear ho
    by_cases hlt : k < xs.length
    · obtain ⟨b, off, q, hA, hbb, hq, d0, d1, d2, d3⟩ := RdP_at (HX5.out.now hb) hlt
      have hqe : xs[k] = q := by rw [List.getElem?_eq_getElem hlt] at hq; exact Option.some.inj hq
      have HSt := Lib.hid (own_step net xs k hlt)
      rw [hqe] at HSt
      subst hA
      clear hb hq hqe
      cases hv : (q.net == net)
      · rw [hv, if_neg (by simp)] at HSt
        go_wp2
        go_roundw
        case rel => exact ⟨k + 1, A', c', by omega, by go_num, by rw [HSt.out], by rw [HSt.out]; exact HO.out, HB.out⟩
        case measure => simp [intOf]; omega
      · rw [hv, if_pos rfl] at HSt
        go_wp2_with (at_builtin; refine wp_append_l rfl (.tmp 58) (.tmp 63) rfl slP layP W5.heap.size (xs := ownP net (xs.take k)) (ys := [q]) rfl rfl (HO.out.alloc _) rfl rfl (RdL.one wr q _ _ rfl _ rfl) (by simp; omega) (by simp; omega) ?_; intro A2 c2 w6 hown hg hb2 hat; have HO2 := Lib.hid hown; have HB2 := Lib.hid hb2; clear hown hg hb2 hat)
        go_roundw
        case rel => exact ⟨k + 1, A2, c2, by omega, by go_num, by rw [HSt.out]; simp, by rw [HSt.out]; exact HO2.out, (HB.out.alloc (by omega) _).trans HB2.out⟩
        case measure => simp [intOf]; omega
    · have HE : Hid (ownP net (xs.take k) = ownP net xs) := Lib.hid (by rw [List.take_of_length_le (by omega)])
      rw [HE.out] at HO
      simp only [HE.out]
      have HK := Lib.hid (HK.out.below HB.out)
      have HEa := Lib.hid (HEa.out.below HB.out)
      have HRo := Lib.hid (HO.out.rd layP)
      have hol2 : (ownP net xs).length ≤ 12 := by unfold ownP; exact Nat.le_trans (List.length_filter_le _ _) hl12
      clear hb HO HB HX5 hb5' hz hol
      obtain ⟨w5, hw5⟩ : ∃ x, x = wr := ⟨_, rfl⟩
      rw [← hw5] at HK HEa HRo ⊢
      clear hw5
      go_wp2_with (first
        | ((with_reducible show wpList _ _ _ (Oper.mk _ (Op.load 24 _) _ _ _ _ :: _) _ _); refine wpList_load_g rfl 24 (.tmp 6) rfl w.heap.size 0 rfl (p.cs A c).toList _ HK.out.prof Try.underlying24 rfl (by kernel_rfl) ?_)
        | ((with_reducible show wpList _ _ _ (Oper.mk _ (Op.load 28 (.tmp 9)) _ _ _ _ :: _) _ _); refine wpList_load_g rfl 28 (.tmp 9) rfl (w.heap.size + 1) 0 rfl (r.cs fA fc).toList _ HK.out.raw Try.underlying28 rfl (by kernel_rfl) ?_)
        )
      refine (bBack_any p A c (ownP net xs) A' _ c' net r fA fc step _ rfl (HP.out.now HK.out.b) hpc HRo.out (by omega) (HR.out.now HK.out.b) hrc).mono ?_
      rintro en w6 ⟨hb6, gA2, gc2, rfl, hf, hfl, hfb⟩
      rw [back_own, ← HBs.out] at hf hfl
      simp only [back_own, ← HBs.out]
      have HEa := Lib.hid (HEa.out.below hb6)
      have hz6 := HK.out.b.size
      have HK := Lib.hid (HK.out.below hb6)
      have HFl2 := Lib.hid hfl
      have hb7 : Below w6.heap.size w6 (w6.alloc (.cells (bs.1.cs none 0 gA2 gc2) 33)) := by repeat (first | with_reducible exact Below.refl _ _ | with_reducible assumption | with_reducible refine Below.drew ?_ | with_reducible refine Below.alloc ?_ (by first | omega | (simp; done) | (simp; omega)) _)
      have HEb : Hid (EvBox bs.1 w6.heap.size gA2 gc2 w (w6.alloc (.cells (bs.1.cs none 0 gA2 gc2) 33))) := Lib.hid ⟨(MapKept.heap_alloc w6 _).1, hf.now hb7, (fun j hj => Nat.le_trans hz6 (hfb j hj)), HK.out.b.size⟩
      have HK := Lib.hid (HK.out.below hb7)
      have HEa := Lib.hid (HEa.out.below hb7)
      obtain ⟨W7, hW7⟩ : ∃ W, W = w6.alloc (.cells (bs.1.cs none 0 gA2 gc2) 33) := ⟨_, rfl⟩
      go_upto_region 12 with fail
      rw [← hW7] at HEa HEb HK ⊢
      obtain ⟨bB, hbB⟩ : ∃ b, b = w6.heap.size := ⟨_, rfl⟩
      rw [← hbB] at HEb ⊢
      clear hW7 hb7 hf hfl hfb hb6 hbB HRo
      have HEa7 := HEa
      have HEb7 := HEb
      have HK7 := HK
      go_upto_region 13 with (first
        | ((with_reducible show wpList _ _ _ (Oper.mk _ (Op.load 24 _) _ _ _ _ :: _) _ _); refine wpList_load_g rfl 24 (.tmp 6) rfl w.heap.size 0 rfl (p.cs A c).toList _ HK.out.prof Try.underlying24 rfl (by kernel_rfl) ?_)
        | ((with_reducible show wpList _ _ _ (Oper.mk _ (Op.load 28 (.tmp 9)) _ _ _ _ :: _) _ _); refine wpList_load_g rfl 28 (.tmp 9) rfl (w.heap.size + 1) 0 rfl (r.cs fA fc).toList _ HK.out.raw Try.underlying28 rfl (by kernel_rfl) ?_)
        )
      have HOw : Hid (OW W7.heap.size r fA fc (W7.alloc (.cells (r.cs fA fc) 28)) (W7.alloc (.cells (r.cs fA fc) 28))) := Lib.hid ⟨Turn.refl _ _, (MapKept.heap_alloc W7 _).1⟩
      obtain ⟨WO, hWO⟩ : ∃ W, W = W7.alloc (.cells (r.cs fA fc) 28) := ⟨_, rfl⟩
      have hzO : WO.heap.size = W7.heap.size + 1 := by rw [hWO]; simp
      have HBl : Hid (∀ o gA gc wx, OW W7.heap.size o gA gc WO wx → Below W7.heap.size W7 wx) := Lib.hid (fun o gA gc wx h => by
        have hb : Below W7.heap.size W7 WO := by rw [hWO]; repeat (first | with_reducible exact Below.refl _ _ | with_reducible assumption | with_reducible refine Below.drew ?_ | with_reducible refine Below.alloc ?_ (by first | omega | (simp; done) | (simp; omega)) _)
        exact hb.trans (h.t.to_below (by omega) (fun i hi => by omega)))
      rw [← hWO] at HOw ⊢
      clear hWO HK HEa HEb
      obtain ⟨bO, hbO⟩ : ∃ b, b = W7.heap.size := ⟨_, rfl⟩
      have HBl2 : Hid (∀ o gA gc wx, OW bO o gA gc WO wx → Below W7.heap.size W7 wx) := Lib.hid (by rw [hbO]; exact HBl.out)
      rw [← hbO] at HOw ⊢
      clear HBl
      have HbO := Lib.hid hbO
      clear hbO
      have rb := HOw.out.row
      have o1 := box_cell rb 1 _ rfl
      have oz := fun i => box_free rb i
      clear rb
      go_upto_region 14 with fail
      have HOw := Lib.hid (HOw.out.set { r with seq := n } fA fc 1 (.int .i64 n) rfl)
      obtain ⟨W8, hW8⟩ : ∃ x, x = WO.setCell ⟨bO, 1, none⟩ (.int .i64 n) := ⟨_, rfl⟩
      rw [← hW8] at HOw ⊢
      clear hW8 o1 oz
      generalize hr1 : ({ r with seq := n } : RawM) = ra at *
      have HR1 := Lib.hid hr1
      clear hr1
      have HK := Lib.hid (HK7.out.below (HBl2.out _ _ _ _ HOw.out))
      go_cut [89] (fun v wx => v = .bool (!hasN r.kind) ∧ W8 = wx)
      case first => as_aux_lemma =>
        have q2 := range_cell HK.out.raw 2 _ rfl
        have HHN : Hid (hasN r.kind = ((r.kind == 3) || ((r.kind == 4) || (r.kind == 9)))) := Lib.hid rfl
        cases k3 : (r.kind == 3)
        · have k3n : (r.kind != 3) = true := by unfold bne; rw [k3]; rfl
          cases k4 : (r.kind == 4)
          · have k4n : (r.kind != 4) = true := by unfold bne; rw [k4]; rfl
            cases k9 : (r.kind == 9)
            · have k9n : (r.kind != 9) = true := by unfold bne; rw [k9]; rfl
              go_wp2
              go_meet
              exact ⟨by rw [HHN.out, k3, k4, k9]; rfl, by first | rfl | trivial⟩
            · have k9n : (r.kind != 9) = false := by unfold bne; rw [k9]; rfl
              go_wp2
              go_meet
              exact ⟨by rw [HHN.out, k3, k4, k9]; rfl, by first | rfl | trivial⟩
          · have k4n : (r.kind != 4) = false := by unfold bne; rw [k4]; rfl
            go_wp2
            go_meet
            exact ⟨by rw [HHN.out, k3, k4]; rfl, by first | rfl | trivial⟩
        · have k3n : (r.kind != 3) = false := by unfold bne; rw [k3]; rfl
          go_wp2
          go_meet
          exact ⟨by rw [HHN.out, k3]; rfl, by first | rfl | trivial⟩
      case rest =>
        obtain ⟨rfl, rfl⟩ := hcut
        generalize hhn : hasN r.kind = hN
        have HHn := Lib.hid hhn
        clear hhn
        go_upto_if 89 with fail
        go_cut [] (fun wx => OW bO (if hN = true then ra else { ra with n := n }) fA fc WO wx)
        case first => as_aux_lemma =>
          have rb := HOw.out.row
          have o7 := box_cell rb 7 _ rfl
          have oz := fun i => box_free rb i
          clear rb
          cases hN
          · go_wp2
            go_meet
            exact HOw.out.set { ra with n := n } fA fc 7 (.int .i64 n) rfl
          · go_wp2
            go_meet
            exact HOw.out
        case rest =>
          have HOw := Lib.hid hcut
          generalize hr2 : (if hN = true then ra else { ra with n := n }) = rb at *
          have HR2 := Lib.hid hr2
          clear hr2 hcut
          have HK := Lib.hid (HK7.out.below (HBl2.out _ _ _ _ HOw.out))
          have q2 := range_cell HK.out.raw 2 _ rfl
          go_upto_if 94 with fail
          generalize hz : (r.kind != 0) = z0
          have HZ0 := Lib.hid hz
          clear hz
          go_cut [] (fun wx => OW bO (if z0 = true then { rb with quote := n } else rb) fA fc WO wx)
          case first => as_aux_lemma =>
            have rw5 := HOw.out.row
            have o5 := box_cell rw5 5 _ rfl
            have oz := fun i => box_free rw5 i
            clear rw5
            cases z0
            · go_wp2
              go_meet
              exact HOw.out
            · go_wp2
              go_meet
              exact HOw.out.set { rb with quote := n } fA fc 5 (.int .i64 n) rfl
          case rest =>
            have HOw := Lib.hid hcut
            generalize hr3 : (if z0 = true then { rb with quote := n } else rb) = rc at *
            have HR3 := Lib.hid hr3
            clear hr3 hcut q2
            have HK := Lib.hid (HK7.out.below (HBl2.out _ _ _ _ HOw.out))
            have q2 := range_cell HK.out.raw 2 _ rfl
            go_upto_if 99 with fail
            generalize hz : decide (4 < r.kind) = z4
            have HZ4 := Lib.hid hz
            clear hz
            go_cut [] (fun wx => OW bO (if z4 = true then { rc with on := n } else rc) fA fc WO wx)
            case first => as_aux_lemma =>
              have rw5 := HOw.out.row
              have o5 := box_cell rw5 4 _ rfl
              have oz := fun i => box_free rw5 i
              clear rw5
              cases z4
              · go_wp2
                go_meet
                exact HOw.out
              · go_wp2
                go_meet
                exact HOw.out.set { rc with on := n } fA fc 4 (.int .i64 n) rfl
            case rest =>
              have HOw := Lib.hid hcut
              generalize hr4 : (if z4 = true then { rc with on := n } else rc) = rd at *
              have HR4 := Lib.hid hr4
              clear hr4 hcut q2
              have HK := Lib.hid (HK7.out.below (HBl2.out _ _ _ _ HOw.out))
              have q2 := range_cell HK.out.raw 2 _ rfl
              obtain ⟨wd, hwd⟩ : ∃ x, x = wc := ⟨_, rfl⟩
              rw [← hwd] at HOw HK q2 ⊢
              clear hwd
              go_upto_region 20 with fail
              go_cut [109] (fun v wx => v = .bool (!hasX r.kind) ∧ wd = wx)
              case first => as_aux_lemma =>
                have HHX : Hid (hasX r.kind = ((r.kind == 0) || (r.kind == 1))) := Lib.hid rfl
                cases k0 : (r.kind == 0)
                · have k0n : (r.kind != 0) = true := by unfold bne; rw [k0]; rfl
                  cases k1 : (r.kind == 1)
                  · have k1n : (r.kind != 1) = true := by unfold bne; rw [k1]; rfl
                    go_wp2
                    go_meet
                    exact ⟨by rw [HHX.out, k0, k1]; rfl, by first | rfl | trivial⟩
                  · have k1n : (r.kind != 1) = false := by unfold bne; rw [k1]; rfl
                    go_wp2
                    go_meet
                    exact ⟨by rw [HHX.out, k0, k1]; rfl, by first | rfl | trivial⟩
                · have k0n : (r.kind != 0) = false := by unfold bne; rw [k0]; rfl
                  go_wp2
                  go_meet
                  exact ⟨by rw [HHX.out, k0]; rfl, by first | rfl | trivial⟩
              case rest =>
                obtain ⟨rfl, rfl⟩ := hcut
                generalize hhx : hasX r.kind = hX
                have HHx := Lib.hid hhx
                clear hhx q2
                go_upto_if 109 with fail
                go_cut [] (fun wx => OtherOut bO hX rd n fA fc WO wx)
                case first => as_aux_lemma =>
                  cases hX
                  · by_cases hn0 : n < 0
                    · skip
                      have HM : Hid ((min (max n 0) 5000).toNat = 0) := Lib.hid (by omega)
                      go_wp2_with fail
                      refine (lLong_any 0 _ (by omega)).mono ?_
                      rintro en wl ⟨rfl, hbl⟩
                      have HOl := Lib.hid (HOw.out.below hbl)
                      have rl := HOl.out.row
                      have l8 := box_cell rl 8 _ rfl
                      have l9 := box_cell rl 9 _ rfl
                      have lz := fun i => box_free rl i
                      have hzl := box_lt rl
                      clear rl hbl
                      go_wp2
                      go_meet
                      have h1 := HOl.out.set { rd with text := zstr 0 } fA fc 8 (.string (zstr 0)) rfl
                      have h2 := h1.set { rd with text := zstr 0, files := [n, n] } (some ⟨wl.heap.size, 0, none⟩) 2 9 (.slice (some ⟨wl.heap.size, 0, none⟩) 2 2) rfl
                      have hs : ((wl.setCell ⟨bO, 8, none⟩ (.string (zstr 0))).setCell ⟨bO, 9, none⟩ (.slice (some ⟨wl.heap.size, 0, none⟩) 2 2)).heap.size = wl.heap.size := by simp [World.setCell]
                      have h3 := RdL.lit intLay ((wl.setCell ⟨bO, 8, none⟩ (.string (zstr 0))).setCell ⟨bO, 9, none⟩ (.slice (some ⟨wl.heap.size, 0, none⟩) 2 2)) [n, n] #[.int .i64 n, .int .i64 n] 3 rfl
                      rw [hs] at h3
                      exact ⟨_, some ⟨wl.heap.size, 0, none⟩, 2, by rw [HM.out]; rfl, h2.below (by repeat (first | with_reducible exact Below.refl _ _ | with_reducible assumption | with_reducible refine Below.drew ?_ | with_reducible refine Below.alloc ?_ (by first | omega | (simp; done) | (simp; omega)) _)), .inr ⟨rfl, by omega, h3⟩⟩
                    · by_cases hn5 : 5000 < n
                      · skip
                        have HM : Hid ((min (max n 0) 5000).toNat = 5000) := Lib.hid (by omega)
                        go_wp2_with fail
                        refine (lLong_any 5000 _ (by omega)).mono ?_
                        rintro en wl ⟨rfl, hbl⟩
                        have HOl := Lib.hid (HOw.out.below hbl)
                        have rl := HOl.out.row
                        have l8 := box_cell rl 8 _ rfl
                        have l9 := box_cell rl 9 _ rfl
                        have lz := fun i => box_free rl i
                        have hzl := box_lt rl
                        clear rl hbl
                        go_wp2
                        go_meet
                        have h1 := HOl.out.set { rd with text := zstr 5000 } fA fc 8 (.string (zstr 5000)) rfl
                        have h2 := h1.set { rd with text := zstr 5000, files := [n, n] } (some ⟨wl.heap.size, 0, none⟩) 2 9 (.slice (some ⟨wl.heap.size, 0, none⟩) 2 2) rfl
                        have hs : ((wl.setCell ⟨bO, 8, none⟩ (.string (zstr 5000))).setCell ⟨bO, 9, none⟩ (.slice (some ⟨wl.heap.size, 0, none⟩) 2 2)).heap.size = wl.heap.size := by simp [World.setCell]
                        have h3 := RdL.lit intLay ((wl.setCell ⟨bO, 8, none⟩ (.string (zstr 5000))).setCell ⟨bO, 9, none⟩ (.slice (some ⟨wl.heap.size, 0, none⟩) 2 2)) [n, n] #[.int .i64 n, .int .i64 n] 3 rfl
                        rw [hs] at h3
                        exact ⟨_, some ⟨wl.heap.size, 0, none⟩, 2, by rw [HM.out]; rfl, h2.below (by repeat (first | with_reducible exact Below.refl _ _ | with_reducible assumption | with_reducible refine Below.drew ?_ | with_reducible refine Below.alloc ?_ (by first | omega | (simp; done) | (simp; omega)) _)), .inr ⟨rfl, by omega, h3⟩⟩
                      · obtain ⟨m, rfl⟩ := Int.eq_ofNat_of_zero_le (show 0 ≤ n by omega)
                        have HM : Hid ((min (max (m : Int) 0) 5000).toNat = m) := Lib.hid (by omega)
                        go_wp2_with fail
                        refine (lLong_any m _ (by omega)).mono ?_
                        rintro en wl ⟨rfl, hbl⟩
                        have HOl := Lib.hid (HOw.out.below hbl)
                        have rl := HOl.out.row
                        have l8 := box_cell rl 8 _ rfl
                        have l9 := box_cell rl 9 _ rfl
                        have lz := fun i => box_free rl i
                        have hzl := box_lt rl
                        clear rl hbl
                        go_wp2
                        go_meet
                        have h1 := HOl.out.set { rd with text := zstr m } fA fc 8 (.string (zstr m)) rfl
                        have h2 := h1.set { rd with text := zstr m, files := [(m : Int), (m : Int)] } (some ⟨wl.heap.size, 0, none⟩) 2 9 (.slice (some ⟨wl.heap.size, 0, none⟩) 2 2) rfl
                        have hs : ((wl.setCell ⟨bO, 8, none⟩ (.string (zstr m))).setCell ⟨bO, 9, none⟩ (.slice (some ⟨wl.heap.size, 0, none⟩) 2 2)).heap.size = wl.heap.size := by simp [World.setCell]
                        have h3 := RdL.lit intLay ((wl.setCell ⟨bO, 8, none⟩ (.string (zstr m))).setCell ⟨bO, 9, none⟩ (.slice (some ⟨wl.heap.size, 0, none⟩) 2 2)) [(m : Int), (m : Int)] #[.int .i64 (m : Int), .int .i64 (m : Int)] 3 rfl
                        rw [hs] at h3
                        exact ⟨_, some ⟨wl.heap.size, 0, none⟩, 2, by rw [HM.out]; rfl, h2.below (by repeat (first | with_reducible exact Below.refl _ _ | with_reducible assumption | with_reducible refine Below.drew ?_ | with_reducible refine Below.alloc ?_ (by first | omega | (simp; done) | (simp; omega)) _)), .inr ⟨rfl, by omega, h3⟩⟩
                  · go_wp2
                    go_meet
                    exact ⟨rd, fA, fc, rfl, HOw.out, .inl ⟨rfl, rfl, rfl⟩⟩
                case rest =>
                  obtain ⟨o, gA', gc', ho, how, hcase⟩ := hcut
                  have HAl : Hid (Alike r o) := Lib.hid (alike_of HR1.out HR2.out HR3.out HR4.out ho HHn.out HZ0.out HZ4.out HHx.out)
                  have hbo := HBl2.out _ _ _ _ how
                  have HK := Lib.hid (HK7.out.below hbo)
                  have HEa := Lib.hid (HEa7.out.below hbo)
                  have HEb := Lib.hid (HEb7.out.below hbo)
                  have HRo := Lib.hid (raw_other HR1.out HR2.out HR3.out HR4.out ho hcase (HR.out.now HK.out.b) hrc)
                  have HOr := Lib.hid (range_block how.row rfl)
                  clear ho how hcase hbo HOw HR1 HR2 HR3 HR4 HHn HZ0 HZ4 HHx HBl2 HK7 HEa7 HEb7 HbO
                  obtain ⟨wo, hwo⟩ : ∃ x, x = wc := ⟨_, rfl⟩
                  rw [← hwo] at HK HEa HEb HRo HOr ⊢
                  clear hwo
                  go_wp2_with (first
                    | ((with_reducible show wpList _ _ _ (Oper.mk _ (Op.load 24 _) _ _ _ _ :: _) _ _); refine wpList_load_g rfl 24 (.tmp 6) rfl w.heap.size 0 rfl (p.cs A c).toList _ HK.out.prof Try.underlying24 rfl (by kernel_rfl) ?_)
                    | ((with_reducible show wpList _ _ _ (Oper.mk _ (Op.load 28 (.tmp 9)) _ _ _ _ :: _) _ _); refine wpList_load_g rfl 28 (.tmp 9) rfl (w.heap.size + 1) 0 rfl (r.cs fA fc).toList _ HK.out.raw Try.underlying28 rfl (by kernel_rfl) ?_)
                    | ((with_reducible show wpList _ _ _ (Oper.mk _ (Op.load 28 (.tmp 20)) _ _ _ _ :: _) _ _); refine wpList_load_g rfl 28 (.tmp 20) rfl bO 0 rfl (o.cs gA' gc').toList _ HOr.out Try.underlying28 rfl (by kernel_rfl) ?_))
                  refine (bBack_any p A c xs B _ d net o gA' gc' step _ rfl (HP.out.now HK.out.b) hpc (HX.out.now HK.out.b) (by omega) HRo.out.1 HRo.out.2).mono ?_
                  rintro en w8 ⟨hb8, gA3, gc3, rfl, hf, hfl, hfb⟩
                  rw [back_alike HAl.out, ← HBs.out] at hf hfl
                  simp only [back_alike HAl.out, ← HBs.out]
                  have HEa := Lib.hid (HEa.out.below hb8)
                  have HEb := Lib.hid (HEb.out.below hb8)
                  have hz8 := HK.out.b.size
                  have HK := Lib.hid (HK.out.below hb8)
                  have hb9 : Below w8.heap.size w8 (w8.alloc (.cells (bs.1.cs none 0 gA3 gc3) 33)) := by repeat (first | with_reducible exact Below.refl _ _ | with_reducible assumption | with_reducible refine Below.drew ?_ | with_reducible refine Below.alloc ?_ (by first | omega | (simp; done) | (simp; omega)) _)
                  have HEc : Hid (EvBox bs.1 w8.heap.size gA3 gc3 w (w8.alloc (.cells (bs.1.cs none 0 gA3 gc3) 33))) := Lib.hid ⟨(MapKept.heap_alloc w8 _).1, hf.now hb9, (fun j hj => Nat.le_trans hz8 (hfb j hj)), HK.out.b.size⟩
                  have HK := Lib.hid (HK.out.below hb9)
                  have HEa := Lib.hid (HEa.out.below hb9)
                  have HEb := Lib.hid (HEb.out.below hb9)
                  obtain ⟨W9, hW9⟩ : ∃ W, W = w8.alloc (.cells (bs.1.cs none 0 gA3 gc3) 33) := ⟨_, rfl⟩
                  go_upto_region 24 with fail
                  rw [← hW9] at HEa HEb HEc HK ⊢
                  obtain ⟨bC, hbC⟩ : ∃ b, b = w8.heap.size := ⟨_, rfl⟩
                  rw [← hbC] at HEc ⊢
                  clear hW9 hb9 hf hfl hfb hb8 hbC HRo HOr HAl
                  have HOk : Hid (∀ (wx : World) (gA : Option Addr), RdI wx wx.heap.size gA bs.1.files → EvOk wx wx.heap.size none gA bs.1) := Lib.hid (fun wx gA h => by
                    rw [HBs.out] at h ⊢
                    exact back_evOk HR.out p xs net step h)
                  have hcc : (bs.2 != bs.2) = false := by simp
                  have HRa := Lib.hid (range_block HEa.out.row rfl)
                  have HRb := Lib.hid (range_block HEb.out.row rfl)
                  go_wp2_with (first
                    | ((with_reducible show wpList _ _ _ (Oper.mk _ (Op.load 33 (.tmp 14)) _ _ _ _ :: _) _ _); refine wpList_load_g rfl 33 (.tmp 14) rfl bA 0 rfl (bs.1.cs none 0 gA gc).toList _ HRa.out Try.underlying33 rfl (by kernel_rfl) ?_)
                    | ((with_reducible show wpList _ _ _ (Oper.mk _ (Op.load 33 (.tmp 18)) _ _ _ _ :: _) _ _); refine wpList_load_g rfl 33 (.tmp 18) rfl bB 0 rfl (bs.1.cs none 0 gA2 gc2).toList _ HRb.out Try.underlying33 rfl (by kernel_rfl) ?_))
                  refine (rSameE_any bs.1 bs.1 none 0 gA gc none 0 gA2 gc2 _ (HOk.out _ _ HEa.out.ok) (HOk.out _ _ HEb.out.ok)).mono ?_
                  rintro en w10 ⟨rfl, hb10⟩
                  rw [(sameE_iff bs.1 bs.1).2 rfl]
                  have HEa := Lib.hid (HEa.out.below hb10)
                  have HEc := Lib.hid (HEc.out.below hb10)
                  have HK := Lib.hid (HK.out.below hb10)
                  clear hb10 HRa HRb HEb
                  have HRa := Lib.hid (range_block HEa.out.row rfl)
                  have HRc := Lib.hid (range_block HEc.out.row rfl)
                  go_wp2_with (first
                    | ((with_reducible show wpList _ _ _ (Oper.mk _ (Op.load 33 (.tmp 14)) _ _ _ _ :: _) _ _); refine wpList_load_g rfl 33 (.tmp 14) rfl bA 0 rfl (bs.1.cs none 0 gA gc).toList _ HRa.out Try.underlying33 rfl (by kernel_rfl) ?_)
                    | ((with_reducible show wpList _ _ _ (Oper.mk _ (Op.load 33 (.tmp 21)) _ _ _ _ :: _) _ _); refine wpList_load_g rfl 33 (.tmp 21) rfl bC 0 rfl (bs.1.cs none 0 gA3 gc3).toList _ HRc.out Try.underlying33 rfl (by kernel_rfl) ?_))
                  refine (rSameE_any bs.1 bs.1 none 0 gA gc none 0 gA3 gc3 _ (HOk.out _ _ HEa.out.ok) (HOk.out _ _ HEc.out.ok)).mono ?_
                  rintro en w11 ⟨rfl, hb11⟩
                  rw [(sameE_iff bs.1 bs.1).2 rfl]
                  have HEa := Lib.hid (HEa.out.below hb11)
                  have HK := Lib.hid (HK.out.below hb11)
                  clear hb11 HRa HRc HEc hcc
                  have r5 := box_cell HEa.out.row 5 _ rfl
                  go_upto_region 26 with fail
                  cases h0 : (bs.2 != 0)
                  rotate_left
                  · go_wp2
                    go_ret
                    exact ⟨rfl, HK.out.b⟩
                  cases ht : decide (bs.1.target < 0)
                  rotate_left
                  · go_wp2
                    go_ret
                    exact ⟨rfl, HK.out.b⟩
                  have HH0 := Lib.hid h0
                  have HHt := Lib.hid ht
                  go_upto_region 28 with fail
                  clear h0 ht r5
                  obtain ⟨W, hW⟩ : ∃ x, x = w11 := ⟨_, rfl⟩
                  rw [← hW] at HK HEa ⊢
                  clear hW
                  obtain ⟨bt, hbt⟩ : ∃ b, b = backS p (dropF net bs.1.target xs) net r step := ⟨_, rfl⟩
                  have HBt := Lib.hid hbt
                  have hdl : (dropF net bs.1.target xs).length ≤ xs.length := List.length_filter_le _ _
                  clear hbt
                  have HQp := Lib.hid (show ∀ w', Below W.heap.size W w' → w'.rangeAt w.heap.size 0 (p.cs A c).toList from fun w' h => (HK.out.below h).prof)
                  have HQr := Lib.hid (show ∀ w', Below W.heap.size W w' → w'.rangeAt (w.heap.size + 1) 0 (r.cs fA fc).toList from fun w' h => (HK.out.below h).raw)
                  have HQt := Lib.hid (show ∀ w', Below W.heap.size W w' → w'.cell? ⟨bA, 5, none⟩ = some (.int .i64 bs.1.target) from fun w' h => box_cell (HEa.out.below h).row 5 _ rfl)
                  go_cut [23, 24] (fun v u wx => EvPost (backS p (dropF net bs.1.target xs) net r step) W v u wx)
                  case first =>
                    go_wp2_with fail
                    refine wp_region_held_drew (S := fun w' => Below W.heap.size W w') (by kernel_rfl) ((Below.refl _ _).drew) (fun hHeld => ?_)
                    obtain ⟨Wd, hWd⟩ : ∃ x, x = W.drew := ⟨_, rfl⟩
                    rw [← hWd] at hHeld ⊢
                    clear hWd
                    refine' wpAnyH_take (i := 0) rfl (by kernel_rfl) (by kernel_rfl) (by kernel_rfl) (fun _ _ _ h => h) (yieldsIf_load_mid (by rfl) _ _ rfl _ _ rfl _ _ HQp.out Try.underlying24 rfl (by kernel_rfl)) (by assumption) ?_
                    simp only [Act.put, List.setIfInBounds_toArray, List.set_cons_zero, List.set_cons_succ, List.getElem_toArray, List.getElem_cons_zero, List.getElem_cons_succ]
                    refine wpAnyH_take (i := 1) (v := ?_) rfl (by kernel_rfl) (by kernel_rfl) (by kernel_rfl) (fun _ _ _ h => h) (Or.inl ⟨by rfl, ?_⟩) (by assumption) ?_
                    rotate_left
                    · intro wq hSw
                      go_simp
                      try with_reducible rfl
                    simp only [Act.put, List.setIfInBounds_toArray, List.set_cons_zero, List.set_cons_succ, List.getElem_toArray, List.getElem_cons_zero, List.getElem_cons_succ]
                    refine wpAnyH_take (i := 2) (v := ?_) rfl (by kernel_rfl) (by kernel_rfl) (by kernel_rfl) (fun _ _ _ h => h) (Or.inl ⟨by rfl, ?_⟩) (by assumption) ?_
                    rotate_left
                    · intro wq hSw
                      go_simp
                      try with_reducible rfl
                    simp only [Act.put, List.setIfInBounds_toArray, List.set_cons_zero, List.set_cons_succ, List.getElem_toArray, List.getElem_cons_zero, List.getElem_cons_succ]
                    refine wpAnyH_take (i := 3) (v := ?_) rfl (by kernel_rfl) (by kernel_rfl) (by kernel_rfl) (fun _ _ _ h => h) (Or.inl ⟨by rfl, ?_⟩) (by assumption) ?_
                    rotate_left
                    · intro wq hSw
                      go_simp
                      try with_reducible rfl
                    simp only [Act.put, List.setIfInBounds_toArray, List.set_cons_zero, List.set_cons_succ, List.getElem_toArray, List.getElem_cons_zero, List.getElem_cons_succ]
                    refine wpAnyH_take (i := 4) (v := ?_) rfl (by kernel_rfl) (by kernel_rfl) (by kernel_rfl) (fun _ _ _ h => h) (Or.inl ⟨by rfl, ?_⟩) (by assumption) ?_
                    rotate_left
                    · intro wq hSw
                      have q5 := HQt.out _ hSw
                      go_simp
                      try with_reducible rfl
                    simp only [Act.put, List.setIfInBounds_toArray, List.set_cons_zero, List.set_cons_succ, List.getElem_toArray, List.getElem_cons_zero, List.getElem_cons_succ]
                    refine wpAnyH_take (i := 6) (v := ?_) rfl (by kernel_rfl) (by kernel_rfl) (by kernel_rfl) (fun _ _ _ h => h) (Or.inl ⟨by rfl, ?_⟩) (by assumption) ?_
                    rotate_left
                    · intro wq hSw
                      go_simp
                      try with_reducible rfl
                    simp only [Act.put, List.setIfInBounds_toArray, List.set_cons_zero, List.set_cons_succ, List.getElem_toArray, List.getElem_cons_zero, List.getElem_cons_succ]
                    refine' wpAnyH_take (i := 7) rfl (by kernel_rfl) (by kernel_rfl) (by kernel_rfl) (fun _ _ _ h => h) (yieldsIf_load_mid (by rfl) _ _ rfl _ _ rfl _ _ HQr.out Try.underlying28 rfl (by kernel_rfl)) (by assumption) ?_
                    simp only [Act.put, List.setIfInBounds_toArray, List.set_cons_zero, List.set_cons_succ, List.getElem_toArray, List.getElem_cons_zero, List.getElem_cons_succ]
                    refine wpAnyH_take (i := 8) (v := ?_) rfl (by kernel_rfl) (by kernel_rfl) (by kernel_rfl) (fun _ _ _ h => h) (Or.inl ⟨by rfl, ?_⟩) (by assumption) ?_
                    rotate_left
                    · intro wq hSw
                      go_simp
                      try with_reducible rfl
                    simp only [Act.put, List.setIfInBounds_toArray, List.set_cons_zero, List.set_cons_succ, List.getElem_toArray, List.getElem_cons_zero, List.getElem_cons_succ]
                    refine wpAnyH_ready (rs := [5, 13]) (by kernel_rfl) (by simp) ?_
                    refine AllReadyH.cons rfl (fun K hK => ?_) (AllReadyH.cons rfl (fun K hK => ?_) AllReadyH.nil)
                    · skip
                      go_simp
                      refine (pdrop_any xs B d net bs.1.target _ (HX.out.now (HK.out.b.trans (hHeld.mono HK.out.b.size))) (by omega)).mono ?_
                      rintro en wd1 ⟨dA, dc, rfl, hod, hbd⟩
                      have HOd := Lib.hid (hod.rd layP)
                      have HW1 := Lib.hid (hHeld.trans (hbd.mono hHeld.size))
                      have HBd := Lib.hid hbd
                      go_wp2_with fail
                      refine hK.out _ _ HW1.out ?_
                      clear hK K hHeld hod hbd
                      intro hHeld
                      refine wpAnyH_ready (rs := [9, 13]) (by kernel_rfl) (by simp) ?_
                      refine AllReadyH.cons rfl (fun K hK => ?_) (AllReadyH.cons rfl (fun K hK => ?_) AllReadyH.nil)
                      · skip
                        go_simp
                        refine (bBack_any p A c (dropF net bs.1.target xs) dA _ dc net r fA fc step _ rfl (HP.out.now (HK.out.b.trans (hHeld.mono HK.out.b.size))) hpc (HOd.out) (Nat.le_trans hdl (by omega)) (HR.out.now (HK.out.b.trans (hHeld.mono HK.out.b.size))) hrc).mono ?_
                        rintro en wb ⟨hbb, gA6, gc6, rfl, hf, hfl, hfb⟩
                        simp only [← HBt.out] at hf hfl ⊢
                        have HFb := Lib.hid hfb
                        have HRf := Lib.hid hf
                        have HFl := Lib.hid hfl
                        have HWb := Lib.hid (hHeld.trans (hbb.mono hHeld.size))
                        have HBb := Lib.hid hbb
                        go_wp2_with fail
                        refine hK.out _ _ HWb.out ?_
                        clear hK K hHeld hf hfl hbb hfb
                        intro hHeld
                        refine wpAnyH_take (i := 10) (v := ?_) rfl (by kernel_rfl) (by kernel_rfl) (by kernel_rfl) (fun _ _ _ h => h) (Or.inl ⟨by rfl, ?_⟩) (by assumption) ?_
                        rotate_left
                        · intro wq hSw
                          go_simp
                          try with_reducible rfl
                        simp only [Act.put, List.setIfInBounds_toArray, List.set_cons_zero, List.set_cons_succ, List.getElem_toArray, List.getElem_cons_zero, List.getElem_cons_succ]
                        refine wpAnyH_take (i := 11) (v := ?_) rfl (by kernel_rfl) (by kernel_rfl) (by kernel_rfl) (fun _ _ _ h => h) (Or.inl ⟨by rfl, ?_⟩) (by assumption) ?_
                        rotate_left
                        · intro wq hSw
                          go_simp
                          try with_reducible rfl
                        simp only [Act.put, List.setIfInBounds_toArray, List.set_cons_zero, List.set_cons_succ, List.getElem_toArray, List.getElem_cons_zero, List.getElem_cons_succ]
                        refine wpAnyH_take (i := 12) (v := ?_) rfl (by kernel_rfl) (by kernel_rfl) (by kernel_rfl) (fun _ _ _ h => h) (Or.inl ⟨by rfl, ?_⟩) (by assumption) ?_
                        rotate_left
                        · intro wq hSw
                          go_simp
                          try with_reducible rfl
                        simp only [Act.put, List.setIfInBounds_toArray, List.set_cons_zero, List.set_cons_succ, List.getElem_toArray, List.getElem_cons_zero, List.getElem_cons_succ]
                        refine wpAnyH_ready (rs := [13]) (by kernel_rfl) (by simp) ?_
                        refine AllReadyH.cons rfl (fun K hK => ?_) AllReadyH.nil
                        go_simp
                        obtain ⟨wa, hwa⟩ : ∃ x, x = (wb).alloc (.cells zeroE 33) := ⟨_, rfl⟩
                        have hba : Below (wb).heap.size wb wa := by rw [hwa]; exact (Below.refl _ _).alloc (Nat.le_refl _) _
                        have hze : wa.heap[(wb).heap.size]? = some (.cells zeroE 33 (0, 0)) := by rw [hwa]; exact (MapKept.heap_alloc _ _).1
                        have HZe := Lib.hid hze
                        have HBa := Lib.hid hba
                        refine (hK.out _ _ (hHeld.alloc hHeld.size _) ?_)
                        have hHa : Below W.heap.size W wa := hHeld.trans (hba.mono hHeld.size)
                        have hlo := hHeld.size
                        clear hK K hHeld
                        intro hHeld
                        have hwa' : (wb).alloc (.cells #[.int .i64 0, .int .i64 0, .slice none 0 0, .int .i64 0, .int .i64 0, .int .i64 0, .int .i64 0, .int .i64 0, .int .i64 0, .string ⟨#[]⟩, .slice none 0 0, .int .i64 0] 33) = wa := hwa.symm
                        rw [hwa'] at hHeld ⊢
                        obtain ⟨be, hbe⟩ : ∃ b, b = (wb).heap.size := ⟨_, rfl⟩
                        rw [← hbe] at HZe
                        rw [← hbe]
                        have hbe0 : W.heap.size ≤ be := by omega
                        clear hwa hwa' hba hze hHa
                        have HZ := HZe
                        refine wpAnyH_ready (rs := [14]) (by kernel_rfl) (by simp) ?_
                        refine AllReadyH.cons rfl (fun K hK => ?_) AllReadyH.nil
                        refine step_store_box rfl 33 _ _ rfl be (bt.1.cs none 0 gA6 gc6) (by first | rfl | (rw [hbe]; rfl)) rfl (zero_there HZ.out) (by kernel_rfl) (evOne bt.1 none 0 gA6 gc6) ?_
                        obtain ⟨ws, hws⟩ : ∃ x, x = World.setCells wa be 0 (bt.1.cs none 0 gA6 gc6).toList := ⟨_, rfl⟩
                        have hrow := zero_row HZ.out bt.1 none 0 gA6 gc6
                        have hgs := grown_setCells wa be 0 (bt.1.cs none 0 gA6 gc6).toList
                        rw [← hws] at hrow hgs ⊢
                        have HRow := Lib.hid hrow
                        have HGs := Lib.hid hgs
                        have HWs : Hid (Below W.heap.size W ws) := Lib.hid (hHeld.grown hgs (by have := hHeld.size; omega) (fun k hk => by injection hk with hk; omega))
                        refine hK.out _ _ HWs.out ?_
                        clear hK K hHeld hws hrow hgs
                        intro hHeld
                        refine wpAnyH_take (i := 15) (v := ?_) rfl (by kernel_rfl) (by kernel_rfl) (by kernel_rfl) (fun _ _ _ h => h) (Or.inl ⟨by rfl, ?_⟩) (by assumption) ?_
                        rotate_left
                        · intro wq hSw
                          go_simp
                          try with_reducible rfl
                        simp only [Act.put, List.setIfInBounds_toArray, List.set_cons_zero, List.set_cons_succ, List.getElem_toArray, List.getElem_cons_zero, List.getElem_cons_succ]
                        refine wpAnyH_done (by kernel_rfl) ?_ _
                        clear hHeld
                        go_wp2
                        go_meet
                        rw [← HBt.out]
                        exact ⟨HWs.out, rfl, be, gA6, gc6, (by first | rfl | (rw [hbe]; done)), hbe0, HRow.out, HRf.out.now (HBa.out.grown HGs.out HBa.out.size (fun k hk => by have := Option.some.inj hk; omega)), HFl.out⟩
                      · skip
                        go_simp
                        obtain ⟨wa, hwa⟩ : ∃ x, x = (wd1).alloc (.cells zeroE 33) := ⟨_, rfl⟩
                        have hba : Below (wd1).heap.size wd1 wa := by rw [hwa]; exact (Below.refl _ _).alloc (Nat.le_refl _) _
                        have hze : wa.heap[(wd1).heap.size]? = some (.cells zeroE 33 (0, 0)) := by rw [hwa]; exact (MapKept.heap_alloc _ _).1
                        have HZe := Lib.hid hze
                        have HBa := Lib.hid hba
                        refine (hK.out _ _ (hHeld.alloc hHeld.size _) ?_)
                        have hHa : Below W.heap.size W wa := hHeld.trans (hba.mono hHeld.size)
                        have hlo := hHeld.size
                        clear hK K hHeld
                        intro hHeld
                        have hwa' : (wd1).alloc (.cells #[.int .i64 0, .int .i64 0, .slice none 0 0, .int .i64 0, .int .i64 0, .int .i64 0, .int .i64 0, .int .i64 0, .int .i64 0, .string ⟨#[]⟩, .slice none 0 0, .int .i64 0] 33) = wa := hwa.symm
                        rw [hwa'] at hHeld ⊢
                        obtain ⟨be, hbe⟩ : ∃ b, b = (wd1).heap.size := ⟨_, rfl⟩
                        rw [← hbe] at HZe
                        rw [← hbe]
                        have hbe0 : W.heap.size ≤ be := by omega
                        clear hwa hwa' hba hze hHa
                        refine wpAnyH_ready (rs := [9]) (by kernel_rfl) (by simp) ?_
                        refine AllReadyH.cons rfl (fun K hK => ?_) AllReadyH.nil
                        go_simp
                        refine (bBack_any p A c (dropF net bs.1.target xs) dA _ dc net r fA fc step _ rfl (HP.out.now (HK.out.b.trans (hHeld.mono HK.out.b.size))) hpc (HOd.out.now HBa.out) (Nat.le_trans hdl (by omega)) (HR.out.now (HK.out.b.trans (hHeld.mono HK.out.b.size))) hrc).mono ?_
                        rintro en wb ⟨hbb, gA6, gc6, rfl, hf, hfl, hfb⟩
                        simp only [← HBt.out] at hf hfl ⊢
                        have HFb := Lib.hid hfb
                        have HRf := Lib.hid hf
                        have HFl := Lib.hid hfl
                        have HWb := Lib.hid (hHeld.trans (hbb.mono hHeld.size))
                        have HBb := Lib.hid hbb
                        go_wp2_with fail
                        refine hK.out _ _ HWb.out ?_
                        clear hK K hHeld hf hfl hbb hfb
                        intro hHeld
                        refine wpAnyH_take (i := 10) (v := ?_) rfl (by kernel_rfl) (by kernel_rfl) (by kernel_rfl) (fun _ _ _ h => h) (Or.inl ⟨by rfl, ?_⟩) (by assumption) ?_
                        rotate_left
                        · intro wq hSw
                          go_simp
                          try with_reducible rfl
                        simp only [Act.put, List.setIfInBounds_toArray, List.set_cons_zero, List.set_cons_succ, List.getElem_toArray, List.getElem_cons_zero, List.getElem_cons_succ]
                        refine wpAnyH_take (i := 11) (v := ?_) rfl (by kernel_rfl) (by kernel_rfl) (by kernel_rfl) (fun _ _ _ h => h) (Or.inl ⟨by rfl, ?_⟩) (by assumption) ?_
                        rotate_left
                        · intro wq hSw
                          go_simp
                          try with_reducible rfl
                        simp only [Act.put, List.setIfInBounds_toArray, List.set_cons_zero, List.set_cons_succ, List.getElem_toArray, List.getElem_cons_zero, List.getElem_cons_succ]
                        refine wpAnyH_take (i := 12) (v := ?_) rfl (by kernel_rfl) (by kernel_rfl) (by kernel_rfl) (fun _ _ _ h => h) (Or.inl ⟨by rfl, ?_⟩) (by assumption) ?_
                        rotate_left
                        · intro wq hSw
                          go_simp
                          try with_reducible rfl
                        simp only [Act.put, List.setIfInBounds_toArray, List.set_cons_zero, List.set_cons_succ, List.getElem_toArray, List.getElem_cons_zero, List.getElem_cons_succ]
                        have HZ := Lib.hid ((HBb.out.block be (box_lt HZe.out)).trans HZe.out)
                        have hbw := box_lt HZe.out
                        refine wpAnyH_ready (rs := [14]) (by kernel_rfl) (by simp) ?_
                        refine AllReadyH.cons rfl (fun K hK => ?_) AllReadyH.nil
                        refine step_store_box rfl 33 _ _ rfl be (bt.1.cs none 0 gA6 gc6) (by first | rfl | (rw [hbe]; rfl)) rfl (zero_there HZ.out) (by kernel_rfl) (evOne bt.1 none 0 gA6 gc6) ?_
                        obtain ⟨ws, hws⟩ : ∃ x, x = World.setCells wb be 0 (bt.1.cs none 0 gA6 gc6).toList := ⟨_, rfl⟩
                        have hrow := zero_row HZ.out bt.1 none 0 gA6 gc6
                        have hgs := grown_setCells wb be 0 (bt.1.cs none 0 gA6 gc6).toList
                        rw [← hws] at hrow hgs ⊢
                        have HRow := Lib.hid hrow
                        have HGs := Lib.hid hgs
                        have HWs : Hid (Below W.heap.size W ws) := Lib.hid (hHeld.grown hgs (by have := hHeld.size; omega) (fun k hk => by injection hk with hk; omega))
                        refine hK.out _ _ HWs.out ?_
                        clear hK K hHeld hws hrow hgs
                        intro hHeld
                        refine wpAnyH_take (i := 15) (v := ?_) rfl (by kernel_rfl) (by kernel_rfl) (by kernel_rfl) (fun _ _ _ h => h) (Or.inl ⟨by rfl, ?_⟩) (by assumption) ?_
                        rotate_left
                        · intro wq hSw
                          go_simp
                          try with_reducible rfl
                        simp only [Act.put, List.setIfInBounds_toArray, List.set_cons_zero, List.set_cons_succ, List.getElem_toArray, List.getElem_cons_zero, List.getElem_cons_succ]
                        refine wpAnyH_done (by kernel_rfl) ?_ _
                        clear hHeld
                        go_wp2
                        go_meet
                        rw [← HBt.out]
                        exact ⟨HWs.out, rfl, be, gA6, gc6, (by first | rfl | (rw [hbe]; done)), hbe0, HRow.out, HRf.out.turn (fun i hi hl => HGs.out.block i hl (fun e => by have := HFb.out i hi; have := Option.some.inj e; omega)) HGs.out.size, HFl.out⟩
                    · skip
                      go_simp
                      obtain ⟨wa, hwa⟩ : ∃ x, x = (Wd).alloc (.cells zeroE 33) := ⟨_, rfl⟩
                      have hba : Below (Wd).heap.size Wd wa := by rw [hwa]; exact (Below.refl _ _).alloc (Nat.le_refl _) _
                      have hze : wa.heap[(Wd).heap.size]? = some (.cells zeroE 33 (0, 0)) := by rw [hwa]; exact (MapKept.heap_alloc _ _).1
                      have HZe := Lib.hid hze
                      have HBa := Lib.hid hba
                      refine (hK.out _ _ (hHeld.alloc hHeld.size _) ?_)
                      have hHa : Below W.heap.size W wa := hHeld.trans (hba.mono hHeld.size)
                      have hlo := hHeld.size
                      clear hK K hHeld
                      intro hHeld
                      have hwa' : (Wd).alloc (.cells #[.int .i64 0, .int .i64 0, .slice none 0 0, .int .i64 0, .int .i64 0, .int .i64 0, .int .i64 0, .int .i64 0, .int .i64 0, .string ⟨#[]⟩, .slice none 0 0, .int .i64 0] 33) = wa := hwa.symm
                      rw [hwa'] at hHeld ⊢
                      obtain ⟨be, hbe⟩ : ∃ b, b = (Wd).heap.size := ⟨_, rfl⟩
                      rw [← hbe] at HZe
                      rw [← hbe]
                      have hbe0 : W.heap.size ≤ be := by omega
                      clear hwa hwa' hba hze hHa
                      refine wpAnyH_ready (rs := [5]) (by kernel_rfl) (by simp) ?_
                      refine AllReadyH.cons rfl (fun K hK => ?_) AllReadyH.nil
                      go_simp
                      refine (pdrop_any xs B d net bs.1.target _ (HX.out.now (HK.out.b.trans (hHeld.mono HK.out.b.size))) (by omega)).mono ?_
                      rintro en wd1 ⟨dA, dc, rfl, hod, hbd⟩
                      have HOd := Lib.hid (hod.rd layP)
                      have HW1 := Lib.hid (hHeld.trans (hbd.mono hHeld.size))
                      have HBd := Lib.hid hbd
                      go_wp2_with fail
                      refine hK.out _ _ HW1.out ?_
                      clear hK K hHeld hod hbd
                      intro hHeld
                      refine wpAnyH_ready (rs := [9]) (by kernel_rfl) (by simp) ?_
                      refine AllReadyH.cons rfl (fun K hK => ?_) AllReadyH.nil
                      have HZm := Lib.hid ((HBd.out.block be (box_lt HZe.out)).trans HZe.out)
                      have hbw := box_lt HZm.out
                      go_simp
                      refine (bBack_any p A c (dropF net bs.1.target xs) dA _ dc net r fA fc step _ rfl (HP.out.now (HK.out.b.trans (hHeld.mono HK.out.b.size))) hpc (HOd.out) (Nat.le_trans hdl (by omega)) (HR.out.now (HK.out.b.trans (hHeld.mono HK.out.b.size))) hrc).mono ?_
                      rintro en wb ⟨hbb, gA6, gc6, rfl, hf, hfl, hfb⟩
                      simp only [← HBt.out] at hf hfl ⊢
                      have HFb := Lib.hid hfb
                      have HRf := Lib.hid hf
                      have HFl := Lib.hid hfl
                      have HWb := Lib.hid (hHeld.trans (hbb.mono hHeld.size))
                      have HBb := Lib.hid hbb
                      go_wp2_with fail
                      refine hK.out _ _ HWb.out ?_
                      clear hK K hHeld hf hfl hbb hfb
                      intro hHeld
                      refine wpAnyH_take (i := 10) (v := ?_) rfl (by kernel_rfl) (by kernel_rfl) (by kernel_rfl) (fun _ _ _ h => h) (Or.inl ⟨by rfl, ?_⟩) (by assumption) ?_
                      rotate_left
                      · intro wq hSw
                        go_simp
                        try with_reducible rfl
                      simp only [Act.put, List.setIfInBounds_toArray, List.set_cons_zero, List.set_cons_succ, List.getElem_toArray, List.getElem_cons_zero, List.getElem_cons_succ]
                      refine wpAnyH_take (i := 11) (v := ?_) rfl (by kernel_rfl) (by kernel_rfl) (by kernel_rfl) (fun _ _ _ h => h) (Or.inl ⟨by rfl, ?_⟩) (by assumption) ?_
                      rotate_left
                      · intro wq hSw
                        go_simp
                        try with_reducible rfl
                      simp only [Act.put, List.setIfInBounds_toArray, List.set_cons_zero, List.set_cons_succ, List.getElem_toArray, List.getElem_cons_zero, List.getElem_cons_succ]
                      refine wpAnyH_take (i := 12) (v := ?_) rfl (by kernel_rfl) (by kernel_rfl) (by kernel_rfl) (fun _ _ _ h => h) (Or.inl ⟨by rfl, ?_⟩) (by assumption) ?_
                      rotate_left
                      · intro wq hSw
                        go_simp
                        try with_reducible rfl
                      simp only [Act.put, List.setIfInBounds_toArray, List.set_cons_zero, List.set_cons_succ, List.getElem_toArray, List.getElem_cons_zero, List.getElem_cons_succ]
                      have HZ := Lib.hid ((HBb.out.block be (box_lt HZm.out)).trans HZm.out)
                      refine wpAnyH_ready (rs := [14]) (by kernel_rfl) (by simp) ?_
                      refine AllReadyH.cons rfl (fun K hK => ?_) AllReadyH.nil
                      refine step_store_box rfl 33 _ _ rfl be (bt.1.cs none 0 gA6 gc6) (by first | rfl | (rw [hbe]; rfl)) rfl (zero_there HZ.out) (by kernel_rfl) (evOne bt.1 none 0 gA6 gc6) ?_
                      obtain ⟨ws, hws⟩ : ∃ x, x = World.setCells wb be 0 (bt.1.cs none 0 gA6 gc6).toList := ⟨_, rfl⟩
                      have hrow := zero_row HZ.out bt.1 none 0 gA6 gc6
                      have hgs := grown_setCells wb be 0 (bt.1.cs none 0 gA6 gc6).toList
                      rw [← hws] at hrow hgs ⊢
                      have HRow := Lib.hid hrow
                      have HGs := Lib.hid hgs
                      have HWs : Hid (Below W.heap.size W ws) := Lib.hid (hHeld.grown hgs (by have := hHeld.size; omega) (fun k hk => by injection hk with hk; omega))
                      refine hK.out _ _ HWs.out ?_
                      clear hK K hHeld hws hrow hgs
                      intro hHeld
                      refine wpAnyH_take (i := 15) (v := ?_) rfl (by kernel_rfl) (by kernel_rfl) (by kernel_rfl) (fun _ _ _ h => h) (Or.inl ⟨by rfl, ?_⟩) (by assumption) ?_
                      rotate_left
                      · intro wq hSw
                        go_simp
                        try with_reducible rfl
                      simp only [Act.put, List.setIfInBounds_toArray, List.set_cons_zero, List.set_cons_succ, List.getElem_toArray, List.getElem_cons_zero, List.getElem_cons_succ]
                      refine wpAnyH_done (by kernel_rfl) ?_ _
                      clear hHeld
                      go_wp2
                      go_meet
                      rw [← HBt.out]
                      exact ⟨HWs.out, rfl, be, gA6, gc6, (by first | rfl | (rw [hbe]; done)), hbe0, HRow.out, HRf.out.turn (fun i hi hl => HGs.out.block i hl (fun e => by have := HFb.out i hi; have := Option.some.inj e; omega)) HGs.out.size, HFl.out⟩
                  case rest =>
                    obtain ⟨hbd, rfl, be, gA5, gc5, rfl, hbe, hrow, hri, hrl⟩ := hcut
                    have HKc := Lib.hid (HK.out.below hbd)
                    have HEc := Lib.hid (HEa.out.below hbd)
                    have hbk := back_drop p xs net r step (by rw [← HBs.out]; simpa using HH0.out) (by rw [← HBs.out]; simpa using HHt.out)
                    rw [← HBs.out, ← HBt.out] at hbk
                    rw [← HBt.out] at hrow hri hrl
                    simp only [← HBt.out]
                    have HRow := Lib.hid (range_block hrow rfl)
                    have r5 := box_cell hrow 5 _ rfl
                    have s5 := box_cell HEc.out.row 5 _ rfl
                    clear HK HEa HQp HQr HQt
                    rcases hbk with h | h | ⟨h, hne⟩
                    · have e1 : bt.1 = zeroEv := by rw [h]
                      have e2 : bt.2 = 4 := by rw [h]
                      rw [e1] at HRow r5
                      simp only [e2]
                      clear h e1 e2 hrow hri hrl HBt
                      go_wp2_with (first
                        | ((with_reducible show wpList _ _ _ (Oper.mk _ (Op.load 33 (.tmp 23)) _ _ _ _ :: _) _ _); refine wpList_load_g rfl 33 (.tmp 23) rfl be 0 rfl (zeroEv.cs none 0 gA5 gc5).toList _ HRow.out Try.underlying33 rfl (by kernel_rfl) ?_))
                      refine (rSameE_any zeroEv zeroEv none 0 gA5 gc5 none 0 none 0 _ ⟨RdL.nil_, RdL.nil_, by decide, by decide, by decide⟩ ⟨RdL.nil_, RdL.nil_, by decide, by decide, by decide⟩).mono ?_
                      rintro en w12 ⟨rfl, hb12⟩
                      rw [(sameE_iff zeroEv zeroEv).2 rfl]
                      have HKd := Lib.hid (HKc.out.below hb12)
                      go_wp2
                      go_ret
                      exact ⟨rfl, HKd.out.b⟩
                    · have e1 : bt.1 = zeroEv := by rw [h]
                      have e2 : bt.2 = 2 := by rw [h]
                      rw [e1] at HRow r5
                      simp only [e2]
                      clear h e1 e2 hrow hri hrl HBt
                      go_wp2
                      go_ret
                      exact ⟨rfl, HKc.out.b⟩
                    · simp only [h]
                      have hn : (bt.1.target != bs.1.target) = true := by simpa using hne
                      clear h hne hrow hri hrl HBt
                      go_wp2
                      go_ret
                      exact ⟨rfl, HKc.out.b⟩
end Go.Proofs.Ytbpbdehnkkheiaa
