/- Contracts and plain laws, joined: SyR, SyS. -/
import Derived.Test.YtnaejabgkfhlbaaDoorQav
/- Contracts of syntax.yes and of linguaref12: word, number. -/
set_option linter.unusedSimpArgs false
set_option linter.unusedVariables false
namespace Go.Proofs.YtnaejabgkfhlbaaDoor
open Go.RowKit

def yesW (b : Bool) : List UInt8 := if b then kYes else kNo
theorem yes_any (q : Bool) (w : World) : Calls Tryd.prog 51 #[.bool q] w fun e w' => e = .returned (.string (bs (yesW q))) ∧ w = w' := by
  cases q
  · go_enter Tryd.func51, Tryd.ntmps51
    go_wp2_with fail
    go_ret
    exact ⟨rfl, rfl⟩
  · go_enter Tryd.func51, Tryd.ntmps51
    go_wp2_with fail
    go_ret
    exact ⟨rfl, rfl⟩
theorem rWordY_any (q : Bool) (w : World) : Calls Tryd.prog 56 #[.bool q] w fun e w' => e = .returned (.string (bs (yesW q))) ∧ w = w' := by
  cases q
  · go_enter Tryd.func56, Tryd.ntmps56
    go_wp2_with fail
    go_ret
    exact ⟨rfl, rfl⟩
  · go_enter Tryd.func56, Tryd.ntmps56
    go_wp2_with fail
    go_ret
    exact ⟨rfl, rfl⟩
theorem dig_at (d : Nat) (h : d < 10) : (⟨#[48, 49, 50, 51, 52, 53, 54, 55, 56, 57]⟩ : ByteArray).extract d (d + 1) = bs [UInt8.ofNat (48 + d)] := by
  have : ∀ i : Fin 10, ((⟨#[48, 49, 50, 51, 52, 53, 54, 55, 56, 57]⟩ : ByteArray).extract i.val (i.val + 1)).data.toList = [UInt8.ofNat (48 + i.val)] := by decide
  have h1 := this ⟨d, h⟩
  apply ByteArray.ext
  exact Array.toList_inj.1 h1
/-- One more digit. -/
theorem dig_step {N m : Nat} {t : List UInt8} (h : Lib.decDigits N = Lib.decDigits m ++ t) : (0 < m / 10 → Lib.decDigits N = Lib.decDigits (m / 10) ++ UInt8.ofNat (48 + m % 10) :: t) ∧ (m / 10 = 0 → Lib.decDigits N = UInt8.ofNat (48 + m % 10) :: t) := by
  by_cases hm : m < 10
  · rw [dd_small hm] at h
    refine ⟨fun h2 => by omega, fun _ => ?_⟩
    rw [h, Nat.mod_eq_of_lt hm]
    rfl
  · rw [dd_big hm, List.append_assoc] at h
    exact ⟨fun _ => h, fun h2 => by omega⟩
def NumR (N : Nat) (a s : Value) : Prop := ∃ (m : Nat) (t : List UInt8), m ≤ 1073741824 ∧ a = .int .i64 m ∧ s = .string (bs t) ∧ t.length ≤ 20 ∧ ((t = [] ∧ m = N) ∨ (t ≠ [] ∧ (0 < m → Lib.decDigits N = Lib.decDigits m ++ t) ∧ (m = 0 → Lib.decDigits N = t)))
def numLeft (a s : Value) : Nat := match s with
  | .string b => if b.size = 0 then 10000000000 else (intOf a).toNat
  | _ => 0
theorem numLeft_bs (a : Value) (t : List UInt8) : numLeft a (.string (bs t)) = if t.length = 0 then 10000000000 else (intOf a).toNat := rfl
set_option maxRecDepth 100000 in
set_option maxHeartbeats 1000000 in
theorem rNumF_any (N : Nat) (w : World) (hN : N ≤ 1073741824) : Calls Tryd.prog 57 #[.int .i64 N] w fun e w' => e = .returned (.string (bs (Lib.decDigits N))) ∧ w = w' := by
  go_enter Tryd.func57, Tryd.ntmps57
  go_wp2_with fail
  go_loop [0, 3] (NumR N) (numLeft)
  case atStart => exact ⟨N, [], hN, rfl, rfl, by simp, .inl ⟨rfl, rfl⟩⟩
  case round =>
    obtain ⟨m, t, hm, rfl, rfl, ht, hor⟩ := hrel
    have HO := Lib.hid hor
    clear hor
    have htl : (bs t).toList = t := bs_toList t
    have e0 : (⟨#[]⟩ : ByteArray).toList = [] := bs_toList []
    have hx := dig_at (m % 10) (by omega)
    have hlen := dd_len 9 N (by omega)
    by_cases hgo : 0 < m ∨ t = []
    · have hD : Hid (Lib.decDigits N = Lib.decDigits m ++ t) := Lib.hid (by
        rcases HO.out with ⟨h1, h2⟩ | ⟨h1, h2, h3⟩
        · rw [h1, h2, List.append_nil]
        · rcases hgo with h | h
          · exact h2 h
          · exact absurd h h1)
      have HS := Lib.hid (dig_step hD.out)
      have HL : Hid (t.length + 1 ≤ 20) := Lib.hid (by
        have h1 := congrArg List.length hD.out
        rw [List.length_append] at h1
        have h2 : 1 ≤ (Lib.decDigits m).length := by
          have := dd_ne m
          cases hq : Lib.decDigits m with
          | nil => exact absurd hq this
          | cons a b => simp
        omega)
      clear hlen HO
      generalize UInt8.ofNat (48 + m % 10) = d at *
      by_cases hm0 : 0 < m
      · have hgi : (0 : Int) < m := by omega
        clear hgo
        have hs1 : (bs [d]).size = 1 := bs_size _
        have hs2 : (bs t).size = t.length := bs_size t
        have hl2 := HL.out
        have hap : bs [d] ++ bs t = bs (d :: t) := bs_app [d] t
        go_wp2_with fail
        go_round
        case rel => exact ⟨m / 10, d :: t, by omega, by go_num, rfl, by simpa using hl2, .inr ⟨by simp, HS.out.1, HS.out.2⟩⟩
        case measure =>
          rw [numLeft_bs, numLeft_bs]
          simp only [intOf, List.length_cons]
          rw [if_neg (by omega)]
          split <;> omega
      · obtain rfl : m = 0 := by omega
        have hT : t = [] := by rcases hgo with h | h; omega; exact h
        subst hT
        clear hgo
        have hs1 : (bs [d]).size = 1 := bs_size _
        have hs2 : (bs []).size = 0 := bs_size []
        have hap : bs [d] ++ bs [] = bs [d] := bs_app [d] []
        go_wp2_with fail
        go_round
        case rel => exact ⟨0, [d], by omega, rfl, rfl, by simp, .inr ⟨by simp, HS.out.1, HS.out.2⟩⟩
        case measure =>
          rw [numLeft_bs, numLeft_bs]
          simp [intOf]
    · have hm0 : m = 0 := by omega
      have hne : t ≠ [] := fun h => hgo (.inr h)
      have HD : Hid (Lib.decDigits N = t) := Lib.hid (by
        rcases HO.out with ⟨h1, h2⟩ | ⟨h1, h2, h3⟩
        · exact absurd h1 hne
        · exact h3 hm0)
      have hb : (t == []) = false := by simpa using hne
      subst hm0
      clear hgo hne hlen
      go_wp2_with fail
      go_ret
      exact ⟨by rw [HD.out]; rfl, rfl⟩
end Go.Proofs.YtnaejabgkfhlbaaDoor
/- Contract of linguaref12.Parse. -/
set_option linter.unusedSimpArgs false
set_option linter.unusedVariables false
namespace Go.Proofs.YtnaejabgkfhlbaaDoor
open Go.RowKit

theorem gPartTwo (b g : Nat) (r : St) (s x y : List UInt8) (w : World) (n : Nat) (hn : n = w.heap.size) (h : PrsAt b g r w) :
    Calls Tryd.prog 43 #[.pointer (some ⟨b, 0, none⟩), .string (bs s), .slice (some ⟨n, 0, none⟩) 2 2] (w.alloc (.cells #[.string (bs x), .string (bs y)] 9)) (PrsOut b g (.int .i64 (partG opsJ s [x, y] r).1) (partG opsJ s [x, y] r).2 w) := by
  subst hn
  exact (gPart_any b g r s [x, y] _ 2 _ (h.now ((Below.refl _ _).alloc (Nat.le_refl _) _)) (tabS w [x, y] _ _ rfl rfl) (blk_ne (Nat.ne_of_gt h.lt)) (by simp)).mono fun e w' ⟨h1, h2, h3⟩ => ⟨h1, h2, turn_one ((Turn.refl _ _).alloc _) h3⟩
theorem gPartThree (b g : Nat) (r : St) (s x y z : List UInt8) (w : World) (n : Nat) (hn : n = w.heap.size) (h : PrsAt b g r w) :
    Calls Tryd.prog 43 #[.pointer (some ⟨b, 0, none⟩), .string (bs s), .slice (some ⟨n, 0, none⟩) 3 3] (w.alloc (.cells #[.string (bs x), .string (bs y), .string (bs z)] 9)) (PrsOut b g (.int .i64 (partG opsJ s [x, y, z] r).1) (partG opsJ s [x, y, z] r).2 w) := by
  subst hn
  exact (gPart_any b g r s [x, y, z] _ 3 _ (h.now ((Below.refl _ _).alloc (Nat.le_refl _) _)) (tabS w [x, y, z] _ _ rfl rfl) (blk_ne (Nat.ne_of_gt h.lt)) (by simp)).mono fun e w' ⟨h1, h2, h3⟩ => ⟨h1, h2, turn_one ((Turn.refl _ _).alloc _) h3⟩
theorem setCells_same {b : Nat} {t : TypeId} : ∀ (vs : List Value) (o : Nat) (w : World) (cs : Array Value), w.heap[b]? = some (.cells cs t (0, 0)) → (∀ i v, vs[i]? = some v → cs[o + i]? = some v) → (w.setCells b o vs).heap[b]? = some (.cells cs t (0, 0))
  | [], o, w, cs, h, _ => h
  | v :: r, o, w, cs, h, hv => by
    have h1 : (w.setCell ⟨b, o, none⟩ v).heap[b]? = some (.cells (cs.setIfInBounds o v) t (0, 0)) := by simp [World.setCell, Array.getElem?_modify, h]
    rw [set_same cs o v (hv 0 v rfl)] at h1
    rw [World.setCells]
    exact setCells_same r (o + 1) _ cs h1 (fun i u hi => by rw [show o + 1 + i = o + (i + 1) by omega]; exact hv (i + 1) u (by simpa using hi))
/-- A box of the zero profile, with the zero profile stored into it once more. -/
theorem PBox.zero {p : Nat} {w : World} (h : PBox p zeroCs w) : PBox p zeroCs (w.setCells p 0 zeroCs.toList) :=
  setCells_same _ _ _ _ h (fun i v hi => by rw [Nat.zero_add]; simpa using hi)
theorem PrsAt.glt {b g : Nat} {r : St} {w : World} (h : PrsAt b g r w) : g < w.heap.size := by
  obtain ⟨off, n, c, k, h1, h2, h3, h4, h5, h6, h7⟩ := h.box
  exact h5
theorem KP.onto {b g p : Nat} {w0 w1 w2 : World} {r r' : St} {cs cs' : Array Value} (h : KP b g p w0 r cs w1) (k : KP b g p w1 r' cs' w2) : KP b g p w0 r' cs' w2 := ⟨k.rd, k.box, k.ne, h.turn.trans k.turn fun _ hi => .inl hi⟩
set_option maxRecDepth 100000 in
set_option maxHeartbeats 8000000 in
theorem gParse_any (l : List UInt8) (w : World) (hs : l.length ≤ 1000000) : Calls Tryd.prog 12 #[.string (bs l)] w (ParseOut l w) := by
  have HZ0 : Hid (PBox w.heap.size zeroCs (w.alloc (.cells zeroCs 24))) := Lib.hid (MapKept.heap_alloc w _).1
  have HBa := Lib.hid ((Below.refl w.heap.size w).alloc (Nat.le_refl _) (.cells zeroCs 24))
  go_enter Tryd.func12, Tryd.ntmps12
  go_wp2_with fail
  refine (rLex_any l _ hs).mono ?_
  rintro e w1 ⟨hb1, hout⟩
  have HB1 := Lib.hid (HBa.out.trans (hb1.mono HBa.out.size))
  have HZ1 := Lib.hid (HZ0.out.now hb1)
  have hsz1 : w.heap.size < w1.heap.size := by have := hb1.size; simp at this; omega
  clear hb1 HBa HZ0
  cases hlx : lexL l with
  | error q =>
    obtain ⟨a, x⟩ := q
    rw [hlx] at hout
    simp only at hout
    subst hout
    have HP := Lib.hid (parse_err hlx)
    have hx0 : (x != 0) = true := by simpa using (lexL_err hlx).1
    clear hlx
    go_wp2_with (first
      | ((with_reducible show wpList _ _ _ (Oper.mk _ (Op.store 24 _ _) _ _ _ _ :: _) _ _); refine wpList_store_box rfl 24 _ _ rfl w.heap.size zeroCs rfl rfl HZ1.out.there (by kernel_rfl) zeroOne ?_; intro wS hrS htS hgS; have HRS := Lib.hid hrS; have HGS := Lib.hid hgS; clear hrS htS hgS)
      | fail)
    refine ret_box3 2 3 4 24 rfl w.heap.size zeroCs.toList _ (.int .i64 a) (.int .i64 x) rfl rfl rfl HRS.out Tryd.underlying24 rfl (by kernel_rfl) rfl ?_
    refine ⟨HB1.out.grown HGS.out (by omega) (fun k hk => by injection hk with hk; omega), none, 0, by rw [HP.out]; rfl, by rw [HP.out]; exact okZero _, by simp [slBlk], by rw [HP.out]; exact Nat.le_refl _⟩
  | ok ts =>
    rw [hlx] at hout
    simp only at hout
    obtain ⟨At, ct, rfl, hown⟩ := hout
    have HP := Lib.hid (parse_ok hlx)
    have hfl : Fine ts ∧ ts.length ≤ 3000 := by
      have h1 := lexL_ok hlx
      have h2 := lex_count h1.2
      exact ⟨(lex_fine h1.2).1, by omega⟩
    have HRt : Hid ((parseG opsJ ⟨ts, 0, 0⟩).2.err = 0 → profRight (parseG opsJ ⟨ts, 0, 0⟩).1 = true) := Lib.hid (parseJ_right (lex_fine (lexL_ok hlx).2).1 (lex_fine (lexL_ok hlx).2).2.1)
    obtain ⟨g, rfl, hg1, hg2, hct⟩ := own_some hown hfl.1.ne
    have htok : TokAt w1 g 0 ts := fun k t hk j v hv => by
      obtain ⟨b2, off2, e2, _, h2⟩ := hown.rd tokLay k t hk
      injection e2 with e2
      injection e2 with e3 e4
      subst e3 e4
      exact h2 j v hv
    have HTk := Lib.hid htok
    have HFl := Lib.hid hfl
    clear hown hfl htok hlx
    have hE : parseG opsJ ⟨ts, 0, 0⟩ = parseG opsJ ⟨ts, 0, 0⟩ := rfl
    conv at hE => rhs; unfold parseG; simp only [opsJ_want, opsJ_skip, opsJ_num, opsJ_name, opsJ_stop]
    have HE := Lib.hid hE
    clear hE
    have HK2 : Hid (KP w1.heap.size g (w1.heap.size + 1) w1 ⟨ts, 0, 0⟩ zeroCs (((w1.alloc (.cells #[.slice (some ⟨g, 0, none⟩) ts.length ct, .int .i64 0, .int .i64 0, .int .i64 0] 61)).alloc (.cells zeroCs 24)).setCells (w1.heap.size + 1) 0 zeroCs.toList)) := Lib.hid (by
      have hb2 := ((Below.refl w1.heap.size w1).alloc (Nat.le_refl _) (.cells #[.slice (some ⟨g, 0, none⟩) ts.length ct, .int .i64 0, .int .i64 0, .int .i64 0] 61)).alloc (by simp) (.cells zeroCs 24)
      have hb3 := hb2.grown (grown_setCells _ (w1.heap.size + 1) 0 zeroCs.toList) hb2.size (fun k hk => by injection hk with hk; omega)
      have hbx : (((w1.alloc (.cells #[.slice (some ⟨g, 0, none⟩) ts.length ct, .int .i64 0, .int .i64 0, .int .i64 0] 61)).alloc (.cells zeroCs 24)).setCells (w1.heap.size + 1) 0 zeroCs.toList).heap[w1.heap.size]? = some (.cells #[.slice (some ⟨g, 0, none⟩) ts.length ct, .int .i64 0, .int .i64 0, .int .i64 0] 61 (0, 0)) :=
        (heap_setCells_other (by omega) _ _ _).trans ((Below.heap_alloc _ _ _ (by simp)).trans (MapKept.heap_alloc w1 _).1)
      refine ⟨⟨⟨0, ts.length, ct, 0, by simp, hct, HFl.out.2, by omega, Nat.lt_of_lt_of_le hg2 hb3.size, hbx, by simpa using HTk.out.keep (hb3.block g hg2)⟩, HFl.out.1⟩, ?_, ⟨by omega, by omega⟩, Turn.below hb3⟩
      have := (MapKept.heap_alloc (w1.alloc (.cells #[.slice (some ⟨g, 0, none⟩) ts.length ct, .int .i64 0, .int .i64 0, .int .i64 0] 61)) (.cells zeroCs 24)).1
      rw [show (w1.alloc (.cells #[.slice (some ⟨g, 0, none⟩) ts.length ct, .int .i64 0, .int .i64 0, .int .i64 0] 61)).heap.size = w1.heap.size + 1 by simp] at this
      exact PBox.zero this)
    have HTh : Hid (((w1.alloc (.cells #[.slice (some ⟨g, 0, none⟩) ts.length ct, .int .i64 0, .int .i64 0, .int .i64 0] 61)).alloc (.cells zeroCs 24)).there (w1.heap.size + 1) 0 zeroCs.size) := Lib.hid (by
      have := (MapKept.heap_alloc (w1.alloc (.cells #[.slice (some ⟨g, 0, none⟩) ts.length ct, .int .i64 0, .int .i64 0, .int .i64 0] 61)) (.cells zeroCs 24)).1
      rw [show (w1.alloc (.cells #[.slice (some ⟨g, 0, none⟩) ts.length ct, .int .i64 0, .int .i64 0, .int .i64 0] 61)).heap.size = w1.heap.size + 1 by simp] at this
      exact PBox.there (p := w1.heap.size + 1) this)
    clear HTk HFl
    have hr0 : (⟨ts, 0, 0⟩ : St) = ⟨ts, 0, 0⟩ := rfl
    generalize (⟨ts, 0, 0⟩ : St) = r0 at HK2 HE HP HRt
    clear hr0
    obtain ⟨b, hbe⟩ : ∃ b, b = w1.heap.size := ⟨_, rfl⟩
    obtain ⟨p, hpe⟩ : ∃ p, p = w1.heap.size + 1 := ⟨_, rfl⟩
    go_wp2_with (first
      | ((with_reducible show wpList _ _ _ (Oper.mk _ (Op.store 24 _ _) _ _ _ _ :: _) _ _); refine wpList_store_mid rfl 24 _ _ rfl (w1.heap.size + 1) 0 zeroCs (by simp [Act.eval]) (by simp [Act.eval]) HTh.out (by kernel_rfl) zeroOne ?_)
      | fail)
    generalize World.setCells _ _ _ _ = w2 at *
    clear HTh
    refine (gWant_any w1.heap.size g r0 kNetwork _ HK2.out.rd).mono ?_
    rintro e w3 ⟨rfl, hr3, ht3⟩
    have HK3 := Lib.hid (HK2.out.call hr3 ht3)
    clear hr3 ht3 HK2
    have hE := HE.out
    clear HE
    rw [bndJ] at hE
    generalize wantJ [kNetwork] r0 = q at *
    obtain ⟨n3, r3⟩ := q
    dsimp only at hE HK3 ⊢
    have HE := Lib.hid hE
    clear hE
    have hlb : w.heap.size < b := by omega
    have hlp : w.heap.size < p := by omega
    have HPB := Lib.hid (show w1.heap.size ≤ b ∧ w1.heap.size ≤ p by omega)
    rw [← hpe, ← hbe] at *
    clear hpe hbe hg1 hg2 hct
    go_wp2_with fail
    refine (gName_any b g r3 _ HK3.out.rd).mono ?_
    rintro e w4 ⟨rfl, hr4, ht4⟩
    have HK4 := Lib.hid (HK3.out.call hr4 ht4)
    clear hr4 ht4 HK3
    have hE := HE.out
    clear HE
    rw [bndJ] at hE
    generalize nameJ r3 = q at *
    obtain ⟨n4, r4⟩ := q
    dsimp only at hE HK4 ⊢
    have HE := Lib.hid hE
    clear hE
    obtain ⟨v0, c0⟩ := HK4.out.box.any 0 (by first | (simp only [Array.size_setIfInBounds]; omega) | omega | (simp; done))
    have f0 := HK4.out.box.f 0
    have HK4 := Lib.hid (HK4.out.set 0 (.string (bs n4)))
    go_wp2_with fail
    clear c0 f0
    refine (gWant_any b g r4 kSemi _ HK4.out.rd).mono ?_
    rintro e w5 ⟨rfl, hr5, ht5⟩
    have HK5 := Lib.hid (HK4.out.call hr5 ht5)
    clear hr5 ht5 HK4
    have hE := HE.out
    clear HE
    rw [bndJ] at hE
    generalize wantJ [kSemi] r4 = q at *
    obtain ⟨n5, r5⟩ := q
    dsimp only at hE HK5 ⊢
    have HE := Lib.hid hE
    clear hE
    go_wp2_with fail
    refine (gWant_any b g r5 kEdit _ HK5.out.rd).mono ?_
    rintro e w6 ⟨rfl, hr6, ht6⟩
    have HK6 := Lib.hid (HK5.out.call hr6 ht6)
    clear hr6 ht6 HK5
    have hE := HE.out
    clear HE
    rw [bndJ] at hE
    generalize wantJ [kEdit] r5 = q at *
    obtain ⟨n6, r6⟩ := q
    dsimp only at hE HK6 ⊢
    have HE := Lib.hid hE
    clear hE
    have hE := HE.out
    rw [bndJ] at hE
    have HNo := Lib.hid (edit_no r6)
    have HYes := Lib.hid (edit_yes r6)
    generalize editG opsJ r6 = qe at *
    have HE := Lib.hid hE
    clear hE
    go_wp2_with fail
    refine (rYes_any _).mono ?_
    rintro e w7 ⟨rfl, hs7, hb7⟩
    have HK7 := Lib.hid (HK6.out.now hb7)
    have HS7 := Lib.hid hs7
    have hA7 := Nat.ne_of_gt HK6.out.rd.lt
    clear hs7 hb7 HK6
    go_upto_if 37 with fail
    refine (gOne_any b g r6 wNoYes _ _ _ HK7.out.rd HS7.out (by decide)).mono ?_
    rintro e w8 ⟨rfl, hr8, ht8⟩
    have HK8 := Lib.hid (HK7.out.call hr8 ht8)
    clear hr8 ht8 HK7 HS7
    generalize wantJ wNoYes r6 = q at *
    obtain ⟨n8, r8⟩ := q
    dsimp only at HNo HYes HK8 ⊢
    go_upto_if 37 with fail
    have hp8 := HK8.out.box.lt
    go_cut [] (fun wx => KP b g p w1 qe.2 (((zeroCs.setIfInBounds 0 (.string (bs n4))).setIfInBounds 1 (.int .i64 qe.1.1)).setIfInBounds 2 (.int .i64 qe.1.2)) wx)
    case first =>
      by_cases h1 : n8 = 1
      · have HY := Lib.hid (HYes.out h1)
        subst h1
        clear HYes HNo
        obtain ⟨v1, c1⟩ := HK8.out.box.any 1 (by first | (simp only [Array.size_setIfInBounds]; omega) | omega | (simp; done))
        have f1 := HK8.out.box.f 1
        have HK8 := Lib.hid (HK8.out.set 1 (.int .i64 2))
        have HSk := Lib.hid (skip_is kWithin r8 HK8.out.rd.fine.ne)
        go_wp2_with fail
        refine (is_any b g r8 kWithin _ HK8.out.rd).mono ?_
        rintro e w9 ⟨rfl, hb9⟩
        have HK9 := Lib.hid (HK8.out.now hb9)
        clear hb9 HK8 c1 f1
        cases his : isF kWithin r8 with
        | true =>
          have hSk := HSk.out
          rw [his, if_pos rfl] at hSk
          have HY2 : Hid (qe = ((2, (numJ 1 (stepJ r8)).1), (numJ 1 (stepJ r8)).2)) := Lib.hid (by rw [HY.out, hSk, if_pos rfl])
          obtain ⟨kk, hkk, e1, g1, hk1⟩ := HK9.out.stepAt (is_head his)
          have HK10 := Lib.hid hk1
          clear HY HSk hSk his hk1 HK9
          go_wp2_with fail
          generalize stepJ r8 = r10 at *
          refine (gNumber_any b g r10 1 _ HK10.out.rd).mono ?_
          rintro e w11 ⟨rfl, hr11, ht11⟩
          have HK11 := Lib.hid (HK10.out.call hr11 ht11)
          clear hr11 ht11 HK10 e1 g1
          generalize numJ 1 r10 = q at *
          obtain ⟨n11, r11⟩ := q
          dsimp only at HY2 HK11 ⊢
          obtain ⟨v2, c2⟩ := HK11.out.box.any 2 (by first | (simp only [Array.size_setIfInBounds]; omega) | omega | (simp; done))
          have f2 := HK11.out.box.f 2
          have HK11 := Lib.hid (HK11.out.set 2 (.int .i64 n11))
          go_wp2_with fail
          go_meet
          rw [HY2.out]
          exact HK11.out
        | false =>
          have hSk := HSk.out
          rw [his, if_neg (by decide)] at hSk
          have HY2 : Hid (qe = ((2, 0), r8)) := Lib.hid (by rw [HY.out, hSk]; exact if_neg (show ¬ ((-1 : Int) = 0) by decide))
          clear HY HSk hSk his
          go_wp2_with fail
          go_meet
          rw [HY2.out]
          show KP b g p w1 r8 (((zeroCs.setIfInBounds 0 (.string (bs n4))).setIfInBounds 1 (.int .i64 2)).setIfInBounds 2 (.int .i64 0)) _
          rw [set_same _ 2 _ rfl]
          exact HK9.out
      · have HN := Lib.hid (HNo.out h1)
        have hne1 : (n8 == 1) = false := by simpa using h1
        clear HYes HNo h1
        go_wp2_with fail
        go_meet
        rw [HN.out]
        show KP b g p w1 r8 (((zeroCs.setIfInBounds 0 (.string (bs n4))).setIfInBounds 1 (.int .i64 0)).setIfInBounds 2 (.int .i64 0)) _
        rw [set_same _ 1 _ rfl, set_same _ 2 _ rfl]
        exact HK8.out
    case rest =>
      have HK10 := Lib.hid hcut
      clear hcut HK8 HNo HYes hp8
      obtain ⟨⟨e1, e2⟩, r10⟩ := qe
      dsimp only at HE HK10 ⊢
      go_wp2_with fail
      refine (gWant_any b g r10 kSemi _ HK10.out.rd).mono ?_
      rintro e w11 ⟨rfl, hr11, ht11⟩
      have HK11 := Lib.hid (HK10.out.call hr11 ht11)
      clear hr11 ht11 HK10
      have hE := HE.out
      clear HE
      rw [bndJ] at hE
      generalize wantJ [kSemi] r10 = q at *
      obtain ⟨n11, r11⟩ := q
      dsimp only at hE HK11 ⊢
      have HE := Lib.hid hE
      clear hE
      go_wp2_with fail
      refine (gPartThree b g r11 kDelete kNo kMark kYes _ _ rfl HK11.out.rd).mono ?_
      rintro e w13 ⟨rfl, hr13, ht13⟩
      have HK13 := Lib.hid (HK11.out.call hr13 ht13)
      clear hr13 ht13 HK11
      have hE := HE.out
      clear HE
      rw [bndJ] at hE
      generalize partG opsJ kDelete wDeletes r11 = q at *
      obtain ⟨n13, r13⟩ := q
      dsimp only at hE HK13 ⊢
      have HE := Lib.hid hE
      clear hE
      obtain ⟨v3, c3⟩ := HK13.out.box.any 3 (by first | (simp only [Array.size_setIfInBounds]; omega) | omega | (simp; done))
      have f3 := HK13.out.box.f 3
      have HK13 := Lib.hid (HK13.out.set 3 (.int .i64 n13))
      go_wp2_with fail
      clear c3 f3
      generalize World.setCell w13 _ _ = w13 at *
      refine (rYes_any _).mono ?_
      rintro e w14 ⟨rfl, hs14, hb14⟩
      have HK14 := Lib.hid (HK13.out.now hb14)
      have HS14 := Lib.hid hs14
      have hA14 := Nat.ne_of_gt HK13.out.rd.lt
      clear hs14 hb14 HK13
      go_wp2_with fail
      refine (gPart_any b g r13 kReact wNoYes _ _ _ HK14.out.rd HS14.out (blk_ne hA14) (by decide)).mono ?_
      rintro e w15 ⟨rfl, hr15, ht15⟩
      have HK15 := Lib.hid (HK14.out.call hr15 ht15)
      clear hr15 ht15 HK14
      have hE := HE.out
      clear HE
      rw [bndJ] at hE
      generalize partG opsJ kReact wNoYes r13 = q at *
      obtain ⟨n15, r15⟩ := q
      dsimp only at hE HK15 ⊢
      have HE := Lib.hid hE
      clear hE
      obtain ⟨v4, c4⟩ := HK15.out.box.any 4 (by first | (simp only [Array.size_setIfInBounds]; omega) | omega | (simp; done))
      have f4 := HK15.out.box.f 4
      have HK15 := Lib.hid (HK15.out.set 4 (.bool (decide (n15 = 1))))
      clear HS14
      go_wp2_with fail
      clear c4 f4
      refine (gPartThree b g r15 kThread kNone kFlat kTree _ _ (by simp) HK15.out.rd).mono ?_
      rintro e w17 ⟨rfl, hr17, ht17⟩
      have HK17 := Lib.hid (HK15.out.call hr17 ht17)
      clear hr17 ht17 HK15
      have hE := HE.out
      clear HE
      rw [bndJ] at hE
      generalize partG opsJ kThread wThreads r15 = q at *
      obtain ⟨n17, r17⟩ := q
      dsimp only at hE HK17 ⊢
      have HE := Lib.hid hE
      clear hE
      obtain ⟨v5, c5⟩ := HK17.out.box.any 5 (by first | (simp only [Array.size_setIfInBounds]; omega) | omega | (simp; done))
      have f5 := HK17.out.box.f 5
      have HK17 := Lib.hid (HK17.out.set 5 (.int .i64 n17))
      go_wp2_with fail
      clear c5 f5
      generalize World.setCell w17 _ _ = w17 at *
      refine (rYes_any _).mono ?_
      rintro e w18 ⟨rfl, hs18, hb18⟩
      have HK18 := Lib.hid (HK17.out.now hb18)
      have HS18 := Lib.hid hs18
      have hA18 := Nat.ne_of_gt HK17.out.rd.lt
      clear hs18 hb18 HK17
      go_wp2_with fail
      refine (gPart_any b g r17 kQuote wNoYes _ _ _ HK18.out.rd HS18.out (blk_ne hA18) (by decide)).mono ?_
      rintro e w19 ⟨rfl, hr19, ht19⟩
      have HK19 := Lib.hid (HK18.out.call hr19 ht19)
      clear hr19 ht19 HK18
      have hE := HE.out
      clear HE
      rw [bndJ] at hE
      generalize partG opsJ kQuote wNoYes r17 = q at *
      obtain ⟨n19, r19⟩ := q
      dsimp only at hE HK19 ⊢
      have HE := Lib.hid hE
      clear hE
      obtain ⟨v6, c6⟩ := HK19.out.box.any 6 (by first | (simp only [Array.size_setIfInBounds]; omega) | omega | (simp; done))
      have f6 := HK19.out.box.f 6
      have HK19 := Lib.hid (HK19.out.set 6 (.bool (decide (n19 = 1))))
      clear HS18
      go_wp2_with fail
      clear c6 f6
      generalize World.setCell w19 _ _ = w19 at *
      refine (rYes_any _).mono ?_
      rintro e w20 ⟨rfl, hs20, hb20⟩
      have HK20 := Lib.hid (HK19.out.now hb20)
      have HS20 := Lib.hid hs20
      have hA20 := Nat.ne_of_gt HK19.out.rd.lt
      clear hs20 hb20 HK19
      go_wp2_with fail
      refine (gPart_any b g r19 kMention wNoYes _ _ _ HK20.out.rd HS20.out (blk_ne hA20) (by decide)).mono ?_
      rintro e w21 ⟨rfl, hr21, ht21⟩
      have HK21 := Lib.hid (HK20.out.call hr21 ht21)
      clear hr21 ht21 HK20
      have hE := HE.out
      clear HE
      rw [bndJ] at hE
      generalize partG opsJ kMention wNoYes r19 = q at *
      obtain ⟨n21, r21⟩ := q
      dsimp only at hE HK21 ⊢
      have HE := Lib.hid hE
      clear hE
      obtain ⟨v7, c7⟩ := HK21.out.box.any 7 (by first | (simp only [Array.size_setIfInBounds]; omega) | omega | (simp; done))
      have f7 := HK21.out.box.f 7
      have HK21 := Lib.hid (HK21.out.set 7 (.bool (decide (n21 = 1))))
      clear HS20
      go_wp2_with fail
      clear c7 f7
      refine (gWant_any b g r21 kSize _ HK21.out.rd).mono ?_
      rintro e w22 ⟨rfl, hr22, ht22⟩
      have HK22 := Lib.hid (HK21.out.call hr22 ht22)
      clear hr22 ht22 HK21
      have hE := HE.out
      clear HE
      rw [bndJ] at hE
      generalize wantJ [kSize] r21 = q at *
      obtain ⟨n22, r22⟩ := q
      dsimp only at hE HK22 ⊢
      have HE := Lib.hid hE
      clear hE
      go_wp2_with fail
      refine (gNumber_any b g r22 0 _ HK22.out.rd).mono ?_
      rintro e w23 ⟨rfl, hr23, ht23⟩
      have HK23 := Lib.hid (HK22.out.call hr23 ht23)
      clear hr23 ht23 HK22
      have hE := HE.out
      clear HE
      rw [bndJ] at hE
      generalize numJ 0 r22 = q at *
      obtain ⟨n23, r23⟩ := q
      dsimp only at hE HK23 ⊢
      have HE := Lib.hid hE
      clear hE
      obtain ⟨v8, c8⟩ := HK23.out.box.any 8 (by first | (simp only [Array.size_setIfInBounds]; omega) | omega | (simp; done))
      have f8 := HK23.out.box.f 8
      have HK23 := Lib.hid (HK23.out.set 8 (.int .i64 n23))
      go_wp2_with fail
      clear c8 f8
      refine (gWant_any b g r23 kParts _ HK23.out.rd).mono ?_
      rintro e w24 ⟨rfl, hr24, ht24⟩
      have HK24 := Lib.hid (HK23.out.call hr24 ht24)
      clear hr24 ht24 HK23
      have hE := HE.out
      clear HE
      rw [bndJ] at hE
      generalize wantJ [kParts] r23 = q at *
      obtain ⟨n24, r24⟩ := q
      dsimp only at hE HK24 ⊢
      have HE := Lib.hid hE
      clear hE
      go_wp2_with fail
      refine (gNumber_any b g r24 0 _ HK24.out.rd).mono ?_
      rintro e w25 ⟨rfl, hr25, ht25⟩
      have HK25 := Lib.hid (HK24.out.call hr25 ht25)
      clear hr25 ht25 HK24
      have hE := HE.out
      clear HE
      rw [bndJ] at hE
      generalize numJ 0 r24 = q at *
      obtain ⟨n25, r25⟩ := q
      dsimp only at hE HK25 ⊢
      have HE := Lib.hid hE
      clear hE
      obtain ⟨v9, c9⟩ := HK25.out.box.any 9 (by first | (simp only [Array.size_setIfInBounds]; omega) | omega | (simp; done))
      have f9 := HK25.out.box.f 9
      have HK25 := Lib.hid (HK25.out.set 9 (.int .i64 n25))
      go_wp2_with fail
      clear c9 f9
      refine (gWant_any b g r25 kSemi _ HK25.out.rd).mono ?_
      rintro e w26 ⟨rfl, hr26, ht26⟩
      have HK26 := Lib.hid (HK25.out.call hr26 ht26)
      clear hr26 ht26 HK25
      have hE := HE.out
      clear HE
      rw [bndJ] at hE
      generalize wantJ [kSemi] r25 = q at *
      obtain ⟨n26, r26⟩ := q
      dsimp only at hE HK26 ⊢
      have HE := Lib.hid hE
      clear hE
      go_wp2_with fail
      have hE := HE.out
      clear HE
      rw [bndJ] at hE
      have hgl26 := HK26.out.rd.glt
      refine (gFiles_any b g p r26 _ _ HK26.out.rd HK26.out.box HK26.out.ne hgl26 (by simp) (by simp) (by simp)).mono ?_
      rintro e w27 ⟨rfl, Af, cf, how, hkw⟩
      have hbl26 := HK26.out.rd.lt
      have hpl26 := HK26.out.box.lt
      have HKB := Lib.hid (HK26.out.onto hkw)
      have HO27 := Lib.hid how
      clear how hkw HK26 hgl26
      generalize filesG opsJ r26 = q at *
      obtain ⟨⟨f1, f2, f3⟩, r27⟩ := q
      dsimp only at hE HKB HO27 ⊢
      rw [bndJ] at hE
      have hE2 : restG opsJ r27 = restG opsJ r27 := rfl
      conv at hE2 => rhs; unfold restG; simp only [opsJ_want, opsJ_skip, opsJ_num]
      generalize restG opsJ r27 = qr at hE hE2
      have HM := Lib.hid hE
      have HE := Lib.hid hE2
      clear hE hE2
      obtain ⟨cs0, hcs0⟩ : ∃ x, x = ((((((((((((zeroCs.setIfInBounds 0 (.string (bs n4))).setIfInBounds 1 (.int .i64 e1)).setIfInBounds 2 (.int .i64 e2)).setIfInBounds 3 (.int .i64 n13)).setIfInBounds 4 (.bool (decide (n15 = 1)))).setIfInBounds 5 (.int .i64 n17)).setIfInBounds 6 (.bool (decide (n19 = 1)))).setIfInBounds 7 (.bool (decide (n21 = 1)))).setIfInBounds 8 (.int .i64 n23)).setIfInBounds 9 (.int .i64 n25)).setIfInBounds 10 (.int .i64 f1)).setIfInBounds 11 (.int .i64 f2)).setIfInBounds 12 (.slice Af f3.length cf) := ⟨_, rfl⟩
      have hkb := HKB.out
      rw [← hcs0] at hkb
      have H17 : Hid (cs0[17]? = some (.bool false)) := Lib.hid (by rw [hcs0]; simp)
      have H21 : Hid (cs0[21]? = some (.int .i64 0)) := Lib.hid (by rw [hcs0]; simp)
      have hcz : cs0.size = 22 := by rw [hcs0]; simp
      have HC0 := Lib.hid hcs0
      have HK27 : Hid (KP b g p w27 r27 cs0 w27) := Lib.hid ⟨hkb.rd, hkb.box, hkb.ne, Turn.refl _ _⟩
      have HTB := Lib.hid hkb.turn
      clear hkb HKB hcs0
      go_wp2_with fail
      refine (gPartThree b g r27 kJoin kInvite kLink kRole _ _ rfl HK27.out.rd).mono ?_
      rintro e w28 ⟨rfl, hr28, ht28⟩
      have HK28 := Lib.hid (HK27.out.call hr28 ht28)
      clear hr28 ht28 HK27
      have hE := HE.out
      clear HE
      rw [bndJ] at hE
      generalize partG opsJ kJoin wJoins r27 = q at *
      obtain ⟨n28, r28⟩ := q
      dsimp only at hE HK28 ⊢
      have HE := Lib.hid hE
      clear hE
      obtain ⟨v13, c13⟩ := HK28.out.box.any 13 (by first | (simp only [Array.size_setIfInBounds]; omega) | omega | (simp; done))
      have f13 := HK28.out.box.f 13
      have HK28 := Lib.hid (HK28.out.set 13 (.int .i64 n28))
      go_wp2_with fail
      clear c13 f13
      refine (gPartTwo b g r28 kHistory kSince kAll _ _ (by simp) HK28.out.rd).mono ?_
      rintro e w29 ⟨rfl, hr29, ht29⟩
      have HK29 := Lib.hid (HK28.out.call hr29 ht29)
      clear hr29 ht29 HK28
      have hE := HE.out
      clear HE
      rw [bndJ] at hE
      generalize partG opsJ kHistory wHistory r28 = q at *
      obtain ⟨n29, r29⟩ := q
      dsimp only at hE HK29 ⊢
      have HE := Lib.hid hE
      clear hE
      obtain ⟨v14, c14⟩ := HK29.out.box.any 14 (by first | (simp only [Array.size_setIfInBounds]; omega) | omega | (simp; done))
      have f14 := HK29.out.box.f 14
      have HK29 := Lib.hid (HK29.out.set 14 (.int .i64 n29))
      go_wp2_with fail
      clear c14 f14
      refine (gPartTwo b g r29 kRemove kNow kKey _ _ (by simp) HK29.out.rd).mono ?_
      rintro e w30 ⟨rfl, hr30, ht30⟩
      have HK30 := Lib.hid (HK29.out.call hr30 ht30)
      clear hr30 ht30 HK29
      have hE := HE.out
      clear HE
      rw [bndJ] at hE
      generalize partG opsJ kRemove wRemove r29 = q at *
      obtain ⟨n30, r30⟩ := q
      dsimp only at hE HK30 ⊢
      have HE := Lib.hid hE
      clear hE
      obtain ⟨v15, c15⟩ := HK30.out.box.any 15 (by first | (simp only [Array.size_setIfInBounds]; omega) | omega | (simp; done))
      have f15 := HK30.out.box.f 15
      have HK30 := Lib.hid (HK30.out.set 15 (.int .i64 n30))
      go_wp2_with fail
      clear c15 f15
      refine (gWant_any b g r30 kReceipts _ HK30.out.rd).mono ?_
      rintro e w31 ⟨rfl, hr31, ht31⟩
      have HK31 := Lib.hid (HK30.out.call hr31 ht31)
      clear hr31 ht31 HK30
      have hE := HE.out
      clear HE
      rw [bndJ] at hE
      generalize wantJ [kReceipts] r30 = q at *
      obtain ⟨n31, r31⟩ := q
      dsimp only at hE HK31 ⊢
      have HE := Lib.hid hE
      clear hE
      go_wp2_with fail
      refine (rLevels_any _).mono ?_
      rintro e w32 ⟨rfl, hs32, hb32⟩
      have HK32 := Lib.hid (HK31.out.now hb32)
      have HS32 := Lib.hid hs32
      have hA32 := Nat.ne_of_gt HK31.out.rd.lt
      clear hs32 hb32 HK31
      go_wp2_with fail
      refine (gOne_any b g r31 wReceipts _ _ _ HK32.out.rd HS32.out (by decide)).mono ?_
      rintro e w33 ⟨rfl, hr33, ht33⟩
      have HK33 := Lib.hid (HK32.out.call hr33 ht33)
      clear hr33 ht33 HK32
      have hE := HE.out
      clear HE
      rw [bndJ] at hE
      generalize wantJ wReceipts r31 = q at *
      obtain ⟨n33, r33⟩ := q
      dsimp only at hE HK33 ⊢
      have HE := Lib.hid hE
      clear hE
      obtain ⟨v16, c16⟩ := HK33.out.box.any 16 (by first | (simp only [Array.size_setIfInBounds]; omega) | omega | (simp; done))
      have f16 := HK33.out.box.f 16
      have HK33 := Lib.hid (HK33.out.set 16 (.int .i64 n33))
      clear HS32
      have HSk := Lib.hid (skip_is kBatch r33 HK33.out.rd.fine.ne)
      have hE := HE.out
      clear HE
      rw [bndJ] at hE
      generalize skipJ [kBatch] r33 = qb at hE HSk
      have HE := Lib.hid hE
      clear hE
      go_upto_if 109 with fail
      clear c16 f16
      generalize World.setCell w33 _ _ = w33 at *
      refine (is_any b g r33 kBatch _ HK33.out.rd).mono ?_
      rintro e w34 ⟨rfl, hb34⟩
      have HK34 := Lib.hid (HK33.out.now hb34)
      clear hb34 HK33
      go_upto_if 109 with fail
      go_cut [] (fun wx => KP b g p w27 qb.2 (((((cs0.setIfInBounds 13 (.int .i64 n28)).setIfInBounds 14 (.int .i64 n29)).setIfInBounds 15 (.int .i64 n30)).setIfInBounds 16 (.int .i64 n33)).setIfInBounds 17 (.bool (decide (qb.1 = 0)))) wx)
      case first =>
        cases his : isF kBatch r33 with
        | true =>
          have hSk := HSk.out
          rw [his, if_pos rfl] at hSk
          obtain ⟨kk, hkk, e1', g1', hk1⟩ := HK34.out.stepAt (is_head his)
          have HK35 := Lib.hid hk1
          have HS := Lib.hid hSk
          clear HSk hSk his hk1 HK34 HE
          obtain ⟨v17, c17⟩ := HK35.out.box.any 17 (by first | (simp only [Array.size_setIfInBounds]; omega) | omega | (simp; done))
          have f17 := HK35.out.box.f 17
          have HK35 := Lib.hid (HK35.out.set 17 (.bool true))
          go_wp2_with fail
          go_meet
          rw [HS.out]
          exact HK35.out
        | false =>
          have hSk := HSk.out
          rw [his, if_neg (by decide)] at hSk
          have HS := Lib.hid hSk
          clear HSk hSk his HE
          go_wp2_with fail
          go_meet
          rw [HS.out]
          show KP b g p w27 r33 (((((cs0.setIfInBounds 13 (.int .i64 n28)).setIfInBounds 14 (.int .i64 n29)).setIfInBounds 15 (.int .i64 n30)).setIfInBounds 16 (.int .i64 n33)).setIfInBounds 17 (.bool false)) _
          rw [set_same _ 17 _ (by simpa using H17.out)]
          exact HK34.out
      case rest =>
        have HK35 := Lib.hid hcut
        clear hcut HK34 HSk
        obtain ⟨n35, r35⟩ := qb
        dsimp only at HE HK35 ⊢
        go_wp2_with fail
        refine (gWant_any b g r35 kSemi _ HK35.out.rd).mono ?_
        rintro e w36 ⟨rfl, hr36, ht36⟩
        have HK36 := Lib.hid (HK35.out.call hr36 ht36)
        clear hr36 ht36 HK35
        have hE := HE.out
        clear HE
        rw [bndJ] at hE
        generalize wantJ [kSemi] r35 = q at *
        obtain ⟨n36, r36⟩ := q
        dsimp only at hE HK36 ⊢
        have HE := Lib.hid hE
        clear hE
        go_wp2_with fail
        refine (gWant_any b g r36 kRate _ HK36.out.rd).mono ?_
        rintro e w37 ⟨rfl, hr37, ht37⟩
        have HK37 := Lib.hid (HK36.out.call hr37 ht37)
        clear hr37 ht37 HK36
        have hE := HE.out
        clear HE
        rw [bndJ] at hE
        generalize wantJ [kRate] r36 = q at *
        obtain ⟨n37, r37⟩ := q
        dsimp only at hE HK37 ⊢
        have HE := Lib.hid hE
        clear hE
        go_wp2_with fail
        refine (gNumber_any b g r37 0 _ HK37.out.rd).mono ?_
        rintro e w38 ⟨rfl, hr38, ht38⟩
        have HK38 := Lib.hid (HK37.out.call hr38 ht38)
        clear hr38 ht38 HK37
        have hE := HE.out
        clear HE
        rw [bndJ] at hE
        generalize numJ 0 r37 = q at *
        obtain ⟨n38, r38⟩ := q
        dsimp only at hE HK38 ⊢
        have HE := Lib.hid hE
        clear hE
        obtain ⟨v18, c18⟩ := HK38.out.box.any 18 (by first | (simp only [Array.size_setIfInBounds]; omega) | omega | (simp; done))
        have f18 := HK38.out.box.f 18
        have HK38 := Lib.hid (HK38.out.set 18 (.int .i64 n38))
        go_wp2_with fail
        clear c18 f18
        refine (gWant_any b g r38 kDown _ HK38.out.rd).mono ?_
        rintro e w39 ⟨rfl, hr39, ht39⟩
        have HK39 := Lib.hid (HK38.out.call hr39 ht39)
        clear hr39 ht39 HK38
        have hE := HE.out
        clear HE
        rw [bndJ] at hE
        generalize wantJ [kDown] r38 = q at *
        obtain ⟨n39, r39⟩ := q
        dsimp only at hE HK39 ⊢
        have HE := Lib.hid hE
        clear hE
        go_wp2_with fail
        refine (gNumber_any b g r39 0 _ HK39.out.rd).mono ?_
        rintro e w40 ⟨rfl, hr40, ht40⟩
        have HK40 := Lib.hid (HK39.out.call hr40 ht40)
        clear hr40 ht40 HK39
        have hE := HE.out
        clear HE
        rw [bndJ] at hE
        generalize numJ 0 r39 = q at *
        obtain ⟨n40, r40⟩ := q
        dsimp only at hE HK40 ⊢
        have HE := Lib.hid hE
        clear hE
        obtain ⟨v19, c19⟩ := HK40.out.box.any 19 (by first | (simp only [Array.size_setIfInBounds]; omega) | omega | (simp; done))
        have f19 := HK40.out.box.f 19
        have HK40 := Lib.hid (HK40.out.set 19 (.int .i64 n40))
        go_wp2_with fail
        clear c19 f19
        refine (gWant_any b g r40 kOf _ HK40.out.rd).mono ?_
        rintro e w41 ⟨rfl, hr41, ht41⟩
        have HK41 := Lib.hid (HK40.out.call hr41 ht41)
        clear hr41 ht41 HK40
        have hE := HE.out
        clear HE
        rw [bndJ] at hE
        generalize wantJ [kOf] r40 = q at *
        obtain ⟨n41, r41⟩ := q
        dsimp only at hE HK41 ⊢
        have HE := Lib.hid hE
        clear hE
        go_wp2_with fail
        refine (gNumber_any b g r41 0 _ HK41.out.rd).mono ?_
        rintro e w42 ⟨rfl, hr42, ht42⟩
        have HK42 := Lib.hid (HK41.out.call hr42 ht42)
        clear hr42 ht42 HK41
        have hE := HE.out
        clear HE
        rw [bndJ] at hE
        generalize numJ 0 r41 = q at *
        obtain ⟨n42, r42⟩ := q
        dsimp only at hE HK42 ⊢
        have HE := Lib.hid hE
        clear hE
        obtain ⟨v20, c20⟩ := HK42.out.box.any 20 (by first | (simp only [Array.size_setIfInBounds]; omega) | omega | (simp; done))
        have f20 := HK42.out.box.f 20
        have HK42 := Lib.hid (HK42.out.set 20 (.int .i64 n42))
        go_wp2_with fail
        clear c20 f20
        refine (gWant_any b g r42 kSemi _ HK42.out.rd).mono ?_
        rintro e w43 ⟨rfl, hr43, ht43⟩
        have HK43 := Lib.hid (HK42.out.call hr43 ht43)
        clear hr43 ht43 HK42
        have hE := HE.out
        clear HE
        rw [bndJ] at hE
        generalize wantJ [kSemi] r42 = q at *
        obtain ⟨n43, r43⟩ := q
        dsimp only at hE HK43 ⊢
        have HE := Lib.hid hE
        clear hE
        have hE := HE.out
        rw [bndJ, retJ] at hE
        have HNo := Lib.hid (keep_none r43)
        have HYes := Lib.hid (keep_some r43)
        have HSk := Lib.hid (skip_is kKeep r43 HK43.out.rd.fine.ne)
        generalize keepG opsJ r43 = qk at *
        have HE := Lib.hid hE
        clear hE
        go_upto_if 138 with fail
        refine (is_any b g r43 kKeep _ HK43.out.rd).mono ?_
        rintro e w44 ⟨rfl, hb44⟩
        have HK44 := Lib.hid (HK43.out.now hb44)
        clear hb44 HK43
        go_upto_if 138 with fail
        go_cut [] (fun wx => KP b g p w27 qk.2 (((((((((cs0.setIfInBounds 13 (.int .i64 n28)).setIfInBounds 14 (.int .i64 n29)).setIfInBounds 15 (.int .i64 n30)).setIfInBounds 16 (.int .i64 n33)).setIfInBounds 17 (.bool (decide (n35 = 0)))).setIfInBounds 18 (.int .i64 n38)).setIfInBounds 19 (.int .i64 n40)).setIfInBounds 20 (.int .i64 n42)).setIfInBounds 21 (.int .i64 qk.1)) wx)
        case first =>
          cases his : isF kKeep r43 with
          | true =>
            have hSk := HSk.out
            rw [his, if_pos rfl] at hSk
            have hY := HYes.out (by rw [hSk])
            rw [hSk] at hY
            have HY := Lib.hid hY
            obtain ⟨kk, hkk, e1', g1', hk1⟩ := HK44.out.stepAt (is_head his)
            have HK45 := Lib.hid hk1
            clear HSk hSk his hk1 HK44 HE HYes HNo hY
            dsimp only at HY
            go_wp2_with fail
            generalize stepJ r43 = r45 at *
            refine (gNumber_any b g r45 1 _ HK45.out.rd).mono ?_
            rintro e w46 ⟨rfl, hr46, ht46⟩
            have HK46 := Lib.hid (HK45.out.call hr46 ht46)
            clear hr46 ht46 HK45 e1' g1'
            generalize numJ 1 r45 = q at *
            obtain ⟨n46, r46⟩ := q
            dsimp only at HY HK46 ⊢
            obtain ⟨v21, c21⟩ := HK46.out.box.any 21 (by first | (simp only [Array.size_setIfInBounds]; omega) | omega | (simp; done))
            have f21 := HK46.out.box.f 21
            have HK46 := Lib.hid (HK46.out.set 21 (.int .i64 n46))
            go_wp2_with fail
            refine (gWant_any b g r46 kSemi _ HK46.out.rd).mono ?_
            rintro e w47 ⟨rfl, hr47, ht47⟩
            have HK47 := Lib.hid (HK46.out.call hr47 ht47)
            clear hr47 ht47 HK46
            go_wp2_with fail
            go_meet
            rw [HY.out]
            exact HK47.out
          | false =>
            have hSk := HSk.out
            rw [his, if_neg (by decide)] at hSk
            have hN := HNo.out (by rw [hSk]; exact show ¬ ((-1 : Int) = 0) by decide)
            rw [hSk] at hN
            have HN := Lib.hid hN
            clear HSk hSk his HE HYes HNo hN
            go_wp2_with fail
            go_meet
            rw [HN.out]
            show KP b g p w27 r43 ((((((((cs0.setIfInBounds 13 (.int .i64 n28)).setIfInBounds 14 (.int .i64 n29)).setIfInBounds 15 (.int .i64 n30)).setIfInBounds 16 (.int .i64 n33)).setIfInBounds 17 (.bool (decide (n35 = 0)))).setIfInBounds 18 (.int .i64 n38)).setIfInBounds 19 (.int .i64 n40)).setIfInBounds 20 (.int .i64 n42) |>.setIfInBounds 21 (.int .i64 0)) _
            rw [set_same _ 21 _ (by simpa using H21.out)]
            exact HK44.out
        case rest =>
          have HK45 := Lib.hid hcut
          clear hcut HK44 HSk HNo HYes
          obtain ⟨n45, r28⟩ := qk
          dsimp only at HE HK45 ⊢
          obtain ⟨w28, hw28⟩ : ∃ x, x = wc := ⟨wc, rfl⟩
          subst hw28
          have hE := HE.out
          have hM := HM.out
          rw [hE] at hM
          dsimp only at hM
          rw [bndJ, retJ] at hM
          have HE := Lib.hid hM
          clear hE hM HM
          have hcs := cs_eq n4 e1 e2 n13 n15 n17 n19 n21 n23 n25 f1 f2 f3 ⟨n28, n29, n30, n33, decide (n35 = 0), n38, n40, n42, n45⟩ Af cf
          rw [← HC0.out] at hcs
          unfold restCs at hcs
          dsimp only at hcs
          have hk28 : KP b g p w1 r28 _ w28 := ⟨HK45.out.rd, HK45.out.box, HK45.out.ne, HTB.out.trans HK45.out.turn fun _ hi => .inl hi⟩
          rw [hcs] at hk28
          have HO28 := Lib.hid (HO27.out.turn (w' := w28) (fun i hi hlt => HK45.out.turn.block i hlt (fun hf => by have := HO27.out.blk_lt hi; rcases hf with hf | hf <;> omega)))
          obtain ⟨P, hP⟩ : ∃ P, P = profOf n4 (e1, e2) n13 n15 n17 n19 n21 n23 n25 (f1, f2, f3) ⟨n28, n29, n30, n33, decide (n35 = 0), n38, n40, n42, n45⟩ := ⟨_, rfl⟩
          have HT : Hid (P.types = f3.map bs) := Lib.hid (by rw [hP]; rfl)
          rw [← hP] at hk28 HE
          have HK28 := Lib.hid hk28
          clear hk28 hP hcs HC0 H17 H21 hcz HTB HK45 HO27
          have HStop := Lib.hid (stop_eq r28 HK28.out.rd.fine.ne)
          go_upto_region 47 with fail
          go_cut [169] (fun v wx => v = .bool (stopB r28) ∧ Below w28.heap.size w28 wx)
          case first =>
            have hrd := HK28.out.rd
            have HFi := Lib.hid hrd.fine.ne
            have HSB : Hid (∀ t l, r28.toks = t :: l → stopB r28 = (decide (r28.err = 0) && (t.sh.kind != 3))) := Lib.hid (fun t l h => by unfold stopB; rw [h])
            generalize stopB r28 = sb at *
            clear HStop HE HK28
            obtain ⟨toks, pos, err⟩ := r28
            cases toks with
            | nil => exact absurd rfl HFi.out
            | cons t0 l0 =>
              obtain ⟨off, n, c9, k, q1, q2, q3, hgb, q5, q6, q7⟩ := hrd.box
              obtain ⟨u0, _, _, _⟩ := q7.head
              have k0 := box_cell q6 0 _ rfl
              have k1 := box_cell q6 1 _ rfl
              have k3 := box_cell q6 3 _ rfl
              have hkn : (k : Int) < n := by simp at q1; omega
              have hkn2 : k < n := by omega
              clear q6 q7 hrd HFi q1
              have hsb := HSB.out t0 l0 rfl
              dsimp only at hsb
              by_cases he : err = 0
              · subst he
                cases hk : (t0.sh.kind != 3) with
                | true =>
                  obtain rfl : sb = true := by rw [hsb, hk]; rfl
                  clear hsb
                  go_wp2_with fail
                  go_quiet (fail)
                  go_wp2_with fail
                  go_meet
                  exact ⟨rfl, below_drewN (Below.refl _ _) _⟩
                | false =>
                  obtain rfl : sb = false := by rw [hsb, hk]; rfl
                  clear hsb
                  go_wp2_with fail
                  go_quiet (fail)
                  go_wp2_with fail
                  go_meet
                  exact ⟨rfl, below_drewN (Below.refl _ _) _⟩
              · obtain rfl : sb = false := by rw [hsb]; simp [he]
                have he2 : (err == 0) = false := by simpa using he
                clear hsb he
                go_wp2_with fail
                go_quiet (fail)
                go_wp2_with fail
                go_meet
                exact ⟨rfl, below_drewN (Below.refl _ _) _⟩
          case rest =>
            obtain ⟨rfl, hb28⟩ := hcut
            obtain ⟨w29, hw29⟩ : ∃ x, x = wc := ⟨wc, rfl⟩
            subst hw29
            have HK30 := Lib.hid (HK28.out.now hb28)
            have HO30 := Lib.hid (HO28.out.below hb28)
            clear hb28 HK28 HO28
            generalize stopB r28 = sb at *
            generalize (stopJ r28).2 = rs at *
            go_upto_if 169 with fail
            go_cut [] (fun wx => KP b g p w1 rs (P.cs Af cf) wx ∧ Turn (One b) w29 wx)
            case first =>
              cases sb with
              | true =>
                have HS := Lib.hid (HStop.out.trans (if_pos rfl))
                clear HStop
                go_wp2_with fail
                refine (gFail_any b g r28 12 _ HK30.out.rd).mono ?_
                rintro e w31 ⟨rfl, hr29, ht29⟩
                have HK31 := Lib.hid (HK30.out.call hr29 ht29)
                have HT29 := Lib.hid ht29
                clear hr29 ht29
                go_wp2_with fail
                go_meet
                exact ⟨by rw [HS.out]; exact HK31.out, HT29.out⟩
              | false =>
                have HS := Lib.hid (HStop.out.trans (if_neg (by decide)))
                clear HStop
                go_wp2_with fail
                go_meet
                exact ⟨by rw [HS.out]; exact HK30.out, Turn.refl _ _⟩
            case rest =>
              obtain ⟨hk, ht⟩ := hcut
              have HO31 := Lib.hid (HO30.out.turn (w' := wc) (fun i hi hlt => ht.block i hlt (fun e => by have := HO30.out.blk_lt hi; omega)))
              have HK31 := Lib.hid hk
              clear hk ht HK30 HO30 HStop
              obtain ⟨off, n, c9, k, q1, q2, q3, hgb, q5, q6, q7⟩ := HK31.out.rd.box
              have k2 := box_cell q6 2 _ rfl
              have k3 := box_cell q6 3 _ rfl
              clear q7 q6 q5 q1 q2 q3
              obtain ⟨toks, pos, err⟩ := rs
              dsimp only at k2 k3
              have HBx : Hid (Below w.heap.size w wc) := Lib.hid (HB1.out.trans (HK31.out.turn.to_below HB1.out.size (fun i hi => by rcases hi with hi | hi <;> omega)))
              have HZx : Hid (PBox w.heap.size zeroCs wc) := Lib.hid (HZ1.out.turn HK31.out.turn (fun hi => by rcases hi with hi | hi <;> omega))
              have hqlt := HZx.out.lt
              by_cases he : err = 0
              · have HPL : Hid (parseL l = (P, 0, 0)) := Lib.hid (by rw [HP.out, HE.out, if_pos he])
                have HSz : Hid (P.name.size ≤ 20 ∧ P.types.length ≤ 20 ∧ ∀ s ∈ P.types, s.size ≤ 20) := Lib.hid (by have := right_sizes (HRt.out (by rw [HE.out]; exact he)); rw [HE.out] at this; exact this)
                subst he
                go_wp2_with (first
                  | ((with_reducible show wpList _ _ _ (Oper.mk _ (Op.load 24 _) _ _ _ _ :: _) _ _); refine wpList_load_w rfl 24 (.tmp 9) rfl p 0 rfl (P.cs Af cf).toList _ HK31.out.box.range Tryd.underlying24 rfl (by kernel_rfl) ?_)
                  | ((with_reducible show wpList _ _ _ (Oper.mk _ (Op.store 24 _ _) _ _ _ _ :: _) _ _); refine wpList_store_box rfl 24 _ _ rfl w.heap.size (P.cs Af cf) rfl rfl HZx.out.there (by kernel_rfl) (by simp [Value.oneCell']) ?_; intro wS hrS htS hgS; have HRS := Lib.hid hrS; have HGS := Lib.hid hgS; clear hrS htS hgS)
                  | fail)
                refine ret_box3 2 3 4 24 rfl w.heap.size (P.cs Af cf).toList _ (.int .i64 0) (.int .i64 0) rfl rfl rfl HRS.out Tryd.underlying24 rfl (by kernel_rfl) rfl ?_
                have hgs := HGS.out
                have hsz := HSz.out
                have hoS := HO31.out.turn (w' := wS) (fun i hi hlt => hgs.block i hlt (fun e => by injection e with e; have := HO31.out.blk_lt hi; omega))
                refine ⟨HBx.out.grown hgs (by omega) (fun k hk => by injection hk with hk; omega), Af, cf, by rw [HPL.out], ?_, fun j hj => by have := HO31.out.blk_lt hj; omega, ?_⟩
                · rw [HPL.out]
                  refine ⟨?_, by show P.name.size ≤ _; omega, by show P.types.length ≤ _; omega, fun s hs => by have := hsz.2.2 s hs; omega⟩
                  show RdS wS wS.heap.size Af P.types
                  rw [HT.out]
                  exact strE_rd (hoS.rd strELay)
                · rw [HPL.out]
                  show P.types.length ≤ cf
                  rw [HT.out, List.length_map]
                  exact own_cap HO31.out
              · have HPL : Hid (parseL l = (zeroProf, pos, err)) := Lib.hid (by rw [HP.out, HE.out, if_neg he])
                have he2 : (err != 0) = true := by simpa using he
                have hqb : w.heap.size ≠ b := by omega
                clear he
                go_wp2_with fail
                refine wp_region_J (S := fun w' => w'.cell? ⟨b, 2, none⟩ = some (.int .i64 pos) ∧ w'.cell? ⟨b, 3, none⟩ = some (.int .i64 err)) (fun _ => false) (by kernel_rfl) (⟨k2, k3⟩) (fun hHeld => ?_)
                clear k2 k3
                refine wpAnyJ_pure (i := 0) (v := ?_) rfl (by kernel_rfl) (by kernel_rfl) (by kernel_rfl) (fun _ _ _ h => h) (Or.inl ⟨by rfl, ?_⟩) ?_
                rotate_left
                · intro wq _
                  go_simp
                  try with_reducible rfl
                simp only [Act.put, List.setIfInBounds_toArray, List.set_cons_zero, List.set_cons_succ]
                refine wpAnyJ_take (i := 1) (v := ?_) rfl (by kernel_rfl) (by kernel_rfl) (by kernel_rfl) (by kernel_rfl) (fun _ _ _ h => h) (Or.inl ⟨by rfl, ?_⟩) hHeld ?_
                rotate_left
                · intro wq hSq
                  skip
                  go_simp
                  try with_reducible rfl
                simp only [Act.put, List.setIfInBounds_toArray, List.set_cons_zero, List.set_cons_succ]
                refine wpAnyJ_take (i := 2) (v := ?_) rfl (by kernel_rfl) (by kernel_rfl) (by kernel_rfl) (by kernel_rfl) (fun _ _ _ h => h) (Or.inl ⟨by rfl, ?_⟩) hHeld ?_
                rotate_left
                · intro wq hSq
                  skip
                  go_simp
                  try with_reducible rfl
                simp only [Act.put, List.setIfInBounds_toArray, List.set_cons_zero, List.set_cons_succ]
                refine wpAnyJ_take (i := 3) (v := ?_) rfl (by kernel_rfl) (by kernel_rfl) (by kernel_rfl) (by kernel_rfl) (fun _ _ _ h => h) (Or.inl ⟨by rfl, ?_⟩) hHeld ?_
                rotate_left
                · intro wq hSq
                  skip
                  go_simp
                  try with_reducible rfl
                simp only [Act.put, List.setIfInBounds_toArray, List.set_cons_zero, List.set_cons_succ]
                refine wpAnyJ_take (i := 4) (v := ?_) rfl (by kernel_rfl) (by kernel_rfl) (by kernel_rfl) (by kernel_rfl) (fun _ _ _ h => h) (Or.inl ⟨by rfl, ?_⟩) hHeld ?_
                rotate_left
                · intro wq hSq
                  obtain ⟨h1, h2⟩ := hSq
                  go_simp
                  try with_reducible rfl
                simp only [Act.put, List.setIfInBounds_toArray, List.set_cons_zero, List.set_cons_succ]
                refine wpAnyJ_take (i := 5) (v := ?_) rfl (by kernel_rfl) (by kernel_rfl) (by kernel_rfl) (by kernel_rfl) (fun _ _ _ h => h) (Or.inl ⟨by rfl, ?_⟩) hHeld ?_
                rotate_left
                · intro wq hSq
                  skip
                  go_simp
                  try with_reducible rfl
                simp only [Act.put, List.setIfInBounds_toArray, List.set_cons_zero, List.set_cons_succ]
                refine wpAnyJ_take (i := 6) (v := ?_) rfl (by kernel_rfl) (by kernel_rfl) (by kernel_rfl) (by kernel_rfl) (fun _ _ _ h => h) (Or.inl ⟨by rfl, ?_⟩) hHeld ?_
                rotate_left
                · intro wq hSq
                  skip
                  go_simp
                  try with_reducible rfl
                simp only [Act.put, List.setIfInBounds_toArray, List.set_cons_zero, List.set_cons_succ]
                refine wpAnyJ_take (i := 7) (v := ?_) rfl (by kernel_rfl) (by kernel_rfl) (by kernel_rfl) (by kernel_rfl) (fun _ _ _ h => h) (Or.inl ⟨by rfl, ?_⟩) hHeld ?_
                rotate_left
                · intro wq hSq
                  skip
                  go_simp
                  try with_reducible rfl
                simp only [Act.put, List.setIfInBounds_toArray, List.set_cons_zero, List.set_cons_succ]
                refine wpAnyJ_take (i := 8) (v := ?_) rfl (by kernel_rfl) (by kernel_rfl) (by kernel_rfl) (by kernel_rfl) (fun _ _ _ h => h) (Or.inl ⟨by rfl, ?_⟩) hHeld ?_
                rotate_left
                · intro wq hSq
                  obtain ⟨h1, h2⟩ := hSq
                  go_simp
                  try with_reducible rfl
                simp only [Act.put, List.setIfInBounds_toArray, List.set_cons_zero, List.set_cons_succ]
                refine wpAnyJ_one (i := 9) rfl (by kernel_rfl) (fun K hK => ?_)
                have HTh := Lib.hid (show wc.drew.there w.heap.size 0 zeroCs.size from HZx.out.there)
                simp only [List.getElem_toArray, List.getElem_cons_succ, List.getElem_cons_zero, Region.wanted, if_true]
                have key := fun (K : Act → World → Prop) (Q : Exit → Act → World → Prop) (a : Act) (op : Oper) (ho : op.op = .store 24 (.tmp 2) (.tmp 177)) (hx : a.eval (.tmp 2) = .pointer (some ⟨w.heap.size, 0, none⟩)) (hy : a.eval (.tmp 177) = .agg zeroCs) (h : K (a.put op.dst undef) (wc.drew.setCells w.heap.size 0 zeroCs.toList)) => wp_store_mid (P := Tryd.prog) (op := op) (a := a) (w := wc.drew) (K := K) (Q := Q) 24 (.tmp 2) (.tmp 177) ho w.heap.size 0 zeroCs hx hy HTh.out (by kernel_rfl) zeroOne h
                refine key _ _ _ _ ?kho ?khx ?khy ?_
                case kho => rfl
                case khx => simp [Act.eval]
                case khy => simp [Act.eval]
                clear key
                simp only [List.setIfInBounds_toArray]
                have HGs := Lib.hid (grown_setCells wc.drew w.heap.size 0 zeroCs.toList)
                have HRs := Lib.hid (World.rangeAt_setCells_same wc.drew w.heap.size 0 zeroCs.toList HTh.out)
                generalize World.setCells wc.drew w.heap.size 0 zeroCs.toList = wS at HGs HRs ⊢
                refine hK.out _ _ (fun _ h => ⟨(World.cell?_of_block (HGs.out.block b HK31.out.rd.lt (fun e => by injection e with e; exact hqb e.symm))).trans h.1, (World.cell?_of_block (HGs.out.block b HK31.out.rd.lt (fun e => by injection e with e; exact hqb e.symm))).trans h.2⟩) ?_
                clear hK K
                refine wpAnyJ_pure (i := 10) (v := ?_) rfl (by kernel_rfl) (by kernel_rfl) (by kernel_rfl) (fun _ _ _ h => h) (Or.inl ⟨by rfl, ?_⟩) ?_
                rotate_left
                · intro wq _
                  go_simp
                  try with_reducible rfl
                simp only [Act.put, List.setIfInBounds_toArray, List.set_cons_zero, List.set_cons_succ]
                refine wpAnyJ_pure (i := 11) (v := ?_) rfl (by kernel_rfl) (by kernel_rfl) (by kernel_rfl) (fun _ _ _ h => h) (Or.inl ⟨by rfl, ?_⟩) ?_
                rotate_left
                · intro wq _
                  go_simp
                  try with_reducible rfl
                simp only [Act.put, List.setIfInBounds_toArray, List.set_cons_zero, List.set_cons_succ]
                refine wpAnyJ_done (by kernel_rfl) ?_ _
                go_wp2
                refine ret_box3 2 3 4 24 rfl w.heap.size zeroCs.toList _ (.int .i64 pos) (.int .i64 err) rfl rfl rfl HRs.out Tryd.underlying24 rfl (by kernel_rfl) rfl ?_
                refine ⟨HBx.out.drew.grown HGs.out (by show w.heap.size ≤ wc.heap.size; omega) (fun k hk => by injection hk with hk; omega), none, 0, by rw [HPL.out]; rfl, by rw [HPL.out]; exact okZero _, by simp [slBlk], by rw [HPL.out]; exact Nat.le_refl _⟩
end Go.Proofs.YtnaejabgkfhlbaaDoor
