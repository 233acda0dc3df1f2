/- Contracts and plain laws, joined: JnS. -/
import Derived.Test.YtoicnokidlkjfaaDoorQbb
import Derived.Test.YtoicnokidlkjfaaDoorQaj
import Derived.Test.YtoicnokidlkjfaaDoorQao
import Derived.Test.YtoicnokidlkjfaaDoorQad
import Derived.Deep.CutBlock
/- The walk of JournalTorn. -/
namespace Go.Proofs.YtoicnokidlkjfaaDoor
open Go.RowKit
set_option maxRecDepth 100000

/-- Where the forms end. -/
def endsL (l : List (List UInt8)) (k : Nat) : List Int := (List.range k).map fun j => ((formsF (l.take (j + 1))).length : Int)
theorem endsL_len (l : List (List UInt8)) (k : Nat) : (endsL l k).length = k := by simp [endsL]
theorem endsL_succ (l : List (List UInt8)) (k : Nat) : endsL l (k + 1) = endsL l k ++ [((formsF (l.take (k + 1))).length : Int)] := by simp [endsL, List.range_succ]
theorem endsL_get (l : List (List UInt8)) (n k : Nat) (h : k < (endsL l n).length) : (endsL l n)[k] = ((formsF (l.take (k + 1))).length : Int) := by simp [endsL]
theorem Rel.set0 {A B : List UInt8} (h : Rel A B) (i : Nat) : Rel (A.set i 0) B := fun j c hj => by
  rw [List.getElem?_set] at hj
  split at hj
  · split at hj
    · exact .inr (Option.some.inj hj).symm
    · cases hj
  · exact h j c hj
theorem Rel.take {A B : List UInt8} (h : Rel A B) (n : Nat) : Rel (A.take n) B := fun j c hj => by
  rw [List.getElem?_take] at hj
  split at hj
  · exact h j c hj
  · cases hj
theorem torn_bound (l : List (List UInt8)) (h8 : l.length ≤ 8) (hs : ∀ t ∈ l, t.length ≤ 200) (k : Nat) : (formsF (l.take k)).length ≤ 2080 := by
  have h1 := forms_bound (l.take k) (fun t ht => hs t (List.mem_of_mem_take ht))
  have h2 : (l.take k).length ≤ 8 := by rw [List.length_take]; omega
  omega
/-- The law's test. -/
theorem torn_test (l : List (List UInt8)) (T : List UInt8) (k : Nat) (e : Nat) (he : e = (formsF (l.take (k + 1))).length) : (formsF (l.take (k + 1)) <+: T) ↔ (e ≤ T.length ∧ T.take e = (formsF l).take e) := by
  have hp : formsF (l.take (k + 1)) <+: formsF l := by
    have h := formsF_mono (l := l) (a := min (k + 1) l.length) (b := l.length) (by omega)
    rw [List.take_length] at h
    by_cases hk : k + 1 ≤ l.length
    · rwa [Nat.min_eq_left hk] at h
    · rw [List.take_of_length_le (by omega)]
      exact List.prefix_refl _
  have h2 := List.prefix_iff_eq_take.1 hp
  rw [← he] at h2
  rw [← h2]
  constructor
  · intro h
    have h3 := List.prefix_iff_eq_take.1 h
    rw [← he] at h3
    exact ⟨by rw [he]; exact h.length_le, h3.symm⟩
  · rintro ⟨_, h3⟩
    rw [← h3]
    exact List.take_prefix _ _
theorem torn_many {l : List (List UInt8)} {T : List UInt8} (hs : ∀ t ∈ l, t.length ≤ 200) (hr : Rel T (formsF l)) (hl : T.length ≤ (formsF l).length) {k : Nat} (hk : k ≤ l.length) (hp : formsF (l.take k) <+: T)
    (hn : k < l.length → ¬ formsF (l.take (k + 1)) <+: T) : recs T = l.take k := by
  obtain ⟨m, a1, a2, a3, a4⟩ := recs_torn l T hs hr hl
  rw [a2]
  congr 1
  rcases Nat.lt_trichotomy m k with h | h | h
  · exact absurd ((formsF_mono (l := l) (by omega : m + 1 ≤ k)).trans hp) (a4 (by omega))
  · exact h
  · exact absurd ((formsF_mono (l := l) (by omega : k + 1 ≤ m)).trans a3) (hn (by omega))
theorem same_refl (xs : List (List UInt8)) (A B : Option Addr) (c d : Nat) (w : World) (hr : RdL 1 strE w w.heap.size A xs) (hs : RdL 1 strE w w.heap.size B xs) (hx : xs.length ≤ 9223372036854775807) :
    Calls Tryd.prog 15 #[.slice A xs.length c, .slice B xs.length d] w fun e w' => e = .returned (.bool true) ∧ Below w.heap.size w w' := by
  refine (sameS_any xs xs A B c d w hr hs hx hx).mono ?_
  rintro e w' ⟨rfl, hb⟩
  exact ⟨by simp, hb⟩
/-- Between two appends. -/
structure TornS (l : List (List UInt8)) (S : DS) (k : Nat) : Prop where
  up : Up S
  now : S.now 0 = formsF (l.take k)
  keep : S.keep.length = 0
  one : S.now 1 = []
theorem TornS.step {l : List (List UInt8)} {S : DS} {k : Nat} (h : TornS l S k) (h8 : l.length ≤ 8) (hs : ∀ t ∈ l, t.length ≤ 200) (hk : k < l.length) :
    appC S ⟨0, l.take k, false⟩ l[k] = 0 ∧ appJ S ⟨0, l.take k, false⟩ l[k] = ⟨0, l.take (k + 1), false⟩ ∧ TornS l (appS S ⟨0, l.take k, false⟩ l[k]) (k + 1) := by
  have h1 := torn_bound l h8 hs k
  have h2 := formF_len l[k] (by have := hs l[k] (List.getElem_mem hk); omega)
  have h3 := hs l[k] (List.getElem_mem hk)
  obtain ⟨a1, a2, a3, a4, a5⟩ := up_append h.up (J := ⟨0, l.take k, false⟩) rfl ⟨Int.le_refl 0, (by omega : (0 : Int) ≤ 15)⟩ h.now l[k] (by omega) (by show (formsF (l.take k)).length + _ ≤ _; omega)
  have e := List.take_succ_eq_append_getElem hk
  refine ⟨a1, by rw [a2, e], a3, by rw [e]; exact a4, by rw [appS_keep]; exact h.keep, (a5 1 (by show (1 : Int) ≠ 0; decide)).trans h.one⟩
set_option maxHeartbeats 4000000 in
theorem torn_any (l : List (List UInt8)) (A : Option Addr) (c : Nat) (size : Int) (zero : List Int) (zA : Option Addr) (zc : Nat) (w : World) (hV : Vs w.heap.size w) (hr : RdL 1 strE w w.heap.size A l) (hl : ∀ t ∈ l, t.length ≤ 9223372036854775807) (hm : l.length ≤ 9223372036854775807) (hcap : l.length ≤ c)
    (hsz : inI64 size) (hz : RdL 1 intC w w.heap.size zA zero) (hzm : zero.length ≤ 9223372036854775807) :
    Calls Tryd.prog 3 #[.slice A l.length c, .int .i64 size, .slice zA zero.length zc] w fun e w' => e = .returned (.bool true) ∧ Below w.heap.size w w' := by
  have HV := Lib.hid hV
  have HR := Lib.hid hr
  have HL := Lib.hid hl
  have HZ := Lib.hid hz
  have HSz := Lib.hid hsz
  clear hV hr hl hz hsz
  go_enter Tryd.func3, Tryd.ntmps3
  go_wp2_with fail
  refine (small_any w HV.out).mono ?_
  rintro e w1 ⟨rfl, hb1⟩
  have HB1 := Lib.hid hb1
  clear hb1
  have HTx := Lib.hid (lTexts_any l A c w1 (HR.out.now HB1.out) hm HL.out)
  cases htx : textsB l with
  | false =>
    rw [htx] at HTx
    go_wp2_with fail
    refine HTx.out.mono ?_
    rintro e wx ⟨rfl, hw⟩
    obtain rfl := hw
    go_wp2_with fail
    go_ret
    exact ⟨rfl, HB1.out⟩
  | true =>
    rw [htx] at HTx
    obtain ⟨h8, hs⟩ := texts_ok htx
    have HS := Lib.hid hs
    clear hs htx
    go_wp2_with fail
    refine HTx.out.mono ?_
    rintro e wx ⟨rfl, hw⟩
    obtain rfl := hw
    by_cases hz50 : (50 : Int) < zero.length
    · have d1 : decide ((50 : Int) < zero.length) = true := by simpa using hz50
      go_wp2_with fail
      go_ret
      exact ⟨rfl, HB1.out⟩
    have d1 : decide ((50 : Int) < zero.length) = false := by simpa using hz50
    go_wp2_with fail
    refine (dNew_any w1).mono ?_
    rintro e w2 ⟨rfl, hb2, D0, hd0, ho0, -⟩
    have hz1 := HB1.out.size
    have H0 : Hid (St w ((dOb (w1.heap.size + 2) DS.new D0).sep Ob.nil) w2) := Lib.hid (St.nil ⟨hd0, HB1.out.trans (hb2.mono hz1), fun i hi => Nat.le_trans hz1 (ho0 i hi)⟩)
    generalize w1.heap.size + 2 = p at *
    clear hb2 hd0 ho0 HB1 hz1 HTx
    obtain ⟨hc1, hj1, hU1, hn1, ho1⟩ := up_open Up.new (f := 0) ⟨by decide, by decide⟩
    have hk1 : (openS DS.new 0).keep.length = 0 := by rw [openS_keep]; rfl
    rw [now_new, recs_none nextJ_nil] at hj1 hn1
    have HO := open_some hc1
    go_wp2_with fail
    refine (open_any2 HV.out H0.out (f := 0) (by unfold inI64; omega) (by decide)).mono ?_
    rintro e w3 ⟨D1, X, v, rfl, hst, hj⟩
    rw [HO, hj1] at hj
    rw [hc1]
    obtain ⟨q, M1, rfl, rfl⟩ := hj
    have hst1 : St w ((jBoth p q (openS DS.new 0) D1 ⟨0, [], false⟩ M1).sep (lsOb 3 1 intC none 0 [])) w3 := (show St w ((dOb p (openS DS.new 0) D1).sep (jOb q p ⟨0, [], false⟩ M1)) w3 from hst.forget).more (Below.refl _ _) (show OwnL w3 0 3 1 intC none 0 [] from OwnL.nil_) (fun _ h => nomatch h) (fun _ h => h.elim)
    have H1 := Lib.hid hst1
    have ho11 := ho1 1 (by decide)
    rw [now_new] at ho11
    have HS1 : Hid (TornS l (openS DS.new 0) 0) := Lib.hid ⟨hU1, hn1, hk1, ho11⟩
    clear hst hst1 HO H0 hj1 hc1 ho1 ho11 hU1 hn1 hk1
    generalize openS DS.new 0 = S1 at *
    go_wp2_with fail
    go_loopw [11, 12] (fun en i wr => ∃ (k : Nat) (S : DS) (D : DL) (M : JL) (EA : Option Addr) (ec : Nat), k ≤ l.length ∧ en = .slice EA k ec ∧ i = .int .i64 k ∧ TornS l S k ∧ St w ((jBoth p q S D ⟨0, l.take k, false⟩ M).sep (lsOb 3 1 intC EA ec (endsL l k))) wr) (fun _ i _ => l.length - (intOf i).toNat)
    case atStart => exact ⟨0, S1, D1, M1, none, 0, Nat.zero_le _, rfl, rfl, HS1.out, H1.out⟩
    case round =>
      clear HS1 H1
      obtain ⟨k, S, D, M, EA, ec, hk, rfl, rfl, hts, hst⟩ := hrel
      have HTs := Lib.hid hts
      have HSt := Lib.hid hst
      clear hts hst
      by_cases hlt : k < l.length
      · obtain ⟨b, off, hA, c0⟩ := rd_str (HR.out.now HSt.out.bl) hlt
        subst hA
        have hs := HS.out l[k] (List.getElem_mem hlt)
        obtain ⟨hc2, hj2, hs2⟩ := HTs.out.step h8 HS.out hlt
        have hi0 : (0 : Int) ≤ (k : Int) := by omega
        have hi1 : (k : Int) < (l.length : Int) := by omega
        have hbd := torn_bound l h8 HS.out k
        have HApp := Lib.hid (app_any2 HV.out HSt.out l[k] (by omega) (by show (formsF (l.take k)).length ≤ _; omega) (by unfold inI64; simp) (by have := HTs.out.keep; omega))
        rw [hc2, hj2] at HApp
        have HS2 := Lib.hid hs2
        have hn2 := now_len (appS S ⟨0, l.take k, false⟩ l[k]) 0
        rw [hs2.now] at hn2
        clear hc2 hj2 hs2 HSt HTs
        generalize appS S ⟨0, l.take k, false⟩ l[k] = S2 at *
        have HN2 := Lib.hid hn2
        clear hn2
        generalize l[k] = t at *
        go_wp2_with fail
        refine HApp.out.mono ?_
        rintro e w4 ⟨D2, M2, rfl, hst⟩
        have HSt2 := Lib.hid hst
        clear hst HApp
        go_wp2_with fail
        refine (dSize_any p S2 D2 w4 0 (by unfold inI64; omega) HSt2.out.ok.1.1.1.1).mono ?_
        rintro e wx ⟨rfl, hw⟩
        obtain rfl := hw
        rw [← HN2.out]
        have HO4 := Lib.hid (show OwnL wx 0 3 1 intC EA ec (endsL l k) from HSt2.out.ok.1.2)
        have HLk := Lib.hid (endsL_len l k)
        have HBd := torn_bound l h8 HS.out (k + 1)
        have HSu := Lib.hid (endsL_succ l k)
        generalize hfe : (formsF (l.take (k + 1))).length = fe at *
        clear hfe
        go_wp2_with (first
          | (at_builtin; refine wp_append_l rfl (.tmp 54) (.tmp 57) rfl slIntC intLayC 0 (xs := endsL l k) (ys := [(fe : Int)]) (by simp [HLk.out]) rfl (HO4.out.alloc _) rfl rfl (RdL.one wx (fe : Int) _ _ rfl _ rfl) (by rw [HLk.out]; simp; omega) (Nat.zero_le _) ?_; intro A7 c7 w7 hown7 hg7 hb7 hat7; have HO7 := Lib.hid hown7; have HG7 := Lib.hid hg7; have HA7 := Lib.hid hat7; clear hown7 hg7 hb7 hat7)
          | fail)
        have HU7 : Hid (St w ((jBoth p q S2 D2 ⟨0, l.take (k + 1), false⟩ M2).sep (lsOb 3 1 intC A7 c7 (endsL l (k + 1)))) w7) := Lib.hid (by
          rw [HSu.out]
          refine HSt2.out.upd (OUpd.right HSt2.out.ok (OUpd.append (.cells #[.int .i64 fe] 3) HO7.out ?_ ?_))
          · have h := HG7.out
            rw [own_blk] at h
            exact h
          · have h := HA7.out
            rw [own_blk, own_blk] at h
            exact h)
        go_roundw
        case rel => exact ⟨k + 1, S2, D2, M2, A7, c7, by omega, by rw [HLk.out], by go_num, HS2.out, HU7.out⟩
        case measure => simp [intOf]; omega
      · obtain rfl : k = l.length := by omega
        have HT := HTs.out
        rw [List.take_length] at HSt
        have HNow : Hid (S.now 0 = formsF l) := Lib.hid (by have := HT.now; rwa [List.take_length] at this)
        have HEn := Lib.hid (endsL_len l l.length)
        have HFb : Hid ((formsF l).length ≤ 2080) := Lib.hid (by have := torn_bound l h8 HS.out l.length; rwa [List.take_length] at this)
        have hnl := now_len S 0
        rw [HNow.out] at hnl
        have hrd := up_read HT.up (f := 0) ⟨by decide, by decide⟩ (formsF l).length (by rw [HNow.out]; exact Int.le_refl _)
        rw [HNow.out] at hrd
        have HNl := Lib.hid hnl
        have HRd := Lib.hid hrd
        clear HTs hlt hnl hrd
        generalize hF : formsF l = F at *
        have HF := Lib.hid hF
        clear hF
        go_wp2_with fail
        refine (dSize_any p S D wr 0 (by unfold inI64; omega) HSt.out.ok.1.1.1.1).mono ?_
        rintro e wx ⟨rfl, hw⟩
        obtain rfl := hw
        rw [← HNl.out]
        go_wp2_with fail
        refine (dRead_any p S D _ 0 0 F.length (by unfold inI64; omega) HSt.out.ok.1.1.1.1).mono ?_
        rintro e wx ⟨rfl, hw⟩
        obtain rfl := hw
        rw [HRd.out.1, HRd.out.2]
        clear HRd
        have hFs : (bs F).size = F.length := bs_size F
        have hF2 := HFb.out
        have hFm : (bs F).size ≤ maxLen := by rw [hFs]; simp only [maxLen]; omega
        go_upto_block 2 with (first
          | ((with_reducible show wpList _ _ _ (Oper.mk _ (Op.convert 9 _ _) _ _ _ _ :: _) _ _); refine wp_bytes_b rfl _ _ _ rfl Tryd.underlying9 Tryd.underlying36 Tryd.underlying5 (bs F) rfl hFm ?_; intro bc w5 hown5 hb5; have HO5 := Lib.hid hown5; have HB5 := Lib.hid hb5; clear hown5 hb5)
          | fail)
        have hlo5 := HO5.out.lo
        have HSz5 := Lib.hid HO5.out.len
        obtain ⟨g5, hg5⟩ : ∃ g, g = wx.heap.size := ⟨_, rfl⟩
        rw [← hg5] at HO5 hlo5 ⊢
        have HG5 := Lib.hid hg5
        clear hg5 hlo5
        obtain ⟨wb, hwb⟩ : ∃ x, x = w5 := ⟨_, rfl⟩
        rw [← hwb]
        have HO5 := Lib.hid (show OwnB wb g5 5 g5 bc F by rw [hwb]; exact HO5.out)
        have HB5 := Lib.hid (show Below g5 wx wb by rw [hwb, HG5.out]; exact HB5.out)
        clear hwb
        go_cut [16] (fun _ wr => ∃ (bl : List UInt8), bl.length = F.length ∧ Rel bl F ∧ OwnB wr g5 5 g5 bc bl ∧ Below g5 wx wr)
        case first =>
          go_wp2_with fail
          go_loopw [16] (fun i wr => ∃ (k : Nat) (bl : List UInt8), i = .int .i64 k ∧ k ≤ F.length ∧ bl.length = F.length ∧ Rel bl F ∧ OwnB wr g5 5 g5 bc bl ∧ Below g5 wx wr) (fun i _ => F.length - (intOf i).toNat)
          case atStart => exact ⟨0, F, rfl, Nat.zero_le _, rfl, Rel.refl _, HO5.out, HB5.out⟩
          case round =>
            clear HO5 HB5
            obtain ⟨k, bl, rfl, hk, hbl, hrel, ho, hb⟩ := hrel
            have HRel := Lib.hid hrel
            have HOb := Lib.hid ho
            have HBb := Lib.hid hb
            have HBl := Lib.hid hbl
            clear hrel ho hb hbl
            by_cases hkF : k < F.length
            rotate_left
            · have d2 : decide (k < F.length) = false := by simpa using hkF
              clear hkF
              go_wp2_with fail
              go_meet
              case rel => exact ⟨bl, HBl.out, HRel.out, HOb.out, HBb.out⟩
            have d2 : decide (k < F.length) = true := by simpa using hkF
            by_cases hzz : zero.length = 0
            · have d3 : decide (0 < zero.length) = false := decide_eq_false (by omega)
              have d3' : decide ((0 : Int) < zero.length) = false := decide_eq_false (by omega)
              clear hzz
              go_wp2_with fail
              go_meet
              case rel => exact ⟨bl, HBl.out, HRel.out, HOb.out, HBb.out⟩
            have d3 : decide (0 < zero.length) = true := decide_eq_true (by omega)
            have d3' : decide ((0 : Int) < zero.length) = true := decide_eq_true (by omega)
            have hmz : k / 64 % zero.length < zero.length := Nat.mod_lt _ (by omega)
            have hm1 : (k : Int) / 64 % (zero.length : Int) = ((k / 64 % zero.length : Nat) : Int) := by push_cast; rfl
            generalize k / 64 % zero.length = m at *
            have hbz := HSt.out.bl.trans (HBb.out.mono (by rw [HG5.out]; exact HSt.out.bl.size))
            obtain ⟨b, off, hA, hb, hcl⟩ := (HZ.out.now hbz).at_ hmz
            have c0 : wr.cell? ⟨b, off + m, none⟩ = some (.int .i64 zero[m]) := by simpa using hcl 0 _ rfl
            subst hA
            have hi0 : (0 : Int) ≤ (m : Int) := by omega
            have hi1 : (m : Int) < (zero.length : Int) := by omega
            have ha := and1 zero[m]
            have hset := HOb.out.set k 0
            have hfree := HOb.out.free k (by have := HOb.out.len; rw [HBl.out] at this; omega)
            have hcell := HOb.out.cell k (by rw [HBl.out]; exact hkF)
            have HSet := Lib.hid hset
            clear hset hbz hcl
            obtain ⟨u0, hu0⟩ : ∃ u, u = bl[k]'(by rw [HBl.out]; exact hkF) := ⟨_, rfl⟩
            rw [← hu0] at hcell
            clear hu0
            generalize zero[m] = z at *
            by_cases h1 : z % 2 = 1
            · have d4 : (z % 2 == 1) = true := by simpa using h1
              clear h1
              go_wp2_with fail
              go_roundw
              case rel => exact ⟨k + 1, bl.set k 0, by go_num, by omega, by rw [List.length_set]; exact HBl.out, HRel.out.set0 k, HSet.out, HBb.out.setCell (p := ⟨g5, k, none⟩) (Nat.le_refl _) _⟩
              case measure => simp [intOf]; omega
            · have d4 : (z % 2 == 1) = false := by simpa using h1
              clear h1
              go_wp2_with fail
              go_roundw
              case rel => exact ⟨k + 1, bl, by go_num, by omega, HBl.out, HRel.out, HOb.out, HBb.out⟩
              case measure => simp [intOf]; omega
        case rest =>
          obtain ⟨bl, hbl, hrel, ho, hb⟩ := hcut
          obtain ⟨n, hn⟩ : ∃ n : Nat, max 0 (min size (F.length : Int)) = n := ⟨(max 0 (min size (F.length : Int))).toNat, by omega⟩
          have hnF : n ≤ F.length := by omega
          have hTl : (bl.take n).length = n := by rw [List.length_take]; omega
          have HTl := Lib.hid hTl
          have HOt := Lib.hid (ho.take n)
          have HRel := Lib.hid (hrel.take n)
          have HSt2 := Lib.hid (HSt.out.on (show Below wx.heap.size wx wc by rw [← HG5.out]; exact hb))
          have hn2 : max 0 (min size (F.length : Int)) = n := hn
          have HRd := Lib.hid (recs_torn l (bl.take n) HS.out (by rw [HF.out]; exact HRel.out) (by rw [HF.out, HTl.out]; exact hnF))
          have hsz := HSz.out
          unfold inI64 at hsz
          clear hbl hrel ho hb hTl hn HSt HO5 HB5
          generalize bl.take n = T at *
          have hbc : F.length ≤ bc := HSz5.out
          have hnb : n ≤ bc := by omega
          go_upto_block 4 with (first
            | ((with_reducible show wpList _ _ _ (Oper.mk _ (Op.convert 36 9 _) _ _ _ _ :: _) _ _); refine wp_string_bs rfl _ _ _ rfl Tryd.underlying36 Tryd.underlying5 Tryd.underlying9 rfl HTl.out.symm HOt.out ?_)
            | fail)
          have HEo := Lib.hid (show OwnL wc 0 3 1 intC EA ec (endsL l l.length) from HSt2.out.ok.1.2)
          have hTs : (bs T).size = T.length := bs_size T
          clear HOt hsz hbc hn2 hnb
          go_cut [18] (fun m wr => ∃ k : Nat, m = .int .i64 k ∧ k ≤ l.length ∧ formsF (l.take k) <+: T ∧ (k < l.length → ¬ formsF (l.take (k + 1)) <+: T) ∧ Below wc.heap.size wc wr)
          case first =>
            go_wp2_with fail
            go_loopw [18] (fun m wr => ∃ k : Nat, m = .int .i64 k ∧ k ≤ l.length ∧ formsF (l.take k) <+: T ∧ Below wc.heap.size wc wr) (fun m _ => l.length - (intOf m).toNat)
            case atStart => exact ⟨0, rfl, Nat.zero_le _, List.nil_prefix, Below.refl _ _⟩
            case round =>
              obtain ⟨k, rfl, hk, hp, hb⟩ := hrel
              have HP := Lib.hid hp
              have HBb := Lib.hid hb
              clear hp hb
              by_cases hkl : k < l.length
              rotate_left
              · have d2 : decide (k < l.length) = false := by simpa using hkl
                have HNk : Hid (k < l.length → ¬ formsF (l.take (k + 1)) <+: T) := Lib.hid (fun h => absurd h hkl)
                clear hkl
                go_wp2_with fail
                go_quiet (fail)
                go_wp2_with fail
                go_meet
                case rel => exact ⟨k, rfl, hk, HP.out, HNk.out, below_drewN HBb.out _⟩
              have d2 : decide (k < l.length) = true := by simpa using hkl
              obtain ⟨b, off, hA, hb, hcl⟩ := ((HEo.out.rd intLayC).now HBb.out).at_ (k := k) (by rw [HEn.out]; exact hkl)
              have c0 : wr.cell? ⟨b, off + k, none⟩ = some (.int .i64 ((formsF (l.take (k + 1))).length : Int)) := by have := hcl 0 _ rfl; rw [endsL_get] at this; simpa using this
              subst hA
              have hi0 : (0 : Int) ≤ (k : Int) := by omega
              have hi1 : (k : Int) < (l.length : Int) := by omega
              have HTt := Lib.hid (torn_test l T k _ rfl)
              rw [HF.out] at HTt
              have hfe := torn_bound l h8 HS.out (k + 1)
              have hfF : (formsF (l.take (k + 1))).length ≤ F.length := by
                rw [← HF.out]
                have := (formsF_mono (l := l) (a := k + 1) (b := l.length) (by omega)).length_le
                rwa [List.take_length] at this
              clear hcl
              generalize hfn : (formsF (l.take (k + 1))).length = fe at *
              clear hfn
              by_cases h3 : fe ≤ T.length
              rotate_left
              · have d3 : decide (fe ≤ T.length) = false := by simpa using h3
                have HNk : Hid (k < l.length → ¬ formsF (l.take (k + 1)) <+: T) := Lib.hid (fun _ h => h3 (HTt.out.1 h).1)
                clear h3
                go_wp2_with fail
                go_quiet (fail)
                go_wp2_with fail
                go_meet
                case rel => exact ⟨k, rfl, hk, HP.out, HNk.out, below_drewN HBb.out _⟩
              have d3 : decide (fe ≤ T.length) = true := by simpa using h3
              have e1 : (bs T).extract 0 fe = bs (T.take fe) := bs_take T fe
              have e2 : (bs F).extract 0 fe = bs (F.take fe) := bs_take F fe
              by_cases h4 : T.take fe = F.take fe
              · have d4 : ((bs (T.take fe)).toList == (bs (F.take fe)).toList) = true := by rw [bs_beq]; simpa using h4
                have HPk := Lib.hid (HTt.out.2 ⟨h3, h4⟩)
                clear h4
                go_wp2_with fail
                go_quiet (fail)
                go_wp2_with fail
                go_roundw
                case rel => exact ⟨k + 1, by go_num, by omega, HPk.out, below_drewN HBb.out _⟩
                case measure => simp [intOf]; omega
              · have d4 : ((bs (T.take fe)).toList == (bs (F.take fe)).toList) = false := by rw [bs_beq]; simpa using h4
                have HNk : Hid (k < l.length → ¬ formsF (l.take (k + 1)) <+: T) := Lib.hid (fun _ h => h4 (HTt.out.1 h).2)
                clear h4
                go_wp2_with fail
                go_quiet (fail)
                go_wp2_with fail
                go_meet
                case rel => exact ⟨k, rfl, hk, HP.out, HNk.out, below_drewN HBb.out _⟩
          case rest =>
            obtain ⟨m, rfl, hm2, hp, hnp, hb⟩ := hcut
            have HSt3 := Lib.hid (HSt2.out.on hb)
            have HRm := Lib.hid (torn_many HS.out (by rw [HF.out]; exact HRel.out) (by rw [HF.out]; have := HTl.out; omega) hm2 hp hnp)
            have hTn := HTl.out
            have hk2 := HT.keep
            have hp1 := up_put HT.up (f := 1) ⟨by decide, by decide⟩ T (by rw [HT.one]; simp; omega)
            rw [HT.one] at hp1
            have e0 : ((([] : List UInt8).length : Nat) : Int) = 0 := rfl
            rw [e0, List.nil_append] at hp1
            obtain ⟨hc1, hU1, hn1, -⟩ := hp1
            have hk1 : (S.write 1 0 (bs T)).keep.length = 0 := by rw [write_keep]; exact hk2
            clear hp hnp hb HSt2 HRd HEo HT
            go_wp2_with fail
            refine (dWrite_any p S D _ 1 0 (bs T) (by unfold inI64; omega) (by unfold inI64; omega) (by omega) (by omega) HSt3.out.ok.1.1.1.1).mono ?_
            rintro e w6 ⟨rfl, hu⟩
            obtain ⟨D6, hst⟩ := (St.assoc HSt3.out).dupd hu
            have H6 := Lib.hid hst
            clear hu hst HSt3 hc1 hk2
            generalize S.write 1 0 (bs T) = S6 at *
            obtain ⟨hc3, hj3, hU3, hn3, -⟩ := up_open hU1 (f := 1) ⟨by decide, by decide⟩
            rw [hn1, HRm.out] at hj3 hn3
            have hk3 : (openS S6 1).keep.length = 0 := by rw [openS_keep]; exact hk1
            have HO := Lib.hid (And.intro (open_some hc3) (And.intro hj3 hc3))
            have HU3 := Lib.hid (And.intro hU3 hn3)
            have HK1 := Lib.hid hk1
            have HK3 := Lib.hid hk3
            clear hj3 hc3 hn3 hk3 hU3 hU1 hn1 hk1
            go_wp2_with fail
            refine (open_any2 HV.out H6.out (f := 1) (by unfold inI64; omega) (by have := HK1.out; omega)).mono ?_
            rintro e w7 ⟨D7, X, v, rfl, hst, hj⟩
            rw [HO.out.1, HO.out.2.1] at hj
            rw [HO.out.2.2]
            obtain ⟨q2, M7, rfl, rfl⟩ := hj
            have H7 := Lib.hid hst
            clear hst HO H6
            generalize openS S6 1 = S7 at *
            have HJ7 := Lib.hid (show JK w7 q2 p ⟨1, l.take m, false⟩ M7 from H7.out.ok.1.1.1.2)
            have hlm : (l.take m).length = m := by rw [List.length_take]; omega
            have HLm := Lib.hid hlm
            have hlm2 : min m l.length = m := by omega
            have HRl : Hid (RdL 1 strE w7 w7.heap.size A (l.take m)) := Lib.hid ((fun k x hk => by
              rw [List.getElem?_take] at hk
              split at hk
              · exact (HR.out.now H7.out.bl) k x hk
              · cases hk))
            have hmc : m ≤ c := by omega
            have hm0 : (0 : Int) ≤ (m : Int) := by omega
            clear hlm
            go_wp2_with fail
            have HAllq : Hid (∀ wq : World, Below w7.heap.size w7 wq → Calls Tryd.prog 16 #[.pointer (some ⟨q2, 0, none⟩)] wq fun e w' => ∃ A, e = .returned (.slice A m m) ∧ OwnL w' wq.heap.size 9 1 strE A m (l.take m) ∧ Below wq.heap.size wq w') := Lib.hid (fun wq hq => by
              have h := jAll_any (w := wq) (q := q2) (p := p) (J := ⟨1, l.take m, false⟩) (L := M7) ((jOb q2 p _ M7).below HJ7.out hq) (by show (l.take m).length ≤ _; rw [HLm.out]; omega)
              rwa [show (JS.mk 1 (l.take m) false).recs.length = m from HLm.out] at h)
            have HSmq : Hid (∀ (wq : World) (A4 : Option Addr), Below w7.heap.size w7 wq → RdL 1 strE wq wq.heap.size A4 (l.take m) → Calls Tryd.prog 15 #[.slice A4 m m, .slice A m c] wq fun e w' => e = .returned (.bool true) ∧ Below wq.heap.size wq w') := Lib.hid (fun wq A4 hq h4 => by
              have h := same_refl (l.take m) A4 A m c wq h4 (HRl.out.now hq) (by rw [HLm.out]; omega)
              rwa [HLm.out] at h)
            refine wp_region_below [(8, fun g => .slice g.1 m m, fun g w' => RdL 1 strE w' w'.heap.size g.1 (l.take m)), (12, fun _ => .bool true, fun (_ : Option Addr × Nat) _ => True)] (by kernel_rfl) (by kernel_rfl) (by repeat (first | exact trivial | refine ⟨fun g wa wb hs hs' ht h => by first | exact trivial | exact h.now ht | exact h.below ht | exact ht.cell h | exact h, ?_⟩)) ?_
            rw [List.toList_toArray]
            repeat (first
              | (refine DetE.skip (by rfl) ?_; simp only [Act.put, List.setIfInBounds_toArray, List.set_cons_zero, List.set_cons_succ, List.getElem_toArray, List.getElem_cons_zero, List.getElem_cons_succ])
              | (refine DetE.read (v := ?_) (by rfl) (by rfl) ?_ ?_; rotate_left; (· (intro wq hSq hkq; skip; go_simp; try with_reducible rfl)); simp only [Act.put, List.setIfInBounds_toArray, List.set_cons_zero, List.set_cons_succ, List.getElem_toArray, List.getElem_cons_zero, List.getElem_cons_succ])
              | fail)
            refine DetE.eff _ _ (by rfl) (by rfl) (fun wq hSq hkq K hK => ?_) (fun g1 => ?_)
            · go_simp
              refine (HAllq.out wq hSq).mono ?_
              rintro e4 w4 ⟨A4, rfl, ho4, hb4⟩
              go_wp2_with fail
              exact hK.out ((A4, 0)) _ (hSq.trans (hb4.mono hSq.size)) hb4 ((ho4.mono (Nat.zero_le _)).rd strLayJ) _ rfl
            simp only [Act.put, List.setIfInBounds_toArray, List.set_cons_zero, List.set_cons_succ, List.getElem_toArray, List.getElem_cons_zero, List.getElem_cons_succ]
            repeat (first
              | (refine DetE.skip (by rfl) ?_; simp only [Act.put, List.setIfInBounds_toArray, List.set_cons_zero, List.set_cons_succ, List.getElem_toArray, List.getElem_cons_zero, List.getElem_cons_succ])
              | (refine DetE.read (v := ?_) (by rfl) (by rfl) ?_ ?_; rotate_left; (· (intro wq hSq hkq; skip; go_simp; try with_reducible rfl)); simp only [Act.put, List.setIfInBounds_toArray, List.set_cons_zero, List.set_cons_succ, List.getElem_toArray, List.getElem_cons_zero, List.getElem_cons_succ])
              | fail)
            refine DetE.eff _ _ (by rfl) (by rfl) (fun wq hSq hkq K hK => ?_) (fun g2 => ?_)
            · go_simp
              refine (HSmq.out wq g1.1 hSq (hkq 8 _ rfl (by kernel_rfl))).mono ?_
              rintro e4 w4 ⟨rfl, hb4⟩
              go_wp2_with fail
              exact hK.out ((none, 0)) _ (hSq.trans (hb4.mono hSq.size)) hb4 (trivial) _ rfl
            simp only [Act.put, List.setIfInBounds_toArray, List.set_cons_zero, List.set_cons_succ, List.getElem_toArray, List.getElem_cons_zero, List.getElem_cons_succ]
            repeat (first
              | (refine DetE.skip (by rfl) ?_; simp only [Act.put, List.setIfInBounds_toArray, List.set_cons_zero, List.set_cons_succ, List.getElem_toArray, List.getElem_cons_zero, List.getElem_cons_succ])
              | (refine DetE.read (v := ?_) (by rfl) (by rfl) ?_ ?_; rotate_left; (· (intro wq hSq hkq; skip; go_simp; try with_reducible rfl)); simp only [Act.put, List.setIfInBounds_toArray, List.set_cons_zero, List.set_cons_succ, List.getElem_toArray, List.getElem_cons_zero, List.getElem_cons_succ])
              | fail)
            refine DetE.done fun wz hz hkz => ?_
            have H8 : Hid (St w ((jBoth p q2 S7 D7 ⟨1, l.take m, false⟩ M7).sep _) wz) := Lib.hid (H7.out.on hz)
            clear hkz hz H7 HAllq HSmq HRl HJ7
            have hbd := torn_bound l h8 HS.out m
            have hnx := formF_len [110, 101, 120, 116] (by decide)
            simp only [List.length_cons, List.length_nil] at hnx
            obtain ⟨hc5, hj5, -⟩ := up_append HU3.out.1 (J := ⟨1, l.take m, false⟩) rfl ⟨(by decide : (0 : Int) ≤ 1), (by decide : (1 : Int) ≤ 15)⟩ HU3.out.2 [110, 101, 120, 116] (by decide) (by show (formsF (l.take m)).length + _ ≤ _; omega)
            have HApp := Lib.hid (app_any2 HV.out H8.out [110, 101, 120, 116] (by decide) (by show (formsF (l.take m)).length ≤ _; omega) (by unfold inI64; simp) (by have := HK3.out; omega))
            rw [hc5, hj5] at HApp
            have hk5 : (appS S7 ⟨1, l.take m, false⟩ [110, 101, 120, 116]).keep.length = 0 := by rw [appS_keep]; exact HK3.out
            have HK5 := Lib.hid hk5
            clear hc5 hj5 hk5
            generalize appS S7 ⟨1, l.take m, false⟩ [110, 101, 120, 116] = S8 at *
            go_wp2_with fail
            refine HApp.out.mono ?_
            rintro e w8 ⟨D8, M8, rfl, hst⟩
            have H9 := Lib.hid hst
            have HJ9 := Lib.hid (show JK w8 q2 p ⟨1, l.take m ++ [[110, 101, 120, 116]], false⟩ M8 from hst.ok.1.1.1.2)
            clear hst HApp H8
            have hlen2 : (l.take m ++ [[110, 101, 120, 116]]).length = m + 1 := by simp; omega
            have HG1 : Hid ((JS.mk 1 (l.take m ++ [[110, 101, 120, 116]]) false).get (m : Int) = [110, 101, 120, 116]) := Lib.hid (by
              unfold JS.get
              rw [if_neg (by omega)]
              simp [hlm2])
            have HG2 : Hid ((JS.mk 1 (l.take m ++ [[110, 101, 120, 116]]) false).get ((m : Int) + 1) = []) := Lib.hid (by
              unfold JS.get
              rw [if_neg (by omega)]
              have e : ((m : Int) + 1).toNat = m + 1 := by omega
              rw [e]
              simp [hlm2])
            have HG3 : Hid ((JS.mk 1 (l.take m ++ [[110, 101, 120, 116]]) false).get (-1) = []) := Lib.hid (by
              unfold JS.get
              rw [if_pos (by decide)])
            have hat9 : (JS.mk 1 (l.take m ++ [[110, 101, 120, 116]]) false).at_ ≤ 3000 := by
              show (formsF (l.take m ++ [[110, 101, 120, 116]])).length ≤ 3000
              rw [formsF_snoc, List.length_append]
              omega
            have hpre : (JS.mk 1 (l.take m ++ [[110, 101, 120, 116]]) false).pre (List.replicate 20001 0) = 3 := by
              unfold JS.pre
              rw [if_neg (show ¬ (false = true) by decide), if_pos (by rw [List.length_replicate]; decide)]
            obtain ⟨hc6, -⟩ := appS_pre (S := S8) hpre (by decide)
            have HLn2 := Lib.hid hlen2
            have HAp := Lib.hid (fun (R : Ob) wq (hq : St w ((jBoth p q2 S8 D8 ⟨1, l.take m ++ [[110, 101, 120, 116]], false⟩ M8).sep R) wq) => app_any2 HV.out hq (List.replicate 20001 0) (by rw [List.length_replicate]; decide) (by omega) (by unfold inI64; simp) (by have := HK5.out; omega))
            rw [hc6] at HAp
            clear hpre hat9 hc6 hlen2
            obtain ⟨J9, hJ9⟩ : ∃ J, J = JS.mk 1 (l.take m ++ [[110, 101, 120, 116]]) false := ⟨_, rfl⟩
            have hJl : (J9.recs.length : Int) = (m : Int) + 1 := by rw [hJ9]; show (((l.take m ++ [[110, 101, 120, 116]]).length : Nat) : Int) = _; rw [HLn2.out]; omega
            rw [← hJ9] at HG1 HG2 HG3 HJ9 H9 HAp
            have HJl := Lib.hid hJl
            have dn : ((bs [110, 101, 120, 116]).toList == [110, 101, 120, 116]) = true := by rw [bs_toList]; rfl
            have de : ((bs []).toList == []) = true := by rw [bs_toList]; rfl
            clear hJ9 hJl
            go_wp2_with fail
            refine (jLen_any HJ9.out).mono ?_
            rintro e wx ⟨rfl, hw⟩
            obtain rfl := hw
            rw [HJl.out]
            go_wp2_with fail
            refine (jGet_any HJ9.out m).mono ?_
            rintro e w9 ⟨rfl, hb9⟩
            rw [HG1.out]
            have H10 := Lib.hid (H9.out.on hb9)
            have HJ10 := Lib.hid (show JK w9 q2 p J9 M8 from (jOb q2 p _ M8).below HJ9.out hb9)
            clear hb9 H9 HJ9
            go_wp2_with fail
            refine (jGet_any HJ10.out ((m : Int) + 1)).mono ?_
            rintro e w10 ⟨rfl, hb10⟩
            rw [HG2.out]
            have H11 := Lib.hid (H10.out.on hb10)
            have HJ11 := Lib.hid (show JK w10 q2 p J9 M8 from (jOb q2 p _ M8).below HJ10.out hb10)
            clear hb10 H10 HJ10
            go_wp2_with fail
            refine (jGet_any HJ11.out (-1)).mono ?_
            rintro e w11 ⟨rfl, hb11⟩
            rw [HG3.out]
            have H12 := Lib.hid (H11.out.on hb11)
            clear hb11 H11 HJ11
            obtain ⟨inf, hi, h0, h1, h2⟩ := info_parts (show (Tryd.prog.info? 5).map (fun i => (i.zero, i.size, i.bytes)) = some (some (.int .u8 0), 1, 1) by kernel_rfl)
            have HI := Lib.hid (And.intro hi (And.intro h0 (And.intro h1 h2)))
            obtain ⟨zs, hzs⟩ : ∃ z, z = List.replicate 20001 (0 : UInt8) := ⟨_, rfl⟩
            have HZs := Lib.hid hzs
            have HZl : Hid (20001 = zs.length) := Lib.hid (by rw [hzs, List.length_replicate])
            rw [← hzs] at HAp
            clear hi h0 h1 h2 hzs
            go_wp2_with (first
              | ((with_reducible show wpList _ _ _ (Oper.mk _ (Op.makeSlice _ _ _) _ _ _ _ :: _) _ _); refine wpList_unguard (by rfl) ?_; refine wp_make_b rfl _ _ rfl Tryd.underlying36 HI.out.1 HI.out.2.1 HI.out.2.2.1 HI.out.2.2.2 (n := 20001) rfl rfl (by decide) (by decide) ?_; intro w12 ho12 hb12; have HO12 := Lib.hid (show OwnB w12 w11.heap.size 5 w11.heap.size 20001 zs by rw [HZs.out]; exact ho12); have H13 := Lib.hid (H12.out.on hb12); clear ho12 hb12)
              | ((with_reducible show wpList _ _ _ (Oper.mk _ (Op.convert 36 9 _) _ _ _ _ :: _) _ _); refine wpList_unguard (by rfl) ?_; refine wp_string_bs rfl _ _ _ rfl Tryd.underlying36 Tryd.underlying5 Tryd.underlying9 rfl HZl.out HO12.out ?_)
              | fail)
            refine (HAp.out _ _ H13.out).mono ?_
            rintro e w14 ⟨D9, M9, rfl, hst⟩
            have HBz := Lib.hid hst.bl
            clear hst
            go_wp2_with fail
            go_ret
            exact ⟨rfl, HBz.out⟩
end Go.Proofs.YtoicnokidlkjfaaDoor
