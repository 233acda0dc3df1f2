/- Contracts and plain laws, joined: JnC, JnD, JnE, JnF, JnG, JnK, ErA, ErB. -/
import Derived.Test.YtjmkodkechahdaaGreatDoorQau
import Derived.Test.YtjmkodkechahdaaGreatDoorQat
/- The machine of a journal on a disk, in plain Lean. -/
set_option linter.unusedSimpArgs false
set_option linter.unusedVariables false
namespace Go.Proofs.YtjmkodkechahdaaGreatDoor

structure JS where
  file : Int
  recs : List (List UInt8)
  bad : Bool
def JS.at_ (J : JS) : Nat := (formsF J.recs).length
/-- The bytes of a file. -/
def DS.now (S : DS) (f : Int) : List UInt8 := (S.files f).1.data.toList
/-- Opening: the code, the disk, the records. -/
def openC (S : DS) (f : Int) : Int :=
  if f < 0 ∨ 15 < f then 1 else if S.syncC f ≠ 0 then S.syncC f else
  if (formsF (recs ((S.sync f).now f))).length < ((S.sync f).now f).length then (S.sync f).truncC f (formsF (recs ((S.sync f).now f))).length else 0
def openS (S : DS) (f : Int) : DS :=
  if f < 0 ∨ 15 < f then S else if S.syncC f ≠ 0 then S.sync f else
  if (formsF (recs ((S.sync f).now f))).length < ((S.sync f).now f).length then (S.sync f).trunc f (formsF (recs ((S.sync f).now f))).length else S.sync f
def openJ (S : DS) (f : Int) : JS := ⟨f, recs ((S.sync f).now f), false⟩
def openO (S : DS) (f : Int) : Option JS := if openC S f = 0 then some (openJ S f) else none
/-- Appending. -/
def JS.pre (J : JS) (s : List UInt8) : Int := if J.bad = true then 7 else if 20000 < s.length then 3 else if 1048576 < J.at_ + (formF s).length then 6 else 0
def appC (S : DS) (J : JS) (s : List UInt8) : Int := if J.pre s ≠ 0 then J.pre s else S.writeC J.file J.at_ (bs (formF s))
def appS (S : DS) (J : JS) (s : List UInt8) : DS := if J.pre s ≠ 0 then S else S.write J.file J.at_ (bs (formF s))
def appJ (S : DS) (J : JS) (s : List UInt8) : JS := if J.pre s ≠ 0 then J else if S.writeC J.file J.at_ (bs (formF s)) ≠ 0 then { J with bad := true } else { J with recs := J.recs ++ [s] }
/-- Syncing. -/
def synC (S : DS) (J : JS) : Int := if J.bad = true then 7 else S.syncC J.file
def synS (S : DS) (J : JS) : DS := if J.bad = true then S else S.sync J.file
def synJ (S : DS) (J : JS) : JS := if J.bad = true then J else { J with bad := S.syncC J.file != 0 }
end Go.Proofs.YtjmkodkechahdaaGreatDoor
/- Journals in plain Lean: what lasts. -/
set_option linter.unusedSimpArgs false
set_option linter.unusedVariables false
namespace Go.Proofs.YtjmkodkechahdaaGreatDoor

def DS.last (S : DS) (f : Int) : List UInt8 := (S.files f).2.data.toList
/-- The bytes C are those of the records 'all', but for some behind the first ones, 'sure', that are 0 or missing. -/
structure Mix (all sure : List (List UInt8)) (C : List UInt8) : Prop where
  p : formsF sure <+: C
  r : Rel C (formsF all)
  l : C.length ≤ (formsF all).length
theorem Mix.full {all sure : List (List UInt8)} (h : ∃ m, m ≤ all.length ∧ sure = all.take m) : Mix all sure (formsF all) := by
  obtain ⟨m, hm, rfl⟩ := h
  refine ⟨?_, Rel.refl _, Nat.le_refl _⟩
  have := formsF_mono (l := all) hm
  rwa [List.take_length] at this
theorem Rel.app {A B : List UInt8} (h : Rel A B) (hl : A.length ≤ B.length) (T : List UInt8) : Rel A (B ++ T) := fun i c hi => by
  have hlt := (List.getElem?_eq_some_iff.1 hi).1
  rw [List.getElem?_append_left (by omega)]
  exact h i c hi
/-- One more record. -/
theorem Mix.more {all sure : List (List UInt8)} {C : List UInt8} (h : Mix all sure C) (s : List UInt8) : Mix (all ++ [s]) sure C := by
  refine ⟨h.p, ?_, ?_⟩
  · rw [formsF_snoc]
    exact h.r.app h.l _
  · rw [formsF_snoc, List.length_append]
    have := h.l
    omega
theorem gb_list (x : ByteArray) (i : Nat) : gb x i = (x.data.toList[i]?).getD 0 := rfl
theorem gb_get3 {x : ByteArray} {i : Nat} {c : UInt8} (h : x.data.toList[i]? = some c) : gb x i = c := by rw [gb_list, h]; rfl
/-- A mixture of two mixtures. -/
theorem Mix.either {all sure : List (List UInt8)} {now last y : ByteArray} (h1 : Mix all sure now.data.toList) (h2 : Mix all sure last.data.toList) (lo : last.size ≤ y.size) (hi : y.size ≤ now.size) (he : Either now last y) : Mix all sure y.data.toList := by
  have dn := dlen now
  have dl := dlen last
  have dy := dlen y
  have key : ∀ i, i < y.size → gb y i = gb now i ∨ gb y i = gb last i := fun i hi' => by
    rcases he (i / 64) with h | h
    · exact .inl (h i rfl (by omega))
    · exact .inr (h i rfl)
  have hp1 := h1.p.length_le
  have hp2 := h2.p.length_le
  refine ⟨?_, fun i c hc => ?_, by have := h1.l; omega⟩
  · rw [List.prefix_iff_eq_take]
    apply List.ext_getElem?
    intro i
    rw [List.getElem?_take]
    split
    · rename_i hi'
      have hy : i < y.size := by omega
      have e1 : now.data.toList[i]? = (formsF sure)[i]? := by
        obtain ⟨t, ht⟩ := h1.p
        rw [← ht, List.getElem?_append_left hi']
      have e2 : last.data.toList[i]? = (formsF sure)[i]? := by
        obtain ⟨t, ht⟩ := h2.p
        rw [← ht, List.getElem?_append_left hi']
      rw [List.getElem?_eq_getElem hi'] at e1 e2 ⊢
      rw [List.getElem?_eq_getElem (by omega : i < y.data.toList.length)]
      have g0 : gb y i = y.data.toList[i]'(by omega) := gb_get3 (List.getElem?_eq_getElem _)
      rcases key i hy with h | h
      · rw [gb_get3 e1, g0] at h; rw [h]
      · rw [gb_get3 e2, g0] at h; rw [h]
    · rw [List.getElem?_eq_none (by omega)]
  · have hy := (List.getElem?_eq_some_iff.1 hc).1
    rcases key i (by omega) with h | h
    · rw [gb_get3 hc] at h
      have := h1.r i (gb now i) (by rw [List.getElem?_eq_getElem (by omega : i < now.data.toList.length)]; exact congrArg some (gb_get3 (List.getElem?_eq_getElem _)).symm)
      rw [h]
      exact this
    · rw [gb_get3 hc] at h
      by_cases hl : i < last.size
      · have := h2.r i (gb last i) (by rw [List.getElem?_eq_getElem (by omega : i < last.data.toList.length)]; exact congrArg some (gb_get3 (List.getElem?_eq_getElem _)).symm)
        rw [h]
        exact this
      · right
        rw [h, gb_list, List.getElem?_eq_none (by omega)]
        rfl
/-- The file f is a mixture, now and durably. -/
structure Two3 (S : DS) (f : Int) (all sure : List (List UInt8)) : Prop where
  wf : S.wf
  inv : Inv S
  now : Mix all sure (S.now f)
  last : Mix all sure (S.last f)
section
variable {S : DS} {f : Int} {all sure : List (List UInt8)}
theorem Two3.crash (h : Two3 S f all sure) (keep : List Int) : Two3 (S.crash keep) f all sure := by
  have hw := DS.crash_wf h.wf keep
  have hi := h.inv.crash keep
  by_cases hd : S.down = true
  · have e : S.crash keep = S := by unfold DS.crash; rw [if_pos hd]
    rw [e]; exact h
  · have e : (S.crash keep).files f = ((survQ keep 0 S.queue S.files f).2, (survQ keep 0 S.queue S.files f).2) := by
      unfold DS.crash
      rw [if_neg hd]
      rfl
    obtain ⟨lo, hi2, he, _⟩ := survives_plain h.wf h.inv f keep
    have hm := Mix.either h.now h.last lo hi2 he
    exact ⟨hw, hi, by unfold DS.now; rw [e]; exact hm, by unfold DS.last; rw [e]; exact hm⟩
theorem Two3.same {T : DS} (h : Two3 S f all sure) (hw : T.wf) (hf : T.files = S.files) (hq : T.queue = S.queue) : Two3 T f all sure :=
  ⟨hw, h.inv.same hf hq, by unfold DS.now; rw [hf]; exact h.now, by unfold DS.last; rw [hf]; exact h.last⟩
theorem Two3.tick (h : Two3 S f all sure) : Two3 S.tick f all sure := h.same (DS.tick_wf h.wf) (tick_same S).1 (tick_same S).2.1
theorem Two3.come (h : Two3 S f all sure) : Two3 S.come f all sure := by
  unfold DS.come
  split
  · exact h.tick.crash _
  · exact h.tick
theorem Two3.start (h : Two3 S f all sure) : Two3 S.start f all sure := h.same (DS.start_wf h.wf) rfl rfl
theorem Two3.more (h : Two3 S f all sure) (s : List UInt8) : Two3 S f (all ++ [s]) sure := ⟨h.wf, h.inv, h.now.more s, h.last.more s⟩
/-- The file is x, durably. -/
theorem Two3.settle (h : Two3 S f all sure) (hf : 0 ≤ f ∧ f < 16) (x : ByteArray) (hx : x.size ≤ 16777216) {all' sure' : List (List UInt8)} (hm : Mix all' sure' x.data.toList) : Two3 (S.settle f x) f all' sure' := by
  have e : (S.settle f x).files f = (x, x) := by show updF _ _ _ f = _; rw [updF, if_pos rfl]
  exact ⟨DS.settle_wf h.wf f x hf hx, h.inv.settle f x, by unfold DS.now; rw [e]; exact hm, by unfold DS.last; rw [e]; exact hm⟩
theorem Two3.sync (h : Two3 S f all sure) (hf : 0 ≤ f ∧ f < 16) : Two3 (S.sync f) f all sure := by
  unfold DS.sync
  have hc := h.come
  generalize S.come = T at *
  unfold DS.sync0
  split
  · exact hc
  · split
    · refine hc.same ?_ rfl rfl
      have := DS.sync0_wf hc.wf f
      unfold DS.sync0 at this
      rename_i h1 h2
      rw [if_neg h1, if_pos h2] at this
      exact this
    · exact hc.settle hf _ (hc.wf.now f) hc.now
theorem sync_code (S : DS) (hf : 0 ≤ f ∧ f < 16) : S.syncC f = 0 ∨ S.syncC f = 8 ∨ S.syncC f = 9 := by
  unfold DS.syncC DS.syncC0
  cases hd : S.come.down with
  | true =>
    have hm : S.come.may f = 8 := by unfold DS.may; rw [hd, if_pos rfl]
    rw [hm, if_pos (by decide)]
    exact .inr (.inl rfl)
  | false =>
    rw [may_zero hd hf.1 hf.2, if_neg (by decide)]
    split
    · exact .inr (.inr rfl)
    · exact .inl rfl
end
end Go.Proofs.YtjmkodkechahdaaGreatDoor
/- Journals in plain Lean: what opening, appending and syncing do to a file that is a mixture. -/
set_option linter.unusedSimpArgs false
set_option linter.unusedVariables false
namespace Go.Proofs.YtjmkodkechahdaaGreatDoor

section
variable {S : DS} {f : Int} {all sure : List (List UInt8)}
theorem come_down2 (S : DS) : S.come.down = S.down ∨ S.endsB = true := by
  unfold DS.come
  split
  · rename_i h; exact .inr h
  · exact .inl (tick_same S).2.2.1
theorem crash_down (S : DS) (keep : List Int) : (S.crash keep).down = true := by
  unfold DS.crash
  split
  · assumption
  · rfl
theorem trunc_ok0 {T : DS} {n : Int} (h0 : 0 ≤ f) (h1 : f < 16) (hd : T.down = false) (hn : 0 ≤ n) (hl : n ≤ (T.files f).1.size) : T.truncC0 f n = 0 := by
  unfold DS.truncC0
  rw [may_zero hd h0 h1, if_neg (by omega), if_neg (by omega)]
theorem trunc_down {T : DS} {n : Int} (h0 : 0 ≤ f) (h1 : f < 16) (hd : T.down = true) : T.truncC0 f n = 8 := by
  unfold DS.truncC0 DS.may
  rw [if_pos hd, if_pos (by decide)]
/-- The prefix of a mixture that ends at a record. -/
theorem Mix.cut (h : Mix all sure (S.now f)) (hs : ∀ t ∈ all, t.length ≤ 200) (hsub : ∃ m, m ≤ all.length ∧ sure = all.take m) :
    ∃ m, m ≤ all.length ∧ recs (S.now f) = all.take m ∧ ∃ k, k ≤ m ∧ sure = all.take k := by
  obtain ⟨k, hk, rfl⟩ := hsub
  obtain ⟨m, h1, h2, h3⟩ := recs_sure hs h.r h.l hk h.p
  exact ⟨m, h2, h3, k, h1, rfl⟩
/-- Opening a file that is a mixture. -/
theorem open_mix (h : Two3 S f all sure) (hf : 0 ≤ f ∧ f ≤ 15) (hs : ∀ t ∈ all, t.length ≤ 200) (hsub : ∃ m, m ≤ all.length ∧ sure = all.take m) :
    (openC S f = 0 ∧ ∃ m, m ≤ all.length ∧ (openJ S f).recs = all.take m ∧ (∃ k, k ≤ m ∧ sure = all.take k) ∧ Two3 (openS S f) f (all.take m) (all.take m) ∧ (openS S f).now f = formsF (all.take m)) ∨
    ((openC S f = 8 ∨ openC S f = 9) ∧ Two3 (openS S f) f all sure) := by
  have hf' : 0 ≤ f ∧ f < 16 := ⟨hf.1, by omega⟩
  have hy := h.sync hf'
  have e1 : ¬ (f < 0 ∨ 15 < f) := by omega
  have e0 : ¬ ((0 : Int) ≠ 0) := by decide
  unfold openC openS openJ
  rw [if_neg e1, if_neg e1]
  rcases sync_code S hf' with hc | hc | hc
  · rw [hc, if_neg e0, if_neg e0]
    obtain ⟨m, hm, hr, k, hk, hsu⟩ := hy.now.cut hs hsub
    simp only [hr]
    have hfm : Mix (all.take m) (all.take m) (formsF (all.take m)) := Mix.full ⟨(all.take m).length, Nat.le_refl _, by rw [List.take_length]⟩
    have hpre := recs_prefix ((S.sync f).now f)
    rw [hr] at hpre
    have hsz := dlen ((S.sync f).files f).1
    have hnow : ((S.sync f).now f).length = ((S.sync f).files f).1.size := hsz
    split
    · rename_i hlt
      unfold DS.truncC DS.trunc
      by_cases hd : (S.sync f).come.down = true
      · right
        rw [trunc_down hf'.1 hf'.2 hd]
        refine ⟨.inl rfl, ?_⟩
        unfold DS.trunc0
        rw [trunc_down hf'.1 hf'.2 hd, if_neg (by decide)]
        exact hy.come
      · have hd : (S.sync f).come.down = false := by simpa using hd
        obtain ⟨_, e2, _⟩ := come_down hd
        have e3 : (S.sync f).come.files = (S.sync f).files := by rw [e2]; exact (tick_same _).1
        have ht := trunc_ok0 (f := f) (n := ((formsF (all.take m)).length : Int)) hf'.1 hf'.2 hd (by omega) (by rw [e3]; omega)
        left
        refine ⟨ht, m, hm, rfl, ⟨k, hk, hsu⟩, ?_⟩
        unfold DS.trunc0
        rw [ht, if_pos rfl, e3]
        have hx : (((S.sync f).files f).1.extract 0 ((formsF (all.take m)).length : Int).toNat).data.toList = formsF (all.take m) := by
          rw [ext_list]
          obtain ⟨t, ht⟩ := hpre
          have : ((S.sync f).files f).1.data.toList = formsF (all.take m) ++ t := ht.symm
          rw [this]
          simp
        refine ⟨hy.come.settle hf' _ (by rw [extract_size]; have := hy.wf.now f; omega) (by rw [hx]; exact hfm), ?_⟩
        show (updF _ _ _ f).1.data.toList = _
        rw [updF, if_pos rfl]
        exact hx
    · rename_i hge
      left
      have e : (S.sync f).now f = formsF (all.take m) := (hpre.eq_of_length_le (by omega)).symm
      obtain ⟨_, _, _, _, hset⟩ := syncC_ok hc
      have hfl : (S.sync f).files f = ((S.files f).1, (S.files f).1) := by rw [hset]; show updF _ _ _ f = _; rw [updF, if_pos rfl]
      have hl : (S.sync f).last f = formsF (all.take m) := by
        rw [← e]
        unfold DS.last DS.now
        rw [hfl]
      exact ⟨rfl, m, hm, rfl, ⟨k, hk, hsu⟩, ⟨hy.wf, hy.inv, by rw [e]; exact hfm, by rw [hl]; exact hfm⟩, e⟩
  · rw [hc, if_pos (show (8 : Int) ≠ 0 by decide), if_pos (show (8 : Int) ≠ 0 by decide)]
    exact .inr ⟨.inl rfl, hy⟩
  · rw [hc, if_pos (show (9 : Int) ≠ 0 by decide), if_pos (show (9 : Int) ≠ 0 by decide)]
    exact .inr ⟨.inr rfl, hy⟩
/-- With nothing lost and no crash it can be opened. -/
theorem open_up (hf : 0 ≤ f ∧ f ≤ 15) (hd : S.down = false) (hl : S.lost = 0) (ha : S.armed = 0) : openC S f = 0 := by
  have hcome : S.come = S := by
    unfold DS.come DS.endsB DS.tick
    simp [hd, ha]
  have hc : S.syncC f = 0 := by
    unfold DS.syncC DS.syncC0
    rw [hcome, may_zero hd hf.1 (by omega), if_neg (by omega), if_neg (by omega)]
  obtain ⟨_, _, _, _, hset⟩ := syncC_ok hc
  have htick : S.tick = S := by unfold DS.tick; simp [ha]
  rw [htick] at hset
  unfold openC
  rw [if_neg (by omega), hc, if_neg (by decide)]
  split
  · rename_i hlt
    have hcome2 : (S.sync f).come = S.sync f := by
      rw [hset]
      unfold DS.come DS.endsB DS.tick DS.settle
      simp [hd, ha]
    unfold DS.truncC
    rw [hcome2]
    have hsz := dlen ((S.sync f).files f).1
    have hnow : ((S.sync f).now f).length = ((S.sync f).files f).1.size := hsz
    exact trunc_ok0 hf.1 (by omega) (by rw [hset]; exact hd) (by omega) (by omega)
  · rfl
theorem put_end (x : ByteArray) (t : List UInt8) (ht : t ≠ []) : (putB x x.size (bs t)).data.toList = x.data.toList ++ t := by
  have h0 : (bs t).size ≠ 0 := by
    rw [bs_size]
    intro h
    exact ht (List.eq_nil_of_length_eq_zero h)
  have hd := dlen x
  rw [putB, if_neg h0]
  show putL x.data.toList x.size t = _
  unfold putL padL
  have e1 : x.size = x.data.toList.length := hd.symm
  rw [e1, List.take_left, List.drop_of_length_le (by rw [List.length_append, List.length_replicate]; omega), List.append_nil]
/-- Writing a form behind the others. -/
theorem write_form (h : Two3 S f all sure) (hf : 0 ≤ f ∧ f ≤ 15) (hnow : S.now f = formsF all) (s : List UInt8) (hsz : (formsF all).length + (formF s).length ≤ 1048576) :
    (S.writeC f (formsF all).length (bs (formF s)) = 0 ∧ Two3 (S.write f (formsF all).length (bs (formF s))) f (all ++ [s]) sure ∧ (S.write f (formsF all).length (bs (formF s))).now f = formsF (all ++ [s])) ∨
    (S.writeC f (formsF all).length (bs (formF s)) = 8 ∧ Two3 (S.write f (formsF all).length (bs (formF s))) f (all ++ [s]) sure) := by
  have hd := dlen (S.files f).1
  have hlen : (formsF all).length = (S.files f).1.size := by rw [← hnow]; exact hd
  have hfp := formF_pos s
  have hfit : fitsB (formsF all).length (bs (formF s)) = true := by
    unfold fitsB
    rw [Bool.and_eq_true, Bool.and_eq_true, decide_eq_true_eq, decide_eq_true_eq, decide_eq_true_eq, bs_size]
    omega
  have hwadd : ∀ T : DS, T.files = S.files → T.queue = S.queue → T.wf → Two3 (T.wadd f (formsF all).length (bs (formF s))) f (all ++ [s]) sure ∧ (T.wadd f (formsF all).length (bs (formF s))).now f = formsF (all ++ [s]) := fun T e1 e2 hw => by
    have ht : Two3 T f all sure := h.same hw e1 e2
    have h0 : ¬ (bs (formF s)).size = 0 := by rw [bs_size]; omega
    have hput : (putB (S.files f).1 ((formsF all).length : Int).toNat (bs (formF s))).data.toList = formsF (all ++ [s]) := by
      rw [Int.toNat_natCast, hlen, put_end _ _ (fun e => by rw [e] at hfp; simp at hfp), formsF_snoc, ← hnow]
      rfl
    have hfl : (T.wadd f (formsF all).length (bs (formF s))).files f = (putB (S.files f).1 ((formsF all).length : Int).toNat (bs (formF s)), (S.files f).2) := by
      unfold DS.wadd
      rw [if_neg h0]
      show updF _ _ _ f = _
      rw [updF, if_pos rfl, e1]
    have hn : (T.wadd f (formsF all).length (bs (formF s))).now f = formsF (all ++ [s]) := by
      unfold DS.now
      rw [hfl]
      exact hput
    have hl : (T.wadd f (formsF all).length (bs (formF s))).last f = S.last f := by
      unfold DS.last
      rw [hfl]
    refine ⟨⟨DS.wadd_wf hw f _ _ ⟨hf.1, by omega⟩ (by omega) (by rw [bs_size]; omega), ht.inv.wadd f _ _ (by omega), ?_, ?_⟩, hn⟩
    · rw [hn]
      have hm := (h.now.more s).p
      refine ⟨?_, Rel.refl _, Nat.le_refl _⟩
      rw [formsF_snoc]
      have hp := h.now.p
      rw [hnow] at hp
      exact hp.trans (List.prefix_append _ _)
    · rw [hl]
      exact (h.last.more s)
  have hcode : ∀ T : DS, T.down = false → T.wcode f (formsF all).length (bs (formF s)) = 0 := fun T hdn => by
    unfold DS.wcode
    rw [may_zero hdn hf.1 (by omega), if_neg (by omega), if_neg (by omega), if_pos hfit]
  have htk := tick_same S
  unfold DS.writeC DS.write
  by_cases he : S.endsB = true
  · rw [if_pos he, if_pos he]
    have hdn : S.down = false := by
      unfold DS.endsB at he
      cases hx : S.down
      · rfl
      · rw [hx] at he; simp at he
    right
    refine ⟨rfl, ?_⟩
    have h1 := hwadd S.tick htk.1 htk.2.1 (DS.tick_wf h.wf)
    have : S.tick.wr f (formsF all).length (bs (formF s)) = S.tick.wadd f (formsF all).length (bs (formF s)) := by
      unfold DS.wr
      rw [hcode _ (by rw [htk.2.2.1]; exact hdn), if_pos rfl]
    rw [this]
    exact h1.1.crash _
  · rw [if_neg he, if_neg he]
    cases hdn : S.down with
    | false =>
      left
      have hc := hcode S.tick (by rw [htk.2.2.1]; exact hdn)
      refine ⟨hc, ?_⟩
      have : S.tick.wr f (formsF all).length (bs (formF s)) = S.tick.wadd f (formsF all).length (bs (formF s)) := by
        unfold DS.wr
        rw [hc, if_pos rfl]
      rw [this]
      exact hwadd S.tick htk.1 htk.2.1 (DS.tick_wf h.wf)
    | true =>
      right
      have hm : S.tick.may f = 8 := by unfold DS.may; rw [htk.2.2.1, hdn, if_pos rfl]
      have hc : S.tick.wcode f (formsF all).length (bs (formF s)) = 8 := by
        unfold DS.wcode
        rw [hm, if_pos (by decide)]
      refine ⟨hc, ?_⟩
      have : S.tick.wr f (formsF all).length (bs (formF s)) = S.tick := by
        unfold DS.wr
        rw [hc, if_neg (by decide)]
      rw [this]
      exact h.tick.more s
end
end Go.Proofs.YtjmkodkechahdaaGreatDoor
/- Journals in plain Lean: the states of JournalLasts. -/
set_option linter.unusedSimpArgs false
set_option linter.unusedVariables false
namespace Go.Proofs.YtjmkodkechahdaaGreatDoor

theorem forms_bound (l : List (List UInt8)) (h : ∀ t ∈ l, t.length ≤ 200) : (formsF l).length ≤ l.length * 260 :=
  flat_bound formF 260 l (fun t ht => by have := h t ht; have := formF_len t (by omega); omega)
/-- What holds between two operations. -/
structure LInv (S : DS) (J : Option JS) (all sure : List (List UInt8)) (n : Nat) : Prop where
  two : Two3 S 3 all sure
  sm : ∀ t ∈ all, t.length ≤ 200
  cnt : all.length ≤ n
  sub : ∃ m, m ≤ all.length ∧ sure = all.take m
  jr : ∀ j, J = some j → j.file = 3 ∧ (∃ m, m ≤ all.length ∧ j.recs = all.take m) ∧ (j.bad = false → j.recs = all ∧ S.now 3 = formsF all)
section
variable {S : DS} {J : Option JS} {j : JS} {all sure : List (List UInt8)} {n : Nat}
theorem LInv.gone (h : LInv S J all sure n) {T : DS} (ht : Two3 T 3 all sure) : LInv T none all sure (n + 1) :=
  ⟨ht, h.sm, by have := h.cnt; omega, h.sub, fun _ e => by cases e⟩
theorem LInv.none (h : LInv S J all sure n) : LInv S .none all sure n := ⟨h.two, h.sm, h.cnt, h.sub, fun _ e => by cases e⟩
theorem take_app {T : Type} (l : List T) (m : Nat) (hm : m ≤ l.length) (s : T) : ∃ k, k ≤ (l ++ [s]).length ∧ l.take m = (l ++ [s]).take k :=
  ⟨m, by simp; omega, by rw [List.take_append_of_le_length hm]⟩
theorem lasts_append (h : LInv S (some j) all sure n) (hn : n ≤ 25) (s : List UInt8) (hs : s.length ≤ 200) :
    (appC S j s = 0 ∧ (appJ S j s).recs = j.recs ++ [s] ∧ LInv (appS S j s) (some (appJ S j s)) (all ++ [s]) sure (n + 1)) ∨
    (appC S j s = 8 ∧ (appJ S j s).recs = j.recs ∧ LInv (appS S j s) (some (appJ S j s)) (all ++ [s]) sure (n + 1)) ∨
    (appC S j s = 7 ∧ appJ S j s = j ∧ LInv (appS S j s) (some (appJ S j s)) all sure (n + 1)) := by
  obtain ⟨hfile, ⟨m, hm, hrm⟩, hb⟩ := h.jr j rfl
  cases hbad : j.bad with
  | true =>
    have hp : j.pre s = 7 := by unfold JS.pre; rw [hbad, if_pos rfl]
    unfold appC appS appJ
    rw [hp]
    simp only [ne_eq, show ¬ ((7 : Int) = 0) by decide, not_false_eq_true, if_true]
    exact .inr (.inr ⟨by first | trivial | rfl, by first | trivial | rfl, h.two, h.sm, by have := h.cnt; omega, h.sub, h.jr⟩)
  | false =>
    obtain ⟨hrec, hnow⟩ := hb hbad
    have hbd := forms_bound all h.sm
    have hcnt := h.cnt
    have hfl := formF_len s (by omega)
    have hp : j.pre s = 0 := by
      unfold JS.pre JS.at_
      rw [hbad, hrec, if_neg (by decide), if_neg (by omega), if_neg (by omega)]
    unfold appC appS appJ
    rw [hp]
    simp only [ne_eq, not_true_eq_false, if_false]
    unfold JS.at_
    rw [hfile, hrec]
    have hsm : ∀ t ∈ all ++ [s], t.length ≤ 200 := fun t ht => by
      rcases List.mem_append.1 ht with ht | ht
      · exact h.sm t ht
      · simp only [List.mem_singleton] at ht; subst ht; exact hs
    have hsub : ∃ m, m ≤ (all ++ [s]).length ∧ sure = (all ++ [s]).take m := by
      obtain ⟨k, hk, rfl⟩ := h.sub
      exact take_app all k hk s
    rcases write_form h.two ⟨by decide, by decide⟩ hnow s (by omega) with ⟨hc, ht, hn'⟩ | ⟨hc, ht⟩
    · left
      rw [hc]
      simp only [not_true_eq_false, if_false]
      refine ⟨trivial, by first | trivial | rw [hrec], ht, hsm, by simp; omega, hsub, fun j' e => ?_⟩
      cases e
      refine ⟨(by first | rfl | exact hfile), ⟨(all ++ [s]).length, Nat.le_refl _, ?_⟩, fun _ => ⟨?_, hn'⟩⟩
      · simp only [hrec, List.take_length]
      · simp only [hrec]
    · right; left
      rw [hc]
      simp only [show ¬ ((8 : Int) = 0) by decide, not_false_eq_true, if_true]
      refine ⟨trivial, by first | trivial | rw [hrec], ht, hsm, by simp; omega, hsub, fun j' e => ?_⟩
      cases e
      refine ⟨(by first | rfl | exact hfile), ?_, fun hx => by cases hx⟩
      have := take_app all all.length (Nat.le_refl _) s
      rw [List.take_length] at this
      simp only [hrec]
      exact this
theorem lasts_sync (h : LInv S (some j) all sure n) :
    (synJ S j).recs = j.recs ∧ ((synC S j = 0 ∧ LInv (synS S j) (some (synJ S j)) all j.recs (n + 1)) ∨ (synC S j ≠ 0 ∧ LInv (synS S j) (some (synJ S j)) all sure (n + 1))) := by
  obtain ⟨hfile, hrm, hb⟩ := h.jr j rfl
  cases hbad : j.bad with
  | true =>
    unfold synJ synC synS
    simp only [hbad, if_true]
    exact ⟨trivial, .inr ⟨by decide, h.two, h.sm, by have := h.cnt; omega, h.sub, h.jr⟩⟩
  | false =>
    obtain ⟨hrec, hnow⟩ := hb hbad
    unfold synJ synC synS
    simp only [hbad, Bool.false_eq_true, if_false]
    refine ⟨trivial, ?_⟩
    rw [hfile]
    have hy := h.two.sync (f := 3) ⟨by decide, by decide⟩
    rcases sync_code (f := 3) S ⟨by decide, by decide⟩ with hc | hc | hc
    · left
      obtain ⟨_, _, _, _, hset⟩ := syncC_ok hc
      have hfull : Mix all j.recs (formsF all) := Mix.full ⟨all.length, Nat.le_refl _, by rw [List.take_length]; exact hrec⟩
      have hd : (S.files 3).1.data.toList = formsF all := hnow
      have ht : Two3 (S.tick.settle 3 (S.files 3).1) 3 all j.recs := h.two.tick.settle ⟨by decide, by decide⟩ _ (h.two.wf.now 3) (by rw [hd]; exact hfull)
      have hn2 : (S.sync 3).now 3 = formsF all := by
        rw [hset]
        show (updF _ _ _ 3).1.data.toList = _
        rw [updF, if_pos rfl]
        exact hd
      refine ⟨hc, by rw [hset]; exact ht, h.sm, by have := h.cnt; omega, ⟨all.length, Nat.le_refl _, by rw [List.take_length]; exact hrec⟩, fun j' e => ?_⟩
      cases e
      exact ⟨(by first | rfl | exact hfile), hrm, fun _ => ⟨hrec, hn2⟩⟩
    · right
      refine ⟨by rw [hc]; decide, hy, h.sm, by have := h.cnt; omega, h.sub, fun j' e => ?_⟩
      cases e
      exact ⟨(by first | rfl | exact hfile), hrm, fun hx => by rw [hc] at hx; cases hx⟩
    · right
      refine ⟨by rw [hc]; decide, hy, h.sm, by have := h.cnt; omega, h.sub, fun j' e => ?_⟩
      cases e
      exact ⟨(by first | rfl | exact hfile), hrm, fun hx => by rw [hc] at hx; cases hx⟩
theorem lasts_same {T : DS} (h : LInv S J all sure n) (hw : T.wf) (hf : T.files = S.files) (hq : T.queue = S.queue) : LInv T J all sure (n + 1) :=
  ⟨h.two.same hw hf hq, h.sm, by have := h.cnt; omega, h.sub, fun j e => by
    obtain ⟨a, b, c⟩ := h.jr j e
    exact ⟨a, b, fun hx => ⟨(c hx).1, by unfold DS.now; rw [hf]; exact (c hx).2⟩⟩⟩
theorem lasts_skip (h : LInv S J all sure n) : LInv S J all sure (n + 1) := lasts_same h h.two.wf rfl rfl
theorem lasts_crash (h : LInv S J all sure n) (keep : List Int) : LInv (S.crash keep) none all sure n := ⟨h.two.crash keep, h.sm, h.cnt, h.sub, fun _ e => by cases e⟩
theorem lasts_start (h : LInv S J all sure n) : LInv S.start none all sure n := ⟨h.two.start, h.sm, h.cnt, h.sub, fun _ e => by cases e⟩
theorem lasts_open (h : LInv S J all sure n) :
    (openC S 3 = 0 ∧ (∃ m, m ≤ all.length ∧ (openJ S 3).recs = all.take m) ∧ (∃ m, m ≤ (openJ S 3).recs.length ∧ sure = (openJ S 3).recs.take m) ∧ LInv (openS S 3) (some (openJ S 3)) (openJ S 3).recs (openJ S 3).recs (n + 1)) ∨
    ((openC S 3 = 8 ∨ openC S 3 = 9) ∧ LInv (openS S 3) none all sure (n + 1)) := by
  rcases open_mix (f := 3) h.two ⟨by decide, by decide⟩ h.sm h.sub with ⟨hc, m, hm, hr, ⟨k, hk, hsu⟩, ht, hn'⟩ | ⟨hc, ht⟩
  · left
    rw [hr]
    refine ⟨hc, ⟨m, hm, rfl⟩, ⟨k, by simp; omega, by rw [List.take_take, Nat.min_eq_left hk]; exact hsu⟩, ht, fun t hx => h.sm t (List.mem_of_mem_take hx), by simp; have := h.cnt; omega, ⟨(all.take m).length, Nat.le_refl _, by rw [List.take_length]⟩, fun j' e => ?_⟩
    cases e
    exact ⟨rfl, ⟨(all.take m).length, Nat.le_refl _, by rw [List.take_length]; exact hr⟩, fun _ => ⟨hr, hn'⟩⟩
  · exact .inr ⟨hc, ht, h.sm, by have := h.cnt; omega, h.sub, fun _ e => by cases e⟩
theorem lasts_new : LInv DS.new none [] [] 0 :=
  ⟨⟨DS.new_wf, Inv.new, Mix.full ⟨0, Nat.le_refl _, rfl⟩, Mix.full ⟨0, Nat.le_refl _, rfl⟩⟩, by simp, Nat.le_refl _, ⟨0, Nat.le_refl _, rfl⟩, fun _ e => by cases e⟩
end
end Go.Proofs.YtjmkodkechahdaaGreatDoor
/- Journals in plain Lean: the states of JournalStays. -/
set_option linter.unusedSimpArgs false
set_option linter.unusedVariables false
namespace Go.Proofs.YtjmkodkechahdaaGreatDoor

/-- What holds between two operations, with no crash scheduled. -/
structure SInv (S : DS) (J : Option JS) (n : Nat) : Prop where
  wf : S.wf
  inv : Inv S
  arm : S.armed = 0
  up : S.down = false
  szn : (S.now 0).length ≤ 300 * n
  jr : ∀ j, J = some j → j.file = 0 ∧ (∀ t ∈ j.recs, t.length ≤ 20000) ∧ (formsF j.recs).length ≤ 300 * n ∧ (j.bad = false → S.now 0 = formsF j.recs)
section
variable {S : DS} {J : Option JS} {j : JS} {n : Nat}
theorem arm_come (ha : S.armed = 0) : S.come = S ∧ S.tick = S ∧ S.endsB = false := by
  have h1 : S.endsB = false := by unfold DS.endsB; simp [ha]
  have h2 : S.tick = S := by unfold DS.tick; simp [ha]
  exact ⟨by unfold DS.come; rw [h1, h2]; rfl, h2, h1⟩
theorem SInv.more (h : SInv S J n) : SInv S J (n + 1) :=
  ⟨h.wf, h.inv, h.arm, h.up, by have := h.szn; omega, fun j e => by obtain ⟨a, b, c, d⟩ := h.jr j e; exact ⟨a, b, by omega, d⟩⟩
theorem settle_files (S : DS) (f : Int) (x : ByteArray) : (S.settle f x).files f = (x, x) := by
  show updF _ _ _ f = _
  rw [updF, if_pos rfl]
theorem wadd_files (S : DS) (f a : Int) (s : ByteArray) (h : ¬ s.size = 0) : (S.wadd f a s).files f = (putB (S.files f).1 a.toNat s, (S.files f).2) := by
  unfold DS.wadd
  rw [if_neg h]
  show updF _ _ _ f = _
  rw [updF, if_pos rfl]
theorem stays_append (h : SInv S (some j) n) (hn : n ≤ 40) (s : List UInt8) (hs : s.length ≤ 200) :
    (appC S j s = 0 ∧ (appJ S j s).recs = j.recs ++ [s] ∧ SInv (appS S j s) (some (appJ S j s)) (n + 1)) ∨ (appC S j s = 7 ∧ appJ S j s = j ∧ SInv (appS S j s) (some (appJ S j s)) (n + 1)) := by
  obtain ⟨hfile, hsm, hsz, hb⟩ := h.jr j rfl
  cases hbad : j.bad with
  | true =>
    have hp : j.pre s = 7 := by unfold JS.pre; rw [hbad, if_pos rfl]
    unfold appC appS appJ
    rw [hp]
    simp only [ne_eq, show ¬ ((7 : Int) = 0) by decide, not_false_eq_true, if_true]
    exact .inr ⟨by first | trivial | rfl, by first | trivial | rfl, h.more⟩
  | false =>
    have hnow := hb hbad
    have hfl := formF_len s (by omega)
    have hfp := formF_pos s
    have hp : j.pre s = 0 := by
      unfold JS.pre JS.at_
      rw [hbad, if_neg (by decide), if_neg (by omega), if_neg (by omega)]
    obtain ⟨_, htk, hee⟩ := arm_come h.arm
    have hd := dlen (S.files 0).1
    have hlen : (formsF j.recs).length = (S.files 0).1.size := by rw [← hnow]; exact hd
    have hfit : fitsB (formsF j.recs).length (bs (formF s)) = true := by
      unfold fitsB
      rw [Bool.and_eq_true, Bool.and_eq_true, decide_eq_true_eq, decide_eq_true_eq, decide_eq_true_eq, bs_size]
      omega
    have hc : S.wcode 0 (formsF j.recs).length (bs (formF s)) = 0 := by
      unfold DS.wcode
      rw [may_zero h.up (by decide) (by decide), if_neg (by omega), if_neg (by omega), if_pos hfit]
    unfold appC appS appJ
    rw [hp]
    simp only [ne_eq, not_true_eq_false, if_false]
    unfold JS.at_ DS.writeC DS.write
    rw [hfile, hee, htk]
    simp only [Bool.false_eq_true, if_false]
    rw [hc]
    simp only [not_true_eq_false, if_false]
    left
    have hw : S.wr 0 (formsF j.recs).length (bs (formF s)) = S.wadd 0 (formsF j.recs).length (bs (formF s)) := by
      unfold DS.wr
      rw [hc, if_pos rfl]
    rw [hw]
    have h0 : ¬ (bs (formF s)).size = 0 := by rw [bs_size]; omega
    have hfiles : (S.wadd 0 (formsF j.recs).length (bs (formF s))).files 0 = (putB (S.files 0).1 ((formsF j.recs).length : Int).toNat (bs (formF s)), (S.files 0).2) := wadd_files S 0 _ _ h0
    have hput : (S.wadd 0 (formsF j.recs).length (bs (formF s))).now 0 = formsF (j.recs ++ [s]) := by
      unfold DS.now
      rw [hfiles]
      show (putB (S.files 0).1 ((formsF j.recs).length : Int).toNat (bs (formF s))).data.toList = _
      rw [Int.toNat_natCast, hlen, put_end _ _ (fun e => by rw [e] at hfp; simp at hfp), formsF_snoc, ← hnow]
      rfl
    have hother : (S.wadd 0 (formsF j.recs).length (bs (formF s))).armed = S.armed ∧ (S.wadd 0 (formsF j.recs).length (bs (formF s))).down = S.down := by
      unfold DS.wadd
      rw [if_neg h0]
      exact ⟨rfl, rfl⟩
    have hl2 : (formsF (j.recs ++ [s])).length ≤ 300 * (n + 1) := by rw [formsF_snoc, List.length_append]; omega
    refine ⟨trivial, by first | trivial | rfl, DS.wadd_wf h.wf 0 _ _ ⟨by decide, by decide⟩ (by omega) (by rw [bs_size]; omega), h.inv.wadd 0 _ _ (by omega), by rw [hother.1]; exact h.arm, by rw [hother.2]; exact h.up, by rw [hput]; exact hl2, fun j' e => ?_⟩
    cases e
    refine ⟨(by first | rfl | exact hfile), fun t ht => ?_, hl2, fun _ => hput⟩
    rcases List.mem_append.1 ht with ht | ht
    · exact hsm t ht
    · simp only [List.mem_singleton] at ht; subst ht; omega
theorem stays_sync (h : SInv S (some j) n) : (synJ S j).recs = j.recs ∧ SInv (synS S j) (some (synJ S j)) (n + 1) ∧ (synC S j = 0 → Firm 0 (S.files 0).1 (synS S j) ∧ S.now 0 = formsF j.recs) := by
  obtain ⟨hfile, hsm, hsz, hb⟩ := h.jr j rfl
  cases hbad : j.bad with
  | true =>
    unfold synJ synC synS
    simp only [hbad, if_true]
    exact ⟨trivial, h.more, fun h => by cases h⟩
  | false =>
    have hnow := hb hbad
    unfold synJ synC synS
    simp only [hbad, Bool.false_eq_true, if_false]
    rw [hfile]
    obtain ⟨hcm, htk, hee⟩ := arm_come h.arm
    have hm : S.may 0 = 0 := may_zero h.up (by decide) (by decide)
    refine ⟨trivial, ?_, fun hc => ?_⟩
    · have hm0 : ¬ S.may 0 ≠ 0 := by omega
      have hw := DS.sync0_wf h.wf 0
      unfold DS.sync
      rw [hcm]
      generalize (S.syncC 0 != 0) = bad
      unfold DS.sync0 at *
      rw [if_neg hm0] at hw ⊢
      by_cases hl : 0 < S.lost
      · rw [if_pos hl] at hw ⊢
        exact ⟨hw, h.inv.same rfl rfl, h.arm, h.up, by have := h.szn; show (S.now 0).length ≤ _; omega, fun j' e => by cases e; exact ⟨by first | rfl | exact hfile, hsm, by simp only; omega, fun _ => hnow⟩⟩
      · rw [if_neg hl] at hw ⊢
        have hn2 : (S.settle 0 (S.files 0).1).now 0 = S.now 0 := by
          unfold DS.now
          rw [settle_files]
        exact ⟨hw, h.inv.settle _ _, h.arm, h.up, by rw [hn2]; have := h.szn; omega, fun j' e => by cases e; exact ⟨by first | rfl | exact hfile, hsm, by simp only; omega, fun _ => by rw [hn2]; exact hnow⟩⟩
    · obtain ⟨_, _, _, _, hset⟩ := syncC_ok hc
      rw [hset, htk]
      refine ⟨⟨settle_files _ _ _, fun p hp => ?_⟩, hnow⟩
      · have := (List.mem_filter.1 (show p ∈ S.queue.filter _ from hp)).2
        simpa using this
theorem stays_same {T : DS} (h : SInv S J n) (hw : T.wf) (hf : T.files = S.files) (hq : T.queue = S.queue) (ha : T.armed = S.armed) (hd : T.down = S.down) : SInv T J (n + 1) :=
  ⟨hw, h.inv.same hf hq, by rw [ha]; exact h.arm, by rw [hd]; exact h.up, by unfold DS.now; rw [hf]; have := h.szn; unfold DS.now at this; omega, fun j e => by
    obtain ⟨a, b, c, d⟩ := h.jr j e
    exact ⟨a, b, by omega, fun hx => by unfold DS.now; rw [hf]; exact d hx⟩⟩
/-- A crash, a start, and the file opened again. -/
theorem stays_crash (h : SInv S J n) (keep : List Int) : SInv (S.crash keep).start none n := by
  have hlen : ((S.crash keep).start.now 0).length ≤ 300 * n := by
    have e : (S.crash keep).start.files 0 = ((survQ keep 0 S.queue S.files 0).2, (survQ keep 0 S.queue S.files 0).2) := by
      unfold DS.crash
      rw [if_neg (by rw [h.up]; decide)]
      rfl
    obtain ⟨_, hi, _, _⟩ := survives_plain h.wf h.inv 0 keep
    have h1 := h.szn
    unfold DS.now at h1 ⊢
    rw [dlen] at h1 ⊢
    rw [e]
    simp only
    omega
  refine ⟨DS.start_wf (DS.crash_wf h.wf keep), (h.inv.crash keep).same rfl rfl, ?_, rfl, hlen, fun _ e => by cases e⟩
  show (S.crash keep).armed = 0
  unfold DS.crash
  rw [if_neg (by rw [h.up]; decide)]
theorem stays_open (h : SInv S J n) : ((openC S 0 = 0 ∧ SInv (openS S 0) (some (openJ S 0)) (n + 1)) ∨ (openC S 0 ≠ 0 ∧ SInv (openS S 0) none (n + 1))) := by
  obtain ⟨hcm, htk, hee⟩ := arm_come h.arm
  have hm : S.may 0 = 0 := may_zero h.up (by decide) (by decide)
  have hszn := h.szn
  have e1 : ¬ ((0 : Int) < 0 ∨ (15 : Int) < 0) := by decide
  have e0 : ¬ ((0 : Int) ≠ 0) := by decide
  have e9 : (9 : Int) ≠ 0 := by decide
  unfold openC openS openJ
  rw [if_neg e1, if_neg e1]
  by_cases hl : 0 < S.lost
  · have hc : S.syncC 0 = 9 := by unfold DS.syncC DS.syncC0; rw [hcm, if_neg (by omega), if_pos hl]
    rw [hc, if_pos e9, if_pos e9]
    right
    refine ⟨by decide, ?_⟩
    have hw := DS.sync0_wf h.wf 0
    unfold DS.sync
    rw [hcm]
    unfold DS.sync0 at hw ⊢
    rw [if_neg (by omega), if_pos hl] at hw ⊢
    exact ⟨hw, h.inv.same rfl rfl, h.arm, h.up, by show (S.now 0).length ≤ _; omega, fun _ e => by cases e⟩
  · have hc : S.syncC 0 = 0 := by unfold DS.syncC DS.syncC0; rw [hcm, if_neg (by omega), if_neg hl]
    obtain ⟨_, _, _, _, hset⟩ := syncC_ok hc
    rw [htk] at hset
    have hn2 : (S.sync 0).now 0 = S.now 0 := by
      rw [hset]
      unfold DS.now
      rw [settle_files]
    have hpre := recs_prefix (S.now 0)
    have hple := hpre.length_le
    have hw2 : (S.sync 0).wf := by rw [hset]; exact DS.settle_wf h.wf 0 _ ⟨by decide, by decide⟩ (h.wf.now 0)
    have hi2 : Inv (S.sync 0) := by rw [hset]; exact h.inv.settle _ _
    have ha2 : (S.sync 0).armed = 0 := by rw [hset]; exact h.arm
    have hd2 : (S.sync 0).down = false := by rw [hset]; exact h.up
    rw [hc, if_neg e0, if_neg e0, hn2]
    left
    by_cases hlt : (formsF (recs (S.now 0))).length < (S.now 0).length
    · rw [if_pos hlt, if_pos hlt]
      obtain ⟨hcm2, _, _⟩ := arm_come ha2
      have hsz := dlen ((S.sync 0).files 0).1
      have hnow : ((S.sync 0).now 0).length = ((S.sync 0).files 0).1.size := hsz
      rw [hn2] at hnow
      have ht := trunc_ok0 (T := S.sync 0) (f := 0) (n := ((formsF (recs (S.now 0))).length : Int)) (by decide) (by decide) hd2 (by omega) (by omega)
      unfold DS.truncC DS.trunc
      rw [hcm2]
      unfold DS.trunc0
      rw [ht, if_pos rfl]
      have hx : (((S.sync 0).files 0).1.extract 0 ((formsF (recs (S.now 0))).length : Int).toNat).data.toList = formsF (recs (S.now 0)) := by
        rw [ext_list]
        obtain ⟨t, ht⟩ := hpre
        have : ((S.sync 0).files 0).1.data.toList = formsF (recs (S.now 0)) ++ t := by
          have h3 : ((S.sync 0).files 0).1.data.toList = S.now 0 := hn2
          rw [h3, ht]
        rw [this]
        simp
      have hn3 : ((S.sync 0).settle 0 (((S.sync 0).files 0).1.extract 0 ((formsF (recs (S.now 0))).length : Int).toNat)).now 0 = formsF (recs (S.now 0)) := by
        unfold DS.now
        rw [settle_files]
        exact hx
      refine ⟨rfl, DS.settle_wf hw2 0 _ ⟨by decide, by decide⟩ (by rw [extract_size]; have := hw2.now 0; omega), hi2.settle _ _, ha2, hd2, by rw [hn3]; omega, fun j' e => ?_⟩
      cases e
      exact ⟨rfl, recs_small _, by simp only; omega, fun _ => hn3⟩
    · rw [if_neg hlt, if_neg hlt]
      have e : S.now 0 = formsF (recs (S.now 0)) := (hpre.eq_of_length_le (by omega)).symm
      refine ⟨rfl, hw2, hi2, ha2, hd2, by rw [hn2]; omega, fun j' e' => ?_⟩
      cases e'
      exact ⟨rfl, recs_small _, by simp only; omega, fun _ => by rw [hn2]; exact e⟩
/-- A file that is durable is read as it was, whatever the crash. -/
theorem firm_open {l : List (List UInt8)} {x : ByteArray} (hF : Firm 0 x S) (hx : x.data.toList = formsF l) (hl : ∀ t ∈ l, t.length ≤ 20000) (hd : S.down = false) (hlo : S.lost = 0) (ha : S.armed = 0) :
    openC S 0 = 0 ∧ (openJ S 0).recs = l ∧ Firm 0 x (openS S 0) ∧ (openS S 0).down = false ∧ (openS S 0).lost = 0 ∧ (openS S 0).armed = 0 := by
  have hc0 := open_up (S := S) (f := 0) ⟨by decide, by decide⟩ hd hlo ha
  obtain ⟨hcm, htk, hee⟩ := arm_come ha
  have hm : S.may 0 = 0 := may_zero hd (by decide) (by decide)
  have hc : S.syncC 0 = 0 := by unfold DS.syncC DS.syncC0; rw [hcm, if_neg (by omega), if_neg (by omega)]
  obtain ⟨_, _, _, _, hset⟩ := syncC_ok hc
  rw [htk] at hset
  have hn2 : (S.sync 0).now 0 = formsF l := by
    rw [hset]
    unfold DS.now
    rw [settle_files, hF.1]
    exact hx
  have hr : recs ((S.sync 0).now 0) = l := by rw [hn2]; exact recs_forms l hl
  refine ⟨hc0, hr, ?_⟩
  unfold openS
  rw [if_neg (by omega), hc, if_neg (by decide), hr, hn2, if_neg (by omega), hset]
  refine ⟨⟨by rw [settle_files, hF.1], fun p hp => ?_⟩, hd, hlo, ha⟩
  · exact hF.2 p (List.mem_filter.1 (show p ∈ S.queue.filter _ from hp)).1
end
end Go.Proofs.YtjmkodkechahdaaGreatDoor
/- Journals in plain Lean: a disk that is up, with nothing lost and no crash scheduled. -/
set_option linter.unusedSimpArgs false
set_option linter.unusedVariables false
namespace Go.Proofs.YtjmkodkechahdaaGreatDoor

structure Up (S : DS) : Prop where
  wf : S.wf
  arm : S.armed = 0
  up : S.down = false
  lost : S.lost = 0
section
variable {S : DS} {f : Int}
theorem Up.new : Up DS.new := ⟨DS.new_wf, rfl, rfl, rfl⟩
theorem Up.may (h : Up S) (hf : 0 ≤ f ∧ f ≤ 15) : S.may f = 0 := may_zero h.up hf.1 (by omega)
theorem now_len (S : DS) (f : Int) : (S.now f).length = (S.files f).1.size := dlen _
theorem updF_other (F : Int → FileT) (f : Int) (x : FileT) {g : Int} (h : g ≠ f) : updF F f x g = F g := by rw [updF, if_neg h]
/-- Bytes behind the file. -/
theorem up_put (h : Up S) (hf : 0 ≤ f ∧ f ≤ 15) (t : List UInt8) (hsz : (S.now f).length + t.length ≤ 16777216) :
    S.writeC f (S.now f).length (bs t) = 0 ∧ Up (S.write f (S.now f).length (bs t)) ∧ (S.write f (S.now f).length (bs t)).now f = S.now f ++ t ∧ ∀ g, g ≠ f → (S.write f (S.now f).length (bs t)).now g = S.now g := by
  obtain ⟨_, htk, hee⟩ := arm_come h.arm
  have hlen := now_len S f
  have hfit : fitsB (S.now f).length (bs t) = true := by
    unfold fitsB
    rw [Bool.and_eq_true, Bool.and_eq_true, decide_eq_true_eq, decide_eq_true_eq, decide_eq_true_eq, bs_size]
    omega
  have hm := h.may hf
  have hc : S.wcode f (S.now f).length (bs t) = 0 := by
    unfold DS.wcode
    rw [hm, if_neg (by omega), if_neg (by omega), if_pos hfit]
  have hw : S.wr f (S.now f).length (bs t) = S.wadd f (S.now f).length (bs t) := by
    unfold DS.wr
    rw [hc, if_pos rfl]
  unfold DS.writeC DS.write
  rw [hee, htk]
  simp only [Bool.false_eq_true, if_false]
  rw [hc, hw]
  refine ⟨rfl, ?_⟩
  by_cases h0 : (bs t).size = 0
  · have ht : t = [] := List.eq_nil_of_length_eq_zero (by rw [← bs_size]; exact h0)
    have e : S.wadd f (S.now f).length (bs t) = S := by
      unfold DS.wadd
      rw [if_pos h0]
    rw [e, ht, List.append_nil]
    exact ⟨h, rfl, fun _ _ => rfl⟩
  · have hother : (S.wadd f (S.now f).length (bs t)).armed = S.armed ∧ (S.wadd f (S.now f).length (bs t)).down = S.down ∧ (S.wadd f (S.now f).length (bs t)).lost = S.lost := by
      unfold DS.wadd
      rw [if_neg h0]
      exact ⟨rfl, rfl, rfl⟩
    refine ⟨⟨DS.wadd_wf h.wf f _ _ ⟨hf.1, by omega⟩ (by omega) (by rw [bs_size]; omega), by rw [hother.1]; exact h.arm, by rw [hother.2.1]; exact h.up, by rw [hother.2.2]; exact h.lost⟩, ?_, fun g hg => ?_⟩
    · unfold DS.now
      rw [wadd_files S f _ _ h0]
      show (putB (S.files f).1 ((S.now f).length : Int).toNat (bs t)).data.toList = _
      rw [Int.toNat_natCast, hlen, put_end _ _ (fun e => h0 (by rw [e]; rfl))]
    · unfold DS.now DS.wadd
      rw [if_neg h0]
      show (updF _ _ _ g).1.data.toList = _
      rw [updF_other _ _ _ hg]
theorem up_append (h : Up S) {J : JS} (hb : J.bad = false) (hf : 0 ≤ J.file ∧ J.file ≤ 15) (hn : S.now J.file = formsF J.recs) (s : List UInt8) (hs : s.length ≤ 20000) (hsz : (formsF J.recs).length + (formF s).length ≤ 1048576) :
    appC S J s = 0 ∧ appJ S J s = { J with recs := J.recs ++ [s] } ∧ Up (appS S J s) ∧ (appS S J s).now J.file = formsF (J.recs ++ [s]) ∧ ∀ g, g ≠ J.file → (appS S J s).now g = S.now g := by
  have hp : J.pre s = 0 := by
    unfold JS.pre JS.at_
    rw [hb, if_neg (by decide), if_neg (by omega), if_neg (by omega)]
  obtain ⟨h1, h2, h3, h4⟩ := up_put h hf (formF s) (by rw [hn]; omega)
  have ha : (J.at_ : Int) = (S.now J.file).length := by rw [hn]; rfl
  have e0 : ¬ ((0 : Int) ≠ 0) := by decide
  unfold appC appS appJ
  rw [hp, if_neg e0, if_neg e0, if_neg e0, ha, h1, if_neg e0]
  exact ⟨rfl, rfl, h2, by rw [h3, formsF_snoc, hn], h4⟩
theorem up_open (h : Up S) (hf : 0 ≤ f ∧ f ≤ 15) :
    openC S f = 0 ∧ openJ S f = ⟨f, recs (S.now f), false⟩ ∧ Up (openS S f) ∧ (openS S f).now f = formsF (recs (S.now f)) ∧ ∀ g, g ≠ f → (openS S f).now g = S.now g := by
  have hc0 := open_up (S := S) hf h.up h.lost h.arm
  obtain ⟨hcm, htk, hee⟩ := arm_come h.arm
  have hm := h.may hf
  have hl := h.lost
  have hc : S.syncC f = 0 := by unfold DS.syncC DS.syncC0; rw [hcm, if_neg (by omega), if_neg (by omega)]
  obtain ⟨_, _, _, _, hset⟩ := syncC_ok hc
  rw [htk] at hset
  have hn2 : (S.sync f).now f = S.now f := by
    rw [hset]
    unfold DS.now
    rw [settle_files]
  have hu2 : Up (S.sync f) := by rw [hset]; exact ⟨DS.settle_wf h.wf f _ ⟨hf.1, by omega⟩ (h.wf.now f), h.arm, h.up, h.lost⟩
  have ho2 : ∀ g, g ≠ f → (S.sync f).now g = S.now g := fun g hg => by
    rw [hset]
    show (updF _ _ _ g).1.data.toList = _
    rw [updF_other _ _ _ hg]
    rfl
  have hpre := recs_prefix (S.now f)
  have hple := hpre.length_le
  refine ⟨hc0, by unfold openJ; rw [hn2], ?_⟩
  unfold openS
  rw [if_neg (by omega), hc, if_neg (by decide), hn2]
  by_cases hlt : (formsF (recs (S.now f))).length < (S.now f).length
  · rw [if_pos hlt]
    obtain ⟨hcm2, _, _⟩ := arm_come hu2.arm
    have hnow := now_len (S.sync f) f
    rw [hn2] at hnow
    have ht := trunc_ok0 (T := S.sync f) (f := f) (n := ((formsF (recs (S.now f))).length : Int)) hf.1 (by omega) hu2.up (by omega) (by omega)
    unfold DS.trunc
    rw [hcm2]
    unfold DS.trunc0
    rw [ht, if_pos rfl]
    have hx : (((S.sync f).files f).1.extract 0 ((formsF (recs (S.now f))).length : Int).toNat).data.toList = formsF (recs (S.now f)) := by
      rw [ext_list]
      obtain ⟨t, ht⟩ := hpre
      have : ((S.sync f).files f).1.data.toList = formsF (recs (S.now f)) ++ t := by
        have h3 : ((S.sync f).files f).1.data.toList = S.now f := hn2
        rw [h3, ht]
      rw [this]
      simp
    refine ⟨⟨DS.settle_wf hu2.wf f _ ⟨hf.1, by omega⟩ (by rw [extract_size]; have := hu2.wf.now f; omega), hu2.arm, hu2.up, hu2.lost⟩, ?_, fun g hg => ?_⟩
    · unfold DS.now
      rw [settle_files]
      exact hx
    · show (updF _ _ _ g).1.data.toList = _
      rw [updF_other _ _ _ hg]
      exact ho2 g hg
  · rw [if_neg hlt]
    exact ⟨hu2, by rw [hn2]; exact (hpre.eq_of_length_le (by omega)).symm, ho2⟩
/-- A read of the whole. -/
theorem up_read (h : Up S) (hf : 0 ≤ f ∧ f ≤ 15) (n : Int) (hn : (S.now f).length ≤ n) : S.readC f 0 n = 0 ∧ S.readS f 0 n = bs (S.now f) := by
  have hm := h.may hf
  have hc : S.readC f 0 n = 0 := by
    unfold DS.readC
    rw [hm, if_neg (by omega), if_neg (by have := now_len S f; omega)]
  refine ⟨hc, ?_⟩
  have hl := now_len S f
  rw [readS_eq hc, readX_all _ _ (by omega)]
  rfl
end
end Go.Proofs.YtjmkodkechahdaaGreatDoor
/- The machine of a list of records on a disk, in plain Lean. -/
set_option linter.unusedSimpArgs false
set_option linter.unusedVariables false
namespace Go.Proofs.YtjmkodkechahdaaGreatDoor

/-- The text of a list. -/
def textsL (l : List (List UInt8)) : List UInt8 := encL encT l
def fitsE (l : List (List UInt8)) : Bool := decide (l.length ≤ 1000) && (l.all (fun s => decide (s.length ≤ 20000)) && decide ((textsL l).length ≤ 1048576))
/-- What the pointer says. -/
def sideE (S : DS) (f : Int) : List UInt8 := (S.readS f 0 1).data.toList
def openE (S : DS) (f : Int) : Int := if f < 0 ∨ 13 < f then 1 else if S.readC f 0 1 ≠ 0 then S.readC f 0 1 else if sideE S f = [] ∨ sideE S f = [48] ∨ sideE S f = [49] then 0 else 22
def nowF (f : Int) (p : List UInt8) : Int := if p = [48] then f + 1 else f + 2
def othF (f : Int) (p : List UInt8) : Int := if p = [48] then f + 2 else f + 1
def nextP (p : List UInt8) : List UInt8 := if p = [48] then [49] else [48]
abbrev Res := Int × DS
def syR (f : Int) (S : DS) : Res := (S.syncC f, S.sync f)
def trR (f : Int) (S : DS) : Res := (S.truncC f 0, S.trunc f 0)
def wrR (f : Int) (s : List UInt8) (S : DS) : Res := (S.writeC f 0 (bs s), S.write f 0 (bs s))
def setR (f : Int) (p : List UInt8) (S : DS) : Res := if p = [] then (0, S) else syR f S
def endR (f : Int) (p : List UInt8) (S : DS) : Res := if p = [] then (0, S) else trR (nowF f p) S
def runL : List (DS → Res) → DS → Res
  | [], S => (0, S)
  | k :: r, S => if (k S).1 = 0 then runL r (k S).2 else k S
def rewL (f : Int) (p t : List UInt8) : List (DS → Res) := [setR f p, trR (othF f p), wrR (othF f p) t, syR (othF f p), wrR f (nextP p), syR f, endR f p]
/-- Rewrite. -/
def rewE (S : DS) (f : Int) (l : List (List UInt8)) : Res :=
  if f < 0 ∨ 13 < f then (1, S) else if fitsE l = false then (6, S) else if openE S f ≠ 0 then (openE S f, S) else runL (rewL f (sideE S f) (textsL l)) S
/-- The bytes of a file, as they are read. -/
def fileC (S : DS) (f : Int) : Int := S.readC f 0 (S.files f).1.size
def fileE (S : DS) (f : Int) : List UInt8 := (S.readS f 0 (S.files f).1.size).data.toList
def parseE (t : List UInt8) : List (List UInt8) × RS := rItems rText ⟨t, false⟩

/-- The side that the pointer names. -/
def readE (S : DS) (f : Int) (p : List UInt8) : Int := if p = [] then 0 else if fileC S (nowF f p) = 0 ∧ rDone (parseE (fileE S (nowF f p))).2 = false then 22 else fileC S (nowF f p)
def listE (S : DS) (f : Int) (p : List UInt8) : List (List UInt8) := if p = [] then [] else (parseE (fileE S (nowF f p))).1
/-- Recover: the code, the records, the disk. -/
def recC (S : DS) (f : Int) : Int :=
  if openE S f ≠ 0 then openE S f else if (setR f (sideE S f) S).1 ≠ 0 then (setR f (sideE S f) S).1 else
  if readE (setR f (sideE S f) S).2 f (sideE S f) ≠ 0 then readE (setR f (sideE S f) S).2 f (sideE S f) else (trR (othF f (sideE S f)) (setR f (sideE S f) S).2).1
def recS (S : DS) (f : Int) : DS :=
  if openE S f ≠ 0 then S else if (setR f (sideE S f) S).1 ≠ 0 then (setR f (sideE S f) S).2 else
  if readE (setR f (sideE S f) S).2 f (sideE S f) ≠ 0 then (setR f (sideE S f) S).2 else (trR (othF f (sideE S f)) (setR f (sideE S f) S).2).2
def recL (S : DS) (f : Int) : List (List UInt8) := if recC S f = 0 then listE (setR f (sideE S f) S).2 f (sideE S f) else []
/-- A file has a list, and nothing else. -/
def keptE (S : DS) (f : Int) (l : List (List UInt8)) : Bool :=
  if fileE S f = [] then decide (l.length = 0) && (decide ((S.files (f + 1)).1.size = 0) && decide ((S.files (f + 2)).1.size = 0))
  else if fileE S f = [48] then (fileE S (f + 1) == textsL l) && decide ((S.files (f + 2)).1.size = 0)
  else if fileE S f = [49] then (fileE S (f + 2) == textsL l) && decide ((S.files (f + 1)).1.size = 0) else false

/-! What a step leaves. -/
/-- What a crash leaves of S. -/
def Cx (S T : DS) : Prop := ∃ keep, T.files = lastF (survQ keep 0 S.queue S.files) ∧ T.queue = []
/-- T is S in its files, or what a crash leaves of it. -/
def Cr (S T : DS) : Prop := (T.files = S.files ∧ T.queue = S.queue ∧ T.down = S.down) ∨ Cx S T
theorem Cr.refl (S : DS) : Cr S S := .inl ⟨rfl, rfl, rfl⟩
theorem Cx.crash {S : DS} (hd : S.down = false) (keep : List Int) : Cx S (S.crash keep) := by
  unfold DS.crash
  rw [if_neg (by rw [hd]; decide)]
  exact ⟨keep, rfl, rfl⟩
theorem Cr.crash (S : DS) (keep : List Int) : Cr S (S.crash keep) := by
  cases hd : S.down with
  | true =>
    unfold DS.crash
    rw [if_pos hd]
    exact .refl S
  | false => exact .inr (Cx.crash hd keep)
theorem Cx.pre {S S2 T : DS} (h : Cx S2 T) (hf : S2.files = S.files) (hq : S2.queue = S.queue) : Cx S T := by
  obtain ⟨k, a, b⟩ := h
  exact ⟨k, by rw [a, hf, hq], b⟩
theorem Cr.pre {S S2 T : DS} (h : Cr S2 T) (hf : S2.files = S.files) (hq : S2.queue = S.queue) (hd : S2.down = S.down) : Cr S T := by
  rcases h with ⟨a, b, c⟩ | h
  · exact .inl ⟨a.trans hf, b.trans hq, c.trans hd⟩
  · exact .inr (h.pre hf hq)
theorem Cr.come (S : DS) : Cr S S.come := by
  unfold DS.come
  split
  · exact (Cr.crash S.tick _).pre (tick_same S).1 (tick_same S).2.1 (tick_same S).2.2.1
  · exact .inl ⟨(tick_same S).1, (tick_same S).2.1, (tick_same S).2.2.1⟩
theorem Cr.firm {S T : DS} (h : Cr S T) {f : Int} {x : ByteArray} (hF : Firm f x S) : Firm f x T := by
  rcases h with ⟨a, b, _⟩ | ⟨k, a, b⟩
  · exact ⟨by rw [a]; exact hF.1, by rw [b]; exact hF.2⟩
  · refine ⟨?_, by rw [b]; simp⟩
    rw [a]
    unfold lastF
    rw [surv_other f k S.queue 0 S.files hF.2, hF.1]
theorem sync_cases (S : DS) {f : Int} (hf : 0 ≤ f ∧ f < 16) :
    (S.syncC f = 0 ∧ S.down = false ∧ S.sync f = S.tick.settle f (S.files f).1) ∨ ((S.syncC f = 8 ∨ S.syncC f = 9) ∧ Cr S (S.sync f)) := by
  rcases sync_code S hf with h | h
  · obtain ⟨a, _, _, _, b⟩ := syncC_ok h
    exact .inl ⟨h, a, b⟩
  · refine .inr ⟨h, ?_⟩
    unfold DS.sync DS.sync0
    split
    · exact Cr.come S
    · split
      · rcases Cr.come S with ⟨a, b, c⟩ | ⟨k, a, b⟩
        · exact .inl ⟨a, b, c⟩
        · exact .inr ⟨k, a, b⟩
      · rename_i h1 h2
        exfalso
        unfold DS.syncC DS.syncC0 at h
        rw [if_neg h1, if_neg h2] at h
        omega
theorem may_cases (S : DS) {f : Int} (hf : 0 ≤ f ∧ f < 16) : (S.may f = 0 ∧ S.down = false) ∨ (S.may f = 8 ∧ S.down = true) := by
  unfold DS.may
  cases hd : S.down with
  | true => exact .inr ⟨rfl, rfl⟩
  | false => exact .inl ⟨by rw [if_neg (by decide), if_neg (by omega)], rfl⟩
theorem trunc_cases (S : DS) {f : Int} (hf : 0 ≤ f ∧ f < 16) :
    (S.truncC f 0 = 0 ∧ S.down = false ∧ S.trunc f 0 = S.tick.settle f e0) ∨ (S.truncC f 0 = 8 ∧ Cr S (S.trunc f 0)) := by
  have e0z : ∀ T : DS, ((T.files f).1.extract 0 (0 : Int).toNat) = e0 := fun T => str_eq0 (by rw [extract_size]; simp)
  rcases may_cases S.come hf with ⟨h1, h2⟩ | ⟨h1, h2⟩
  · obtain ⟨a, b, c⟩ := come_down h2
    left
    have hc : S.come.truncC0 f 0 = 0 := by
      unfold DS.truncC0
      rw [h1, if_neg (by decide), if_neg (by omega)]
    refine ⟨hc, c, ?_⟩
    unfold DS.trunc DS.trunc0
    rw [if_pos hc, b, e0z]
  · right
    have hc : S.come.truncC0 f 0 = 8 := by
      unfold DS.truncC0
      rw [h1, if_pos (by decide)]
    refine ⟨hc, ?_⟩
    unfold DS.trunc DS.trunc0
    rw [if_neg (by rw [hc]; decide)]
    exact Cr.come S
theorem write_cases (S : DS) {f : Int} (hf : 0 ≤ f ∧ f < 16) (s : List UInt8) (hs : s.length ≤ 16777216) :
    (S.writeC f 0 (bs s) = 0 ∧ S.down = false ∧ S.write f 0 (bs s) = S.tick.wadd f 0 (bs s)) ∨ (S.writeC f 0 (bs s) = 8 ∧ (Cr S (S.write f 0 (bs s)) ∨ Cx (S.wadd f 0 (bs s)) (S.write f 0 (bs s)))) := by
  have hfit : fitsB 0 (bs s) = true := by
    unfold fitsB
    rw [Bool.and_eq_true, Bool.and_eq_true, decide_eq_true_eq, decide_eq_true_eq, decide_eq_true_eq, bs_size]
    omega
  have htk := tick_same S
  have hwadd : (S.tick.wadd f 0 (bs s)).files = (S.wadd f 0 (bs s)).files ∧ (S.tick.wadd f 0 (bs s)).queue = (S.wadd f 0 (bs s)).queue := by
    unfold DS.wadd
    split
    · exact ⟨htk.1, htk.2.1⟩
    · rw [htk.1, htk.2.1]; exact ⟨rfl, rfl⟩
  rcases may_cases S.tick hf with ⟨h1, h2⟩ | ⟨h1, h2⟩
  · have hc : S.tick.wcode f 0 (bs s) = 0 := by
      unfold DS.wcode
      rw [h1, if_neg (by decide), if_neg (by decide), if_pos hfit]
    have hw : S.tick.wr f 0 (bs s) = S.tick.wadd f 0 (bs s) := by unfold DS.wr; rw [if_pos hc]
    unfold DS.writeC DS.write
    cases he : S.endsB with
    | true =>
      right
      simp only [if_true]
      rw [hw]
      have hdw : (S.tick.wadd f 0 (bs s)).down = false := by
        unfold DS.wadd
        split <;> exact h2
      exact ⟨by trivial, .inr ((Cx.crash hdw _).pre hwadd.1 hwadd.2)⟩
    | false =>
      left
      simp only [Bool.false_eq_true, if_false]
      rw [hw]
      exact ⟨hc, by rw [← htk.2.2.1]; exact h2, rfl⟩
  · have hc : S.tick.wcode f 0 (bs s) = 8 := by
      unfold DS.wcode
      rw [h1, if_pos (by decide)]
    have hw : S.tick.wr f 0 (bs s) = S.tick := by unfold DS.wr; rw [if_neg (by rw [hc]; decide)]
    right
    have he : S.endsB = false := by
      unfold DS.endsB
      rw [← htk.2.2.1, h2]
      rfl
    unfold DS.writeC DS.write
    rw [he]
    simp only [Bool.false_eq_true, if_false]
    rw [hw]
    exact ⟨hc, .inl (.inl ⟨htk.1, htk.2.1, htk.2.2.1⟩)⟩
/-- Other files are kept by a step. -/
theorem sync_firm {S : DS} {f g : Int} {x : ByteArray} (hf : 0 ≤ f ∧ f < 16) (h : Firm g x S) (hne : g ≠ f) : Firm g x (S.sync f) := by
  rcases sync_cases S hf with ⟨_, _, e⟩ | ⟨_, e⟩
  · rw [e]; exact h.tick.settle (fun e => hne e.symm)
  · exact e.firm h
theorem trunc_firm {S : DS} {f g : Int} {x : ByteArray} (hf : 0 ≤ f ∧ f < 16) (h : Firm g x S) (hne : g ≠ f) : Firm g x (S.trunc f 0) := by
  rcases trunc_cases S hf with ⟨_, _, e⟩ | ⟨_, e⟩
  · rw [e]; exact h.tick.settle (fun e => hne e.symm)
  · exact e.firm h
theorem Firm.wadd {S : DS} {f g a : Int} {x s : ByteArray} (h : Firm f x S) (hg : g ≠ f) : Firm f x (S.wadd g a s) := by
  unfold DS.wadd
  split
  · exact h
  · refine ⟨by show updF _ _ _ f = _; rw [updF, if_neg (fun e => hg e.symm)]; exact h.1, fun p hp => ?_⟩
    rcases (addQ_mem g _ _ _ p).1 hp with h1 | h1
    · exact h.2 p h1
    · rw [h1.1]
      exact hg
theorem write_firm {S : DS} {f g : Int} {x : ByteArray} (hf : 0 ≤ f ∧ f < 16) (s : List UInt8) (hs : s.length ≤ 16777216) (h : Firm g x S) (hne : g ≠ f) : Firm g x (S.write f 0 (bs s)) := by
  rcases write_cases S hf s hs with ⟨_, _, e⟩ | ⟨_, e | e⟩
  · rw [e]; exact h.tick.wadd (fun e => hne e.symm)
  · exact e.firm h
  · exact Cr.firm (.inr e) (h.wadd (fun e => hne e.symm))
end Go.Proofs.YtjmkodkechahdaaGreatDoor
/- Lists of records on a disk, in plain Lean: what rewriting and recovering leave. -/
set_option linter.unusedSimpArgs false
set_option linter.unusedVariables false
namespace Go.Proofs.YtjmkodkechahdaaGreatDoor

theorem runL_step {k : DS → Res} {r : List (DS → Res)} {S : DS} {Q : Res → Prop} (h0 : (k S).1 = 0 → Q (runL r (k S).2)) (h1 : (k S).1 ≠ 0 → Q (k S)) : Q (runL (k :: r) S) := by
  unfold runL
  by_cases h : (k S).1 = 0
  · rw [if_pos h]; exact h0 h
  · rw [if_neg h]; exact h1 h
theorem runL_keep {J : DS → Prop} : ∀ (ks : List (DS → Res)) (S : DS), (∀ k ∈ ks, ∀ T, J T → J (k T).2) → J S → J (runL ks S).2
  | [], _, _, h => h
  | k :: r, S, hk, h => by
    refine runL_step (Q := fun x => J x.2) (fun _ => runL_keep r _ (fun k2 h2 => hk k2 (by simp [h2])) (hk k (by simp) S h)) (fun _ => hk k (by simp) S h)
theorem runL_ok {J : DS → Prop} : ∀ (ks : List (DS → Res)) (S : DS), (∀ k ∈ ks, ∀ T, J T → (k T).1 = 0 ∧ J (k T).2) → J S → (runL ks S).1 = 0 ∧ J (runL ks S).2
  | [], _, _, h => ⟨rfl, h⟩
  | k :: r, S, hk, h => by
    obtain ⟨h1, h2⟩ := hk k (by simp) S h
    refine runL_step (Q := fun x => x.1 = 0 ∧ J x.2) (fun _ => runL_ok r _ (fun k2 h2 => hk k2 (by simp [h2])) h2) (fun h3 => absurd h1 h3)
theorem bs_nil0 : bs ([] : List UInt8) = e0 := rfl
theorem bs_list (l : List UInt8) : (bs l).data.toList = l := rfl
theorem texts_pos (l : List (List UInt8)) : textsL l ≠ [] := by simp [textsL, encL]
theorem Firm.self (S : DS) (f : Int) (x : ByteArray) : Firm f x (S.settle f x) := by
  refine ⟨settle_files S f x, fun p hp => ?_⟩
  have := (List.mem_filter.1 hp).2
  simpa using this
theorem put_short (s t : List UInt8) (hs : s.length ≤ t.length) (ht : t ≠ []) : putB (bs s) 0 (bs t) = bs t := by
  have h0 : ¬ (bs t).size = 0 := fun e => ht (List.eq_nil_of_length_eq_zero (by rw [← bs_size]; exact e))
  apply bext
  rw [putB, if_neg h0]
  show putL s 0 t = t
  unfold putL
  have : ((padL s (0 + t.length)).drop (0 + t.length)) = [] := List.drop_eq_nil_of_le (by rw [padL_len]; omega)
  rw [this]
  simp
section
variable {S T : DS} {f : Int} {p q : List UInt8} {l l2 : List (List UInt8)}
def PtrOk (p : List UInt8) : Prop := p = [] ∨ p = [48] ∨ p = [49]
theorem PtrOk.len (h : PtrOk p) : p.length ≤ 1 := by rcases h with rfl | rfl | rfl <;> simp
theorem PtrOk.next (p : List UInt8) : PtrOk (nextP p) := by unfold nextP; split <;> simp [PtrOk]
theorem next_len (p : List UInt8) : (nextP p).length = 1 := by unfold nextP; split <;> rfl
theorem next_ne (p : List UInt8) : nextP p ≠ [] := by unfold nextP; split <;> simp
theorem now_next (f : Int) (p : List UInt8) : nowF f (nextP p) = othF f p := by
  unfold nowF nextP othF
  by_cases h : p = [48]
  · rw [if_pos h, if_pos h]; rfl
  · rw [if_neg h, if_neg h]; rfl
theorem oth_next (f : Int) {p : List UInt8} (h : PtrOk p) : othF f (nextP p) = nowF f p := by
  unfold nowF nextP othF
  by_cases h : p = [48]
  · rw [if_pos h, if_pos h]; rfl
  · rw [if_neg h, if_neg h]; rfl
theorem side_ne (f : Int) (p : List UInt8) : nowF f p ≠ f ∧ othF f p ≠ f ∧ nowF f p ≠ othF f p ∧ (nowF f p = f + 1 ∨ nowF f p = f + 2) ∧ (othF f p = f + 1 ∨ othF f p = f + 2) := by
  unfold nowF othF
  split <;> omega
/-- The list l is there, durably. -/
structure Has (S : DS) (f : Int) (p : List UInt8) (l : List (List UInt8)) : Prop where
  ptr : Firm f (bs p) S
  ok : PtrOk p
  nil : p = [] → l = []
  side : p ≠ [] → Firm (nowF f p) (bs (textsL l)) S
/-- The pointer is written, but not synced. -/
structure Pend (S : DS) (f : Int) (p : List UInt8) (l l2 : List (List UInt8)) : Prop where
  ptr : S.files f = (bs (nextP p), bs p)
  q : ∀ x ∈ S.queue, x.1 = f → x.2 = 0
  ok : PtrOk p
  nil : p = [] → l = []
  old : p ≠ [] → Firm (nowF f p) (bs (textsL l)) S
  new : Firm (othF f p) (bs (textsL l2)) S
theorem Has.keep (h : Has S f p l) (hk : ∀ g x, (g = f ∨ g = nowF f p) → Firm g x S → Firm g x T) : Has T f p l :=
  ⟨hk _ _ (.inl rfl) h.ptr, h.ok, h.nil, fun hn => hk _ _ (.inr rfl) (h.side hn)⟩
theorem Has.cr (h : Has S f p l) (hc : Cr S T) : Has T f p l := h.keep fun _ _ _ hf => hc.firm hf
theorem firm_same {g : Int} {x : ByteArray} (h : Firm g x S) (hf : T.files = S.files) (hq : T.queue = S.queue) : Firm g x T := ⟨by rw [hf]; exact h.1, by rw [hq]; exact h.2⟩
theorem Has.same (h : Has S f p l) (hf : T.files = S.files) (hq : T.queue = S.queue) : Has T f p l := h.keep fun _ _ _ hx => firm_same hx hf hq
theorem Has.settle (h : Has S f p l) (s : ByteArray) : Has (S.settle (othF f p) s) f p l := by
  obtain ⟨h1, h2, h3, _⟩ := side_ne f p
  exact h.keep fun g x hg hx => hx.settle (by rcases hg with rfl | rfl <;> omega)
theorem Has.tick (h : Has S f p l) : Has S.tick f p l := h.same (tick_same S).1 (tick_same S).2.1
theorem surv_one (f : Int) (q p : List UInt8) (hq : q.length = 1) (hp : p.length ≤ 1) (keep : List Int) : ∀ (u : List (Int × Int)) (i : Nat) (F : Int → FileT), (∀ x ∈ u, x.1 = f → x.2 = 0) → (F f).1 = bs q → ((F f).2 = bs p ∨ (F f).2 = bs q) →
    (survQ keep i u F f).2 = bs p ∨ (survQ keep i u F f).2 = bs q
  | [], i, F, _, _, h => h
  | x :: u, i, F, hu, h1, h2 => by
    have hne : q ≠ [] := fun e => by rw [e] at hq; simp at hq
    have hstep : ((if keepBit keep i = true then surv1 F x else F) f).1 = bs q ∧ (((if keepBit keep i = true then surv1 F x else F) f).2 = bs p ∨ ((if keepBit keep i = true then surv1 F x else F) f).2 = bs q) := by
      split
      · unfold surv1
        split
        · by_cases hx : x.1 = f
          · have h0 := hu x (by simp) hx
            rw [hx, h0]
            unfold updF
            rw [if_pos rfl]
            refine ⟨h1, .inr ?_⟩
            show putB (F f).2 (64 * (0 : Int)).toNat _ = _
            have he : (F f).1.extract (64 * (0 : Int)).toNat (min (64 * 0 + 64) ((F f).1.size : Int)).toNat = bs q := by
              rw [h1]
              apply bext
              rw [ext_list, bs_size, hq]
              show (q.drop 0).take 1 = q
              rw [List.drop_zero, List.take_of_length_le (by omega)]
            rw [he]
            rcases h2 with h2 | h2
            · rw [h2]; exact put_short p q (by omega) hne
            · rw [h2]; exact put_short q q (Nat.le_refl _) hne
          · unfold updF
            rw [if_neg (fun e => hx e.symm)]
            exact ⟨h1, h2⟩
        · exact ⟨h1, h2⟩
      · exact ⟨h1, h2⟩
    rw [survQ]
    exact surv_one f q p hq hp keep u (i + 1) _ (fun y hy => hu y (by simp [hy])) hstep.1 hstep.2
/-- What becomes of it in a crash. -/
theorem Pend.cx (h : Pend S f p l l2) (hc : Cx S T) : Has T f p l ∨ Has T f (nextP p) l2 := by
  obtain ⟨k, a, b⟩ := hc
  have hc : Cr S T := .inr ⟨k, a, b⟩
  have h1 := surv_one f (nextP p) p (next_len p) h.ok.len k S.queue 0 S.files h.q (by rw [h.ptr]) (.inl (by rw [h.ptr]))
  have hf : T.files f = ((survQ k 0 S.queue S.files f).2, (survQ k 0 S.queue S.files f).2) := by rw [a]; rfl
  rcases h1 with h1 | h1
  · exact .inl ⟨⟨by rw [hf, h1], by rw [b]; simp⟩, h.ok, h.nil, fun hn => hc.firm (h.old hn)⟩
  · exact .inr ⟨⟨by rw [hf, h1], by rw [b]; simp⟩, PtrOk.next p, fun e => absurd e (next_ne p), fun _ => by rw [now_next]; exact hc.firm h.new⟩
theorem Pend.cr (h : Pend S f p l l2) (hd : S.down = false) (hc : Cr S T) : Has T f p l ∨ (Pend T f p l l2 ∧ T.down = false) ∨ Has T f (nextP p) l2 := by
  rcases hc with ⟨a, b, c⟩ | hc
  · exact .inr (.inl ⟨⟨by rw [a]; exact h.ptr, by rw [b]; exact h.q, h.ok, h.nil, fun hn => firm_same (h.old hn) a b, firm_same h.new a b⟩, c.trans hd⟩)
  · rcases h.cx hc with h | h
    · exact .inl h
    · exact .inr (.inr h)
theorem Has.point (h : Has S f p l) (h2 : Firm (othF f p) (bs (textsL l2)) S) : Pend (S.wadd f 0 (bs (nextP p))) f p l l2 := by
  have h0 : ¬ (bs (nextP p)).size = 0 := by rw [bs_size, next_len]; decide
  obtain ⟨n1, n2, _⟩ := side_ne f p
  refine ⟨?_, fun x hx hxf => ?_, h.ok, h.nil, fun hn => (h.side hn).wadd (fun e => n1 e.symm), h2.wadd (fun e => n2 e.symm)⟩
  · rw [wadd_files S f 0 _ h0, h.ptr.1]
    show (putB (bs p) 0 (bs (nextP p)), bs p) = _
    rw [put_short p (nextP p) (by rw [next_len]; exact h.ok.len) (next_ne p)]
  · unfold DS.wadd at hx
    rw [if_neg h0] at hx
    rcases (addQ_mem f _ _ _ x).1 hx with h1 | ⟨_, h3, h4⟩
    · exact absurd hxf (h.ptr.2 x h1)
    · rw [bs_size, next_len] at h4
      simp at h3 h4
      omega
/-- What Rewrite leaves. -/
def RewOut (S : DS) (f : Int) (p : List UInt8) (l l2 : List (List UInt8)) (r : Res) : Prop :=
  (r.1 = 0 ∧ Has r.2 f (nextP p) l2 ∧ r.2.down = false ∧ (p ≠ [] → Firm (nowF f p) e0 r.2)) ∨ ((r.1 = 8 ∨ r.1 = 9) ∧ (Has r.2 f p l ∨ (Pend r.2 f p l l2 ∧ r.2.down = false) ∨ Has r.2 f (nextP p) l2))
theorem fits_parts (h : fitsE l = true) : l.length ≤ 1000 ∧ (∀ s ∈ l, s.length ≤ 20000) ∧ (textsL l).length ≤ 1048576 := by
  unfold fitsE at h
  simp only [Bool.and_eq_true, decide_eq_true_eq, List.all_eq_true] at h
  exact ⟨h.1, h.2.1, h.2.2⟩
theorem rew_out (h : Has S f p l) (hf : 0 ≤ f ∧ f ≤ 13) (hfit : fitsE l2 = true) : RewOut S f p l l2 (runL (rewL f p (textsL l2)) S) := by
  obtain ⟨n1, n2, n3, n4, n5⟩ := side_ne f p
  have hf0 : 0 ≤ f ∧ f < 16 := by omega
  have hn0 : 0 ≤ nowF f p ∧ nowF f p < 16 := by omega
  have ho0 : 0 ≤ othF f p ∧ othF f p < 16 := by omega
  have htl := (fits_parts hfit).2.2
  unfold rewL
  -- the pointer is made durable
  refine runL_step (fun hc => ?_) (fun hc => ?_)
  rotate_left
  · unfold setR at hc ⊢
    split at hc
    · exact absurd rfl hc
    · rename_i hp
      rw [if_neg hp]
      rcases sync_cases S hf0 with ⟨e, _⟩ | ⟨e, hcr⟩
      · exact absurd e hc
      · exact .inr ⟨e, .inl (h.cr hcr)⟩
  have h1 : Has (setR f p S).2 f p l := by
    unfold setR at hc ⊢
    split
    · exact h
    · rename_i hp
      rw [if_neg hp] at hc
      rcases sync_cases S hf0 with ⟨_, _, e⟩ | ⟨e, _⟩
      · show Has (S.sync f) f p l
        rw [e, h.ptr.1]
        exact ⟨Firm.self _ _ _, h.ok, h.nil, fun hn => (h.tick.side hn).settle (fun e => n1 e.symm)⟩
      · exact absurd hc (by show S.syncC f ≠ 0; omega)
  clear hc h
  generalize (setR f p S).2 = S1 at h1 ⊢
  -- the other side is emptied
  refine runL_step (fun hc => ?_) (fun hc => ?_)
  rotate_left
  · rcases trunc_cases S1 ho0 with ⟨e, _⟩ | ⟨e, hcr⟩
    · exact absurd e hc
    · exact .inr ⟨.inl e, .inl (h1.cr hcr)⟩
  have h2 : Has (trR (othF f p) S1).2 f p l ∧ Firm (othF f p) e0 (trR (othF f p) S1).2 := by
    rcases trunc_cases S1 ho0 with ⟨_, _, e⟩ | ⟨e, _⟩
    · show Has (S1.trunc (othF f p) 0) f p l ∧ Firm (othF f p) e0 (S1.trunc (othF f p) 0)
      rw [e]
      exact ⟨h1.tick.settle e0, Firm.self _ _ _⟩
    · exact absurd hc (by show S1.truncC (othF f p) 0 ≠ 0; omega)
  clear hc h1
  generalize (trR (othF f p) S1).2 = S2 at h2 ⊢
  obtain ⟨h2, h2e⟩ := h2
  -- the text is written
  have hwa : ∀ S2 : DS, Has S2 f p l → Has (S2.wadd (othF f p) 0 (bs (textsL l2))) f p l := fun S2 h2 => h2.keep fun g x hg hx => hx.wadd (by rcases hg with rfl | rfl <;> omega)
  refine runL_step (fun hc => ?_) (fun hc => ?_)
  rotate_left
  · rcases write_cases S2 ho0 (textsL l2) (by omega) with ⟨e, _⟩ | ⟨e, hcr | hcr⟩
    · exact absurd e hc
    · exact .inr ⟨.inl e, .inl (h2.cr hcr)⟩
    · exact .inr ⟨.inl e, .inl ((hwa _ h2).cr (.inr hcr))⟩
  have h3 : Has (wrR (othF f p) (textsL l2) S2).2 f p l ∧ ((wrR (othF f p) (textsL l2) S2).2.files (othF f p)).1 = bs (textsL l2) := by
    rcases write_cases S2 ho0 (textsL l2) (by omega) with ⟨_, _, e⟩ | ⟨e, _⟩
    · show Has (S2.write (othF f p) 0 (bs (textsL l2))) f p l ∧ ((S2.write (othF f p) 0 (bs (textsL l2))).files (othF f p)).1 = bs (textsL l2)
      rw [e]
      refine ⟨hwa _ h2.tick, ?_⟩
      have h0 : ¬ (bs (textsL l2)).size = 0 := fun e => texts_pos l2 (List.eq_nil_of_length_eq_zero (by rw [← bs_size]; exact e))
      rw [wadd_files _ _ _ _ h0, (tick_same S2).1, h2e.1]
      exact put_short [] _ (Nat.zero_le _) (texts_pos l2)
    · exact absurd hc (by show S2.writeC _ _ _ ≠ 0; omega)
  clear hc h2 h2e
  generalize (wrR (othF f p) (textsL l2) S2).2 = S3 at h3 ⊢
  obtain ⟨h3, h3e⟩ := h3
  -- it is made durable
  refine runL_step (fun hc => ?_) (fun hc => ?_)
  rotate_left
  · rcases sync_cases S3 ho0 with ⟨e, _⟩ | ⟨e, hcr⟩
    · exact absurd e hc
    · exact .inr ⟨e, .inl (h3.cr hcr)⟩
  have h4 : Has (syR (othF f p) S3).2 f p l ∧ Firm (othF f p) (bs (textsL l2)) (syR (othF f p) S3).2 := by
    rcases sync_cases S3 ho0 with ⟨_, _, e⟩ | ⟨e, _⟩
    · show Has (S3.sync (othF f p)) f p l ∧ Firm (othF f p) (bs (textsL l2)) (S3.sync (othF f p))
      rw [e, h3e]
      exact ⟨h3.tick.settle _, Firm.self _ _ _⟩
    · exact absurd hc (by show S3.syncC _ ≠ 0; omega)
  clear hc h3 h3e
  generalize (syR (othF f p) S3).2 = S4 at h4 ⊢
  obtain ⟨h4, h4e⟩ := h4
  -- the pointer is written
  have hnl := next_len p
  refine runL_step (fun hc => ?_) (fun hc => ?_)
  rotate_left
  · rcases write_cases S4 hf0 (nextP p) (by omega) with ⟨e, _⟩ | ⟨e, hcr | hcr⟩
    · exact absurd e hc
    · exact .inr ⟨.inl e, .inl (h4.cr hcr)⟩
    · rcases (h4.point h4e).cx hcr with h | h
      · exact .inr ⟨.inl e, .inl h⟩
      · exact .inr ⟨.inl e, .inr (.inr h)⟩
  have h5 : Pend (wrR f (nextP p) S4).2 f p l l2 ∧ (wrR f (nextP p) S4).2.down = false := by
    rcases write_cases S4 hf0 (nextP p) (by omega) with ⟨_, hd, e⟩ | ⟨e, _⟩
    · show Pend (S4.write f 0 (bs (nextP p))) f p l l2 ∧ (S4.write f 0 (bs (nextP p))).down = false
      rw [e]
      refine ⟨h4.tick.point h4e.tick, ?_⟩
      unfold DS.wadd
      split <;> exact (tick_same S4).2.2.1.trans hd
    · exact absurd hc (by show S4.writeC _ _ _ ≠ 0; omega)
  clear hc h4 h4e
  generalize (wrR f (nextP p) S4).2 = S5 at h5 ⊢
  obtain ⟨h5, h5d⟩ := h5
  -- and made durable
  refine runL_step (fun hc => ?_) (fun hc => ?_)
  rotate_left
  · rcases sync_cases S5 hf0 with ⟨e, _⟩ | ⟨e, hcr⟩
    · exact absurd e hc
    · exact .inr ⟨e, h5.cr h5d hcr⟩
  have h6 : Has (syR f S5).2 f (nextP p) l2 ∧ (syR f S5).2.down = false := by
    rcases sync_cases S5 hf0 with ⟨_, hd, e⟩ | ⟨e, _⟩
    · show Has (S5.sync f) f (nextP p) l2 ∧ (S5.sync f).down = false
      rw [e, h5.ptr]
      refine ⟨⟨Firm.self _ _ _, PtrOk.next p, fun e => absurd e (next_ne p), fun _ => by rw [now_next]; exact h5.new.tick.settle (fun e => n2 e.symm)⟩, ?_⟩
      exact (tick_same S5).2.2.1.trans hd
    · exact absurd hc (by show S5.syncC _ ≠ 0; omega)
  have hpok := h5.ok
  clear hc h5
  generalize (syR f S5).2 = S6 at h6 ⊢
  obtain ⟨h6, h6d⟩ := h6
  -- the old side is emptied
  refine runL_step (fun hc => ?_) (fun hc => ?_)
  · unfold endR at hc ⊢
    by_cases hp : p = []
    · rw [if_pos hp]
      exact .inl ⟨rfl, h6, h6d, fun hn => absurd hp hn⟩
    · rw [if_neg hp] at hc ⊢
      rcases trunc_cases S6 hn0 with ⟨_, _, e⟩ | ⟨e, _⟩
      · left
        show (0 : Int) = 0 ∧ Has (S6.trunc (nowF f p) 0) f (nextP p) l2 ∧ (S6.trunc (nowF f p) 0).down = false ∧ (p ≠ [] → Firm (nowF f p) e0 (S6.trunc (nowF f p) 0))
        rw [e]
        refine ⟨rfl, ?_, (tick_same S6).2.2.1.trans h6d, fun _ => Firm.self _ _ _⟩
        have := h6.tick.settle e0
        rwa [oth_next f hpok] at this
      · exact absurd hc (by show S6.truncC _ _ ≠ 0; omega)
  · unfold endR at hc ⊢
    split at hc
    · exact absurd rfl hc
    · rename_i hp
      rw [if_neg hp]
      rcases trunc_cases S6 hn0 with ⟨e, _⟩ | ⟨e, hcr⟩
      · exact absurd e hc
      · exact .inr ⟨.inl e, .inr (.inr (h6.cr hcr))⟩
/-- What Rewrite leaves alone. -/
theorem rew_keep {J : DS → Prop} (p t : List UInt8) (hs : ∀ g T, (g = f ∨ g = othF f p) → J T → J (T.sync g)) (ht : ∀ g T, (g = othF f p ∨ (p ≠ [] ∧ g = nowF f p)) → J T → J (T.trunc g 0))
    (hw : ∀ g s T, (g = f ∨ g = othF f p) → (s = t ∨ s = nextP p) → J T → J (T.write g 0 (bs s))) (h : J S) : J (runL (rewL f p t) S).2 := by
  refine runL_keep _ _ (fun k hk T hT => ?_) h
  unfold rewL at hk
  simp only [List.mem_cons, List.not_mem_nil, or_false] at hk
  rcases hk with rfl | rfl | rfl | rfl | rfl | rfl | rfl
  · unfold setR
    split
    · exact hT
    · exact hs f T (.inl rfl) hT
  · exact ht _ T (.inl rfl) hT
  · exact hw _ _ T (.inr rfl) (.inl rfl) hT
  · exact hs _ T (.inr rfl) hT
  · exact hw _ _ T (.inl rfl) (.inr rfl) hT
  · exact hs _ T (.inl rfl) hT
  · unfold endR
    split
    · exact hT
    · rename_i hp
      exact ht _ T (.inr ⟨hp, rfl⟩) hT
theorem rew_wf (h : S.wf) (p t : List UInt8) : (runL (rewL f p t) S).2.wf :=
  rew_keep (J := DS.wf) p t (fun _ _ _ h => DS.sync0_wf (DS.come_wf h) _) (fun _ _ _ h => DS.trunc0_wf (DS.come_wf h) _ _) (fun _ _ _ _ _ h => DS.write_wf h _ _ _) h
theorem rew_firm {g : Int} {x : ByteArray} (hf : 0 ≤ f ∧ f ≤ 13) (h : Firm g x S) (t : List UInt8) (htl : t.length ≤ 1048576) (h1 : g ≠ f) (h2 : g ≠ othF f p) (h3 : p ≠ [] → g ≠ nowF f p) : Firm g x (runL (rewL f p t) S).2 := by
  obtain ⟨n1, n2, n3, n4, n5⟩ := side_ne f p
  have hnl := next_len p
  refine rew_keep (J := Firm g x) p t (fun k T hk h => sync_firm (by rcases hk with rfl | rfl <;> omega) h (by rcases hk with rfl | rfl <;> assumption)) (fun k T hk h => trunc_firm (by rcases hk with rfl | ⟨_, rfl⟩ <;> omega) h (by rcases hk with rfl | ⟨hp, rfl⟩ <;> first | assumption | exact h3 hp))
    (fun k s T hk hs h => write_firm (by rcases hk with rfl | rfl <;> omega) s (by rcases hs with rfl | rfl <;> omega) h (by rcases hk with rfl | rfl <;> assumption)) h
/-! A disk that is up. -/
theorem up_same {T : DS} (h : Up S) (hw : T.wf) (ha : T.armed = S.armed) (hd : T.down = S.down) (hl : T.lost = S.lost) : Up T := ⟨hw, ha.trans h.arm, hd.trans h.up, hl.trans h.lost⟩
theorem up_sync (h : Up S) (hf : 0 ≤ f ∧ f < 16) : S.syncC f = 0 ∧ Up (S.sync f) ∧ S.sync f = S.settle f (S.files f).1 := by
  obtain ⟨a, b, c⟩ := arm_come h.arm
  have hm := may_zero h.up hf.1 hf.2
  have hl := h.lost
  have hc : S.syncC f = 0 := by
    unfold DS.syncC DS.syncC0
    rw [a, hm, if_neg (by decide), if_neg (by omega)]
  obtain ⟨_, _, _, _, e⟩ := syncC_ok hc
  rw [b] at e
  exact ⟨hc, by rw [e]; exact ⟨DS.settle_wf h.wf f _ hf (h.wf.now f), h.arm, h.up, h.lost⟩, e⟩
theorem up_trunc (h : Up S) (hf : 0 ≤ f ∧ f < 16) : S.truncC f 0 = 0 ∧ Up (S.trunc f 0) ∧ S.trunc f 0 = S.settle f e0 := by
  obtain ⟨a, b, c⟩ := arm_come h.arm
  rcases trunc_cases S hf with ⟨e1, _, e2⟩ | ⟨e1, _⟩
  · rw [b] at e2
    exact ⟨e1, by rw [e2]; exact ⟨DS.settle_wf h.wf f _ hf (by decide), h.arm, h.up, h.lost⟩, e2⟩
  · exfalso
    unfold DS.truncC DS.truncC0 at e1
    rw [a, may_zero h.up hf.1 hf.2] at e1
    rw [if_neg (by decide), if_neg (by omega)] at e1
    omega
theorem up_write (h : Up S) (hf : 0 ≤ f ∧ f < 16) (s : List UInt8) (hs : s.length ≤ 16777216) : S.writeC f 0 (bs s) = 0 ∧ Up (S.write f 0 (bs s)) ∧ S.write f 0 (bs s) = S.wadd f 0 (bs s) := by
  obtain ⟨a, b, c⟩ := arm_come h.arm
  have hm := may_zero h.up hf.1 hf.2
  have hfit : fitsB 0 (bs s) = true := by
    unfold fitsB
    rw [Bool.and_eq_true, Bool.and_eq_true, decide_eq_true_eq, decide_eq_true_eq, decide_eq_true_eq, bs_size]
    omega
  have hc : S.wcode f 0 (bs s) = 0 := by
    unfold DS.wcode
    rw [hm, if_neg (by decide), if_neg (by decide), if_pos hfit]
  have hw : S.wr f 0 (bs s) = S.wadd f 0 (bs s) := by unfold DS.wr; rw [if_pos hc]
  have hu : Up (S.wadd f 0 (bs s)) := by
    refine ⟨DS.wadd_wf h.wf f 0 _ hf (by omega) (by rw [bs_size]; omega), ?_, ?_, ?_⟩ <;> (unfold DS.wadd; split) <;> first | exact h.arm | exact h.up | exact h.lost
  unfold DS.writeC DS.write
  rw [c, b]
  simp only [Bool.false_eq_true, if_false]
  rw [hw]
  exact ⟨hc, hu, rfl⟩
theorem rew_up (h : Up S) (hf : 0 ≤ f ∧ f ≤ 13) (p t : List UInt8) (ht : t.length ≤ 1048576) : (runL (rewL f p t) S).1 = 0 ∧ Up (runL (rewL f p t) S).2 := by
  obtain ⟨n1, n2, n3, n4, n5⟩ := side_ne f p
  have hnl := next_len p
  refine runL_ok _ _ (fun k hk T hT => ?_) h
  unfold rewL at hk
  simp only [List.mem_cons, List.not_mem_nil, or_false] at hk
  rcases hk with rfl | rfl | rfl | rfl | rfl | rfl | rfl
  · unfold setR
    split
    · exact ⟨rfl, hT⟩
    · exact ⟨(up_sync hT (by omega)).1, (up_sync hT (by omega)).2.1⟩
  · exact ⟨(up_trunc hT (by omega)).1, (up_trunc hT (by omega)).2.1⟩
  · exact ⟨(up_write hT (by omega) t (by omega)).1, (up_write hT (by omega) t (by omega)).2.1⟩
  · exact ⟨(up_sync hT (by omega)).1, (up_sync hT (by omega)).2.1⟩
  · exact ⟨(up_write hT (by omega) (nextP p) (by omega)).1, (up_write hT (by omega) (nextP p) (by omega)).2.1⟩
  · exact ⟨(up_sync hT (by omega)).1, (up_sync hT (by omega)).2.1⟩
  · unfold endR
    split
    · exact ⟨rfl, hT⟩
    · exact ⟨(up_trunc hT (by omega)).1, (up_trunc hT (by omega)).2.1⟩
/-! Reading. -/
theorem read_code (hd : S.down = false) (hf : 0 ≤ f ∧ f < 16) (n : Int) (hn : 0 ≤ n) : S.readC f 0 n = 0 := by
  unfold DS.readC
  rw [may_zero hd hf.1 hf.2, if_neg (by decide), if_neg (by omega)]
theorem file_up (hd : S.down = false) (hf : 0 ≤ f ∧ f < 16) : fileC S f = 0 ∧ fileE S f = (S.files f).1.data.toList := by
  have h := read_code hd hf ((S.files f).1.size : Int) (by omega)
  refine ⟨h, ?_⟩
  unfold fileE
  rw [readS_eq h, readX_all _ _ (Int.le_refl _)]
theorem side_up (hd : S.down = false) (hf : 0 ≤ f ∧ f < 16) (h : Firm f (bs p) S) (hp : PtrOk p) : sideE S f = p := by
  have h1 := read_code (n := 1) hd hf (by decide)
  unfold sideE
  rw [readS_eq h1, h.1, readX_all _ _ (by rw [bs_size]; have := hp.len; omega)]
  rfl
theorem open_up2 (hd : S.down = false) (hf : 0 ≤ f ∧ f ≤ 13) (h : Firm f (bs p) S) (hp : PtrOk p) : openE S f = 0 ∧ sideE S f = p := by
  have h1 := side_up hd ⟨hf.1, by omega⟩ h hp
  refine ⟨?_, h1⟩
  unfold openE
  rw [if_neg (by omega), read_code hd ⟨hf.1, by omega⟩ 1 (by decide), if_neg (by decide), h1]
  exact if_pos hp
theorem parse_texts (h : fitsE l = true) : parseE (textsL l) = (l, ⟨[], false⟩) := by
  obtain ⟨h1, h2, _⟩ := fits_parts h
  have := rItems_back rText encT l [] ⟨by omega, by omega⟩ (fun x hx tl => rText_back x tl ⟨by omega, by have := h2 x hx; omega⟩)
  rw [List.append_nil] at this
  exact this
/-- A state in which the file has the list and nothing else. -/
structure Neat (S : DS) (f : Int) (p : List UInt8) (l : List (List UInt8)) : Prop where
  has : Has S f p l
  oth : Firm (othF f p) e0 S
  nil : p = [] → Firm (nowF f p) e0 S
theorem Neat.kept (h : Neat S f p l) (hd : S.down = false) (hf : 0 ≤ f ∧ f ≤ 13) : keptE S f l = true := by
  have h0 := (file_up hd (f := f) ⟨hf.1, by omega⟩).2
  have h1 := (file_up hd (f := f + 1) ⟨by omega, by omega⟩).2
  have h2 := (file_up hd (f := f + 2) ⟨by omega, by omega⟩).2
  unfold keptE
  rw [h0, h1, h2, h.has.ptr.1]
  show (if p = [] then _ else if p = [48] then _ else if p = [49] then _ else _) = true
  rcases h.has.ok with rfl | rfl | rfl
  · have a := h.oth.1
    have b := (h.nil rfl).1
    have c := h.has.nil rfl
    unfold othF at a
    unfold nowF at b
    rw [if_neg (by decide)] at a b
    rw [if_pos rfl, a, b, c]
    rfl
  · have a := h.oth.1
    have b := (h.has.side (by decide)).1
    unfold othF at a
    unfold nowF at b
    rw [if_pos rfl] at a b
    rw [if_neg (by decide), if_pos rfl, a, b]
    simp [bs_list, e0, ByteArray.size]
  · have a := h.oth.1
    have b := (h.has.side (by decide)).1
    unfold othF at a
    unfold nowF at b
    rw [if_neg (by decide)] at a b
    rw [if_neg (by decide), if_neg (by decide), if_pos rfl, a, b]
    simp [bs_list, e0, ByteArray.size]
/-- Rewrite on a disk that is up. -/
theorem rewrite_up (h : Up S) (hn : Neat S f p l) (hf : 0 ≤ f ∧ f ≤ 13) (hfit : fitsE l2 = true) : (rewE S f l2).1 = 0 ∧ Up (rewE S f l2).2 ∧ Neat (rewE S f l2).2 f (nextP p) l2 ∧ ∀ g x, g ≠ f → g ≠ f + 1 → g ≠ f + 2 → Firm g x S → Firm g x (rewE S f l2).2 := by
  obtain ⟨ho, hs⟩ := open_up2 h.up hf hn.has.ptr hn.has.ok
  have htl := (fits_parts hfit).2.2
  obtain ⟨n1, n2, n3, n4, n5⟩ := side_ne f p
  obtain ⟨h1, h2⟩ := rew_up h hf p (textsL l2) htl
  have e : rewE S f l2 = runL (rewL f p (textsL l2)) S := by
    unfold rewE
    rw [if_neg (by omega), hfit, if_neg (by decide), ho, if_neg (by decide), hs]
  rw [e]
  refine ⟨h1, h2, ?_, fun g x g1 g2 g3 hx => rew_firm hf hx _ htl g1 (by omega) (fun _ => by omega)⟩
  rcases rew_out hn.has hf hfit with ⟨_, a, b, c⟩ | ⟨a, _⟩
  · refine ⟨a, ?_, fun e => absurd e (next_ne p)⟩
    rw [oth_next f hn.has.ok]
    by_cases hp : p = []
    · exact rew_firm hf (hn.nil hp) _ htl n1 (fun e => n3 e) (fun hq => absurd hp hq)
    · exact c hp
  · omega
/-- Recover on a disk that is up. -/
theorem recover_up (h : Up S) (hh : Has S f p l) (hf : 0 ≤ f ∧ f ≤ 13) (hfit : fitsE l = true) : recC S f = 0 ∧ recL S f = l ∧ Up (recS S f) ∧ Has (recS S f) f p l ∧ Firm (othF f p) e0 (recS S f) ∧ ∀ g x, g ≠ f → g ≠ othF f p → Firm g x S → Firm g x (recS S f) := by
  obtain ⟨ho, hs⟩ := open_up2 h.up hf hh.ptr hh.ok
  obtain ⟨n1, n2, n3, n4, n5⟩ := side_ne f p
  have hf0 : 0 ≤ f ∧ f < 16 := by omega
  have hset : (setR f p S).1 = 0 ∧ Up (setR f p S).2 ∧ Has (setR f p S).2 f p l ∧ ∀ g x, g ≠ f → Firm g x S → Firm g x (setR f p S).2 := by
    unfold setR
    split
    · exact ⟨rfl, h, hh, fun _ _ _ hx => hx⟩
    · obtain ⟨a, b, c⟩ := up_sync h hf0
      refine ⟨a, b, ?_, fun g x hg hx => ?_⟩
      · show Has (S.sync f) f p l
        rw [c, hh.ptr.1]
        exact ⟨Firm.self _ _ _, hh.ok, hh.nil, fun hn => (hh.side hn).settle (fun e => n1 e.symm)⟩
      · show Firm g x (S.sync f)
        rw [c]
        exact hx.settle (fun e => hg e.symm)
  obtain ⟨s1, s2, s3, s4⟩ := hset
  have hrd : readE (setR f p S).2 f p = 0 ∧ listE (setR f p S).2 f p = l := by
    unfold readE listE
    by_cases hp : p = []
    · rw [if_pos hp, if_pos hp]; exact ⟨rfl, (hh.nil hp).symm⟩
    · rw [if_neg hp, if_neg hp]
      obtain ⟨a, b⟩ := file_up s2.up (f := nowF f p) ⟨by omega, by omega⟩
      rw [a, b, (s3.side hp).1, bs_list, parse_texts hfit]
      exact ⟨by simp [rDone], rfl⟩
  obtain ⟨t1, t2, t3⟩ := up_trunc s2 (f := othF f p) ⟨by omega, by omega⟩
  have hc : recC S f = 0 := by
    unfold recC
    rw [hs, ho, if_neg (by decide), s1, if_neg (by decide), hrd.1, if_neg (by decide)]
    exact t1
  have hS : recS S f = ((setR f p S).2).settle (othF f p) e0 := by
    unfold recS
    rw [hs, ho, if_neg (by decide), s1, if_neg (by decide), hrd.1, if_neg (by decide)]
    exact t3
  refine ⟨hc, ?_, ?_, ?_, ?_, fun g x hg hg2 hx => ?_⟩
  · unfold recL
    rw [if_pos hc, hs]
    exact hrd.2
  · rw [hS, ← t3]; exact t2
  · rw [hS]; exact s3.settle e0
  · rw [hS]; exact Firm.self _ _ _
  · rw [hS]; exact (s4 g x hg hx).settle (fun e => hg2 e.symm)
theorem recover_neat (h : Up S) (hn : Neat S f p l) (hf : 0 ≤ f ∧ f ≤ 13) (hfit : fitsE l = true) : recC S f = 0 ∧ recL S f = l ∧ Up (recS S f) ∧ Neat (recS S f) f p l ∧ ∀ g x, g ≠ f → g ≠ f + 1 → g ≠ f + 2 → Firm g x S → Firm g x (recS S f) := by
  obtain ⟨n1, n2, n3, n4, n5⟩ := side_ne f p
  obtain ⟨a, b, c, d, e, k⟩ := recover_up h hn.has hf hfit
  exact ⟨a, b, c, ⟨d, e, fun hp => k _ _ n1 n3 (hn.nil hp)⟩, fun g x g1 g2 g3 hx => k g x g1 (by omega) hx⟩
/-- Up again after whatever. -/
theorem again_up (h : S.wf) (more : List Int) : Up (((((S.arm 0 []).lose 0).crash more)).start) := by
  have h1 : ((S.arm 0 []).lose 0).wf := DS.lose_wf (DS.arm_wf h 0 [] (by unfold inI64; omega) (fun _ h => by cases h)) 0 (by unfold inI64; omega)
  refine ⟨DS.start_wf (DS.crash_wf h1 more), ?_, rfl, ?_⟩
  · show (DS.crash _ more).armed = 0
    unfold DS.crash
    split <;> rfl
  · show (DS.crash _ more).lost = 0
    unfold DS.crash
    split <;> rfl
theorem again_has (h : Has S f p l) (more : List Int) : Has (((((S.arm 0 []).lose 0).crash more)).start) f p l :=
  ((h.same (T := (S.arm 0 []).lose 0) rfl rfl).cr (Cr.crash _ more)).same rfl rfl
theorem again_firm {g : Int} {x : ByteArray} (h : Firm g x S) (more : List Int) : Firm g x (((((S.arm 0 []).lose 0).crash more)).start) :=
  firm_same ((Cr.crash ((S.arm 0 []).lose 0) more).firm (firm_same h rfl rfl)) rfl rfl
theorem again_pend (h : Pend S f p l l2) (hd : S.down = false) (more : List Int) : Has (((((S.arm 0 []).lose 0).crash more)).start) f p l ∨ Has (((((S.arm 0 []).lose 0).crash more)).start) f (nextP p) l2 := by
  have h1 : Pend ((S.arm 0 []).lose 0) f p l l2 := ⟨h.ptr, h.q, h.ok, h.nil, fun hn => firm_same (h.old hn) rfl rfl, firm_same h.new rfl rfl⟩
  rcases h1.cx (Cx.crash (S := (S.arm 0 []).lose 0) hd more) with h | h
  · exact .inl (h.same rfl rfl)
  · exact .inr (h.same rfl rfl)
/-- What is there after Rewrite, whatever happened, and all that comes behind it. -/
theorem rew_again {r : Res} (h : RewOut S f p l l2 r) (more : List Int) :
    (r.1 = 0 ∧ Has (((((r.2.arm 0 []).lose 0).crash more)).start) f (nextP p) l2) ∨ ((r.1 = 8 ∨ r.1 = 9) ∧ (Has (((((r.2.arm 0 []).lose 0).crash more)).start) f p l ∨ Has (((((r.2.arm 0 []).lose 0).crash more)).start) f (nextP p) l2)) := by
  rcases h with ⟨a, b, _⟩ | ⟨a, b | ⟨b, c⟩ | b⟩
  · exact .inl ⟨a, again_has b more⟩
  · exact .inr ⟨a, .inl (again_has b more)⟩
  · exact .inr ⟨a, again_pend b c more⟩
  · exact .inr ⟨a, .inr (again_has b more)⟩
/-- A crash of a disk that is up, and a start. -/
theorem up_crash (h : Up S) (keep : List Int) : Up ((S.crash keep).start) := by
  refine ⟨DS.start_wf (DS.crash_wf h.wf keep), ?_, rfl, ?_⟩
  · show (S.crash keep).armed = 0
    unfold DS.crash
    split
    · exact h.arm
    · rfl
  · show (S.crash keep).lost = 0
    unfold DS.crash
    split <;> exact h.lost
theorem crash_firm {g : Int} {x : ByteArray} (h : Firm g x S) (keep : List Int) : Firm g x ((S.crash keep).start) := firm_same ((Cr.crash S keep).firm h) rfl rfl
theorem Neat.crash (h : Neat S f p l) (keep : List Int) : Neat ((S.crash keep).start) f p l :=
  ⟨(h.has.cr (Cr.crash S keep)).same rfl rfl, crash_firm h.oth keep, fun hp => crash_firm (h.nil hp) keep⟩
/-- A file that is written and synced on a disk that is up. -/
theorem up_fresh {g : Int} (h : Up S) (hg : 0 ≤ g ∧ g < 16) (h0 : Firm g e0 S) (t : List UInt8) (ht : t ≠ []) (hl : t.length ≤ 1000) :
    S.writeC g 0 (bs t) = 0 ∧ (S.write g 0 (bs t)).syncC g = 0 ∧ Up ((S.write g 0 (bs t)).sync g) ∧ Firm g (bs t) ((S.write g 0 (bs t)).sync g) ∧ ∀ k x, k ≠ g → Firm k x S → Firm k x ((S.write g 0 (bs t)).sync g) := by
  obtain ⟨a, b, c⟩ := up_write h hg t (by omega)
  obtain ⟨a2, b2, c2⟩ := up_sync b hg
  refine ⟨a, a2, b2, ?_, fun k x hk hx => ?_⟩
  · rw [c2]
    have h1 : ¬ (bs t).size = 0 := fun e => ht (List.eq_nil_of_length_eq_zero (by rw [← bs_size]; exact e))
    have h2 : ((S.write g 0 (bs t)).files g).1 = bs t := by
      rw [c, wadd_files _ _ _ _ h1, h0.1]
      exact put_short [] t (Nat.zero_le _) ht
    rw [h2]
    exact Firm.self _ _ _
  · rw [c2, c]
    exact (hx.wadd (fun e => hk e.symm)).settle (fun e => hk e.symm)
end
end Go.Proofs.YtjmkodkechahdaaGreatDoor
