/- Contracts and plain laws, joined: JnC, JnD, JnE, JnF, JnG, JnK. -/
import Derived.Test.YtoicnokidlkjfaaGreatDoorQas
import Derived.Test.YtoicnokidlkjfaaGreatDoorQar
/- The machine of a journal on a disk, in plain Lean. -/
namespace Go.Proofs.YtoicnokidlkjfaaGreatDoor

structure JS where
  file : Int
  recs : List (List UInt8)
  bad : Bool
def JS.at_ (J : JS) : Nat := (formsF J.recs).length
/-- The bytes of a file. -/
def DS.now (S : DS) (f : Int) : List UInt8 := (S.files f).1.data.toList
/-- Opening: the code, the disk, the records. -/
def openC (S : DS) (f : Int) : Int :=
  if f < 0 ∨ 15 < f then 1 else if S.syncC f ≠ 0 then S.syncC f else
  if (formsF (recs ((S.sync f).now f))).length < ((S.sync f).now f).length then (S.sync f).truncC f (formsF (recs ((S.sync f).now f))).length else 0
def openS (S : DS) (f : Int) : DS :=
  if f < 0 ∨ 15 < f then S else if S.syncC f ≠ 0 then S.sync f else
  if (formsF (recs ((S.sync f).now f))).length < ((S.sync f).now f).length then (S.sync f).trunc f (formsF (recs ((S.sync f).now f))).length else S.sync f
def openJ (S : DS) (f : Int) : JS := ⟨f, recs ((S.sync f).now f), false⟩
def openO (S : DS) (f : Int) : Option JS := if openC S f = 0 then some (openJ S f) else none
/-- Appending. -/
def JS.pre (J : JS) (s : List UInt8) : Int := if J.bad = true then 7 else if 20000 < s.length then 3 else if 1048576 < J.at_ + (formF s).length then 6 else 0
def appC (S : DS) (J : JS) (s : List UInt8) : Int := if J.pre s ≠ 0 then J.pre s else S.writeC J.file J.at_ (bs (formF s))
def appS (S : DS) (J : JS) (s : List UInt8) : DS := if J.pre s ≠ 0 then S else S.write J.file J.at_ (bs (formF s))
def appJ (S : DS) (J : JS) (s : List UInt8) : JS := if J.pre s ≠ 0 then J else if S.writeC J.file J.at_ (bs (formF s)) ≠ 0 then { J with bad := true } else { J with recs := J.recs ++ [s] }
/-- Syncing. -/
def synC (S : DS) (J : JS) : Int := if J.bad = true then 7 else S.syncC J.file
def synS (S : DS) (J : JS) : DS := if J.bad = true then S else S.sync J.file
def synJ (S : DS) (J : JS) : JS := if J.bad = true then J else { J with bad := S.syncC J.file != 0 }
end Go.Proofs.YtoicnokidlkjfaaGreatDoor
/- Journals in plain Lean: what lasts. -/
namespace Go.Proofs.YtoicnokidlkjfaaGreatDoor

def DS.last (S : DS) (f : Int) : List UInt8 := (S.files f).2.data.toList
/-- The bytes C are those of the records 'all', but for some behind the first ones, 'sure', that are 0 or missing. -/
structure Mix (all sure : List (List UInt8)) (C : List UInt8) : Prop where
  p : formsF sure <+: C
  r : Rel C (formsF all)
  l : C.length ≤ (formsF all).length
theorem Mix.full {all sure : List (List UInt8)} (h : ∃ m, m ≤ all.length ∧ sure = all.take m) : Mix all sure (formsF all) := by
  obtain ⟨m, hm, rfl⟩ := h
  refine ⟨?_, Rel.refl _, Nat.le_refl _⟩
  have := formsF_mono (l := all) hm
  rwa [List.take_length] at this
theorem Rel.app {A B : List UInt8} (h : Rel A B) (hl : A.length ≤ B.length) (T : List UInt8) : Rel A (B ++ T) := fun i c hi => by
  have hlt := (List.getElem?_eq_some_iff.1 hi).1
  rw [List.getElem?_append_left (by omega)]
  exact h i c hi
/-- One more record. -/
theorem Mix.more {all sure : List (List UInt8)} {C : List UInt8} (h : Mix all sure C) (s : List UInt8) : Mix (all ++ [s]) sure C := by
  refine ⟨h.p, ?_, ?_⟩
  · rw [formsF_snoc]
    exact h.r.app h.l _
  · rw [formsF_snoc, List.length_append]
    have := h.l
    omega
theorem gb_list (x : ByteArray) (i : Nat) : gb x i = (x.data.toList[i]?).getD 0 := rfl
theorem gb_get3 {x : ByteArray} {i : Nat} {c : UInt8} (h : x.data.toList[i]? = some c) : gb x i = c := by rw [gb_list, h]; rfl
/-- A mixture of two mixtures. -/
theorem Mix.either {all sure : List (List UInt8)} {now last y : ByteArray} (h1 : Mix all sure now.data.toList) (h2 : Mix all sure last.data.toList) (lo : last.size ≤ y.size) (hi : y.size ≤ now.size) (he : Either now last y) : Mix all sure y.data.toList := by
  have dn := dlen now
  have dl := dlen last
  have dy := dlen y
  have key : ∀ i, i < y.size → gb y i = gb now i ∨ gb y i = gb last i := fun i hi' => by
    rcases he (i / 64) with h | h
    · exact .inl (h i rfl (by omega))
    · exact .inr (h i rfl)
  have hp1 := h1.p.length_le
  have hp2 := h2.p.length_le
  refine ⟨?_, fun i c hc => ?_, by have := h1.l; omega⟩
  · rw [List.prefix_iff_eq_take]
    apply List.ext_getElem?
    intro i
    rw [List.getElem?_take]
    split
    · rename_i hi'
      have hy : i < y.size := by omega
      have e1 : now.data.toList[i]? = (formsF sure)[i]? := by
        obtain ⟨t, ht⟩ := h1.p
        rw [← ht, List.getElem?_append_left hi']
      have e2 : last.data.toList[i]? = (formsF sure)[i]? := by
        obtain ⟨t, ht⟩ := h2.p
        rw [← ht, List.getElem?_append_left hi']
      rw [List.getElem?_eq_getElem hi'] at e1 e2 ⊢
      rw [List.getElem?_eq_getElem (by omega : i < y.data.toList.length)]
      have g0 : gb y i = y.data.toList[i]'(by omega) := gb_get3 (List.getElem?_eq_getElem _)
      rcases key i hy with h | h
      · rw [gb_get3 e1, g0] at h; rw [h]
      · rw [gb_get3 e2, g0] at h; rw [h]
    · rw [List.getElem?_eq_none (by omega)]
  · have hy := (List.getElem?_eq_some_iff.1 hc).1
    rcases key i (by omega) with h | h
    · rw [gb_get3 hc] at h
      have := h1.r i (gb now i) (by rw [List.getElem?_eq_getElem (by omega : i < now.data.toList.length)]; exact congrArg some (gb_get3 (List.getElem?_eq_getElem _)).symm)
      rw [h]
      exact this
    · rw [gb_get3 hc] at h
      by_cases hl : i < last.size
      · have := h2.r i (gb last i) (by rw [List.getElem?_eq_getElem (by omega : i < last.data.toList.length)]; exact congrArg some (gb_get3 (List.getElem?_eq_getElem _)).symm)
        rw [h]
        exact this
      · right
        rw [h, gb_list, List.getElem?_eq_none (by omega)]
        rfl
/-- The file f is a mixture, now and durably. -/
structure Two3 (S : DS) (f : Int) (all sure : List (List UInt8)) : Prop where
  wf : S.wf
  inv : Inv S
  now : Mix all sure (S.now f)
  last : Mix all sure (S.last f)
section
variable {S : DS} {f : Int} {all sure : List (List UInt8)}
theorem Two3.crash (h : Two3 S f all sure) (keep : List Int) : Two3 (S.crash keep) f all sure := by
  have hw := DS.crash_wf h.wf keep
  have hi := h.inv.crash keep
  by_cases hd : S.down = true
  · have e : S.crash keep = S := by unfold DS.crash; rw [if_pos hd]
    rw [e]; exact h
  · have e : (S.crash keep).files f = ((survQ keep 0 S.queue S.files f).2, (survQ keep 0 S.queue S.files f).2) := by
      unfold DS.crash
      rw [if_neg hd]
      rfl
    obtain ⟨lo, hi2, he, _⟩ := survives_plain h.wf h.inv f keep
    have hm := Mix.either h.now h.last lo hi2 he
    exact ⟨hw, hi, by unfold DS.now; rw [e]; exact hm, by unfold DS.last; rw [e]; exact hm⟩
theorem Two3.same {T : DS} (h : Two3 S f all sure) (hw : T.wf) (hf : T.files = S.files) (hq : T.queue = S.queue) : Two3 T f all sure :=
  ⟨hw, h.inv.same hf hq, by unfold DS.now; rw [hf]; exact h.now, by unfold DS.last; rw [hf]; exact h.last⟩
theorem Two3.tick (h : Two3 S f all sure) : Two3 S.tick f all sure := h.same (DS.tick_wf h.wf) (tick_same S).1 (tick_same S).2.1
theorem Two3.come (h : Two3 S f all sure) : Two3 S.come f all sure := by
  unfold DS.come
  split
  · exact h.tick.crash _
  · exact h.tick
theorem Two3.start (h : Two3 S f all sure) : Two3 S.start f all sure := h.same (DS.start_wf h.wf) rfl rfl
theorem Two3.more (h : Two3 S f all sure) (s : List UInt8) : Two3 S f (all ++ [s]) sure := ⟨h.wf, h.inv, h.now.more s, h.last.more s⟩
/-- The file is x, durably. -/
theorem Two3.settle (h : Two3 S f all sure) (hf : 0 ≤ f ∧ f < 16) (x : ByteArray) (hx : x.size ≤ 16777216) {all' sure' : List (List UInt8)} (hm : Mix all' sure' x.data.toList) : Two3 (S.settle f x) f all' sure' := by
  have e : (S.settle f x).files f = (x, x) := by show updF _ _ _ f = _; rw [updF, if_pos rfl]
  exact ⟨DS.settle_wf h.wf f x hf hx, h.inv.settle f x, by unfold DS.now; rw [e]; exact hm, by unfold DS.last; rw [e]; exact hm⟩
theorem Two3.sync (h : Two3 S f all sure) (hf : 0 ≤ f ∧ f < 16) : Two3 (S.sync f) f all sure := by
  unfold DS.sync
  have hc := h.come
  generalize S.come = T at *
  unfold DS.sync0
  split
  · exact hc
  · split
    · refine hc.same ?_ rfl rfl
      have := DS.sync0_wf hc.wf f
      unfold DS.sync0 at this
      rename_i h1 h2
      rw [if_neg h1, if_pos h2] at this
      exact this
    · exact hc.settle hf _ (hc.wf.now f) hc.now
theorem sync_code (S : DS) (hf : 0 ≤ f ∧ f < 16) : S.syncC f = 0 ∨ S.syncC f = 8 ∨ S.syncC f = 9 := by
  unfold DS.syncC DS.syncC0
  cases hd : S.come.down with
  | true =>
    have hm : S.come.may f = 8 := by unfold DS.may; rw [hd, if_pos rfl]
    rw [hm, if_pos (by decide)]
    exact .inr (.inl rfl)
  | false =>
    rw [may_zero hd hf.1 hf.2, if_neg (by decide)]
    split
    · exact .inr (.inr rfl)
    · exact .inl rfl
end
end Go.Proofs.YtoicnokidlkjfaaGreatDoor
/- Journals in plain Lean: what opening, appending and syncing do to a file that is a mixture. -/
namespace Go.Proofs.YtoicnokidlkjfaaGreatDoor

section
variable {S : DS} {f : Int} {all sure : List (List UInt8)}
theorem come_down2 (S : DS) : S.come.down = S.down ∨ S.endsB = true := by
  unfold DS.come
  split
  · rename_i h; exact .inr h
  · exact .inl (tick_same S).2.2.1
theorem crash_down (S : DS) (keep : List Int) : (S.crash keep).down = true := by
  unfold DS.crash
  split
  · assumption
  · rfl
theorem trunc_ok0 {T : DS} {n : Int} (h0 : 0 ≤ f) (h1 : f < 16) (hd : T.down = false) (hn : 0 ≤ n) (hl : n ≤ (T.files f).1.size) : T.truncC0 f n = 0 := by
  unfold DS.truncC0
  rw [may_zero hd h0 h1, if_neg (by omega), if_neg (by omega)]
theorem trunc_down {T : DS} {n : Int} (h0 : 0 ≤ f) (h1 : f < 16) (hd : T.down = true) : T.truncC0 f n = 8 := by
  unfold DS.truncC0 DS.may
  rw [if_pos hd, if_pos (by decide)]
/-- The prefix of a mixture that ends at a record. -/
theorem Mix.cut (h : Mix all sure (S.now f)) (hs : ∀ t ∈ all, t.length ≤ 200) (hsub : ∃ m, m ≤ all.length ∧ sure = all.take m) :
    ∃ m, m ≤ all.length ∧ recs (S.now f) = all.take m ∧ ∃ k, k ≤ m ∧ sure = all.take k := by
  obtain ⟨k, hk, rfl⟩ := hsub
  obtain ⟨m, h1, h2, h3⟩ := recs_sure hs h.r h.l hk h.p
  exact ⟨m, h2, h3, k, h1, rfl⟩
/-- Opening a file that is a mixture. -/
theorem open_mix (h : Two3 S f all sure) (hf : 0 ≤ f ∧ f ≤ 15) (hs : ∀ t ∈ all, t.length ≤ 200) (hsub : ∃ m, m ≤ all.length ∧ sure = all.take m) :
    (openC S f = 0 ∧ ∃ m, m ≤ all.length ∧ (openJ S f).recs = all.take m ∧ (∃ k, k ≤ m ∧ sure = all.take k) ∧ Two3 (openS S f) f (all.take m) (all.take m) ∧ (openS S f).now f = formsF (all.take m)) ∨
    ((openC S f = 8 ∨ openC S f = 9) ∧ Two3 (openS S f) f all sure) := by
  have hf' : 0 ≤ f ∧ f < 16 := ⟨hf.1, by omega⟩
  have hy := h.sync hf'
  have e1 : ¬ (f < 0 ∨ 15 < f) := by omega
  have e0 : ¬ ((0 : Int) ≠ 0) := by decide
  unfold openC openS openJ
  rw [if_neg e1, if_neg e1]
  rcases sync_code S hf' with hc | hc | hc
  · rw [hc, if_neg e0, if_neg e0]
    obtain ⟨m, hm, hr, k, hk, hsu⟩ := hy.now.cut hs hsub
    simp only [hr]
    have hfm : Mix (all.take m) (all.take m) (formsF (all.take m)) := Mix.full ⟨(all.take m).length, Nat.le_refl _, by rw [List.take_length]⟩
    have hpre := recs_prefix ((S.sync f).now f)
    rw [hr] at hpre
    have hsz := dlen ((S.sync f).files f).1
    have hnow : ((S.sync f).now f).length = ((S.sync f).files f).1.size := hsz
    split
    · rename_i hlt
      unfold DS.truncC DS.trunc
      by_cases hd : (S.sync f).come.down = true
      · right
        rw [trunc_down hf'.1 hf'.2 hd]
        refine ⟨.inl rfl, ?_⟩
        unfold DS.trunc0
        rw [trunc_down hf'.1 hf'.2 hd, if_neg (by decide)]
        exact hy.come
      · have hd : (S.sync f).come.down = false := by simpa using hd
        obtain ⟨_, e2, _⟩ := come_down hd
        have e3 : (S.sync f).come.files = (S.sync f).files := by rw [e2]; exact (tick_same _).1
        have ht := trunc_ok0 (f := f) (n := ((formsF (all.take m)).length : Int)) hf'.1 hf'.2 hd (by omega) (by rw [e3]; omega)
        left
        refine ⟨ht, m, hm, rfl, ⟨k, hk, hsu⟩, ?_⟩
        unfold DS.trunc0
        rw [ht, if_pos rfl, e3]
        have hx : (((S.sync f).files f).1.extract 0 ((formsF (all.take m)).length : Int).toNat).data.toList = formsF (all.take m) := by
          rw [ext_list]
          obtain ⟨t, ht⟩ := hpre
          have : ((S.sync f).files f).1.data.toList = formsF (all.take m) ++ t := ht.symm
          rw [this]
          simp
        refine ⟨hy.come.settle hf' _ (by rw [extract_size]; have := hy.wf.now f; omega) (by rw [hx]; exact hfm), ?_⟩
        show (updF _ _ _ f).1.data.toList = _
        rw [updF, if_pos rfl]
        exact hx
    · rename_i hge
      left
      have e : (S.sync f).now f = formsF (all.take m) := (hpre.eq_of_length_le (by omega)).symm
      obtain ⟨_, _, _, _, hset⟩ := syncC_ok hc
      have hfl : (S.sync f).files f = ((S.files f).1, (S.files f).1) := by rw [hset]; show updF _ _ _ f = _; rw [updF, if_pos rfl]
      have hl : (S.sync f).last f = formsF (all.take m) := by
        rw [← e]
        unfold DS.last DS.now
        rw [hfl]
      exact ⟨rfl, m, hm, rfl, ⟨k, hk, hsu⟩, ⟨hy.wf, hy.inv, by rw [e]; exact hfm, by rw [hl]; exact hfm⟩, e⟩
  · rw [hc, if_pos (show (8 : Int) ≠ 0 by decide), if_pos (show (8 : Int) ≠ 0 by decide)]
    exact .inr ⟨.inl rfl, hy⟩
  · rw [hc, if_pos (show (9 : Int) ≠ 0 by decide), if_pos (show (9 : Int) ≠ 0 by decide)]
    exact .inr ⟨.inr rfl, hy⟩
/-- With nothing lost and no crash it can be opened. -/
theorem open_up (hf : 0 ≤ f ∧ f ≤ 15) (hd : S.down = false) (hl : S.lost = 0) (ha : S.armed = 0) : openC S f = 0 := by
  have hcome : S.come = S := by
    unfold DS.come DS.endsB DS.tick
    simp [hd, ha]
  have hc : S.syncC f = 0 := by
    unfold DS.syncC DS.syncC0
    rw [hcome, may_zero hd hf.1 (by omega), if_neg (by omega), if_neg (by omega)]
  obtain ⟨_, _, _, _, hset⟩ := syncC_ok hc
  have htick : S.tick = S := by unfold DS.tick; simp [ha]
  rw [htick] at hset
  unfold openC
  rw [if_neg (by omega), hc, if_neg (by decide)]
  split
  · rename_i hlt
    have hcome2 : (S.sync f).come = S.sync f := by
      rw [hset]
      unfold DS.come DS.endsB DS.tick DS.settle
      simp [hd, ha]
    unfold DS.truncC
    rw [hcome2]
    have hsz := dlen ((S.sync f).files f).1
    have hnow : ((S.sync f).now f).length = ((S.sync f).files f).1.size := hsz
    exact trunc_ok0 hf.1 (by omega) (by rw [hset]; exact hd) (by omega) (by omega)
  · rfl
theorem put_end (x : ByteArray) (t : List UInt8) (ht : t ≠ []) : (putB x x.size (bs t)).data.toList = x.data.toList ++ t := by
  have h0 : (bs t).size ≠ 0 := by
    rw [bs_size]
    intro h
    exact ht (List.eq_nil_of_length_eq_zero h)
  have hd := dlen x
  rw [putB, if_neg h0]
  show putL x.data.toList x.size t = _
  unfold putL padL
  have e1 : x.size = x.data.toList.length := hd.symm
  rw [e1, List.take_left, List.drop_of_length_le (by rw [List.length_append, List.length_replicate]; omega), List.append_nil]
/-- Writing a form behind the others. -/
theorem write_form (h : Two3 S f all sure) (hf : 0 ≤ f ∧ f ≤ 15) (hnow : S.now f = formsF all) (s : List UInt8) (hsz : (formsF all).length + (formF s).length ≤ 1048576) :
    (S.writeC f (formsF all).length (bs (formF s)) = 0 ∧ Two3 (S.write f (formsF all).length (bs (formF s))) f (all ++ [s]) sure ∧ (S.write f (formsF all).length (bs (formF s))).now f = formsF (all ++ [s])) ∨
    (S.writeC f (formsF all).length (bs (formF s)) = 8 ∧ Two3 (S.write f (formsF all).length (bs (formF s))) f (all ++ [s]) sure) := by
  have hd := dlen (S.files f).1
  have hlen : (formsF all).length = (S.files f).1.size := by rw [← hnow]; exact hd
  have hfp := formF_pos s
  have hfit : fitsB (formsF all).length (bs (formF s)) = true := by
    unfold fitsB
    rw [Bool.and_eq_true, Bool.and_eq_true, decide_eq_true_eq, decide_eq_true_eq, decide_eq_true_eq, bs_size]
    omega
  have hwadd : ∀ T : DS, T.files = S.files → T.queue = S.queue → T.wf → Two3 (T.wadd f (formsF all).length (bs (formF s))) f (all ++ [s]) sure ∧ (T.wadd f (formsF all).length (bs (formF s))).now f = formsF (all ++ [s]) := fun T e1 e2 hw => by
    have ht : Two3 T f all sure := h.same hw e1 e2
    have h0 : ¬ (bs (formF s)).size = 0 := by rw [bs_size]; omega
    have hput : (putB (S.files f).1 ((formsF all).length : Int).toNat (bs (formF s))).data.toList = formsF (all ++ [s]) := by
      rw [Int.toNat_natCast, hlen, put_end _ _ (fun e => by rw [e] at hfp; simp at hfp), formsF_snoc, ← hnow]
      rfl
    have hfl : (T.wadd f (formsF all).length (bs (formF s))).files f = (putB (S.files f).1 ((formsF all).length : Int).toNat (bs (formF s)), (S.files f).2) := by
      unfold DS.wadd
      rw [if_neg h0]
      show updF _ _ _ f = _
      rw [updF, if_pos rfl, e1]
    have hn : (T.wadd f (formsF all).length (bs (formF s))).now f = formsF (all ++ [s]) := by
      unfold DS.now
      rw [hfl]
      exact hput
    have hl : (T.wadd f (formsF all).length (bs (formF s))).last f = S.last f := by
      unfold DS.last
      rw [hfl]
    refine ⟨⟨DS.wadd_wf hw f _ _ ⟨hf.1, by omega⟩ (by omega) (by rw [bs_size]; omega), ht.inv.wadd f _ _ (by omega), ?_, ?_⟩, hn⟩
    · rw [hn]
      have hm := (h.now.more s).p
      refine ⟨?_, Rel.refl _, Nat.le_refl _⟩
      rw [formsF_snoc]
      have hp := h.now.p
      rw [hnow] at hp
      exact hp.trans (List.prefix_append _ _)
    · rw [hl]
      exact (h.last.more s)
  have hcode : ∀ T : DS, T.down = false → T.wcode f (formsF all).length (bs (formF s)) = 0 := fun T hdn => by
    unfold DS.wcode
    rw [may_zero hdn hf.1 (by omega), if_neg (by omega), if_neg (by omega), if_pos hfit]
  have htk := tick_same S
  unfold DS.writeC DS.write
  by_cases he : S.endsB = true
  · rw [if_pos he, if_pos he]
    have hdn : S.down = false := by
      unfold DS.endsB at he
      cases hx : S.down
      · rfl
      · rw [hx] at he; simp at he
    right
    refine ⟨rfl, ?_⟩
    have h1 := hwadd S.tick htk.1 htk.2.1 (DS.tick_wf h.wf)
    have : S.tick.wr f (formsF all).length (bs (formF s)) = S.tick.wadd f (formsF all).length (bs (formF s)) := by
      unfold DS.wr
      rw [hcode _ (by rw [htk.2.2.1]; exact hdn), if_pos rfl]
    rw [this]
    exact h1.1.crash _
  · rw [if_neg he, if_neg he]
    cases hdn : S.down with
    | false =>
      left
      have hc := hcode S.tick (by rw [htk.2.2.1]; exact hdn)
      refine ⟨hc, ?_⟩
      have : S.tick.wr f (formsF all).length (bs (formF s)) = S.tick.wadd f (formsF all).length (bs (formF s)) := by
        unfold DS.wr
        rw [hc, if_pos rfl]
      rw [this]
      exact hwadd S.tick htk.1 htk.2.1 (DS.tick_wf h.wf)
    | true =>
      right
      have hm : S.tick.may f = 8 := by unfold DS.may; rw [htk.2.2.1, hdn, if_pos rfl]
      have hc : S.tick.wcode f (formsF all).length (bs (formF s)) = 8 := by
        unfold DS.wcode
        rw [hm, if_pos (by decide)]
      refine ⟨hc, ?_⟩
      have : S.tick.wr f (formsF all).length (bs (formF s)) = S.tick := by
        unfold DS.wr
        rw [hc, if_neg (by decide)]
      rw [this]
      exact h.tick.more s
end
end Go.Proofs.YtoicnokidlkjfaaGreatDoor
/- Journals in plain Lean: the states of JournalLasts. -/
namespace Go.Proofs.YtoicnokidlkjfaaGreatDoor

theorem forms_bound (l : List (List UInt8)) (h : ∀ t ∈ l, t.length ≤ 200) : (formsF l).length ≤ l.length * 260 :=
  flat_bound formF 260 l (fun t ht => by have := h t ht; have := formF_len t (by omega); omega)
/-- What holds between two operations. -/
structure LInv (S : DS) (J : Option JS) (all sure : List (List UInt8)) (n : Nat) : Prop where
  two : Two3 S 3 all sure
  sm : ∀ t ∈ all, t.length ≤ 200
  cnt : all.length ≤ n
  sub : ∃ m, m ≤ all.length ∧ sure = all.take m
  jr : ∀ j, J = some j → j.file = 3 ∧ (∃ m, m ≤ all.length ∧ j.recs = all.take m) ∧ (j.bad = false → j.recs = all ∧ S.now 3 = formsF all)
section
variable {S : DS} {J : Option JS} {j : JS} {all sure : List (List UInt8)} {n : Nat}
theorem LInv.gone (h : LInv S J all sure n) {T : DS} (ht : Two3 T 3 all sure) : LInv T none all sure (n + 1) :=
  ⟨ht, h.sm, by have := h.cnt; omega, h.sub, fun _ e => by cases e⟩
theorem LInv.none (h : LInv S J all sure n) : LInv S .none all sure n := ⟨h.two, h.sm, h.cnt, h.sub, fun _ e => by cases e⟩
theorem take_app {T : Type} (l : List T) (m : Nat) (hm : m ≤ l.length) (s : T) : ∃ k, k ≤ (l ++ [s]).length ∧ l.take m = (l ++ [s]).take k :=
  ⟨m, by simp; omega, by rw [List.take_append_of_le_length hm]⟩
theorem lasts_append (h : LInv S (some j) all sure n) (hn : n ≤ 25) (s : List UInt8) (hs : s.length ≤ 200) :
    (appC S j s = 0 ∧ (appJ S j s).recs = j.recs ++ [s] ∧ LInv (appS S j s) (some (appJ S j s)) (all ++ [s]) sure (n + 1)) ∨
    (appC S j s = 8 ∧ (appJ S j s).recs = j.recs ∧ LInv (appS S j s) (some (appJ S j s)) (all ++ [s]) sure (n + 1)) ∨
    (appC S j s = 7 ∧ appJ S j s = j ∧ LInv (appS S j s) (some (appJ S j s)) all sure (n + 1)) := by
  obtain ⟨hfile, ⟨m, hm, hrm⟩, hb⟩ := h.jr j rfl
  cases hbad : j.bad with
  | true =>
    have hp : j.pre s = 7 := by unfold JS.pre; rw [hbad, if_pos rfl]
    unfold appC appS appJ
    rw [hp]
    simp only [ne_eq, show ¬ ((7 : Int) = 0) by decide, not_false_eq_true, if_true]
    exact .inr (.inr ⟨by first | trivial | rfl, by first | trivial | rfl, h.two, h.sm, by have := h.cnt; omega, h.sub, h.jr⟩)
  | false =>
    obtain ⟨hrec, hnow⟩ := hb hbad
    have hbd := forms_bound all h.sm
    have hcnt := h.cnt
    have hfl := formF_len s (by omega)
    have hp : j.pre s = 0 := by
      unfold JS.pre JS.at_
      rw [hbad, hrec, if_neg (by decide), if_neg (by omega), if_neg (by omega)]
    unfold appC appS appJ
    rw [hp]
    simp only [ne_eq, not_true_eq_false, if_false]
    unfold JS.at_
    rw [hfile, hrec]
    have hsm : ∀ t ∈ all ++ [s], t.length ≤ 200 := fun t ht => by
      rcases List.mem_append.1 ht with ht | ht
      · exact h.sm t ht
      · simp only [List.mem_singleton] at ht; subst ht; exact hs
    have hsub : ∃ m, m ≤ (all ++ [s]).length ∧ sure = (all ++ [s]).take m := by
      obtain ⟨k, hk, rfl⟩ := h.sub
      exact take_app all k hk s
    rcases write_form h.two ⟨by decide, by decide⟩ hnow s (by omega) with ⟨hc, ht, hn'⟩ | ⟨hc, ht⟩
    · left
      rw [hc]
      simp only [not_true_eq_false, if_false]
      refine ⟨trivial, by first | trivial | rw [hrec], ht, hsm, by simp; omega, hsub, fun j' e => ?_⟩
      cases e
      refine ⟨(by first | rfl | exact hfile), ⟨(all ++ [s]).length, Nat.le_refl _, ?_⟩, fun _ => ⟨?_, hn'⟩⟩
      · simp only [hrec, List.take_length]
      · simp only [hrec]
    · right; left
      rw [hc]
      simp only [show ¬ ((8 : Int) = 0) by decide, not_false_eq_true, if_true]
      refine ⟨trivial, by first | trivial | rw [hrec], ht, hsm, by simp; omega, hsub, fun j' e => ?_⟩
      cases e
      refine ⟨(by first | rfl | exact hfile), ?_, fun hx => by cases hx⟩
      have := take_app all all.length (Nat.le_refl _) s
      rw [List.take_length] at this
      simp only [hrec]
      exact this
theorem lasts_sync (h : LInv S (some j) all sure n) :
    (synJ S j).recs = j.recs ∧ ((synC S j = 0 ∧ LInv (synS S j) (some (synJ S j)) all j.recs (n + 1)) ∨ (synC S j ≠ 0 ∧ LInv (synS S j) (some (synJ S j)) all sure (n + 1))) := by
  obtain ⟨hfile, hrm, hb⟩ := h.jr j rfl
  cases hbad : j.bad with
  | true =>
    unfold synJ synC synS
    simp only [hbad, if_true]
    exact ⟨trivial, .inr ⟨by decide, h.two, h.sm, by have := h.cnt; omega, h.sub, h.jr⟩⟩
  | false =>
    obtain ⟨hrec, hnow⟩ := hb hbad
    unfold synJ synC synS
    simp only [hbad, Bool.false_eq_true, if_false]
    refine ⟨trivial, ?_⟩
    rw [hfile]
    have hy := h.two.sync (f := 3) ⟨by decide, by decide⟩
    rcases sync_code (f := 3) S ⟨by decide, by decide⟩ with hc | hc | hc
    · left
      obtain ⟨_, _, _, _, hset⟩ := syncC_ok hc
      have hfull : Mix all j.recs (formsF all) := Mix.full ⟨all.length, Nat.le_refl _, by rw [List.take_length]; exact hrec⟩
      have hd : (S.files 3).1.data.toList = formsF all := hnow
      have ht : Two3 (S.tick.settle 3 (S.files 3).1) 3 all j.recs := h.two.tick.settle ⟨by decide, by decide⟩ _ (h.two.wf.now 3) (by rw [hd]; exact hfull)
      have hn2 : (S.sync 3).now 3 = formsF all := by
        rw [hset]
        show (updF _ _ _ 3).1.data.toList = _
        rw [updF, if_pos rfl]
        exact hd
      refine ⟨hc, by rw [hset]; exact ht, h.sm, by have := h.cnt; omega, ⟨all.length, Nat.le_refl _, by rw [List.take_length]; exact hrec⟩, fun j' e => ?_⟩
      cases e
      exact ⟨(by first | rfl | exact hfile), hrm, fun _ => ⟨hrec, hn2⟩⟩
    · right
      refine ⟨by rw [hc]; decide, hy, h.sm, by have := h.cnt; omega, h.sub, fun j' e => ?_⟩
      cases e
      exact ⟨(by first | rfl | exact hfile), hrm, fun hx => by rw [hc] at hx; cases hx⟩
    · right
      refine ⟨by rw [hc]; decide, hy, h.sm, by have := h.cnt; omega, h.sub, fun j' e => ?_⟩
      cases e
      exact ⟨(by first | rfl | exact hfile), hrm, fun hx => by rw [hc] at hx; cases hx⟩
theorem lasts_same {T : DS} (h : LInv S J all sure n) (hw : T.wf) (hf : T.files = S.files) (hq : T.queue = S.queue) : LInv T J all sure (n + 1) :=
  ⟨h.two.same hw hf hq, h.sm, by have := h.cnt; omega, h.sub, fun j e => by
    obtain ⟨a, b, c⟩ := h.jr j e
    exact ⟨a, b, fun hx => ⟨(c hx).1, by unfold DS.now; rw [hf]; exact (c hx).2⟩⟩⟩
theorem lasts_skip (h : LInv S J all sure n) : LInv S J all sure (n + 1) := lasts_same h h.two.wf rfl rfl
theorem lasts_crash (h : LInv S J all sure n) (keep : List Int) : LInv (S.crash keep) none all sure n := ⟨h.two.crash keep, h.sm, h.cnt, h.sub, fun _ e => by cases e⟩
theorem lasts_start (h : LInv S J all sure n) : LInv S.start none all sure n := ⟨h.two.start, h.sm, h.cnt, h.sub, fun _ e => by cases e⟩
theorem lasts_open (h : LInv S J all sure n) :
    (openC S 3 = 0 ∧ (∃ m, m ≤ all.length ∧ (openJ S 3).recs = all.take m) ∧ (∃ m, m ≤ (openJ S 3).recs.length ∧ sure = (openJ S 3).recs.take m) ∧ LInv (openS S 3) (some (openJ S 3)) (openJ S 3).recs (openJ S 3).recs (n + 1)) ∨
    ((openC S 3 = 8 ∨ openC S 3 = 9) ∧ LInv (openS S 3) none all sure (n + 1)) := by
  rcases open_mix (f := 3) h.two ⟨by decide, by decide⟩ h.sm h.sub with ⟨hc, m, hm, hr, ⟨k, hk, hsu⟩, ht, hn'⟩ | ⟨hc, ht⟩
  · left
    rw [hr]
    refine ⟨hc, ⟨m, hm, rfl⟩, ⟨k, by simp; omega, by rw [List.take_take, Nat.min_eq_left hk]; exact hsu⟩, ht, fun t hx => h.sm t (List.mem_of_mem_take hx), by simp; have := h.cnt; omega, ⟨(all.take m).length, Nat.le_refl _, by rw [List.take_length]⟩, fun j' e => ?_⟩
    cases e
    exact ⟨rfl, ⟨(all.take m).length, Nat.le_refl _, by rw [List.take_length]; exact hr⟩, fun _ => ⟨hr, hn'⟩⟩
  · exact .inr ⟨hc, ht, h.sm, by have := h.cnt; omega, h.sub, fun _ e => by cases e⟩
theorem lasts_new : LInv DS.new none [] [] 0 :=
  ⟨⟨DS.new_wf, Inv.new, Mix.full ⟨0, Nat.le_refl _, rfl⟩, Mix.full ⟨0, Nat.le_refl _, rfl⟩⟩, by simp, Nat.le_refl _, ⟨0, Nat.le_refl _, rfl⟩, fun _ e => by cases e⟩
end
end Go.Proofs.YtoicnokidlkjfaaGreatDoor
/- Journals in plain Lean: the states of JournalStays. -/
namespace Go.Proofs.YtoicnokidlkjfaaGreatDoor

/-- What holds between two operations, with no crash scheduled. -/
structure SInv (S : DS) (J : Option JS) (n : Nat) : Prop where
  wf : S.wf
  inv : Inv S
  arm : S.armed = 0
  up : S.down = false
  szn : (S.now 0).length ≤ 300 * n
  jr : ∀ j, J = some j → j.file = 0 ∧ (∀ t ∈ j.recs, t.length ≤ 20000) ∧ (formsF j.recs).length ≤ 300 * n ∧ (j.bad = false → S.now 0 = formsF j.recs)
section
variable {S : DS} {J : Option JS} {j : JS} {n : Nat}
theorem arm_come (ha : S.armed = 0) : S.come = S ∧ S.tick = S ∧ S.endsB = false := by
  have h1 : S.endsB = false := by unfold DS.endsB; simp [ha]
  have h2 : S.tick = S := by unfold DS.tick; simp [ha]
  exact ⟨by unfold DS.come; rw [h1, h2]; rfl, h2, h1⟩
theorem SInv.more (h : SInv S J n) : SInv S J (n + 1) :=
  ⟨h.wf, h.inv, h.arm, h.up, by have := h.szn; omega, fun j e => by obtain ⟨a, b, c, d⟩ := h.jr j e; exact ⟨a, b, by omega, d⟩⟩
theorem settle_files (S : DS) (f : Int) (x : ByteArray) : (S.settle f x).files f = (x, x) := by
  show updF _ _ _ f = _
  rw [updF, if_pos rfl]
theorem wadd_files (S : DS) (f a : Int) (s : ByteArray) (h : ¬ s.size = 0) : (S.wadd f a s).files f = (putB (S.files f).1 a.toNat s, (S.files f).2) := by
  unfold DS.wadd
  rw [if_neg h]
  show updF _ _ _ f = _
  rw [updF, if_pos rfl]
theorem stays_append (h : SInv S (some j) n) (hn : n ≤ 40) (s : List UInt8) (hs : s.length ≤ 200) :
    (appC S j s = 0 ∧ (appJ S j s).recs = j.recs ++ [s] ∧ SInv (appS S j s) (some (appJ S j s)) (n + 1)) ∨ (appC S j s = 7 ∧ appJ S j s = j ∧ SInv (appS S j s) (some (appJ S j s)) (n + 1)) := by
  obtain ⟨hfile, hsm, hsz, hb⟩ := h.jr j rfl
  cases hbad : j.bad with
  | true =>
    have hp : j.pre s = 7 := by unfold JS.pre; rw [hbad, if_pos rfl]
    unfold appC appS appJ
    rw [hp]
    simp only [ne_eq, show ¬ ((7 : Int) = 0) by decide, not_false_eq_true, if_true]
    exact .inr ⟨by first | trivial | rfl, by first | trivial | rfl, h.more⟩
  | false =>
    have hnow := hb hbad
    have hfl := formF_len s (by omega)
    have hfp := formF_pos s
    have hp : j.pre s = 0 := by
      unfold JS.pre JS.at_
      rw [hbad, if_neg (by decide), if_neg (by omega), if_neg (by omega)]
    obtain ⟨_, htk, hee⟩ := arm_come h.arm
    have hd := dlen (S.files 0).1
    have hlen : (formsF j.recs).length = (S.files 0).1.size := by rw [← hnow]; exact hd
    have hfit : fitsB (formsF j.recs).length (bs (formF s)) = true := by
      unfold fitsB
      rw [Bool.and_eq_true, Bool.and_eq_true, decide_eq_true_eq, decide_eq_true_eq, decide_eq_true_eq, bs_size]
      omega
    have hc : S.wcode 0 (formsF j.recs).length (bs (formF s)) = 0 := by
      unfold DS.wcode
      rw [may_zero h.up (by decide) (by decide), if_neg (by omega), if_neg (by omega), if_pos hfit]
    unfold appC appS appJ
    rw [hp]
    simp only [ne_eq, not_true_eq_false, if_false]
    unfold JS.at_ DS.writeC DS.write
    rw [hfile, hee, htk]
    simp only [Bool.false_eq_true, if_false]
    rw [hc]
    simp only [not_true_eq_false, if_false]
    left
    have hw : S.wr 0 (formsF j.recs).length (bs (formF s)) = S.wadd 0 (formsF j.recs).length (bs (formF s)) := by
      unfold DS.wr
      rw [hc, if_pos rfl]
    rw [hw]
    have h0 : ¬ (bs (formF s)).size = 0 := by rw [bs_size]; omega
    have hfiles : (S.wadd 0 (formsF j.recs).length (bs (formF s))).files 0 = (putB (S.files 0).1 ((formsF j.recs).length : Int).toNat (bs (formF s)), (S.files 0).2) := wadd_files S 0 _ _ h0
    have hput : (S.wadd 0 (formsF j.recs).length (bs (formF s))).now 0 = formsF (j.recs ++ [s]) := by
      unfold DS.now
      rw [hfiles]
      show (putB (S.files 0).1 ((formsF j.recs).length : Int).toNat (bs (formF s))).data.toList = _
      rw [Int.toNat_natCast, hlen, put_end _ _ (fun e => by rw [e] at hfp; simp at hfp), formsF_snoc, ← hnow]
      rfl
    have hother : (S.wadd 0 (formsF j.recs).length (bs (formF s))).armed = S.armed ∧ (S.wadd 0 (formsF j.recs).length (bs (formF s))).down = S.down := by
      unfold DS.wadd
      rw [if_neg h0]
      exact ⟨rfl, rfl⟩
    have hl2 : (formsF (j.recs ++ [s])).length ≤ 300 * (n + 1) := by rw [formsF_snoc, List.length_append]; omega
    refine ⟨trivial, by first | trivial | rfl, DS.wadd_wf h.wf 0 _ _ ⟨by decide, by decide⟩ (by omega) (by rw [bs_size]; omega), h.inv.wadd 0 _ _ (by omega), by rw [hother.1]; exact h.arm, by rw [hother.2]; exact h.up, by rw [hput]; exact hl2, fun j' e => ?_⟩
    cases e
    refine ⟨(by first | rfl | exact hfile), fun t ht => ?_, hl2, fun _ => hput⟩
    rcases List.mem_append.1 ht with ht | ht
    · exact hsm t ht
    · simp only [List.mem_singleton] at ht; subst ht; omega
theorem stays_sync (h : SInv S (some j) n) : (synJ S j).recs = j.recs ∧ SInv (synS S j) (some (synJ S j)) (n + 1) ∧ (synC S j = 0 → Firm 0 (S.files 0).1 (synS S j) ∧ S.now 0 = formsF j.recs) := by
  obtain ⟨hfile, hsm, hsz, hb⟩ := h.jr j rfl
  cases hbad : j.bad with
  | true =>
    unfold synJ synC synS
    simp only [hbad, if_true]
    exact ⟨trivial, h.more, fun h => by cases h⟩
  | false =>
    have hnow := hb hbad
    unfold synJ synC synS
    simp only [hbad, Bool.false_eq_true, if_false]
    rw [hfile]
    obtain ⟨hcm, htk, hee⟩ := arm_come h.arm
    have hm : S.may 0 = 0 := may_zero h.up (by decide) (by decide)
    refine ⟨trivial, ?_, fun hc => ?_⟩
    · have hm0 : ¬ S.may 0 ≠ 0 := by omega
      have hw := DS.sync0_wf h.wf 0
      unfold DS.sync
      rw [hcm]
      generalize (S.syncC 0 != 0) = bad
      unfold DS.sync0 at *
      rw [if_neg hm0] at hw ⊢
      by_cases hl : 0 < S.lost
      · rw [if_pos hl] at hw ⊢
        exact ⟨hw, h.inv.same rfl rfl, h.arm, h.up, by have := h.szn; show (S.now 0).length ≤ _; omega, fun j' e => by cases e; exact ⟨by first | rfl | exact hfile, hsm, by simp only; omega, fun _ => hnow⟩⟩
      · rw [if_neg hl] at hw ⊢
        have hn2 : (S.settle 0 (S.files 0).1).now 0 = S.now 0 := by
          unfold DS.now
          rw [settle_files]
        exact ⟨hw, h.inv.settle _ _, h.arm, h.up, by rw [hn2]; have := h.szn; omega, fun j' e => by cases e; exact ⟨by first | rfl | exact hfile, hsm, by simp only; omega, fun _ => by rw [hn2]; exact hnow⟩⟩
    · obtain ⟨_, _, _, _, hset⟩ := syncC_ok hc
      rw [hset, htk]
      refine ⟨⟨settle_files _ _ _, fun p hp => ?_⟩, hnow⟩
      · have := (List.mem_filter.1 (show p ∈ S.queue.filter _ from hp)).2
        simpa using this
theorem stays_same {T : DS} (h : SInv S J n) (hw : T.wf) (hf : T.files = S.files) (hq : T.queue = S.queue) (ha : T.armed = S.armed) (hd : T.down = S.down) : SInv T J (n + 1) :=
  ⟨hw, h.inv.same hf hq, by rw [ha]; exact h.arm, by rw [hd]; exact h.up, by unfold DS.now; rw [hf]; have := h.szn; unfold DS.now at this; omega, fun j e => by
    obtain ⟨a, b, c, d⟩ := h.jr j e
    exact ⟨a, b, by omega, fun hx => by unfold DS.now; rw [hf]; exact d hx⟩⟩
/-- A crash, a start, and the file opened again. -/
theorem stays_crash (h : SInv S J n) (keep : List Int) : SInv (S.crash keep).start none n := by
  have hlen : ((S.crash keep).start.now 0).length ≤ 300 * n := by
    have e : (S.crash keep).start.files 0 = ((survQ keep 0 S.queue S.files 0).2, (survQ keep 0 S.queue S.files 0).2) := by
      unfold DS.crash
      rw [if_neg (by rw [h.up]; decide)]
      rfl
    obtain ⟨_, hi, _, _⟩ := survives_plain h.wf h.inv 0 keep
    have h1 := h.szn
    unfold DS.now at h1 ⊢
    rw [dlen] at h1 ⊢
    rw [e]
    simp only
    omega
  refine ⟨DS.start_wf (DS.crash_wf h.wf keep), (h.inv.crash keep).same rfl rfl, ?_, rfl, hlen, fun _ e => by cases e⟩
  show (S.crash keep).armed = 0
  unfold DS.crash
  rw [if_neg (by rw [h.up]; decide)]
theorem stays_open (h : SInv S J n) : ((openC S 0 = 0 ∧ SInv (openS S 0) (some (openJ S 0)) (n + 1)) ∨ (openC S 0 ≠ 0 ∧ SInv (openS S 0) none (n + 1))) := by
  obtain ⟨hcm, htk, hee⟩ := arm_come h.arm
  have hm : S.may 0 = 0 := may_zero h.up (by decide) (by decide)
  have hszn := h.szn
  have e1 : ¬ ((0 : Int) < 0 ∨ (15 : Int) < 0) := by decide
  have e0 : ¬ ((0 : Int) ≠ 0) := by decide
  have e9 : (9 : Int) ≠ 0 := by decide
  unfold openC openS openJ
  rw [if_neg e1, if_neg e1]
  by_cases hl : 0 < S.lost
  · have hc : S.syncC 0 = 9 := by unfold DS.syncC DS.syncC0; rw [hcm, if_neg (by omega), if_pos hl]
    rw [hc, if_pos e9, if_pos e9]
    right
    refine ⟨by decide, ?_⟩
    have hw := DS.sync0_wf h.wf 0
    unfold DS.sync
    rw [hcm]
    unfold DS.sync0 at hw ⊢
    rw [if_neg (by omega), if_pos hl] at hw ⊢
    exact ⟨hw, h.inv.same rfl rfl, h.arm, h.up, by show (S.now 0).length ≤ _; omega, fun _ e => by cases e⟩
  · have hc : S.syncC 0 = 0 := by unfold DS.syncC DS.syncC0; rw [hcm, if_neg (by omega), if_neg hl]
    obtain ⟨_, _, _, _, hset⟩ := syncC_ok hc
    rw [htk] at hset
    have hn2 : (S.sync 0).now 0 = S.now 0 := by
      rw [hset]
      unfold DS.now
      rw [settle_files]
    have hpre := recs_prefix (S.now 0)
    have hple := hpre.length_le
    have hw2 : (S.sync 0).wf := by rw [hset]; exact DS.settle_wf h.wf 0 _ ⟨by decide, by decide⟩ (h.wf.now 0)
    have hi2 : Inv (S.sync 0) := by rw [hset]; exact h.inv.settle _ _
    have ha2 : (S.sync 0).armed = 0 := by rw [hset]; exact h.arm
    have hd2 : (S.sync 0).down = false := by rw [hset]; exact h.up
    rw [hc, if_neg e0, if_neg e0, hn2]
    left
    by_cases hlt : (formsF (recs (S.now 0))).length < (S.now 0).length
    · rw [if_pos hlt, if_pos hlt]
      obtain ⟨hcm2, _, _⟩ := arm_come ha2
      have hsz := dlen ((S.sync 0).files 0).1
      have hnow : ((S.sync 0).now 0).length = ((S.sync 0).files 0).1.size := hsz
      rw [hn2] at hnow
      have ht := trunc_ok0 (T := S.sync 0) (f := 0) (n := ((formsF (recs (S.now 0))).length : Int)) (by decide) (by decide) hd2 (by omega) (by omega)
      unfold DS.truncC DS.trunc
      rw [hcm2]
      unfold DS.trunc0
      rw [ht, if_pos rfl]
      have hx : (((S.sync 0).files 0).1.extract 0 ((formsF (recs (S.now 0))).length : Int).toNat).data.toList = formsF (recs (S.now 0)) := by
        rw [ext_list]
        obtain ⟨t, ht⟩ := hpre
        have : ((S.sync 0).files 0).1.data.toList = formsF (recs (S.now 0)) ++ t := by
          have h3 : ((S.sync 0).files 0).1.data.toList = S.now 0 := hn2
          rw [h3, ht]
        rw [this]
        simp
      have hn3 : ((S.sync 0).settle 0 (((S.sync 0).files 0).1.extract 0 ((formsF (recs (S.now 0))).length : Int).toNat)).now 0 = formsF (recs (S.now 0)) := by
        unfold DS.now
        rw [settle_files]
        exact hx
      refine ⟨rfl, DS.settle_wf hw2 0 _ ⟨by decide, by decide⟩ (by rw [extract_size]; have := hw2.now 0; omega), hi2.settle _ _, ha2, hd2, by rw [hn3]; omega, fun j' e => ?_⟩
      cases e
      exact ⟨rfl, recs_small _, by simp only; omega, fun _ => hn3⟩
    · rw [if_neg hlt, if_neg hlt]
      have e : S.now 0 = formsF (recs (S.now 0)) := (hpre.eq_of_length_le (by omega)).symm
      refine ⟨rfl, hw2, hi2, ha2, hd2, by rw [hn2]; omega, fun j' e' => ?_⟩
      cases e'
      exact ⟨rfl, recs_small _, by simp only; omega, fun _ => by rw [hn2]; exact e⟩
/-- A file that is durable is read as it was, whatever the crash. -/
theorem firm_open {l : List (List UInt8)} {x : ByteArray} (hF : Firm 0 x S) (hx : x.data.toList = formsF l) (hl : ∀ t ∈ l, t.length ≤ 20000) (hd : S.down = false) (hlo : S.lost = 0) (ha : S.armed = 0) :
    openC S 0 = 0 ∧ (openJ S 0).recs = l ∧ Firm 0 x (openS S 0) ∧ (openS S 0).down = false ∧ (openS S 0).lost = 0 ∧ (openS S 0).armed = 0 := by
  have hc0 := open_up (S := S) (f := 0) ⟨by decide, by decide⟩ hd hlo ha
  obtain ⟨hcm, htk, hee⟩ := arm_come ha
  have hm : S.may 0 = 0 := may_zero hd (by decide) (by decide)
  have hc : S.syncC 0 = 0 := by unfold DS.syncC DS.syncC0; rw [hcm, if_neg (by omega), if_neg (by omega)]
  obtain ⟨_, _, _, _, hset⟩ := syncC_ok hc
  rw [htk] at hset
  have hn2 : (S.sync 0).now 0 = formsF l := by
    rw [hset]
    unfold DS.now
    rw [settle_files, hF.1]
    exact hx
  have hr : recs ((S.sync 0).now 0) = l := by rw [hn2]; exact recs_forms l hl
  refine ⟨hc0, hr, ?_⟩
  unfold openS
  rw [if_neg (by omega), hc, if_neg (by decide), hr, hn2, if_neg (by omega), hset]
  refine ⟨⟨by rw [settle_files, hF.1], fun p hp => ?_⟩, hd, hlo, ha⟩
  · exact hF.2 p (List.mem_filter.1 (show p ∈ S.queue.filter _ from hp)).1
end
end Go.Proofs.YtoicnokidlkjfaaGreatDoor
/- Journals in plain Lean: a disk that is up, with nothing lost and no crash scheduled. -/
namespace Go.Proofs.YtoicnokidlkjfaaGreatDoor

structure Up (S : DS) : Prop where
  wf : S.wf
  arm : S.armed = 0
  up : S.down = false
  lost : S.lost = 0
section
variable {S : DS} {f : Int}
theorem Up.new : Up DS.new := ⟨DS.new_wf, rfl, rfl, rfl⟩
theorem Up.may (h : Up S) (hf : 0 ≤ f ∧ f ≤ 15) : S.may f = 0 := may_zero h.up hf.1 (by omega)
theorem now_len (S : DS) (f : Int) : (S.now f).length = (S.files f).1.size := dlen _
theorem updF_other (F : Int → FileT) (f : Int) (x : FileT) {g : Int} (h : g ≠ f) : updF F f x g = F g := by rw [updF, if_neg h]
/-- Bytes behind the file. -/
theorem up_put (h : Up S) (hf : 0 ≤ f ∧ f ≤ 15) (t : List UInt8) (hsz : (S.now f).length + t.length ≤ 16777216) :
    S.writeC f (S.now f).length (bs t) = 0 ∧ Up (S.write f (S.now f).length (bs t)) ∧ (S.write f (S.now f).length (bs t)).now f = S.now f ++ t ∧ ∀ g, g ≠ f → (S.write f (S.now f).length (bs t)).now g = S.now g := by
  obtain ⟨_, htk, hee⟩ := arm_come h.arm
  have hlen := now_len S f
  have hfit : fitsB (S.now f).length (bs t) = true := by
    unfold fitsB
    rw [Bool.and_eq_true, Bool.and_eq_true, decide_eq_true_eq, decide_eq_true_eq, decide_eq_true_eq, bs_size]
    omega
  have hm := h.may hf
  have hc : S.wcode f (S.now f).length (bs t) = 0 := by
    unfold DS.wcode
    rw [hm, if_neg (by omega), if_neg (by omega), if_pos hfit]
  have hw : S.wr f (S.now f).length (bs t) = S.wadd f (S.now f).length (bs t) := by
    unfold DS.wr
    rw [hc, if_pos rfl]
  unfold DS.writeC DS.write
  rw [hee, htk]
  simp only [Bool.false_eq_true, if_false]
  rw [hc, hw]
  refine ⟨rfl, ?_⟩
  by_cases h0 : (bs t).size = 0
  · have ht : t = [] := List.eq_nil_of_length_eq_zero (by rw [← bs_size]; exact h0)
    have e : S.wadd f (S.now f).length (bs t) = S := by
      unfold DS.wadd
      rw [if_pos h0]
    rw [e, ht, List.append_nil]
    exact ⟨h, rfl, fun _ _ => rfl⟩
  · have hother : (S.wadd f (S.now f).length (bs t)).armed = S.armed ∧ (S.wadd f (S.now f).length (bs t)).down = S.down ∧ (S.wadd f (S.now f).length (bs t)).lost = S.lost := by
      unfold DS.wadd
      rw [if_neg h0]
      exact ⟨rfl, rfl, rfl⟩
    refine ⟨⟨DS.wadd_wf h.wf f _ _ ⟨hf.1, by omega⟩ (by omega) (by rw [bs_size]; omega), by rw [hother.1]; exact h.arm, by rw [hother.2.1]; exact h.up, by rw [hother.2.2]; exact h.lost⟩, ?_, fun g hg => ?_⟩
    · unfold DS.now
      rw [wadd_files S f _ _ h0]
      show (putB (S.files f).1 ((S.now f).length : Int).toNat (bs t)).data.toList = _
      rw [Int.toNat_natCast, hlen, put_end _ _ (fun e => h0 (by rw [e]; rfl))]
    · unfold DS.now DS.wadd
      rw [if_neg h0]
      show (updF _ _ _ g).1.data.toList = _
      rw [updF_other _ _ _ hg]
theorem up_append (h : Up S) {J : JS} (hb : J.bad = false) (hf : 0 ≤ J.file ∧ J.file ≤ 15) (hn : S.now J.file = formsF J.recs) (s : List UInt8) (hs : s.length ≤ 20000) (hsz : (formsF J.recs).length + (formF s).length ≤ 1048576) :
    appC S J s = 0 ∧ appJ S J s = { J with recs := J.recs ++ [s] } ∧ Up (appS S J s) ∧ (appS S J s).now J.file = formsF (J.recs ++ [s]) ∧ ∀ g, g ≠ J.file → (appS S J s).now g = S.now g := by
  have hp : J.pre s = 0 := by
    unfold JS.pre JS.at_
    rw [hb, if_neg (by decide), if_neg (by omega), if_neg (by omega)]
  obtain ⟨h1, h2, h3, h4⟩ := up_put h hf (formF s) (by rw [hn]; omega)
  have ha : (J.at_ : Int) = (S.now J.file).length := by rw [hn]; rfl
  have e0 : ¬ ((0 : Int) ≠ 0) := by decide
  unfold appC appS appJ
  rw [hp, if_neg e0, if_neg e0, if_neg e0, ha, h1, if_neg e0]
  exact ⟨rfl, rfl, h2, by rw [h3, formsF_snoc, hn], h4⟩
theorem up_open (h : Up S) (hf : 0 ≤ f ∧ f ≤ 15) :
    openC S f = 0 ∧ openJ S f = ⟨f, recs (S.now f), false⟩ ∧ Up (openS S f) ∧ (openS S f).now f = formsF (recs (S.now f)) ∧ ∀ g, g ≠ f → (openS S f).now g = S.now g := by
  have hc0 := open_up (S := S) hf h.up h.lost h.arm
  obtain ⟨hcm, htk, hee⟩ := arm_come h.arm
  have hm := h.may hf
  have hl := h.lost
  have hc : S.syncC f = 0 := by unfold DS.syncC DS.syncC0; rw [hcm, if_neg (by omega), if_neg (by omega)]
  obtain ⟨_, _, _, _, hset⟩ := syncC_ok hc
  rw [htk] at hset
  have hn2 : (S.sync f).now f = S.now f := by
    rw [hset]
    unfold DS.now
    rw [settle_files]
  have hu2 : Up (S.sync f) := by rw [hset]; exact ⟨DS.settle_wf h.wf f _ ⟨hf.1, by omega⟩ (h.wf.now f), h.arm, h.up, h.lost⟩
  have ho2 : ∀ g, g ≠ f → (S.sync f).now g = S.now g := fun g hg => by
    rw [hset]
    show (updF _ _ _ g).1.data.toList = _
    rw [updF_other _ _ _ hg]
    rfl
  have hpre := recs_prefix (S.now f)
  have hple := hpre.length_le
  refine ⟨hc0, by unfold openJ; rw [hn2], ?_⟩
  unfold openS
  rw [if_neg (by omega), hc, if_neg (by decide), hn2]
  by_cases hlt : (formsF (recs (S.now f))).length < (S.now f).length
  · rw [if_pos hlt]
    obtain ⟨hcm2, _, _⟩ := arm_come hu2.arm
    have hnow := now_len (S.sync f) f
    rw [hn2] at hnow
    have ht := trunc_ok0 (T := S.sync f) (f := f) (n := ((formsF (recs (S.now f))).length : Int)) hf.1 (by omega) hu2.up (by omega) (by omega)
    unfold DS.trunc
    rw [hcm2]
    unfold DS.trunc0
    rw [ht, if_pos rfl]
    have hx : (((S.sync f).files f).1.extract 0 ((formsF (recs (S.now f))).length : Int).toNat).data.toList = formsF (recs (S.now f)) := by
      rw [ext_list]
      obtain ⟨t, ht⟩ := hpre
      have : ((S.sync f).files f).1.data.toList = formsF (recs (S.now f)) ++ t := by
        have h3 : ((S.sync f).files f).1.data.toList = S.now f := hn2
        rw [h3, ht]
      rw [this]
      simp
    refine ⟨⟨DS.settle_wf hu2.wf f _ ⟨hf.1, by omega⟩ (by rw [extract_size]; have := hu2.wf.now f; omega), hu2.arm, hu2.up, hu2.lost⟩, ?_, fun g hg => ?_⟩
    · unfold DS.now
      rw [settle_files]
      exact hx
    · show (updF _ _ _ g).1.data.toList = _
      rw [updF_other _ _ _ hg]
      exact ho2 g hg
  · rw [if_neg hlt]
    exact ⟨hu2, by rw [hn2]; exact (hpre.eq_of_length_le (by omega)).symm, ho2⟩
/-- A read of the whole. -/
theorem up_read (h : Up S) (hf : 0 ≤ f ∧ f ≤ 15) (n : Int) (hn : (S.now f).length ≤ n) : S.readC f 0 n = 0 ∧ S.readS f 0 n = bs (S.now f) := by
  have hm := h.may hf
  have hc : S.readC f 0 n = 0 := by
    unfold DS.readC
    rw [hm, if_neg (by omega), if_neg (by have := now_len S f; omega)]
  refine ⟨hc, ?_⟩
  have hl := now_len S f
  rw [readS_eq hc, readX_all _ _ (by omega)]
  rfl
end
end Go.Proofs.YtoicnokidlkjfaaGreatDoor
