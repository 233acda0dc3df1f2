/- Contract of same; plain laws of a scheduled crash. -/
import Derived.Test.YtjgeefagnddpfaaDkP
import Derived.Test.YtjgeefagnddpfaaDkS
namespace Go.Proofs.Ytjgeefagnddpfaa
open Go.RowKit

theorem readC_same {S T : DS} (hd : S.down = T.down) (f a n : Int) : S.readC f a n = T.readC f a n := by
  unfold DS.readC DS.may
  rw [hd]
theorem readS_same {S T : DS} (hd : S.down = T.down) (f a n : Int) (hf : (S.files f).1 = (T.files f).1) : S.readS f a n = T.readS f a n := by
  unfold DS.readS
  rw [readC_same hd, hf]
set_option maxHeartbeats 2000000 in
theorem lSame_any (p q : Nat) (S T : DS) (L M : DL) (l : List ActM) (A : Option Addr) (c : Nat) (w : World) (hS : DK w p S L) (hT : DK w q T M) (hr : RdL 5 actC w w.heap.size A l) (hl : ∀ a ∈ l, ActOk w a) (hm : l.length ≤ 9223372036854775807) (hd : S.down = T.down) (hfl : ∀ f, (S.files f).1 = (T.files f).1) :
    Calls Try.prog 28 #[.pointer (some ⟨p, 0, none⟩), .pointer (some ⟨q, 0, none⟩), .slice A l.length c] w fun e w' => e = .returned (.bool true) ∧ Below w.heap.size w w' := by
  have HS := Lib.hid hS
  have HT := Lib.hid hT
  have HR := Lib.hid hr
  have HL := Lib.hid hl
  have HFl := Lib.hid hfl
  have HDn := Lib.hid hd
  clear hS hT hr hl hfl hd
  go_enter Try.func28, Try.ntmps28
  go_wp2_with fail
  refine (dDown_any p S L w HS.out).mono ?_
  rintro e wx ⟨rfl, hw⟩
  obtain rfl := hw.symm
  go_wp2_with fail
  refine (dDown_any q T M w HT.out).mono ?_
  rintro e wx ⟨rfl, hw⟩
  obtain rfl := hw.symm
  rw [← HDn.out]
  go_wp2_with fail
  go_loopw [7] (fun i wr => ∃ k : Nat, k ≤ l.length ∧ i = .int .i64 k ∧ Below w.heap.size w wr) (fun i _ => l.length - (intOf i).toNat)
  case atStart => exact ⟨0, Nat.zero_le _, rfl, Below.refl _ _⟩
  case round =>
    obtain ⟨k, hk, rfl, hb⟩ := hrel
    have HB := Lib.hid hb
    by_cases hlt : k < l.length
    · obtain ⟨b, off, rfl, hbb, c0, c1, c2', c3, c4⟩ := (HR.out.now hb).act hlt
      have hok := HL.out l[k] (List.getElem_mem hlt)
      have haf := hok.f
      have R1 := Lib.hid (dRead_any p S L wr l[k].f 0 16777216 haf (HS.out.below hb))
      have R2 := Lib.hid (dRead_any q T M wr l[k].f 0 16777216 haf (HT.out.below hb))
      rw [← readC_same HDn.out, ← readS_same HDn.out _ _ _ (HFl.out _)] at R2
      have Z1 := Lib.hid (fun n => dSize_any p S L (wr.drewN n) l[k].f haf ((HS.out.below hb).turn (fun i _ => rfl) (Nat.le_refl _)))
      have Z2 := Lib.hid (fun n => dSize_any q T M (wr.drewN n) l[k].f haf ((HT.out.below hb).turn (fun i _ => rfl) (Nat.le_refl _)))
      rw [← HFl.out] at Z2
      clear hok haf hb
      generalize S.readC l[k].f 0 16777216 = rc at *
      generalize S.readS l[k].f 0 16777216 = rs at *
      generalize (S.files l[k].f).1.size = sz at *
      generalize l[k] = a at *
      go_wp2_with fail
      refine R1.out.mono ?_
      rintro e wx ⟨rfl, hw⟩
      obtain rfl := hw.symm
      go_wp2_with fail
      refine R2.out.mono ?_
      rintro e wx ⟨rfl, hw⟩
      obtain rfl := hw.symm
      go_wp2_with fail
      clear c0 c2' c3 c4 R1 R2
      go_quiet (first | (with_reducible exact Calls.quiet_of_same (Z1.out _)) | (with_reducible exact Calls.quiet_of_same (Z2.out _)))
      have HBq := Lib.hid (below_drewN HB.out nq)
      generalize wr.drewN nq = wq at *
      go_wp2_with fail
      go_roundw
      case rel => exact ⟨k + 1, by omega, by go_num, HBq.out⟩
      case measure => simp [intOf]; omega
    · go_wp2_with fail
      go_ret
      exact ⟨rfl, hb⟩

/-- The same machine, but for a scheduled crash. -/
structure Twin (D C : DS) (m : Int) (keep : List Int) : Prop where
  files : D.files = C.files
  queue : D.queue = C.queue
  lost : D.lost = C.lost
  dd : D.down = false
  cd : C.down = false
  da : D.armed = m
  ca : C.armed = 0
  dk : D.keep = keep
theorem Twin.may {D C : DS} {m : Int} {keep : List Int} (h : Twin D C m keep) (f : Int) : D.may f = C.may f := by
  unfold DS.may
  rw [h.dd, h.cd]
theorem Twin.wcode {D C : DS} {m : Int} {keep : List Int} (h : Twin D C m keep) (f a : Int) (s : ByteArray) : D.wcode f a s = C.wcode f a s := by
  unfold DS.wcode
  rw [h.may]
theorem Twin.wr {D C : DS} {m : Int} {keep : List Int} (h : Twin D C m keep) (f a : Int) (s : ByteArray) : Twin (D.wr f a s) (C.wr f a s) m keep := by
  unfold DS.wr
  rw [h.wcode]
  split
  · unfold DS.wadd
    split
    · exact h
    · exact ⟨by show updF D.files _ _ = updF C.files _ _; rw [h.files], by show addQ D.queue _ _ _ = addQ C.queue _ _ _; rw [h.queue], h.lost, h.dd, h.cd, h.da, h.ca, h.dk⟩
  · exact h
theorem Twin.settle {D C : DS} {m : Int} {keep : List Int} (h : Twin D C m keep) (f : Int) (s : ByteArray) : Twin (D.settle f s) (C.settle f s) m keep :=
  ⟨by show updF D.files _ _ = updF C.files _ _; rw [h.files], by show D.queue.filter _ = C.queue.filter _; rw [h.queue], h.lost, h.dd, h.cd, h.da, h.ca, h.dk⟩
theorem Twin.tick {D C : DS} {m : Int} {keep : List Int} (h : Twin D C m keep) (hm : 0 < m) : Twin D.tick C.tick (m - 1) keep := by
  have h1 : D.tick = { D with armed := D.armed - 1 } := by unfold DS.tick; rw [if_neg (by rw [h.dd, h.da]; simp; omega)]
  have h2 : C.tick = C := by unfold DS.tick; rw [if_pos (.inr h.ca)]
  rw [h1, h2]
  exact ⟨h.files, h.queue, h.lost, h.dd, h.cd, by show D.armed - 1 = m - 1; rw [h.da], h.ca, h.dk⟩
theorem Twin.ends {D C : DS} {m : Int} {keep : List Int} (h : Twin D C m keep) : D.endsB = decide (m = 1) ∧ C.endsB = false := by
  unfold DS.endsB
  rw [h.dd, h.cd, h.da, h.ca]
  simp
/-- What is left when the crash has happened: both are down, and their files are the same. -/
structure Fell (D C : DS) : Prop where
  files : D.files = C.files
  dd : D.down = true
  cd : C.down = true
theorem Twin.crash {D C : DS} {m : Int} {keep : List Int} (h : Twin D C m keep) (k : List Int) : Fell (D.crash k) (C.crash k) := by
  unfold DS.crash
  rw [if_neg (by rw [h.dd]; simp), if_neg (by rw [h.cd]; simp), h.files, h.queue]
  exact ⟨rfl, rfl, rfl⟩
/-- An act that is counted, ahead of the crash. -/
theorem Twin.act {D C : DS} {m : Int} {keep : List Int} (h : Twin D C m keep) (a : ActM) (ha : a.d % 8 < 4) (hm : 1 < m) : D.doC a = C.doC a ∧ Twin (D.doS a) (C.doS a) (m - 1) keep := by
  obtain ⟨e1, e2⟩ := h.ends
  have e1' : D.endsB = false := by rw [e1]; simp; omega
  have ht := h.tick (by omega)
  have c1 : D.come = D.tick := by unfold DS.come; rw [e1']; rfl
  have c2 : C.come = C.tick := by unfold DS.come; rw [e2]; rfl
  unfold DS.doC DS.doS
  split
  · unfold DS.syncC DS.sync DS.syncC0 DS.sync0
    rw [c1, c2, ht.may, ht.lost]
    refine ⟨rfl, ?_⟩
    split
    · exact ht
    · split
      · exact ⟨ht.files, ht.queue, rfl, ht.dd, ht.cd, ht.da, ht.ca, ht.dk⟩
      · rw [ht.files]
        exact ht.settle _ _
  · split
    · have hcc : D.tick.truncC0 a.f a.n = C.tick.truncC0 a.f a.n := by unfold DS.truncC0; rw [ht.may, ht.files]
      unfold DS.truncC DS.trunc DS.trunc0
      rw [c1, c2, hcc, ht.files]
      refine ⟨rfl, ?_⟩
      split
      · exact ht.settle _ _
      · exact ht
    · have h4 : ¬ a.d % 8 = 4 := by omega
      have h5 : ¬ a.d % 8 = 5 := by omega
      have h6 : ¬ a.d % 8 = 6 := by omega
      have h7 : ¬ a.d % 8 = 7 := by omega
      simp only [if_neg h4, if_neg h5, if_neg h6, if_neg h7]
      unfold DS.writeC DS.write
      rw [e1', e2]
      exact ⟨ht.wcode _ _ _, ht.wr _ _ _⟩
theorem Twin.lose {D C : DS} {m : Int} {keep : List Int} (h : Twin D C m keep) (a : ActM) (ha : a.d % 8 = 4) : D.doC a = C.doC a ∧ Twin (D.doS a) (C.doS a) m keep := by
  have h2 : ¬ a.d % 8 = 2 := by omega
  have h3 : ¬ a.d % 8 = 3 := by omega
  unfold DS.doC DS.doS
  simp only [if_neg h2, if_neg h3, if_pos ha]
  exact ⟨by first | trivial | rfl, h.files, h.queue, rfl, h.dd, h.cd, h.da, h.ca, h.dk⟩
theorem down_same {S : DS} (h : S.down = true) (a : ActM) (ha : a.d % 8 ≤ 4) : (S.doS a).files = S.files ∧ (S.doS a).down = true ∧ (a.d % 8 < 4 → S.doC a = 8) := by
  have hm : ∀ f, S.may f = 8 := fun f => by unfold DS.may; rw [if_pos h]
  have ht : S.tick = S := by unfold DS.tick; rw [if_pos (.inl h)]
  have he : S.endsB = false := by unfold DS.endsB; rw [h]; rfl
  have hc : S.come = S := by unfold DS.come; rw [he, ht]; rfl
  unfold DS.doS DS.doC
  split
  · unfold DS.sync DS.sync0 DS.syncC DS.syncC0
    rw [hc, hm, if_pos (show (8 : Int) ≠ 0 by decide), if_pos (show (8 : Int) ≠ 0 by decide)]
    exact ⟨rfl, h, fun _ => rfl⟩
  · split
    · unfold DS.trunc DS.trunc0 DS.truncC DS.truncC0
      rw [hc, hm, if_pos (show (8 : Int) ≠ 0 by decide), if_neg (show ¬ (8 : Int) = 0 by decide)]
      exact ⟨rfl, h, fun _ => rfl⟩
    · split
      · exact ⟨rfl, h, fun hx => by omega⟩
      · have h5 : ¬ a.d % 8 = 5 := by omega
        have h6 : ¬ a.d % 8 = 6 := by omega
        have h7 : ¬ a.d % 8 = 7 := by omega
        simp only [if_neg h5, if_neg h6, if_neg h7]
        have hw : ∀ f a s, S.wcode f a s = 8 := fun f a s => by unfold DS.wcode; rw [hm, if_pos (show (8 : Int) ≠ 0 by decide)]
        unfold DS.write DS.writeC DS.wr
        rw [he, ht, hw]
        exact ⟨rfl, h, fun _ => rfl⟩
/-- The act in which the crash happens. -/
theorem Twin.falls {D C : DS} {keep : List Int} (h : Twin D C 1 keep) (a : ActM) (ha : a.d % 8 < 4) : D.doC a = 8 ∧ Fell (D.doS a) ((if a.d % 8 < 2 then C.doS a else C).crash keep) := by
  obtain ⟨e1, e2⟩ := h.ends
  have e1' : D.endsB = true := by rw [e1]; rfl
  have ht := h.tick (by omega)
  have c1 : D.come = D.tick.crash D.keep := by unfold DS.come; rw [e1']; rfl
  have hf := ht.crash keep
  have htc : C.tick = C := by unfold DS.tick; rw [if_pos (.inr h.ca)]
  rw [htc] at ht hf
  have hm : ∀ f, (D.tick.crash keep).may f = 8 := fun f => by unfold DS.may; rw [if_pos hf.dd]
  unfold DS.doC DS.doS
  by_cases m2 : a.d % 8 = 2
  · rw [if_pos m2, if_pos m2, if_neg (by omega)]
    unfold DS.syncC DS.sync DS.syncC0 DS.sync0
    rw [c1, h.dk, hm, if_pos (show (8 : Int) ≠ 0 by decide), if_pos (show (8 : Int) ≠ 0 by decide)]
    exact ⟨rfl, hf⟩
  · by_cases m3 : a.d % 8 = 3
    · rw [if_neg m2, if_pos m3, if_neg m2, if_pos m3, if_neg (by omega)]
      unfold DS.truncC DS.trunc DS.trunc0 DS.truncC0
      rw [c1, h.dk, hm, if_pos (show (8 : Int) ≠ 0 by decide), if_neg (show ¬ (8 : Int) = 0 by decide)]
      exact ⟨rfl, hf⟩
    · have m01 : a.d % 8 < 2 := by omega
      rw [if_pos m01]
      have h4 : ¬ a.d % 8 = 4 := by omega
      have h5 : ¬ a.d % 8 = 5 := by omega
      have h6 : ¬ a.d % 8 = 6 := by omega
      have h7 : ¬ a.d % 8 = 7 := by omega
      simp only [if_neg m2, if_neg m3, if_neg h4, if_neg h5, if_neg h6, if_neg h7]
      unfold DS.writeC DS.write
      rw [e1', e2, htc, h.dk]
      exact ⟨rfl, (ht.wr _ _ _).crash keep⟩
end Go.Proofs.Ytjgeefagnddpfaa
