/- What is written is read back; what is read was written so: plain laws. -/
import Derived.Test.YtoibgenhbpppdaaDoorWrN
import Derived.Test.YtoibgenhbpppdaaDoorWrG
namespace Go.Proofs.YtoibgenhbpppdaaDoor

theorem not_mem_itoa {e : UInt8} (he : 57 < e.toNat) (n : Int) : e ∉ Lib.itoa n := fun h => by
  have := itoa_chars n e h
  omega
theorem rNum_back {e : UInt8} (he : 57 < e.toNat) {n m : Int} (hn : InInt n) (hm : m ≤ n) (tl : List UInt8) (bad : Bool) : rNum e m ⟨Lib.itoa n ++ e :: tl, bad⟩ = (n, ⟨tl, bad⟩) := by
  have h20 := itoa_20 n hn.1 hn.2
  have hb := itoa_back n hn.1 hn.2
  have hne := not_mem_itoa he n
  generalize hd0 : Lib.itoa n = d at *
  have hhead : (d ++ e :: tl).take 21 = d ++ e :: tl.take (20 - d.length) := by
    rw [List.take_append, List.take_of_length_le (by omega)]
    rw [show 21 - d.length = (20 - d.length) + 1 by omega, List.take_succ_cons]
  unfold rNum
  simp only [hhead, index_at d _ e hne]
  rw [if_neg (by omega)]
  have ht : (d ++ e :: tl.take (20 - d.length)).take (d.length : Int).toNat = d := by simp
  rw [ht, hb]
  simp only
  have hd : (d ++ e :: tl).drop ((d.length : Int).toNat + 1) = tl := by
    rw [Int.toNat_natCast, List.drop_append]
    simp
  rw [hd, if_pos ⟨hd0, hm⟩]
theorem index_split (l : List UInt8) (c : UInt8) (h : 0 ≤ Lib.indexByte l c) : l[(Lib.indexByte l c).toNat]? = some c := by
  induction l with
  | nil => simp [Lib.indexByte] at h
  | cons b l ih =>
    rw [Lib.indexByte] at h ⊢
    by_cases hb : (b == c) = true
    · rw [if_pos hb]
      have := eq_of_beq hb
      simp [this]
    · rw [if_neg hb] at h ⊢
      by_cases hi : (Lib.indexByte l c == -1) = true
      · rw [if_pos hi] at h; omega
      · rw [if_neg hi] at h ⊢
        have h1 := Lib.indexByte_ge l c
        have h2 : Lib.indexByte l c ≠ -1 := fun e => hi (by simp [e])
        have h3 := ih (by omega)
        rw [show (Lib.indexByte l c + 1).toNat = (Lib.indexByte l c).toNat + 1 by omega]
        simpa using h3
theorem rNum_inv {e : UInt8} {m : Int} {s : RS} (h : (rNum e m s).2.bad = false) :
    s.bad = false ∧ s.rest = Lib.itoa (rNum e m s).1 ++ e :: (rNum e m s).2.rest ∧ m ≤ (rNum e m s).1 := by
  have hix := index_split (s.rest.take 21) e
  have hlt := indexByte_in (s.rest.take 21) e
  unfold rNum at h ⊢
  simp only at h ⊢
  split at h
  · simp [RS.fail] at h
  · rename_i h0
    rw [if_neg h0]
    split at h
    · rename_i n hn
      split at h
      · rename_i hq
        rw [if_pos hq]
        simp only at h ⊢
        have h1 := hix (by omega)
        have h2 := hlt (by omega)
        generalize Lib.indexByte (s.rest.take 21) e = a at *
        have h3 : a.toNat < 21 := by
          have : (s.rest.take 21).length ≤ 21 := by simp; omega
          omega
        have h4 : a.toNat < s.rest.length := by
          have : (s.rest.take 21).length ≤ s.rest.length := by simp; omega
          omega
        rw [List.getElem?_take_of_lt h3] at h1
        have h5 : s.rest[a.toNat] = e := by rw [List.getElem?_eq_getElem h4] at h1; exact Option.some.inj h1
        have h6 : (s.rest.take 21).take a.toNat = s.rest.take a.toNat := by rw [List.take_take, Nat.min_eq_left (by omega)]
        refine ⟨h, ?_, hq.2⟩
        rw [hq.1, h6]
        conv => lhs; rw [← List.take_append_drop a.toNat s.rest, List.drop_eq_getElem_cons h4, h5]
      · simp [RS.fail] at h
    · simp [RS.fail] at h
theorem rClose_back (c : UInt8) (tl : List UInt8) (bad : Bool) : rClose c ⟨c :: tl, bad⟩ = ⟨tl, bad⟩ := by simp [rClose, Lib.hasPrefix]
theorem rClose_inv {c : UInt8} {s : RS} (h : (rClose c s).bad = false) : s.bad = false ∧ s.rest = c :: (rClose c s).rest := by
  unfold rClose at h ⊢
  split at h
  · rename_i hp
    rw [if_pos hp]
    simp only at h ⊢
    refine ⟨h, ?_⟩
    cases hr : s.rest with
    | nil => rw [hr] at hp; simp [Lib.hasPrefix] at hp
    | cons b l =>
      rw [hr] at hp
      simp [Lib.hasPrefix] at hp
      simp [hp]
  · simp [RS.fail] at h
theorem rText_back (l tl : List UInt8) (hl : InInt l.length) : rText ⟨encT l ++ tl, false⟩ = (l, ⟨tl, false⟩) := by
  have e : encT l ++ tl = Lib.itoa l.length ++ 58 :: (l ++ 44 :: tl) := by simp [encT]
  unfold rText
  simp only [e, rNum_back (by decide : 57 < (58 : UInt8).toNat) hl (by omega : (0 : Int) ≤ l.length)]
  rw [if_neg (by simp; omega)]
  have hd : (l ++ 44 :: tl).drop (l.length : Int).toNat = 44 :: tl := by simp
  have ht : (l ++ 44 :: tl).take (l.length : Int).toNat = l := by simp
  rw [hd, ht, rClose_back]
  simp
theorem rText_inv {s : RS} (h : (rText s).2.bad = false) : s.bad = false ∧ s.rest = encT (rText s).1 ++ (rText s).2.rest := by
  unfold rText at h ⊢
  simp only at h ⊢
  split at h
  · simp [RS.fail] at h
  · rename_i h0
    rw [if_neg h0]
    split at h
    · rename_i hb; simp [hb] at h
    · rename_i hb
      rw [if_neg hb]
      simp only at h ⊢
      have h1 := rClose_inv h
      have h2 := rNum_inv h1.1
      have h3 := rNum_ge 58 s
      generalize rNum 58 0 s = r at *
      obtain ⟨n, q⟩ := r
      simp only at *
      refine ⟨h2.1, ?_⟩
      have h4 : (q.rest.take n.toNat).length = n.toNat := by simp; omega
      have h5 : ((q.rest.take n.toNat).length : Int) = n := by omega
      rw [encT, h5, h2.2.1]
      simp only [List.append_assoc, List.cons_append, List.nil_append]
      rw [← h1.2, List.take_append_drop]
theorem itLoop_back {T : Type} (one : RS → T × RS) (enc : T → List UInt8) : ∀ (l : List T) (tl : List UInt8) (out : List T), (∀ x ∈ l, ∀ tl, one ⟨enc x ++ tl, false⟩ = (x, ⟨tl, false⟩)) →
    itLoop one l.length ⟨l.flatMap enc ++ tl, false⟩ out = (out ++ l, ⟨tl, false⟩)
  | [], tl, out, _ => by simp [itLoop]
  | x :: l, tl, out, h => by
    have h1 := h x (by simp) (l.flatMap enc ++ tl)
    have e : (x :: l).flatMap enc ++ tl = enc x ++ (l.flatMap enc ++ tl) := by simp
    rw [List.length_cons, itLoop_go _ _ _ _ rfl, e, h1]
    simp only
    rw [itLoop_back one enc l tl _ (fun y hy => h y (by simp [hy]))]
    simp
theorem rItems_back {T : Type} (one : RS → T × RS) (enc : T → List UInt8) (l : List T) (tl : List UInt8) (hl : InInt l.length) (h : ∀ x ∈ l, ∀ tl, one ⟨enc x ++ tl, false⟩ = (x, ⟨tl, false⟩)) :
    rItems one ⟨encL enc l ++ tl, false⟩ = (l, ⟨tl, false⟩) := by
  have e : encL enc l ++ tl = Lib.itoa l.length ++ 91 :: (l.flatMap enc ++ 93 :: tl) := by simp [encL]
  unfold rItems
  simp only [e, rNum_back (by decide : 57 < (91 : UInt8).toNat) hl (by omega : (0 : Int) ≤ l.length), Int.toNat_natCast, itLoop_back one enc l _ [] h, rClose_back]
  simp
theorem itLoop_inv {T : Type} (one : RS → T × RS) (enc : T → List UInt8) (hone : ∀ s, (one s).2.bad = false → s.bad = false ∧ s.rest = enc (one s).1 ++ (one s).2.rest) : ∀ (n : Nat) (s : RS) (out : List T), (itLoop one n s out).2.bad = false →
    s.bad = false ∧ ∃ l, (itLoop one n s out).1 = out ++ l ∧ l.length = n ∧ s.rest = l.flatMap enc ++ (itLoop one n s out).2.rest
  | 0, s, out, h => ⟨h, [], by simp [itLoop], rfl, by simp [itLoop]⟩
  | n + 1, s, out, h => by
    cases hb : s.bad with
    | true => rw [itLoop_bad _ _ _ _ hb] at h; simp [hb] at h
    | false =>
      rw [itLoop_go _ _ _ _ hb] at h ⊢
      obtain ⟨h1, l, h2, h3, h4⟩ := itLoop_inv one enc hone n _ _ h
      have h5 := hone s h1
      refine ⟨rfl, (one s).1 :: l, by rw [h2]; simp, by simp [h3], ?_⟩
      rw [h5.2, h4]
      simp
theorem rItems_inv {T : Type} {one : RS → T × RS} (enc : T → List UInt8) (hone : ∀ s, (one s).2.bad = false → s.bad = false ∧ s.rest = enc (one s).1 ++ (one s).2.rest) {s : RS} (h : (rItems one s).2.bad = false) :
    s.bad = false ∧ s.rest = encL enc (rItems one s).1 ++ (rItems one s).2.rest := by
  unfold rItems at h ⊢
  simp only at h ⊢
  split at h
  · rename_i hb; simp [hb] at h
  · rename_i hb
    rw [if_neg hb]
    simp only at h ⊢
    have h1 := rClose_inv h
    obtain ⟨h2, l, h3, h4, h5⟩ := itLoop_inv one enc hone _ _ _ h1.1
    have h6 := rNum_inv h2
    have h7 := rNum_ge 91 s
    rw [List.nil_append] at h3
    rw [h3]
    refine ⟨h6.1, ?_⟩
    have h8 : (l.length : Int) = (rNum 91 0 s).1 := by omega
    rw [encL, h8, h6.2.1, h5, h1.2]
    simp
theorem rInt_inv {e : UInt8} {m : Int} {s : RS} (he : e = 59) (h : (rNum e m s).2.bad = false) : s.bad = false ∧ s.rest = encI (rNum e m s).1 ++ (rNum e m s).2.rest := by
  have h1 := rNum_inv h
  refine ⟨h1.1, ?_⟩
  subst he
  rw [encI]
  simpa using h1.2.1
theorem rInt_back {n m : Int} (hn : InInt n) (hm : m ≤ n) (tl : List UInt8) : rNum 59 m ⟨encI n ++ tl, false⟩ = (n, ⟨tl, false⟩) := by
  have e : encI n ++ tl = Lib.itoa n ++ 59 :: tl := by simp [encI]
  rw [e]
  exact rNum_back (by decide) hn hm tl false
theorem enc_len {T : Type} (enc : T → List UInt8) (h : ∀ x, 1 ≤ (enc x).length) : ∀ l : List T, l.length ≤ (l.flatMap enc).length
  | [] => by simp
  | x :: l => by
    have h1 := h x
    have h2 := enc_len enc h l
    simp only [List.flatMap_cons, List.length_append, List.length_cons]
    omega
theorem enc_tot : ∀ l : List (List UInt8), tot l ≤ (l.flatMap encT).length
  | [] => by simp [tot]
  | x :: l => by
    have h2 := enc_tot l
    have h1 : x.length ≤ (encT x).length := by simp [encT]; omega
    simp only [List.flatMap_cons, List.length_append, tot, List.map_cons, List.sum_cons] at *
    omega
theorem items_bad {T : Type} {one : RS → T × RS} {s : RS} (h : (rItems one s).2.bad = true) : (rItems one s).1 = [] := by
  unfold rItems at h ⊢
  simp only at h ⊢
  split at h
  · rename_i hb; rw [if_pos hb]
  · rename_i hb; exact absurd h hb
theorem nums_small (s : RS) : (rItems (rNum 59 (-9223372036854775808)) s).1.length ≤ s.rest.length := by
  cases hb : (rItems (rNum 59 (-9223372036854775808)) s).2.bad with
  | true => rw [items_bad hb]; simp
  | false =>
    have h1 := (rItems_inv (one := rNum 59 (-9223372036854775808)) encI (fun s h => rInt_inv rfl h) hb).2
    have h2 := enc_len encI (fun x => by simp [encI]) (rItems (rNum 59 (-9223372036854775808)) s).1
    have h3 := congrArg List.length h1
    simp only [encL, List.length_append] at h3
    omega
theorem texts_small (s : RS) : (rItems rText s).1.length ≤ s.rest.length ∧ tot (rItems rText s).1 ≤ s.rest.length := by
  cases hb : (rItems rText s).2.bad with
  | true => rw [items_bad hb]; simp [tot]
  | false =>
    have h1 := (rItems_inv encT (fun s h => rText_inv h) hb).2
    have h2 := enc_len encT (fun x => by simp [encT]; omega) (rItems rText s).1
    have h2' := enc_tot (rItems rText s).1
    have h3 := congrArg List.length h1
    simp only [encL, List.length_append] at h3
    omega
theorem text_small (s : RS) : (rText s).1.length ≤ s.rest.length := by
  have h1 := rNum_rest 58 0 s
  unfold rText
  simp only
  split
  · simp
  · split
    · simp
    · simp; omega
theorem itLoop_all {T : Type} (one : RS → T × RS) (p : T → Prop) (h : ∀ s, p (one s).1) : ∀ (n : Nat) (s : RS) (out : List T), (∀ x ∈ out, p x) → ∀ x ∈ (itLoop one n s out).1, p x
  | 0, s, out, ho => by simpa [itLoop] using ho
  | n + 1, s, out, ho => by
    rw [itLoop]
    split
    · exact ho
    · refine itLoop_all one p h n _ _ fun x hx => ?_
      rcases List.mem_append.1 hx with hx | hx
      · exact ho x hx
      · simp only [List.mem_singleton] at hx; subst hx; exact h s
theorem items_all {T : Type} {one : RS → T × RS} (p : T → Prop) (h : ∀ s, p (one s).1) (s : RS) : ∀ x ∈ (rItems one s).1, p x := by
  unfold rItems
  simp only
  split
  · simp
  · exact itLoop_all one p h _ _ _ (by simp)
end Go.Proofs.YtoibgenhbpppdaaDoor
