import Derived.Test.YtedmhopginmjaaaZG7
import Derived.Test.YtedmhopginmjaaaZPAllx4
import Derived.Test.YtedmhopginmjaaaZPAllx7
section
namespace Go.Proofs.Ytedmhopginmjaaa.PAll
open Go.RowKit Go.Proofs.YtedmhopginmjaaaW.PrintWords
def ba (l : List UInt8) : ByteArray := ⟨l.toArray⟩
theorem ba_size (l : List UInt8) : (ba l).size = l.length := rfl
theorem ba_ext {a b : ByteArray} (h : a.data.toList = b.data.toList) : a = b := by
  cases a; cases b; simp at h; simp [h]
theorem ba_extract (l : List UInt8) (i j : Nat) : (ba l).extract i j = ba ((l.take j).drop i) := by
  apply ba_ext
  simp [ba, ByteArray.data_extract, List.drop_take]
theorem ba_bt (l : List UInt8) (i : Nat) (h : i < l.length) : bt (ba l) (i : Int) = ((l[i]).toNat : Int) := by
  unfold bt
  have hs : ((i : Int)).toNat < (ba l).size := by simpa [ba_size] using h
  rw [dif_pos hs]
  simp [ba, ByteArray.getElem_eq_getElem_data]
theorem toList_data (s : ByteArray) : s.toList = s.data.toList := by
  exact ByteArray.toList_eq s
theorem ba_toList (l : List UInt8) : (ba l).toList = l := by rw [toList_data]; rfl
end Go.Proofs.Ytedmhopginmjaaa.PAll
end
section
namespace Go.Proofs.Ytedmhopginmjaaa.PAll
def nmCh (m : Bool) (c : Int) : Bool := decide ((97 ≤ c ∧ c ≤ 122) ∨ (65 ≤ c ∧ c ≤ 90) ∨ (48 ≤ c ∧ c ≤ 57) ∨ c = 95 ∨ c = 36 ∨ c = 47) || (m && decide (c = 60 ∨ c = 62))
def nmL (m : Bool) (l : List UInt8) : Bool := decide (1 ≤ l.length ∧ l.length ≤ 60) && l.all (fun b => nmCh m b.toNat)
def brk : List UInt8 → Nat
  | [] => 0
  | c :: t => if c = 91 then brk t + 1 else 0
def semi : List UInt8 → Nat
  | [] => 0
  | c :: t => if c = 59 then 0 else semi t + 1
def tbody : List UInt8 → Nat
  | [] => 0
  | c :: t => if c = 73 ∨ c = 74 then 1 else if c = 76 then (if semi t < t.length then (if nmL false (t.take (semi t)) = true then semi t + 2 else 0) else 0) else 0
theorem tbody_cons (c : UInt8) (t : List UInt8) : tbody (c :: t) = if c = 73 ∨ c = 74 then 1 else if c = 76 then (if semi t < t.length then (if nmL false (t.take (semi t)) = true then semi t + 2 else 0) else 0) else 0 := rfl
def takeL (l : List UInt8) : Nat := if brk l > 8 then 0 else if tbody (l.drop (brk l)) = 0 then 0 else brk l + tbody (l.drop (brk l))
def typeL (l : List UInt8) : Bool := decide (l ≠ [] ∧ takeL l = l.length)
def typeR (l : List UInt8) : Bool :=
  decide (brk l ≤ 8) && (decide (l.drop (brk l) = [73]) || decide (l.drop (brk l) = [74]) ||
    (decide (2 < (l.drop (brk l)).length) && decide ((l.drop (brk l)).head? = some 76) && decide ((l.drop (brk l)).getLast? = some 59) && nmL false (((l.drop (brk l)).take ((l.drop (brk l)).length - 1)).drop 1)))
theorem brk_le (l : List UInt8) : brk l ≤ l.length := by
  induction l with
  | nil => exact Nat.le_refl _
  | cons c t ih => unfold brk; split <;> simp <;> omega
theorem semi_app {l : List UInt8} (h : semi l < l.length) (t : List UInt8) : semi (l ++ t) = semi l := by
  induction l with
  | nil => simp at h
  | cons c s ih =>
    rw [List.cons_append]
    unfold semi at h ⊢
    split
    · rfl
    · rename_i hc
      rw [if_neg hc] at h
      rw [ih (by simpa using h)]
theorem semi_take {l : List UInt8} (h : semi l < l.length) (n : Nat) (hn : semi l < n) : semi (l.take n) = semi l := by
  induction l generalizing n with
  | nil => simp at h
  | cons c s ih =>
    obtain ⟨n, rfl⟩ : ∃ m, n = m + 1 := ⟨n - 1, by omega⟩
    rw [List.take_succ_cons]
    unfold semi at h hn ⊢
    split
    · rfl
    · rename_i hc
      rw [if_neg hc] at h hn
      rw [ih (by simpa using h) n (by omega)]
theorem brk_app {l : List UInt8} (h : brk l < l.length) (t : List UInt8) : brk (l ++ t) = brk l := by
  induction l with
  | nil => simp at h
  | cons c s ih =>
    rw [List.cons_append]
    unfold brk at h ⊢
    split
    · rename_i hc
      rw [if_pos hc] at h
      rw [ih (by simpa using h)]
    · rfl
theorem brk_take {l : List UInt8} (n : Nat) (hn : brk l < n) : brk (l.take n) = brk l := by
  induction l generalizing n with
  | nil => simp
  | cons c s ih =>
    obtain ⟨n, rfl⟩ : ∃ m, n = m + 1 := ⟨n - 1, by omega⟩
    rw [List.take_succ_cons]
    unfold brk at hn ⊢
    split
    · rename_i hc
      rw [if_pos hc] at hn
      rw [ih n (by omega)]
    · rfl
theorem tbody_le (l : List UInt8) : tbody l ≤ l.length := by
  cases l with
  | nil => exact Nat.le_refl _
  | cons c t =>
    rw [tbody_cons]
    split
    · simp
    · split
      · split
        · split
          · simp; omega
          · simp
        · simp
      · simp
theorem tbody_app {l : List UInt8} (h : tbody l ≠ 0) (t : List UInt8) : tbody (l ++ t) = tbody l := by
  cases l with
  | nil => exact absurd rfl h
  | cons c s =>
    rw [List.cons_append]
    rw [tbody_cons] at h ⊢
    rw [tbody_cons]
    by_cases c1 : c = 73 ∨ c = 74
    · rw [if_pos c1, if_pos c1]
    · rw [if_neg c1] at h ⊢; rw [if_neg c1]
      by_cases c2 : c = 76
      · rw [if_pos c2] at h ⊢; rw [if_pos c2]
        by_cases c3 : semi s < s.length
        · rw [if_pos c3] at h ⊢
          rw [semi_app c3, if_pos (by rw [List.length_append]; omega), List.take_append_of_le_length (by omega)]
        · rw [if_neg c3] at h; exact absurd rfl h
      · rw [if_neg c2] at h; exact absurd rfl h
theorem tbody_take {l : List UInt8} (h : tbody l ≠ 0) (n : Nat) (hn : tbody l ≤ n) : tbody (l.take n) = tbody l := by
  cases l with
  | nil => exact absurd rfl h
  | cons c s =>
    obtain ⟨n, rfl⟩ : ∃ m, n = m + 1 := ⟨n - 1, by omega⟩
    rw [List.take_succ_cons]
    rw [tbody_cons] at h hn ⊢
    rw [tbody_cons]
    by_cases c1 : c = 73 ∨ c = 74
    · rw [if_pos c1, if_pos c1]
    · rw [if_neg c1] at h hn ⊢; rw [if_neg c1]
      by_cases c2 : c = 76
      · rw [if_pos c2] at h hn ⊢; rw [if_pos c2]
        by_cases c3 : semi s < s.length
        · rw [if_pos c3] at h hn ⊢
          by_cases c4 : nmL false (s.take (semi s)) = true
          · rw [if_pos c4] at h hn ⊢
            have e1 : semi (s.take n) = semi s := semi_take c3 n (by omega)
            rw [e1, if_pos (by rw [List.length_take]; omega), List.take_take, Nat.min_eq_left (by omega), if_pos c4]
          · rw [if_neg c4] at h; exact absurd rfl h
        · rw [if_neg c3] at h; exact absurd rfl h
      · rw [if_neg c2] at h; exact absurd rfl h
theorem takeL_le (l : List UInt8) : takeL l ≤ l.length := by
  have h1 := brk_le l
  have h2 := tbody_le (l.drop (brk l))
  rw [List.length_drop] at h2
  unfold takeL
  split
  · exact Nat.zero_le _
  · split
    · exact Nat.zero_le _
    · omega
theorem takeL_parts {l : List UInt8} (h : takeL l ≠ 0) : brk l ≤ 8 ∧ tbody (l.drop (brk l)) ≠ 0 ∧ takeL l = brk l + tbody (l.drop (brk l)) ∧ brk l < l.length := by
  unfold takeL at h ⊢
  by_cases h1 : brk l > 8
  · rw [if_pos h1] at h; exact absurd rfl h
  · rw [if_neg h1] at h ⊢
    by_cases h2 : tbody (l.drop (brk l)) = 0
    · rw [if_pos h2] at h; exact absurd rfl h
    · rw [if_neg h2]
      have := tbody_le (l.drop (brk l))
      rw [List.length_drop] at this
      exact ⟨by omega, h2, rfl, by omega⟩
theorem takeL_mk {l : List UInt8} (h1 : brk l ≤ 8) (h2 : tbody (l.drop (brk l)) ≠ 0) : takeL l = brk l + tbody (l.drop (brk l)) := by
  unfold takeL; rw [if_neg (by omega), if_neg h2]
theorem takeL_app {l : List UInt8} (h : takeL l ≠ 0) (t : List UInt8) : takeL (l ++ t) = takeL l := by
  obtain ⟨h1, h2, h3, h4⟩ := takeL_parts h
  have e := brk_app h4 t
  have ed : (l ++ t).drop (brk l) = l.drop (brk l) ++ t := List.drop_append_of_le_length (by omega)
  rw [takeL_mk (by rw [e]; exact h1) (by rw [e, ed, tbody_app h2]; exact h2), e, ed, tbody_app h2, ← h3]
theorem takeL_take {l : List UInt8} (h : takeL l ≠ 0) (n : Nat) (hn : takeL l ≤ n) : takeL (l.take n) = takeL l := by
  obtain ⟨h1, h2, h3, h4⟩ := takeL_parts h
  have e : brk (l.take n) = brk l := brk_take n (by omega)
  have ed : (l.take n).drop (brk l) = (l.drop (brk l)).take (n - brk l) := List.drop_take
  have e2 := tbody_take h2 (n - brk l) (by omega)
  rw [takeL_mk (by rw [e]; exact h1) (by rw [e, ed, e2]; exact h2), e, ed, e2, ← h3]
theorem typeL_take (l : List UInt8) (n : Nat) (h1 : 1 ≤ n) (h2 : n ≤ l.length) : typeL (l.take n) = decide (takeL l = n) := by
  unfold typeL
  have hl : (l.take n).length = n := by rw [List.length_take]; omega
  have hne : l.take n ≠ [] := fun e => by rw [e] at hl; simp at hl; omega
  rw [decide_eq_decide, hl]
  constructor
  · rintro ⟨_, h⟩
    have := takeL_app (l := l.take n) (by omega) (l.drop n)
    rw [List.take_append_drop] at this
    omega
  · intro h
    exact ⟨hne, by rw [takeL_take (by omega) n (by omega)]; exact h⟩
theorem nm_no_semi {l : List UInt8} (h : nmL false l = true) : ∀ c ∈ l, c ≠ 59 := by
  intro c hc e
  subst e
  unfold nmL at h
  rw [Bool.and_eq_true, List.all_eq_true] at h
  have := h.2 _ hc
  revert this; decide
theorem semi_of_no {l : List UInt8} (h : ∀ c ∈ l, c ≠ 59) (t : List UInt8) : semi (l ++ 59 :: t) = l.length := by
  induction l with
  | nil => rfl
  | cons c s ih =>
    rw [List.cons_append]
    unfold semi
    rw [if_neg (h c (List.mem_cons_self ..)), ih (fun x hx => h x (List.mem_cons_of_mem _ hx))]
    rfl
theorem tbody_all (d : List UInt8) (hd : d ≠ []) : decide (tbody d = d.length) =
    (decide (d = [73]) || decide (d = [74]) || (decide (2 < d.length) && decide (d.head? = some 76) && decide (d.getLast? = some 59) && nmL false ((d.take (d.length - 1)).drop 1))) := by
  cases d with
  | nil => exact absurd rfl hd
  | cons c t =>
    by_cases c1 : c = 73 ∨ c = 74
    · have hb : tbody (c :: t) = 1 := by rw [tbody_cons]; rw [if_pos c1]
      rw [hb]
      cases t with
      | nil => rcases c1 with rfl | rfl <;> decide
      | cons x y =>
        have h76 : ¬ c = 76 := by rcases c1 with rfl | rfl <;> decide
        simp [h76]
    · have n1 : ¬ c = 73 := fun e => c1 (.inl e)
      have n2 : ¬ c = 74 := fun e => c1 (.inr e)
      by_cases c2 : c = 76
      · subst c2
        have hb : tbody (76 :: t) = if semi t < t.length then (if nmL false (t.take (semi t)) = true then semi t + 2 else 0) else 0 := by
          rw [tbody_cons, if_neg c1, if_pos rfl]
        have e0 : decide ((76 : UInt8) :: t = [73]) = false := by simp
        have e1 : decide ((76 : UInt8) :: t = [74]) = false := by simp
        have e2 : decide (((76 : UInt8) :: t).head? = some 76) = true := by simp
        rw [e0, e1, e2, hb, Bool.false_or, Bool.false_or, Bool.and_true, Bool.eq_iff_iff]
        simp only [decide_eq_true_eq, Bool.and_eq_true, List.length_cons, Nat.add_sub_cancel]
        constructor
        · intro h
          by_cases c3 : semi t < t.length
          · rw [if_pos c3] at h
            by_cases c4 : nmL false (t.take (semi t)) = true
            · rw [if_pos c4] at h
              have hl : t.length = semi t + 1 := by omega
              have hlen : 1 ≤ semi t := by
                unfold nmL at c4
                rw [Bool.and_eq_true, decide_eq_true_eq, List.length_take] at c4
                omega
              have hsplit : t = t.take (semi t) ++ [59] := by
                have hg : t[semi t]'c3 = 59 := by
                  have aux : ∀ s : List UInt8, semi s < s.length → s[semi s]? = some 59 := by
                    intro s
                    induction s with
                    | nil => intro h; simp at h
                    | cons x y ih =>
                      intro h
                      by_cases hx : x = 59
                      · subst hx; rfl
                      · have e : semi (x :: y) = semi y + 1 := by
                          show (if x = 59 then 0 else semi y + 1) = _
                          rw [if_neg hx]
                        rw [e] at h ⊢
                        rw [List.getElem?_cons_succ]
                        exact ih (by simpa using h)
                  have := aux t c3
                  rw [List.getElem?_eq_getElem c3] at this
                  exact Option.some.inj this
                have := List.take_append_drop (semi t) t
                rw [List.drop_eq_getElem_cons c3, hg, List.drop_eq_nil_of_le (by omega)] at this
                exact this.symm
              refine ⟨⟨by omega, ?_⟩, ?_⟩
              · have aux : ∀ u : List UInt8, ((76 : UInt8) :: (u ++ [59])).getLast? = some 59 := fun u => by rw [← List.cons_append, List.getLast?_concat]
                rw [hsplit]; exact aux _
              · rw [List.take_cons (by omega), List.drop_succ_cons, List.drop_zero, hl, Nat.add_sub_cancel]
                exact c4
            · rw [if_neg c4] at h; omega
          · rw [if_neg c3] at h; omega
        · rintro ⟨⟨h1, h2⟩, h3⟩
          have ht : t ≠ [] := fun e => by rw [e] at h1; simp at h1
          rw [List.take_cons (by omega), List.drop_succ_cons, List.drop_zero] at h3
          have h2' : t.getLast ht = 59 := by
            rw [List.getLast?_cons, List.getLast?_eq_some_getLast ht] at h2
            simpa using h2
          have hsplit : t = t.take (t.length - 1) ++ 59 :: [] := by
            have := List.dropLast_concat_getLast ht
            rw [h2', List.dropLast_eq_take] at this
            exact this.symm
          have hs : semi t = t.length - 1 := by
            have h4 : ((76 :: t).length - 1 - 1) = t.length - 1 := by simp
            have := semi_of_no (nm_no_semi h3) []
            have e3 : (t.take (t.length - 1)).length = t.length - 1 := by rw [List.length_take]; omega
            rw [← hsplit] at this
            rw [this, e3]
          rw [if_pos (by omega), if_pos (by rw [hs]; exact h3)]
          omega
      · have hb : tbody (c :: t) = 0 := by rw [tbody_cons]; rw [if_neg c1, if_neg c2]
        rw [hb]
        simp [n1, n2, c2]
theorem typeL_typeR (l : List UInt8) : typeL l = typeR l := by
  unfold typeL typeR
  by_cases h1 : brk l ≤ 8
  · rw [decide_eq_true h1, Bool.true_and]
    by_cases h2 : l.drop (brk l) = []
    · have : takeL l = 0 := by unfold takeL; rw [if_neg (by omega), h2]; rfl
      rw [this, h2, decide_eq_false (by rintro ⟨a, b⟩; exact a (List.length_eq_zero_iff.1 b.symm))]; rfl
    · rw [← tbody_all _ h2, decide_eq_decide]
      have hlen : (l.drop (brk l)).length = l.length - brk l := List.length_drop
      have hpos : brk l < l.length := by
        rcases Nat.lt_or_ge (brk l) l.length with h | h
        · exact h
        · exact absurd (List.drop_eq_nil_of_le h) h2
      have hne : l ≠ [] := fun e => by rw [e] at hpos; simp at hpos
      unfold takeL
      rw [if_neg (by omega), hlen]
      split
      · constructor
        · rintro ⟨_, h⟩; omega
        · intro h; omega
      · constructor
        · rintro ⟨_, h⟩; omega
        · intro h; exact ⟨hne, by omega⟩
  · have : takeL l = 0 := by unfold takeL; rw [if_pos (by omega)]
    rw [this, decide_eq_false h1, Bool.false_and, decide_eq_false]
    rintro ⟨a, b⟩; exact a (List.length_eq_zero_iff.1 b.symm)
end Go.Proofs.Ytedmhopginmjaaa.PAll
end
section
namespace Go.Proofs.Ytedmhopginmjaaa.PAll
open Go.RowKit Go.Proofs.YtedmhopginmjaaaW.PrintWords
theorem u8i (c : UInt8) (n : Nat) (hn : n < 256) : ((c.toNat : Int) = (n : Int)) ↔ (c = UInt8.ofNat n) := by
  have e : (UInt8.ofNat n).toNat = n := by simp; omega
  constructor
  · intro h
    apply UInt8.toNat_inj.1
    rw [e]; omega
  · intro h; rw [h, e]
theorem u91 (c : UInt8) : ((c.toNat : Int) = 91) ↔ (c = 91) := u8i c 91 (by decide)
theorem u73 (c : UInt8) : ((c.toNat : Int) = 73) ↔ (c = 73) := u8i c 73 (by decide)
theorem u74 (c : UInt8) : ((c.toNat : Int) = 74) ↔ (c = 74) := u8i c 74 (by decide)
theorem u76 (c : UInt8) : ((c.toNat : Int) = 76) ↔ (c = 76) := u8i c 76 (by decide)
theorem u59 (c : UInt8) : ((c.toNat : Int) = 59) ↔ (c = 59) := u8i c 59 (by decide)
theorem u40 (c : UInt8) : ((c.toNat : Int) = 40) ↔ (c = 40) := u8i c 40 (by decide)
theorem u41 (c : UInt8) : ((c.toNat : Int) = 41) ↔ (c = 41) := u8i c 41 (by decide)
theorem bt_drop {l t : List UInt8} {i : Nat} {c : UInt8} (h : l.drop i = c :: t) : bt (ba l) (i : Int) = (c.toNat : Int) ∧ i < l.length ∧ l.drop (i + 1) = t := by
  have hi : i < l.length := by
    rcases Nat.lt_or_ge i l.length with h' | h'
    · exact h'
    · rw [List.drop_eq_nil_of_le h'] at h; cases h
  rw [List.drop_eq_getElem_cons hi] at h
  obtain ⟨h1, h2⟩ := List.cons.inj h
  exact ⟨by rw [ba_bt l i hi, h1], hi, h2⟩
theorem drop_nil {l : List UInt8} {i : Nat} (h : l.drop i = []) : l.length ≤ i := List.drop_eq_nil_iff.1 h
theorem wnat1 (i : Nat) (h : i < 4611686018427387904) : wrap64 ((i : Int) + 1) = ((i + 1 : Nat) : Int) := by unfold wrap64; omega
def big : Nat := 281474976710656
theorem name_eval (l : List UInt8) (m : Bool) (hl : l.length ≤ big) : desc_Name.f (ba l) m = some (nmL m l) := by
  unfold desc_Name.f
  unfold big at hl
  rw [ba_size, if_pos (by omega)]
  rfl
theorem take_l1 (l : List UInt8) (n : Nat) (hl : l.length ≤ big) (s : List UInt8) : ∀ (i k : Nat), l.drop i = s → n + 1 ≤ i → s.length < k →
    desc_take.l1 k (ba l) n i = some (if i + semi s < l.length then (if nmL false ((l.take (i + semi s)).drop (n + 1)) = true then ((i + semi s + 1 : Nat) : Int) else 0) else 0) := by
  have hb : l.length ≤ 281474976710656 := hl
  induction s with
  | nil =>
    intro i k hd hn hk
    obtain ⟨k, rfl⟩ : ∃ m, k = m + 1 := ⟨k - 1, by omega⟩
    have := drop_nil hd
    simp only [desc_take.l1]
    rw [ba_size, if_neg (by omega), if_neg (by omega)]
  | cons c t ih =>
    intro i k hd hn hk
    obtain ⟨k, rfl⟩ : ∃ m, k = m + 1 := ⟨k - 1, by omega⟩
    obtain ⟨h1, h2, h3⟩ := bt_drop hd
    simp only [desc_take.l1]
    rw [ba_size, if_pos (by omega), if_pos (by omega), h1]
    by_cases hc : c = 59
    · have e : semi (c :: t) = 0 := by
        show (if c = 59 then 0 else semi t + 1) = 0
        rw [if_pos hc]
      rw [if_pos ((u59 c).2 hc), wnat1 n (by omega), if_pos (by omega), if_pos (by omega), if_pos (by omega), Int.toNat_natCast, Int.toNat_natCast, ba_extract, name_eval _ _ (by rw [List.length_drop, List.length_take]; unfold big at *; omega), Option.bind_some, e]
      simp only [Nat.add_zero]
      rw [if_pos h2, wnat1 i (by omega)]
      split <;> rfl
    · have e : semi (c :: t) = semi t + 1 := by
        show (if c = 59 then 0 else semi t + 1) = _
        rw [if_neg hc]
      rw [if_neg (fun e => hc ((u59 c).1 e)), wnat1 i (by omega), ih (i + 1) k h3 (by omega) (by simp at hk; omega), e, show i + 1 + semi t = i + (semi t + 1) by omega]
theorem take_j1 (l : List UInt8) (hl : l.length ≤ big) (k : Nat) (hk : l.length + 10 ≤ k) : desc_take.j1 k (ba l) (brk l) = some ((takeL l : Nat) : Int) := by
  have hb : l.length ≤ 281474976710656 := hl
  obtain ⟨k, rfl⟩ : ∃ m, k = m + 3 := ⟨k - 3, by omega⟩
  have hbl := brk_le l
  simp only [desc_take.j1]
  by_cases h8 : brk l > 8
  · rw [if_pos (by omega)]
    simp only [desc_take.j2, if_true]
    unfold takeL; rw [if_pos h8]; rfl
  · rw [if_neg (by omega)]
    simp only [desc_take.j2]
    rw [ba_size]
    by_cases hn : brk l = l.length
    · rw [if_pos (by rw [hn]; simp)]
      unfold takeL
      rw [if_neg h8, List.drop_eq_nil_of_le (by omega)]; rfl
    · rw [if_neg (by simp; omega), if_pos (by omega), if_pos (by omega)]
      have hlt : brk l < l.length := by omega
      obtain ⟨c, t, hd⟩ : ∃ c t, l.drop (brk l) = c :: t := ⟨_, _, List.drop_eq_getElem_cons hlt⟩
      obtain ⟨h1, h2, h3⟩ := bt_drop hd
      have htl : t.length + brk l + 1 = l.length := by
        have := congrArg List.length hd
        rw [List.length_drop, List.length_cons] at this; omega
      have key : ∀ b : Bool, (b = true ↔ (c = 73 ∨ c = 74)) → desc_take.j3 (k + 1) (ba l) (brk l) (c.toNat : Int) b = some ((takeL l : Nat) : Int) := by
        intro b hb'
        simp only [desc_take.j3]
        unfold takeL
        rw [if_neg h8, hd, tbody_cons]
        by_cases c1 : c = 73 ∨ c = 74
        · rw [if_pos (hb'.2 c1), if_pos c1, if_neg (by decide), wnat1 _ (by omega)]
        · rw [if_neg (fun e => c1 (hb'.1 e)), if_neg c1]
          by_cases c2 : c = 76
          · rw [if_pos ((u76 c).2 c2), if_pos c2, wnat1 _ (by omega), take_l1 l (brk l) hl t (brk l + 1) k h3 (by omega) (by omega)]
            have ed : (l.take (brk l + 1 + semi t)).drop (brk l + 1) = t.take (semi t) := by
              rw [List.drop_take, h3]; congr 1; omega
            rw [ed]
            by_cases c3 : semi t < t.length
            · rw [if_pos (by omega), if_pos c3]
              by_cases c4 : nmL false (t.take (semi t)) = true
              · rw [if_pos c4, if_pos c4, if_neg (by omega)]; congr 2; omega
              · rw [if_neg c4, if_neg c4, if_pos rfl]; rfl
            · rw [if_neg (by omega), if_neg c3, if_pos rfl]; rfl
          · rw [if_neg (fun e => c2 ((u76 c).1 e)), if_neg c2, if_pos rfl]; rfl
      rw [h1]
      by_cases c1 : c = 73
      · rw [if_pos ((u73 c).2 c1)]; exact key _ (by subst c1; simp)
      · rw [if_neg (fun e => c1 ((u73 c).1 e))]
        refine key _ ?_
        rw [beq_iff_eq, u74]; simp [c1]
theorem take_l0 (l : List UInt8) (hl : l.length ≤ big) (s : List UInt8) : ∀ (i k : Nat), l.drop i = s → i + brk s = brk l → l.length + 11 + s.length ≤ k →
    desc_take.l0 k (ba l) i = some ((takeL l : Nat) : Int) := by
  have hb : l.length ≤ 281474976710656 := hl
  induction s with
  | nil =>
    intro i k hd hi hk
    obtain ⟨k, rfl⟩ : ∃ m, k = m + 1 := ⟨k - 1, by omega⟩
    have := drop_nil hd
    simp only [List.length_nil] at hk
    simp only [desc_take.l0]
    rw [ba_size, if_neg (by omega)]
    have hi' : i = brk l := hi
    rw [hi']; exact take_j1 l hl k (by omega)
  | cons c t ih =>
    intro i k hd hi hk
    obtain ⟨k, rfl⟩ : ∃ m, k = m + 1 := ⟨k - 1, by omega⟩
    obtain ⟨h1, h2, h3⟩ := bt_drop hd
    have e : brk (c :: t) = if c = 91 then brk t + 1 else 0 := rfl
    simp only [List.length_cons] at hk
    simp only [desc_take.l0]
    rw [ba_size, if_pos (by omega), if_pos (by omega), h1]
    by_cases hc : c = 91
    · rw [e, if_pos hc] at hi
      rw [if_pos ((u91 c).2 hc), wnat1 i (by omega)]
      exact ih (i + 1) k h3 (by omega) (by omega)
    · rw [e, if_neg hc] at hi
      have hi' : i = brk l := hi
      rw [if_neg (fun e => hc ((u91 c).1 e)), hi']; exact take_j1 l hl k (by omega)
theorem take_eval (l : List UInt8) (hl : l.length ≤ big) (k : Nat) (hk : 2 * l.length + 11 ≤ k) : desc_take.f k (ba l) = some ((takeL l : Nat) : Int) := by
  unfold desc_take.f
  exact take_l0 l hl l 0 k rfl (by omega) (by omega)
theorem type_eval (l : List UInt8) (hl : l.length ≤ big) (k : Nat) (hk : 2 * l.length + 11 ≤ k) : desc_Type.f k (ba l) = some (typeL l) := by
  unfold desc_Type.f typeL
  rw [ba_toList]
  by_cases h : l = []
  · rw [if_pos h]; simp [h]
  · rw [if_neg h, take_eval l hl k hk, Option.bind_some, ba_size]
    congr 1
    rw [Bool.eq_iff_iff]
    simp [h]
    omega
def methL : Nat → List UInt8 → List (List UInt8) → Option (List (List UInt8) × List UInt8)
  | 0, _, _ => none
  | _ + 1, [], _ => none
  | n + 1, c :: t, acc => if c = 41 then (if t = [86] ∨ typeL t = true then some (acc, t) else none)
      else if takeL (c :: t) = 0 ∨ acc.length = 20 then none else methL n ((c :: t).drop (takeL (c :: t))) (acc ++ [(c :: t).take (takeL (c :: t))])
theorem methL_cons (n : Nat) (c : UInt8) (t : List UInt8) (acc : List (List UInt8)) : methL (n + 1) (c :: t) acc = if c = 41 then (if t = [86] ∨ typeL t = true then some (acc, t) else none)
      else if takeL (c :: t) = 0 ∨ acc.length = 20 then none else methL n ((c :: t).drop (takeL (c :: t))) (acc ++ [(c :: t).take (takeL (c :: t))]) := rfl
def methAll : List UInt8 → Option (List (List UInt8) × List UInt8)
  | [] => none
  | c :: t => if c = 40 then methL (t.length + 1) t [] else none
def mout : Option (List (List UInt8) × List UInt8) → List ByteArray × ByteArray × Int
  | none => ([], ba [], 21)
  | some (a, r) => (a.map ba, ba r, 0)
theorem meth_l0 (n : Nat) : ∀ (l : List UInt8) (acc : List (List UInt8)) (k : Nat), l.length ≤ big → l.length ≤ n → acc.length ≤ 20 → 2 * n + 2 * l.length + 20 ≤ k →
    desc_Method.l0 k (ba l) (acc.map ba) = some (mout (methL (n + 1) l acc)) := by
  induction n with
  | zero =>
    intro l acc k hl hn ha hk
    obtain ⟨k, rfl⟩ : ∃ m, k = m + 2 := ⟨k - 2, by omega⟩
    obtain rfl : l = [] := List.length_eq_zero_iff.1 (by omega)
    simp only [desc_Method.l0]
    rw [ba_toList, if_pos rfl]
    simp only [desc_Method.j2]
    rw [if_neg (by decide), ba_toList, if_pos rfl]
    rfl
  | succ n ih =>
    intro l acc k hl hn ha hk
    obtain ⟨k, rfl⟩ : ∃ m, k = m + 2 := ⟨k - 2, by omega⟩
    have hb : l.length ≤ 281474976710656 := hl
    cases l with
    | nil =>
      simp only [desc_Method.l0]
      rw [ba_toList, if_pos rfl]
      simp only [desc_Method.j2]
      rw [if_neg (by decide), ba_toList, if_pos rfl]
      rfl
    | cons c t =>
      obtain ⟨h1, h2, h3⟩ := bt_drop (l := c :: t) (i := 0) (c := c) (t := t) rfl
      simp only [List.length_cons] at hn hb hk
      simp only [desc_Method.l0]
      have h1' : bt (ba (c :: t)) 0 = (c.toNat : Int) := h1
      rw [ba_toList, if_neg (by simp), ba_size, if_pos (by rw [List.length_cons]; omega), h1', methL_cons]
      simp only [desc_Method.j2]
      by_cases hc : c = 41
      · have e : ((c.toNat : Int) != 41) = false := by rw [bne_eq_false_iff_eq, u41]; exact hc
        have ex : (ba (c :: t)).extract 1 (ba (c :: t)).size = ba t := by
          rw [ba_extract, ba_size, List.take_length]; rfl
        rw [e, if_neg (by decide), ba_toList, if_neg (by simp), ba_size, if_pos (by rw [List.length_cons]; omega), if_pos hc, ← ba_size (c :: t), ex, ba_toList]
        by_cases hv : t = [86]
        · rw [if_pos hv, if_pos (.inl hv)]; rfl
        · rw [if_neg hv, type_eval t (by unfold big; omega) k (by omega), Option.bind_some]
          by_cases ht : typeL t = true
          · rw [if_pos ht, if_pos (.inr ht)]; rfl
          · rw [if_neg ht, if_neg (by rintro (a | a); exact hv a; exact ht a)]; rfl
      · have e : ((c.toNat : Int) != 41) = true := by rw [bne_iff_ne, ne_eq, u41]; exact hc
        have hle := takeL_le (c :: t)
        simp only [List.length_cons] at hle
        rw [e, if_pos rfl, if_neg hc, take_eval (c :: t) hl k (by simp; omega), Option.bind_some]
        by_cases hz : takeL (c :: t) = 0
        · rw [if_pos (by omega), if_pos (.inl hz)]; rfl
        · rw [if_neg (by omega)]
          by_cases h20 : acc.length = 20
          · rw [if_pos (by simp [h20]), if_pos (.inr h20)]; rfl
          · rw [if_neg (by rw [List.length_map]; omega), ba_size, if_pos (by omega), if_pos (by rw [List.length_cons]; omega), if_pos (by rw [List.length_map]; omega), if_neg (by rintro (a | a); exact hz a; exact h20 a),
              Int.toNat_natCast, ba_extract, ba_extract, List.length_cons, ← List.length_cons, List.take_length, List.drop_zero]
            have em : acc.map ba ++ [ba ((c :: t).take (takeL (c :: t)))] = (acc ++ [(c :: t).take (takeL (c :: t))]).map ba := by simp
            rw [em]
            exact ih _ _ k (by rw [List.length_drop, List.length_cons]; unfold big; omega) (by rw [List.length_drop, List.length_cons]; omega) (by simp; omega) (by rw [List.length_drop, List.length_cons]; omega)
theorem meth_eval (l : List UInt8) (hl : l.length ≤ big) (k : Nat) (hk : 4 * l.length + 30 ≤ k) : desc_Method.f k (ba l) = some (mout (methAll l)) := by
  obtain ⟨k, rfl⟩ : ∃ m, k = m + 1 := ⟨k - 1, by omega⟩
  have hb : l.length ≤ 281474976710656 := hl
  unfold desc_Method.f
  rw [ba_toList]
  cases l with
  | nil =>
    rw [if_pos rfl]
    simp only [desc_Method.j0, if_true]
    rfl
  | cons c t =>
    obtain ⟨h1, h2, h3⟩ := bt_drop (l := c :: t) (i := 0) (c := c) (t := t) rfl
    have h1' : bt (ba (c :: t)) 0 = (c.toNat : Int) := h1
    simp only [List.length_cons] at hb hk
    rw [if_neg (by simp), ba_size, if_pos (by rw [List.length_cons]; omega), h1']
    simp only [desc_Method.j0]
    by_cases hc : c = 40
    · have e : ((c.toNat : Int) != 40) = false := by rw [bne_eq_false_iff_eq, u40]; exact hc
      have ex : (ba (c :: t)).extract 1 (ba (c :: t)).size = ba t := by
        rw [ba_extract, ba_size, List.take_length]; rfl
      rw [e, if_neg (by decide), ba_size, if_pos (by rw [List.length_cons]; omega), ← ba_size (c :: t), ex]
      have em : methAll (c :: t) = methL (t.length + 1) t [] := by
        show (if c = 40 then methL (t.length + 1) t [] else none) = _
        rw [if_pos hc]
      rw [em]
      exact meth_l0 t.length t [] k (by unfold big; omega) (Nat.le_refl _) (Nat.zero_le _) (by omega)
    · have e : ((c.toNat : Int) != 40) = true := by rw [bne_iff_ne, ne_eq, u40]; exact hc
      have em : methAll (c :: t) = none := by
        show (if c = 40 then methL (t.length + 1) t [] else none) = none
        rw [if_neg hc]
      rw [e, if_pos rfl, em]; rfl
end Go.Proofs.Ytedmhopginmjaaa.PAll
end
section
namespace Go.Proofs.Ytedmhopginmjaaa.PAll
open Go.RowKit Go.Proofs.YtedmhopginmjaaaW.PrintWords
def mayL : List UInt8 := [97, 98, 99, 100, 101, 102, 103, 104, 105, 106, 107, 108, 109, 110, 111, 112, 113, 114, 115, 116, 117, 118, 119, 120, 121, 122, 65, 66, 67, 68, 69, 70, 71, 72, 73, 74, 75, 76, 77, 78, 79, 80, 81, 82, 83, 84, 85, 86, 87, 88, 89, 90, 48, 49, 50, 51, 52, 53, 54, 55, 56, 57, 95, 36, 47]
def may (m : Bool) : List UInt8 := if m = true then mayL ++ [60, 62] else mayL
theorem may_fin : ∀ m : Bool, ∀ n : Fin 256, decide (0 ≤ Lib.indexByte (may m) (UInt8.ofNat n.val)) = nmCh m n.val := by decide +kernel
theorem may_ch (m : Bool) (c : UInt8) : decide (0 ≤ Lib.indexByte (may m) c) = nmCh m c.toNat := by
  have h := may_fin m ⟨c.toNat, UInt8.toNat_lt c⟩
  simpa using h
theorem rname_l0 (l : List UInt8) (m : Bool) (hl : l.length ≤ big) (s : List UInt8) : ∀ (i k : Nat), l.drop i = s → s.length < k →
    regletref02_Name.l0 k (ba l) (ba (may m)) i = some (s.all (fun b => nmCh m b.toNat) && decide (1 ≤ l.length ∧ l.length ≤ 60)) := by
  have hb : l.length ≤ 281474976710656 := hl
  induction s with
  | nil =>
    intro i k hd hk
    obtain ⟨k, rfl⟩ : ∃ m, k = m + 1 := ⟨k - 1, by omega⟩
    have := drop_nil hd
    simp only [regletref02_Name.l0]
    rw [ba_size, if_neg (by omega), ba_toList]
    by_cases h : l = []
    · rw [if_pos h, h]; rfl
    · rw [if_neg h]
      have : 1 ≤ l.length := by
        rcases Nat.eq_zero_or_pos l.length with h' | h'
        · exact absurd (List.length_eq_zero_iff.1 h') h
        · exact h'
      rw [List.all_nil, Bool.true_and]
      congr 1
      rw [decide_eq_decide]; omega
  | cons c t ih =>
    intro i k hd hk
    obtain ⟨k, rfl⟩ : ∃ m, k = m + 1 := ⟨k - 1, by omega⟩
    obtain ⟨h1, h2, h3⟩ := bt_drop hd
    simp only [List.length_cons] at hk
    simp only [regletref02_Name.l0]
    have hx : (ba l).extract i (i + 1) = ba [c] := by
      rw [ba_extract, List.drop_take, hd, show i + 1 - i = 1 by omega]; rfl
    have hc : strings_Contains.f (ba (may m)) (ba [c]) = some (nmCh m c.toNat) := by
      unfold strings_Contains.f
      rw [if_pos (show (ba [c]).size = 1 from rfl), ← may_ch]
      rfl
    rw [ba_size, if_pos (by omega), if_pos (by omega), wnat1 i (by omega), if_pos (by omega), if_pos (by omega), Int.toNat_natCast, Int.toNat_natCast, hx, hc, Option.bind_some, List.all_cons]
    by_cases hn : nmCh m c.toNat = true
    · rw [if_pos hn, ih (i + 1) k h3 (by omega), hn, Bool.true_and]
    · rw [if_neg hn]
      have : nmCh m c.toNat = false := by simpa using hn
      rw [this, Bool.false_and, Bool.false_and]
theorem rname_eval (l : List UInt8) (m : Bool) (hl : l.length ≤ big) (k : Nat) (hk : l.length + 3 ≤ k) : regletref02_Name.f k (ba l) m = some (nmL m l) := by
  obtain ⟨k, rfl⟩ : ∃ m, k = m + 1 := ⟨k - 1, by omega⟩
  have key : regletref02_Name.j0 (k + 1) (ba l) (ba (may m)) = some (nmL m l) := by
    simp only [regletref02_Name.j0]
    have := rname_l0 l m hl l 0 k rfl (by omega)
    rw [show ((0 : Nat) : Int) = 0 from rfl] at this
    rw [this]
    unfold nmL
    rw [Bool.and_comm]
  unfold regletref02_Name.f
  cases m with
  | false => exact key
  | true => rw [if_pos rfl, if_pos (by decide)]; exact key
theorem rtype_j1 (l : List UInt8) (hl : l.length ≤ big) (k : Nat) (hk : l.length + 10 ≤ k) : regletref02_Type.j1 k (ba l) (brk l) = some (typeR l) := by
  have hb : l.length ≤ 281474976710656 := hl
  obtain ⟨k, rfl⟩ : ∃ m, k = m + 1 := ⟨k - 1, by omega⟩
  have hbl := brk_le l
  have hx : (ba l).extract (brk l) (ba l).size = ba (l.drop (brk l)) := by rw [ba_extract, ba_size, List.take_length]
  have hdl : (l.drop (brk l)).length = l.length - brk l := List.length_drop
  simp only [regletref02_Type.j1]
  rw [Int.toNat_natCast, hx]
  unfold typeR
  generalize hd : l.drop (brk l) = d at hdl ⊢
  rw [if_pos (by omega), ba_size l, if_pos (by omega)]
  by_cases h8 : brk l > 8
  · rw [if_pos (by omega), decide_eq_false (by omega), Bool.false_and]
  rw [if_neg (by omega), decide_eq_true (show brk l ≤ 8 by omega), Bool.true_and, ba_toList]
  by_cases c1 : d = [73]
  · rw [if_pos c1, decide_eq_true c1]; rfl
  rw [if_neg c1, decide_eq_false c1, Bool.false_or]
  by_cases c2 : d = [74]
  · rw [if_pos c2, decide_eq_true c2]; rfl
  rw [if_neg c2, decide_eq_false c2, Bool.false_or, ba_size]
  by_cases c3 : 2 < d.length
  · rw [if_pos (by omega), decide_eq_true c3, Bool.true_and, if_pos (by omega)]
    have hne : d ≠ [] := fun e => by rw [e] at c3; simp at c3
    obtain ⟨x, y, rfl⟩ := List.exists_cons_of_ne_nil hne
    have hlen1 : (x :: y).length = y.length + 1 := rfl
    have h1 : bt (ba (x :: y)) 0 = (x.toNat : Int) := (bt_drop (l := x :: y) (i := 0) (c := x) (t := y) rfl).1
    have hw : wrap64 (((x :: y).length : Int) - 1) = (((x :: y).length - 1 : Nat) : Int) := by unfold wrap64; omega
    rw [h1, hw]
    by_cases c4 : x = 76
    · have e4 : decide ((x :: y).head? = some 76) = true := by simp [c4]
      rw [if_pos ((u76 x).2 c4), e4, Bool.true_and, if_pos (by omega), if_pos (by omega), ba_bt _ _ (by omega)]
      have hlast : (x :: y).getLast? = some ((x :: y)[(x :: y).length - 1]'(by omega)) := by
        rw [List.getLast?_eq_getElem?, List.getElem?_eq_getElem (by omega)]
      by_cases c5 : (x :: y)[(x :: y).length - 1]'(by omega) = 59
      · have e5 : decide ((x :: y).getLast? = some 59) = true := by rw [hlast, c5]; simp
        rw [if_pos ((u59 _).2 c5), e5, Bool.true_and, if_pos (by omega), if_pos (by omega), Int.toNat_natCast, ba_extract, rname_eval _ _ (by rw [List.length_drop, List.length_take]; unfold big; omega) k (by rw [List.length_drop, List.length_take]; omega)]
        rfl
      · have e5 : decide ((x :: y).getLast? = some 59) = false := by rw [hlast, decide_eq_false_iff_not]; exact fun e => c5 (Option.some.inj e)
        rw [if_neg (fun e => c5 ((u59 _).1 e)), e5, Bool.false_and]
    · have e4 : decide ((x :: y).head? = some 76) = false := by simp [c4]
      rw [if_neg (fun e => c4 ((u76 x).1 e)), e4, Bool.false_and, Bool.false_and]
  · rw [if_neg (by omega), decide_eq_false c3, Bool.false_and, Bool.false_and, Bool.false_and]
theorem rtype_l0 (l : List UInt8) (hl : l.length ≤ big) (s : List UInt8) : ∀ (i k : Nat), l.drop i = s → i + brk s = brk l → l.length + 11 + s.length ≤ k →
    regletref02_Type.l0 k (ba l) i = some (typeR l) := by
  have hb : l.length ≤ 281474976710656 := hl
  induction s with
  | nil =>
    intro i k hd hi hk
    obtain ⟨k, rfl⟩ : ∃ m, k = m + 1 := ⟨k - 1, by omega⟩
    have := drop_nil hd
    simp only [List.length_nil] at hk
    simp only [regletref02_Type.l0]
    rw [ba_size, if_neg (by omega)]
    have hi' : i = brk l := hi
    rw [hi']; exact rtype_j1 l hl k (by omega)
  | cons c t ih =>
    intro i k hd hi hk
    obtain ⟨k, rfl⟩ : ∃ m, k = m + 1 := ⟨k - 1, by omega⟩
    obtain ⟨h1, h2, h3⟩ := bt_drop hd
    have e : brk (c :: t) = if c = 91 then brk t + 1 else 0 := rfl
    simp only [List.length_cons] at hk
    simp only [regletref02_Type.l0]
    rw [ba_size, if_pos (by omega), if_pos (by omega), h1]
    by_cases hc : c = 91
    · rw [e, if_pos hc] at hi
      rw [if_pos ((u91 c).2 hc), wnat1 i (by omega)]
      exact ih (i + 1) k h3 (by omega) (by omega)
    · rw [e, if_neg hc] at hi
      have hi' : i = brk l := hi
      rw [if_neg (fun e => hc ((u91 c).1 e)), hi']; exact rtype_j1 l hl k (by omega)
theorem rtype_eval (l : List UInt8) (hl : l.length ≤ big) (k : Nat) (hk : 2 * l.length + 11 ≤ k) : regletref02_Type.f k (ba l) = some (typeL l) := by
  unfold regletref02_Type.f
  rw [typeL_typeR]
  exact rtype_l0 l hl l 0 k rfl (by omega) (by omega)
theorem rmeth_l1 (l : List UInt8) (hl : l.length ≤ big) (acc : List (List UInt8)) (ha : acc.length ≤ 20) (R : List ByteArray × ByteArray × Int) (k0 : Nat)
    (hR : if takeL l = 0 ∨ acc.length = 20 then R = mout none else ∀ k, k0 ≤ k → regletref02_Method.l0 k (ba (l.drop (takeL l))) ((acc ++ [l.take (takeL l)]).map ba) = some R) (d : Nat) :
    ∀ (n k : Nat), 1 ≤ n → n ≤ l.length + 1 → (takeL l = 0 ∨ n ≤ takeL l) → n + d = l.length + 1 → k0 + 2 * l.length + 20 + d ≤ k → regletref02_Method.l1 k (ba l) (acc.map ba) n = some R := by
  have hb : l.length ≤ 281474976710656 := hl
  have hle := takeL_le l
  induction d with
  | zero =>
    intro n k h1 h2 h3 hd hk
    obtain ⟨k, rfl⟩ : ∃ m, k = m + 1 := ⟨k - 1, by omega⟩
    simp only [regletref02_Method.l1]
    rw [ba_size, if_neg (by omega), if_pos (by omega)]
    have h0 : takeL l = 0 := by omega
    rw [if_pos (.inl h0)] at hR
    rw [hR]; rfl
  | succ d ih =>
    intro n k h1 h2 h3 hd hk
    obtain ⟨k, rfl⟩ : ∃ m, k = m + 1 := ⟨k - 1, by omega⟩
    simp only [regletref02_Method.l1]
    have hx : (ba l).extract 0 n = ba (l.take n) := by rw [ba_extract, List.drop_zero]
    have hlen : (l.take n).length = n := by rw [List.length_take]; omega
    rw [ba_size, if_pos (by omega), if_pos (by omega), Int.toNat_natCast, hx, rtype_eval (l.take n) (by unfold big; omega) k (by omega), Option.bind_some, typeL_take l n h1 (by omega)]
    by_cases he : takeL l = n
    · rw [if_pos (by simpa using he), if_neg (by omega)]
      by_cases h20 : acc.length = 20
      · rw [if_pos (by rw [List.length_map]; omega)]
        rw [if_pos (.inr h20)] at hR
        rw [hR]; rfl
      · rw [if_neg (by rw [List.length_map]; omega), if_pos (by rw [List.length_map]; omega)]
        rw [if_neg (by rintro (a | a) <;> omega)] at hR
        have hx2 : (ba l).extract n l.length = ba (l.drop n) := by rw [ba_extract, List.take_length]
        have em : acc.map ba ++ [ba (l.take n)] = (acc ++ [l.take n]).map ba := by simp
        rw [hx2, em, ← he]
        exact hR k (by omega)
    · rw [if_neg (by simpa using he), wnat1 n (by omega)]
      exact ih (n + 1) k (by omega) (by omega) (by omega) (by omega) (by omega)
theorem rmeth_l0 (n : Nat) : ∀ (l : List UInt8) (acc : List (List UInt8)), l.length ≤ big → l.length ≤ n → acc.length ≤ 20 →
    ∃ K, ∀ k, K ≤ k → regletref02_Method.l0 k (ba l) (acc.map ba) = some (mout (methL (n + 1) l acc)) := by
  have nil : ∀ (n : Nat) (acc : List (List UInt8)) (k : Nat), 2 ≤ k → regletref02_Method.l0 k (ba []) (acc.map ba) = some (mout (methL (n + 1) [] acc)) := by
    intro n acc k hk
    obtain ⟨k, rfl⟩ : ∃ m, k = m + 2 := ⟨k - 2, by omega⟩
    simp only [regletref02_Method.l0]
    rw [ba_toList, if_pos rfl]
    simp only [regletref02_Method.j2]
    rw [if_neg (by decide), ba_toList, if_pos rfl]
    rfl
  induction n with
  | zero =>
    intro l acc hl hn ha
    obtain rfl : l = [] := List.length_eq_zero_iff.1 (by omega)
    exact ⟨2, fun k hk => nil 0 acc k hk⟩
  | succ n ih =>
    intro l acc hl hn ha
    have hb : l.length ≤ 281474976710656 := hl
    cases l with
    | nil => exact ⟨2, fun k hk => nil (n + 1) acc k hk⟩
    | cons c t =>
      have hle := takeL_le (c :: t)
      obtain ⟨h1, h2, h3⟩ := bt_drop (l := c :: t) (i := 0) (c := c) (t := t) rfl
      have h1' : bt (ba (c :: t)) 0 = (c.toNat : Int) := h1
      simp only [List.length_cons] at hn hb hle
      rw [methL_cons]
      by_cases hc : c = 41
      · refine ⟨2 * t.length + 20, fun k hk => ?_⟩
        obtain ⟨k, rfl⟩ : ∃ m, k = m + 2 := ⟨k - 2, by omega⟩
        have e : ((c.toNat : Int) != 41) = false := by rw [bne_eq_false_iff_eq, u41]; exact hc
        have ex : (ba (c :: t)).extract 1 (ba (c :: t)).size = ba t := by
          rw [ba_extract, ba_size, List.take_length]; rfl
        simp only [regletref02_Method.l0]
        rw [ba_toList, if_neg (by simp), ba_size, if_pos (by rw [List.length_cons]; omega), h1']
        simp only [regletref02_Method.j2]
        rw [e, if_neg (by decide), ba_toList, if_neg (by simp), ex]
        by_cases hv : t = [86]
        · rw [if_pos (by rw [hc, hv]), if_pos (by rw [ba_size, List.length_cons]; omega), if_pos hc, if_pos (.inl hv)]; rfl
        · rw [if_neg (fun e => hv (List.cons.inj e).2), if_pos (by rw [ba_size, List.length_cons]; omega), rtype_eval t (by unfold big; omega) k (by omega), Option.bind_some, if_pos hc]
          by_cases ht : typeL t = true
          · rw [if_pos ht, if_pos (.inr ht)]; rfl
          · rw [if_neg ht, if_neg (by rintro (a | a); exact hv a; exact ht a)]; rfl
      · rw [if_neg hc]
        have e : ((c.toNat : Int) != 41) = true := by rw [bne_iff_ne, ne_eq, u41]; exact hc
        have fin : ∀ (R : List ByteArray × ByteArray × Int) (k0 : Nat), (if takeL (c :: t) = 0 ∨ acc.length = 20 then R = mout none else ∀ k, k0 ≤ k → regletref02_Method.l0 k (ba ((c :: t).drop (takeL (c :: t)))) ((acc ++ [(c :: t).take (takeL (c :: t))]).map ba) = some R) →
            ∃ K, ∀ k, K ≤ k → regletref02_Method.l0 k (ba (c :: t)) (acc.map ba) = some R := by
          intro R k0 hR
          refine ⟨k0 + 4 * t.length + 40, fun k hk => ?_⟩
          obtain ⟨k, rfl⟩ : ∃ m, k = m + 2 := ⟨k - 2, by omega⟩
          simp only [regletref02_Method.l0]
          rw [ba_toList, if_neg (by simp), ba_size, if_pos (by rw [List.length_cons]; omega), h1']
          simp only [regletref02_Method.j2]
          rw [e, if_pos rfl]
          exact rmeth_l1 (c :: t) hl acc ha R k0 hR (t.length + 1) 1 k (by omega) (by rw [List.length_cons]; omega) (by omega) (by rw [List.length_cons]; omega) (by rw [List.length_cons]; omega)
        by_cases hz : takeL (c :: t) = 0 ∨ acc.length = 20
        · rw [if_pos hz]
          exact fin _ 0 (by rw [if_pos hz])
        · rw [if_neg hz]
          have hz1 : takeL (c :: t) ≠ 0 := fun e => hz (.inl e)
          have hz2 : acc.length ≠ 20 := fun e => hz (.inr e)
          obtain ⟨K, hK⟩ := ih ((c :: t).drop (takeL (c :: t))) (acc ++ [(c :: t).take (takeL (c :: t))]) (by rw [List.length_drop, List.length_cons]; unfold big; omega) (by rw [List.length_drop, List.length_cons]; omega) (by simp; omega)
          exact fin _ K (by rw [if_neg hz]; exact hK)
theorem rmeth_eval (l : List UInt8) (hl : l.length ≤ big) : ∃ K, ∀ k, K ≤ k → regletref02_Method.f k (ba l) = some (mout (methAll l)) := by
  have hb : l.length ≤ 281474976710656 := hl
  cases l with
  | nil =>
    refine ⟨1, fun k hk => ?_⟩
    obtain ⟨k, rfl⟩ : ∃ m, k = m + 1 := ⟨k - 1, by omega⟩
    unfold regletref02_Method.f
    rw [ba_toList, if_pos rfl]
    simp only [regletref02_Method.j0, if_true]
    rfl
  | cons c t =>
    simp only [List.length_cons] at hb
    obtain ⟨K, hK⟩ := rmeth_l0 t.length t [] (by unfold big; omega) (Nat.le_refl _) (Nat.zero_le _)
    refine ⟨K + 1, fun k hk => ?_⟩
    obtain ⟨k, rfl⟩ : ∃ m, k = m + 1 := ⟨k - 1, by omega⟩
    have h1' : bt (ba (c :: t)) 0 = (c.toNat : Int) := (bt_drop (l := c :: t) (i := 0) (c := c) (t := t) rfl).1
    unfold regletref02_Method.f
    rw [ba_toList, if_neg (by simp), ba_size, if_pos (by rw [List.length_cons]; omega), h1']
    simp only [regletref02_Method.j0]
    by_cases hc : c = 40
    · have e : ((c.toNat : Int) != 40) = false := by rw [bne_eq_false_iff_eq, u40]; exact hc
      have ex : (ba (c :: t)).extract 1 (ba (c :: t)).size = ba t := by
        rw [ba_extract, ba_size, List.take_length]; rfl
      rw [e, if_neg (by decide), ba_size, if_pos (by rw [List.length_cons]; omega), ← ba_size (c :: t), ex]
      have em : methAll (c :: t) = methL (t.length + 1) t [] := by
        show (if c = 40 then methL (t.length + 1) t [] else none) = _
        rw [if_pos hc]
      rw [em]
      exact hK k (by omega)
    · have e : ((c.toNat : Int) != 40) = true := by rw [bne_iff_ne, ne_eq, u40]; exact hc
      have em : methAll (c :: t) = none := by
        show (if c = 40 then methL (t.length + 1) t [] else none) = none
        rw [if_neg hc]
      rw [e, if_pos rfl, em]; rfl
end Go.Proofs.Ytedmhopginmjaaa.PAll
end
