/-
  Descriptors as lists of bytes: what a name, a type, a method's descriptor is; plain lists, no program in sight.
-/
import Derived.Test.YtedmhopginmjaaaPAllx0
namespace Go.Proofs.Ytedmhopginmjaaa.PAll

/-- May a byte stand in a name (of methods also with < and >)? -/
def nmCh (m : Bool) (c : Int) : Bool := decide ((97 ≤ c ∧ c ≤ 122) ∨ (65 ≤ c ∧ c ≤ 90) ∨ (48 ≤ c ∧ c ≤ 57) ∨ c = 95 ∨ c = 36 ∨ c = 47) || (m && decide (c = 60 ∨ c = 62))
def nmL (m : Bool) (l : List UInt8) : Bool := decide (1 ≤ l.length ∧ l.length ≤ 60) && l.all (fun b => nmCh m b.toNat)

/-- How many [ stand at the beginning. -/
def brk : List UInt8 → Nat
  | [] => 0
  | c :: t => if c = 91 then brk t + 1 else 0

/-- Up to the first ; : how many bytes stand before it. -/
def semi : List UInt8 → Nat
  | [] => 0
  | c :: t => if c = 59 then 0 else semi t + 1

/-- The type without [ at the beginning: how long it is; 0: there is none. -/
def tbody : List UInt8 → Nat
  | [] => 0
  | c :: t => if c = 73 ∨ c = 74 then 1 else if c = 76 then (if semi t < t.length then (if nmL false (t.take (semi t)) = true then semi t + 2 else 0) else 0) else 0

theorem tbody_cons (c : UInt8) (t : List UInt8) : tbody (c :: t) = if c = 73 ∨ c = 74 then 1 else if c = 76 then (if semi t < t.length then (if nmL false (t.take (semi t)) = true then semi t + 2 else 0) else 0) else 0 := rfl

/-- The type at the beginning: how long it is; 0: there is none. -/
def takeL (l : List UInt8) : Nat := if brk l > 8 then 0 else if tbody (l.drop (brk l)) = 0 then 0 else brk l + tbody (l.drop (brk l))

def typeL (l : List UInt8) : Bool := decide (l ≠ [] ∧ takeL l = l.length)

/-- The document's way to say it. -/
def typeR (l : List UInt8) : Bool :=
  decide (brk l ≤ 8) && (decide (l.drop (brk l) = [73]) || decide (l.drop (brk l) = [74]) ||
    (decide (2 < (l.drop (brk l)).length) && decide ((l.drop (brk l)).head? = some 76) && decide ((l.drop (brk l)).getLast? = some 59) && nmL false (((l.drop (brk l)).take ((l.drop (brk l)).length - 1)).drop 1)))

theorem brk_le (l : List UInt8) : brk l ≤ l.length := by
  induction l with
  | nil => exact Nat.le_refl _
  | cons c t ih => unfold brk; split <;> simp <;> omega

theorem semi_le (l : List UInt8) : semi l ≤ l.length := by
  induction l with
  | nil => exact Nat.le_refl _
  | cons c t ih => unfold semi; split <;> simp <;> omega

theorem semi_app {l : List UInt8} (h : semi l < l.length) (t : List UInt8) : semi (l ++ t) = semi l := by
  induction l with
  | nil => simp at h
  | cons c s ih =>
    rw [List.cons_append]
    unfold semi at h ⊢
    split
    · rfl
    · rename_i hc
      rw [if_neg hc] at h
      rw [ih (by simpa using h)]

theorem semi_take {l : List UInt8} (h : semi l < l.length) (n : Nat) (hn : semi l < n) : semi (l.take n) = semi l := by
  induction l generalizing n with
  | nil => simp at h
  | cons c s ih =>
    obtain ⟨n, rfl⟩ : ∃ m, n = m + 1 := ⟨n - 1, by omega⟩
    rw [List.take_succ_cons]
    unfold semi at h hn ⊢
    split
    · rfl
    · rename_i hc
      rw [if_neg hc] at h hn
      rw [ih (by simpa using h) n (by omega)]

theorem brk_app {l : List UInt8} (h : brk l < l.length) (t : List UInt8) : brk (l ++ t) = brk l := by
  induction l with
  | nil => simp at h
  | cons c s ih =>
    rw [List.cons_append]
    unfold brk at h ⊢
    split
    · rename_i hc
      rw [if_pos hc] at h
      rw [ih (by simpa using h)]
    · rfl

theorem brk_take {l : List UInt8} (n : Nat) (hn : brk l < n) : brk (l.take n) = brk l := by
  induction l generalizing n with
  | nil => simp
  | cons c s ih =>
    obtain ⟨n, rfl⟩ : ∃ m, n = m + 1 := ⟨n - 1, by omega⟩
    rw [List.take_succ_cons]
    unfold brk at hn ⊢
    split
    · rename_i hc
      rw [if_pos hc] at hn
      rw [ih n (by omega)]
    · rfl

theorem tbody_le (l : List UInt8) : tbody l ≤ l.length := by
  cases l with
  | nil => exact Nat.le_refl _
  | cons c t =>
    rw [tbody_cons]
    split
    · simp
    · split
      · split
        · split
          · simp; omega
          · simp
        · simp
      · simp

theorem tbody_app {l : List UInt8} (h : tbody l ≠ 0) (t : List UInt8) : tbody (l ++ t) = tbody l := by
  cases l with
  | nil => exact absurd rfl h
  | cons c s =>
    rw [List.cons_append]
    rw [tbody_cons] at h ⊢
    rw [tbody_cons]
    by_cases c1 : c = 73 ∨ c = 74
    · rw [if_pos c1, if_pos c1]
    · rw [if_neg c1] at h ⊢; rw [if_neg c1]
      by_cases c2 : c = 76
      · rw [if_pos c2] at h ⊢; rw [if_pos c2]
        by_cases c3 : semi s < s.length
        · rw [if_pos c3] at h ⊢
          rw [semi_app c3, if_pos (by rw [List.length_append]; omega), List.take_append_of_le_length (by omega)]
        · rw [if_neg c3] at h; exact absurd rfl h
      · rw [if_neg c2] at h; exact absurd rfl h

theorem tbody_take {l : List UInt8} (h : tbody l ≠ 0) (n : Nat) (hn : tbody l ≤ n) : tbody (l.take n) = tbody l := by
  cases l with
  | nil => exact absurd rfl h
  | cons c s =>
    obtain ⟨n, rfl⟩ : ∃ m, n = m + 1 := ⟨n - 1, by omega⟩
    rw [List.take_succ_cons]
    rw [tbody_cons] at h hn ⊢
    rw [tbody_cons]
    by_cases c1 : c = 73 ∨ c = 74
    · rw [if_pos c1, if_pos c1]
    · rw [if_neg c1] at h hn ⊢; rw [if_neg c1]
      by_cases c2 : c = 76
      · rw [if_pos c2] at h hn ⊢; rw [if_pos c2]
        by_cases c3 : semi s < s.length
        · rw [if_pos c3] at h hn ⊢
          by_cases c4 : nmL false (s.take (semi s)) = true
          · rw [if_pos c4] at h hn ⊢
            have e1 : semi (s.take n) = semi s := semi_take c3 n (by omega)
            rw [e1, if_pos (by rw [List.length_take]; omega), List.take_take, Nat.min_eq_left (by omega), if_pos c4]
          · rw [if_neg c4] at h; exact absurd rfl h
        · rw [if_neg c3] at h; exact absurd rfl h
      · rw [if_neg c2] at h; exact absurd rfl h

theorem takeL_le (l : List UInt8) : takeL l ≤ l.length := by
  have h1 := brk_le l
  have h2 := tbody_le (l.drop (brk l))
  rw [List.length_drop] at h2
  unfold takeL
  split
  · exact Nat.zero_le _
  · split
    · exact Nat.zero_le _
    · omega

theorem takeL_parts {l : List UInt8} (h : takeL l ≠ 0) : brk l ≤ 8 ∧ tbody (l.drop (brk l)) ≠ 0 ∧ takeL l = brk l + tbody (l.drop (brk l)) ∧ brk l < l.length := by
  unfold takeL at h ⊢
  by_cases h1 : brk l > 8
  · rw [if_pos h1] at h; exact absurd rfl h
  · rw [if_neg h1] at h ⊢
    by_cases h2 : tbody (l.drop (brk l)) = 0
    · rw [if_pos h2] at h; exact absurd rfl h
    · rw [if_neg h2]
      have := tbody_le (l.drop (brk l))
      rw [List.length_drop] at this
      exact ⟨by omega, h2, rfl, by omega⟩

theorem takeL_mk {l : List UInt8} (h1 : brk l ≤ 8) (h2 : tbody (l.drop (brk l)) ≠ 0) : takeL l = brk l + tbody (l.drop (brk l)) := by
  unfold takeL; rw [if_neg (by omega), if_neg h2]

theorem takeL_app {l : List UInt8} (h : takeL l ≠ 0) (t : List UInt8) : takeL (l ++ t) = takeL l := by
  obtain ⟨h1, h2, h3, h4⟩ := takeL_parts h
  have e := brk_app h4 t
  have ed : (l ++ t).drop (brk l) = l.drop (brk l) ++ t := List.drop_append_of_le_length (by omega)
  rw [takeL_mk (by rw [e]; exact h1) (by rw [e, ed, tbody_app h2]; exact h2), e, ed, tbody_app h2, ← h3]

theorem takeL_take {l : List UInt8} (h : takeL l ≠ 0) (n : Nat) (hn : takeL l ≤ n) : takeL (l.take n) = takeL l := by
  obtain ⟨h1, h2, h3, h4⟩ := takeL_parts h
  have e : brk (l.take n) = brk l := brk_take n (by omega)
  have ed : (l.take n).drop (brk l) = (l.drop (brk l)).take (n - brk l) := List.drop_take
  have e2 := tbody_take h2 (n - brk l) (by omega)
  rw [takeL_mk (by rw [e]; exact h1) (by rw [e, ed, e2]; exact h2), e, ed, e2, ← h3]

/-- A prefix is a type just where it is the type that stands there. -/
theorem typeL_take (l : List UInt8) (n : Nat) (h1 : 1 ≤ n) (h2 : n ≤ l.length) : typeL (l.take n) = decide (takeL l = n) := by
  unfold typeL
  have hl : (l.take n).length = n := by rw [List.length_take]; omega
  have hne : l.take n ≠ [] := fun e => by rw [e] at hl; simp at hl; omega
  rw [decide_eq_decide, hl]
  constructor
  · rintro ⟨_, h⟩
    have := takeL_app (l := l.take n) (by omega) (l.drop n)
    rw [List.take_append_drop] at this
    omega
  · intro h
    exact ⟨hne, by rw [takeL_take (by omega) n (by omega)]; exact h⟩

theorem nm_no_semi {l : List UInt8} (h : nmL false l = true) : ∀ c ∈ l, c ≠ 59 := by
  intro c hc e
  subst e
  unfold nmL at h
  rw [Bool.and_eq_true, List.all_eq_true] at h
  have := h.2 _ hc
  revert this; decide

theorem semi_of_no {l : List UInt8} (h : ∀ c ∈ l, c ≠ 59) (t : List UInt8) : semi (l ++ 59 :: t) = l.length := by
  induction l with
  | nil => rfl
  | cons c s ih =>
    rw [List.cons_append]
    unfold semi
    rw [if_neg (h c (List.mem_cons_self ..)), ih (fun x hx => h x (List.mem_cons_of_mem _ hx))]
    rfl

/-- Without [: the two ways to say it agree. -/
theorem tbody_all (d : List UInt8) (hd : d ≠ []) : decide (tbody d = d.length) =
    (decide (d = [73]) || decide (d = [74]) || (decide (2 < d.length) && decide (d.head? = some 76) && decide (d.getLast? = some 59) && nmL false ((d.take (d.length - 1)).drop 1))) := by
  cases d with
  | nil => exact absurd rfl hd
  | cons c t =>
    by_cases c1 : c = 73 ∨ c = 74
    · have hb : tbody (c :: t) = 1 := by rw [tbody_cons]; rw [if_pos c1]
      rw [hb]
      cases t with
      | nil => rcases c1 with rfl | rfl <;> decide
      | cons x y =>
        have h76 : ¬ c = 76 := by rcases c1 with rfl | rfl <;> decide
        simp [h76]
    · have n1 : ¬ c = 73 := fun e => c1 (.inl e)
      have n2 : ¬ c = 74 := fun e => c1 (.inr e)
      by_cases c2 : c = 76
      · subst c2
        have hb : tbody (76 :: t) = if semi t < t.length then (if nmL false (t.take (semi t)) = true then semi t + 2 else 0) else 0 := by
          rw [tbody_cons, if_neg c1, if_pos rfl]
        have e0 : decide ((76 : UInt8) :: t = [73]) = false := by simp
        have e1 : decide ((76 : UInt8) :: t = [74]) = false := by simp
        have e2 : decide (((76 : UInt8) :: t).head? = some 76) = true := by simp
        rw [e0, e1, e2, hb, Bool.false_or, Bool.false_or, Bool.and_true, Bool.eq_iff_iff]
        simp only [decide_eq_true_eq, Bool.and_eq_true, List.length_cons, Nat.add_sub_cancel]
        constructor
        · intro h
          by_cases c3 : semi t < t.length
          · rw [if_pos c3] at h
            by_cases c4 : nmL false (t.take (semi t)) = true
            · rw [if_pos c4] at h
              have hl : t.length = semi t + 1 := by omega
              have hlen : 1 ≤ semi t := by
                unfold nmL at c4
                rw [Bool.and_eq_true, decide_eq_true_eq, List.length_take] at c4
                omega
              have hsplit : t = t.take (semi t) ++ [59] := by
                have hg : t[semi t]'c3 = 59 := by
                  have aux : ∀ s : List UInt8, semi s < s.length → s[semi s]? = some 59 := by
                    intro s
                    induction s with
                    | nil => intro h; simp at h
                    | cons x y ih =>
                      intro h
                      by_cases hx : x = 59
                      · subst hx; rfl
                      · have e : semi (x :: y) = semi y + 1 := by
                          show (if x = 59 then 0 else semi y + 1) = _
                          rw [if_neg hx]
                        rw [e] at h ⊢
                        rw [List.getElem?_cons_succ]
                        exact ih (by simpa using h)
                  have := aux t c3
                  rw [List.getElem?_eq_getElem c3] at this
                  exact Option.some.inj this
                have := List.take_append_drop (semi t) t
                rw [List.drop_eq_getElem_cons c3, hg, List.drop_eq_nil_of_le (by omega)] at this
                exact this.symm
              refine ⟨⟨by omega, ?_⟩, ?_⟩
              · have aux : ∀ u : List UInt8, ((76 : UInt8) :: (u ++ [59])).getLast? = some 59 := fun u => by rw [← List.cons_append, List.getLast?_concat]
                rw [hsplit]; exact aux _
              · rw [List.take_cons (by omega), List.drop_succ_cons, List.drop_zero, hl, Nat.add_sub_cancel]
                exact c4
            · rw [if_neg c4] at h; omega
          · rw [if_neg c3] at h; omega
        · rintro ⟨⟨h1, h2⟩, h3⟩
          have ht : t ≠ [] := fun e => by rw [e] at h1; simp at h1
          rw [List.take_cons (by omega), List.drop_succ_cons, List.drop_zero] at h3
          have h2' : t.getLast ht = 59 := by
            rw [List.getLast?_cons, List.getLast?_eq_some_getLast ht] at h2
            simpa using h2
          have hsplit : t = t.take (t.length - 1) ++ 59 :: [] := by
            have := List.dropLast_concat_getLast ht
            rw [h2', List.dropLast_eq_take] at this
            exact this.symm
          have hs : semi t = t.length - 1 := by
            have h4 : ((76 :: t).length - 1 - 1) = t.length - 1 := by simp
            have := semi_of_no (nm_no_semi h3) []
            have e3 : (t.take (t.length - 1)).length = t.length - 1 := by rw [List.length_take]; omega
            rw [← hsplit] at this
            rw [this, e3]
          rw [if_pos (by omega), if_pos (by rw [hs]; exact h3)]
          omega
      · have hb : tbody (c :: t) = 0 := by rw [tbody_cons]; rw [if_neg c1, if_neg c2]
        rw [hb]
        simp [n1, n2, c2]

theorem typeL_typeR (l : List UInt8) : typeL l = typeR l := by
  unfold typeL typeR
  by_cases h1 : brk l ≤ 8
  · rw [decide_eq_true h1, Bool.true_and]
    by_cases h2 : l.drop (brk l) = []
    · have : takeL l = 0 := by unfold takeL; rw [if_neg (by omega), h2]; rfl
      rw [this, h2, decide_eq_false (by rintro ⟨a, b⟩; exact a (List.length_eq_zero_iff.1 b.symm))]; rfl
    · rw [← tbody_all _ h2, decide_eq_decide]
      have hlen : (l.drop (brk l)).length = l.length - brk l := List.length_drop
      have hpos : brk l < l.length := by
        rcases Nat.lt_or_ge (brk l) l.length with h | h
        · exact h
        · exact absurd (List.drop_eq_nil_of_le h) h2
      have hne : l ≠ [] := fun e => by rw [e] at hpos; simp at hpos
      unfold takeL
      rw [if_neg (by omega), hlen]
      split
      · constructor
        · rintro ⟨_, h⟩; omega
        · intro h; omega
      · constructor
        · rintro ⟨_, h⟩; omega
        · intro h; exact ⟨hne, by omega⟩
  · have : takeL l = 0 := by unfold takeL; rw [if_pos (by omega)]
    rw [this, decide_eq_false h1, Bool.false_and, decide_eq_false]
    rintro ⟨a, b⟩; exact a (List.length_eq_zero_iff.1 b.symm)

end Go.Proofs.Ytedmhopginmjaaa.PAll
