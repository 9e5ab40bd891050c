/-
  Moves: Order as a function on lists, and what it does.
-/
namespace Go.Proofs.Ytjolnfhgiddafaa.Moves
set_option linter.unusedSimpArgs false
set_option linter.unusedVariables false
abbrev E := Int × Int
def keys (r : List E) : List Int := r.map (·.1)
def cnt (r : List E) (y : Int) : Nat := (r.filter (fun e => decide (e.2 = y))).length
def val (r : List E) (y : Int) : Option Int := (r.find? (fun e => decide (e.1 = y))).map (·.2)
def rid (r : List E) (t : Int) : List E := r.filter (fun e => decide (e.1 ≠ t))
def nextFree (r : List E) (free : List Int) (a : Int) : List Int := if cnt r a = 0 ∧ a ∈ keys r then free ++ [a] else free
def drainF : Nat → List E → List Int → List E → List E × List E
  | 0, rem, _, out => (rem, out)
  | _ + 1, rem, [], out => (rem, out)
  | k + 1, rem, t :: free, out => drainF k (rid rem t) (nextFree (rid rem t) free ((val rem t).getD 0)) (out ++ [(t, (val rem t).getD 0)])
def turn (bs t : Int) (r : List E) : List E := r.map (fun e => if e.2 = t then (e.1, bs) else e)
def breakF (bs t : Int) (rem out : List E) : List E × List E := drainF rem.length (turn bs t rem) [t] (out ++ [(bs, t)])
def ordF (bs : Int) : List E → List E → List E → List E × List E
  | [], rem, out => (rem, out)
  | m :: l, rem, out => if m.1 ∈ keys rem then ordF bs l (breakF bs m.1 rem out).1 (breakF bs m.1 rem out).2 else ordF bs l rem out
def real (l : List E) : List E := l.filter (fun e => decide (e.1 ≠ e.2))
def free0 (l : List E) (R : List E) : List Int := (l.filter (fun e => decide (e.1 ≠ e.2) && decide (cnt R e.1 = 0))).map (·.1)
def first (l : List E) : List E × List E := drainF (real l).length (real l) (free0 l (real l)) []
def orderF (bs : Int) (l : List E) : List E := (ordF bs l (first l).1 (first l).2).2
/-- The places behind some moves. -/
def run : List E → (Int → Int) → Int → Int
  | [], p => p
  | (t, a) :: out, p => run out (fun x => if x = t then p a else p x)
theorem run_app (a b : List E) (p : Int → Int) : run (a ++ b) p = run b (run a p) := by
  induction a generalizing p with
  | nil => rfl
  | cons m a ih => obtain ⟨t, c⟩ := m; exact ih _
theorem run_snoc (a : List E) (t c : Int) (p : Int → Int) (x : Int) : run (a ++ [(t, c)]) p x = if x = t then run a p c else run a p x := by
  rw [run_app]; rfl

theorem cnt_zero {r : List E} {y : Int} : cnt r y = 0 ↔ ∀ e ∈ r, e.2 ≠ y := by
  unfold cnt
  rw [List.length_eq_zero_iff, List.filter_eq_nil_iff]
  constructor
  · intro h e he h2; exact h e he (by simp [h2])
  · intro h e he h2; exact h e he (by simpa using h2)
theorem mem_keys {r : List E} {t : Int} : t ∈ keys r ↔ ∃ a, (t, a) ∈ r := by
  unfold keys; simp
theorem nd_eq {r : List E} (h : (keys r).Nodup) {t a b : Int} (h1 : (t, a) ∈ r) (h2 : (t, b) ∈ r) : a = b := by
  induction r with
  | nil => cases h1
  | cons m r ih =>
    unfold keys at h; rw [List.map_cons, List.nodup_cons] at h
    rcases List.mem_cons.1 h1 with e1 | h1' <;> rcases List.mem_cons.1 h2 with e2 | h2'
    · rw [← e1] at e2; injection e2 with _ e2; exact e2.symm
    · exact absurd (List.mem_map.2 ⟨(t, b), h2', by rw [← e1]⟩) h.1
    · exact absurd (List.mem_map.2 ⟨(t, a), h1', by rw [← e2]⟩) h.1
    · exact ih h.2 h1' h2'
theorem val_some {r : List E} (h : (keys r).Nodup) {t a : Int} (h1 : (t, a) ∈ r) : val r t = some a := by
  unfold val
  cases e : r.find? (fun e => decide (e.1 = t)) with
  | none => have := List.find?_eq_none.1 e _ h1; simp at this
  | some m =>
    obtain ⟨t', a'⟩ := m
    have h2 := List.mem_of_find?_eq_some e
    have h3 := List.find?_some e
    simp at h3; subst h3
    simp [nd_eq h h2 h1]
theorem val_none {r : List E} {t : Int} (h : t ∉ keys r) : val r t = none := by
  unfold val
  rw [List.find?_eq_none.2]; rfl
  intro e he h2
  exact h (mem_keys.2 ⟨e.2, by have : e.1 = t := by simpa using h2
                               subst this; exact he⟩)
theorem val_isSome {r : List E} (h : (keys r).Nodup) {t : Int} : (val r t).isSome = decide (t ∈ keys r) := by
  by_cases ht : t ∈ keys r
  · obtain ⟨a, ha⟩ := mem_keys.1 ht
    rw [val_some h ha]; simp [ht]
  · rw [val_none ht]; simp [ht]
theorem val_mem {r : List E} {t a : Int} (h : val r t = some a) : (t, a) ∈ r := by
  unfold val at h
  cases e : r.find? (fun e => decide (e.1 = t)) with
  | none => rw [e] at h; cases h
  | some m =>
    rw [e] at h
    obtain ⟨t', a'⟩ := m
    have h2 := List.mem_of_find?_eq_some e
    have h3 := List.find?_some e
    simp at h3 h; subst h3; subst h; exact h2
theorem mem_rid {r : List E} {t : Int} {e : E} : e ∈ rid r t ↔ e ∈ r ∧ e.1 ≠ t := by unfold rid; simp
theorem keys_rid {r : List E} {t x : Int} : x ∈ keys (rid r t) ↔ x ∈ keys r ∧ x ≠ t := by
  rw [mem_keys, mem_keys]
  constructor
  · rintro ⟨a, h⟩; obtain ⟨h1, h2⟩ := mem_rid.1 h; exact ⟨⟨a, h1⟩, h2⟩
  · rintro ⟨⟨a, h⟩, h2⟩; exact ⟨a, mem_rid.2 ⟨h, h2⟩⟩
theorem rid_not {r : List E} {t : Int} (h : t ∉ keys r) : rid r t = r := by
  unfold rid; rw [List.filter_eq_self]; intro e he; simp; rintro rfl; exact h (mem_keys.2 ⟨e.2, he⟩)
theorem nd_rid {r : List E} (h : (keys r).Nodup) (t : Int) : (keys (rid r t)).Nodup := by
  unfold keys rid; exact h.sublist (List.filter_sublist.map _)
theorem rid_len {r : List E} (h : (keys r).Nodup) {t a : Int} (h1 : (t, a) ∈ r) : (rid r t).length + 1 = r.length ∧ ∀ y, cnt (rid r t) y + (if a = y then 1 else 0) = cnt r y := by
  induction r with
  | nil => cases h1
  | cons m r ih =>
    have h' := h
    unfold keys at h; rw [List.map_cons, List.nodup_cons] at h
    rcases List.mem_cons.1 h1 with e1 | h1'
    · subst e1
      have : rid ((t, a) :: r) t = r := by
        have := rid_not (r := r) (t := t) h.1
        unfold rid at this ⊢
        rw [List.filter_cons]; simpa using this
      rw [this]
      refine ⟨rfl, fun y => ?_⟩
      unfold cnt; rw [List.filter_cons]
      by_cases e : a = y <;> simp [e]
    · have hm : m.1 ≠ t := fun e => h.1 (by rw [e]; exact mem_keys.2 ⟨a, h1'⟩)
      have : rid (m :: r) t = m :: rid r t := by unfold rid; rw [List.filter_cons]; simp [hm]
      rw [this]
      obtain ⟨i1, i2⟩ := ih h.2 h1'
      refine ⟨by simp [i1], fun y => ?_⟩
      have := i2 y
      unfold cnt at this ⊢
      rw [List.filter_cons, List.filter_cons]
      split <;> simp_all <;> omega
theorem mem_nextFree {r : List E} {free : List Int} {a y : Int} : y ∈ nextFree r free a ↔ y ∈ free ∨ (y = a ∧ cnt r a = 0 ∧ a ∈ keys r) := by
  unfold nextFree
  split
  · rename_i h; simp [h]
  · rename_i h; simp [h]

structure J (R : List E) (bs : Int) (rem : List E) (free : List Int) (out : List E) : Prop where
  nd : (keys rem).Nodup
  sub : ∀ x ∈ keys rem, x ∈ keys R
  fnd : free.Nodup
  fr : ∀ t, t ∈ free ↔ t ∈ keys rem ∧ cnt rem t = 0
  ne : ∀ e ∈ rem, e.1 ≠ e.2
  bk : bs ∉ keys R
  e1 : ∀ p, ∀ e ∈ rem, ∀ e0 ∈ R, e0.1 = e.1 → run out p e.2 = p e0.2
  e2 : ∀ p, ∀ e ∈ R, e.1 ∉ keys rem → run out p e.1 = p e.2
  e3 : ∀ p x, x ∉ keys R → x ≠ bs → run out p x = p x
  o : ∀ e ∈ out, e.1 ≠ e.2 ∧ (e.1 ∈ keys R ∨ e.1 = bs)

theorem J.step {R : List E} {bs t : Int} {rem : List E} {free : List Int} {out : List E} (h : J R bs rem (t :: free) out) :
    J R bs (rid rem t) (nextFree (rid rem t) free ((val rem t).getD 0)) (out ++ [(t, (val rem t).getD 0)]) ∧ (rid rem t).length + 1 = rem.length := by
  obtain ⟨ht, hc⟩ := (h.fr t).1 (List.mem_cons_self ..)
  obtain ⟨a, ha⟩ := mem_keys.1 ht
  rw [val_some h.nd ha]
  simp only [Option.getD_some]
  obtain ⟨hl, hcn⟩ := rid_len h.nd ha
  have hcz := cnt_zero.1 hc
  have hfn := List.nodup_cons.1 h.fnd
  have hat : a ≠ t := fun e => h.ne _ ha e.symm
  refine ⟨⟨nd_rid h.nd t, fun x hx => h.sub x (keys_rid.1 hx).1, ?_, ?_, fun e he => h.ne e (mem_rid.1 he).1, h.bk, ?_, ?_, ?_, ?_⟩, hl⟩
  · unfold nextFree
    split
    · rename_i hq
      rw [List.nodup_append]
      refine ⟨hfn.2, (by simp), ?_⟩
      intro x hx y hy
      rw [List.mem_singleton] at hy; subst hy
      rintro rfl
      have := ((h.fr x).1 (List.mem_cons_of_mem _ hx)).2
      exact cnt_zero.1 this _ ha rfl
    · exact hfn.2
  · intro y
    rw [mem_nextFree]
    have hy := hcn y
    constructor
    · rintro (hy' | ⟨rfl, h1, h2⟩)
      · obtain ⟨k1, k2⟩ := (h.fr y).1 (List.mem_cons_of_mem _ hy')
        exact ⟨keys_rid.2 ⟨k1, fun e => hfn.1 (e ▸ hy')⟩, by omega⟩
      · exact ⟨h2, h1⟩
    · rintro ⟨k0, k3⟩
      obtain ⟨k1, k2⟩ := keys_rid.1 k0
      by_cases e : a = y
      · subst e
        exact .inr ⟨rfl, k3, keys_rid.2 ⟨k1, k2⟩⟩
      · rw [if_neg e] at hy
        rcases List.mem_cons.1 ((h.fr y).2 ⟨k1, by omega⟩) with h1 | h1
        · exact absurd h1 k2
        · exact .inl h1
  · intro p e he e0 he0 hk
    rw [run_snoc, if_neg (hcz e (mem_rid.1 he).1)]
    exact h.e1 p e (mem_rid.1 he).1 e0 he0 hk
  · intro p e he hk
    rw [run_snoc]
    by_cases hx : e.1 = t
    · rw [if_pos hx]
      exact h.e1 p _ ha e he hx
    · rw [if_neg hx]
      exact h.e2 p e he (fun h1 => hk (keys_rid.2 ⟨h1, hx⟩))
  · intro p x hx hb
    rw [run_snoc, if_neg (fun e : x = t => hx (e ▸ h.sub t ht))]
    exact h.e3 p x hx hb
  · intro e he
    rcases List.mem_append.1 he with he | he
    · exact h.o e he
    · rw [List.mem_singleton] at he; subst he
      exact ⟨fun e => hat e.symm, .inl (h.sub t ht)⟩

theorem drain_good {R : List E} {bs : Int} : ∀ (k : Nat) (rem : List E) (free : List Int) (out : List E), J R bs rem free out → rem.length ≤ k →
    J R bs (drainF k rem free out).1 [] (drainF k rem free out).2 ∧ (drainF k rem free out).1.length + (drainF k rem free out).2.length = rem.length + out.length ∧ (drainF k rem free out).1.length + free.length.min 1 ≤ rem.length ∧
    (∀ e ∈ (drainF k rem free out).1, e ∈ rem ∧ e.1 ∉ free) ∧ (∀ e ∈ (drainF k rem free out).2, e ∈ out ∨ e ∈ rem)
  | 0, rem, free, out, h, hk => by
    have : rem = [] := List.length_eq_zero_iff.1 (by omega)
    subst this
    have : free = [] := List.eq_nil_iff_forall_not_mem.2 fun t ht => by have := ((h.fr t).1 ht).1; simp [keys] at this
    subst this
    exact ⟨h, rfl, by simp [drainF], fun e he => by simp [drainF] at he, fun e he => .inl he⟩
  | k + 1, rem, [], out, h, hk => ⟨h, rfl, by simp [drainF], fun e he => ⟨he, by simp⟩, fun e he => .inl he⟩
  | k + 1, rem, t :: free, out, h, hk => by
    obtain ⟨h1, h2⟩ := h.step
    obtain ⟨i1, i2, i3, i4, i5⟩ := drain_good k _ _ _ h1 (by omega)
    have ht := ((h.fr t).1 (List.mem_cons_self ..)).1
    refine ⟨i1, ?_, ?_, ?_, ?_⟩
    · show (drainF k _ _ _).1.length + (drainF k _ _ _).2.length = _
      rw [i2]; simp; omega
    · show (drainF k _ _ _).1.length + _ ≤ _
      simp; omega
    · intro e he
      have := i4 e he
      refine ⟨(mem_rid.1 this.1).1, fun hm => ?_⟩
      rcases List.mem_cons.1 hm with h3 | h3
      · exact (mem_rid.1 this.1).2 h3
      · exact this.2 (mem_nextFree.2 (.inl h3))
    · intro e he
      rcases i5 e he with h3 | h3
      · rcases List.mem_append.1 h3 with h3 | h3
        · exact .inl h3
        · right
          rw [List.mem_singleton] at h3; subst h3
          obtain ⟨a, ha⟩ := mem_keys.1 ht
          rw [val_some h.nd ha]; exact ha
      · exact .inr (mem_rid.1 h3).1

theorem perm_of_sub : ∀ (K V : List Int), K.Nodup → (∀ x ∈ K, x ∈ V) → K.length = V.length → K.Perm V
  | [], V, _, _, hl => by have : V = [] := List.length_eq_zero_iff.1 hl.symm; subst this; exact List.Perm.refl _
  | k :: K, V, hn, hs, hl => by
    obtain ⟨n1, n2⟩ := List.nodup_cons.1 hn
    have hk := hs k (List.mem_cons_self ..)
    have hp := List.perm_cons_erase hk
    refine (List.Perm.cons k (perm_of_sub K (V.erase k) n2 (fun x hx => ?_) ?_)).trans hp.symm
    · exact (List.mem_erase_of_ne (fun e : x = k => n1 (e ▸ hx))).2 (hs x (List.mem_cons_of_mem _ hx))
    · have := hp.length_eq; simp at this hl; omega
theorem cnt_count (r : List E) (y : Int) : cnt r y = (r.map (·.2)).count y := by
  unfold cnt
  induction r with
  | nil => rfl
  | cons m r ih =>
    rw [List.filter_cons, List.map_cons, List.count_cons]
    by_cases e : m.2 = y
    · simp [e, ih]
    · simp [e, ih]
/-- Where nobody is free, all that is left is circles. -/
theorem circles {R : List E} {bs : Int} {rem out : List E} (h : J R bs rem [] out) : (∀ e ∈ rem, e.2 ∈ keys rem) ∧ ∀ y ∈ keys rem, cnt rem y = 1 := by
  have h1 : ∀ x ∈ keys rem, x ∈ rem.map (·.2) := fun x hx => by
    have : ¬ cnt rem x = 0 := fun h0 => by have := (h.fr x).2 ⟨hx, h0⟩; cases this
    rw [cnt_zero] at this
    simp only [Classical.not_forall] at this
    obtain ⟨e, he, h2⟩ := this
    exact List.mem_map.2 ⟨e, he, by simpa using h2⟩
  have hp := perm_of_sub (keys rem) (rem.map (·.2)) h.nd h1 (by simp [keys])
  refine ⟨fun e he => hp.mem_iff.2 (List.mem_map.2 ⟨e, he, rfl⟩), fun y hy => ?_⟩
  rw [cnt_count, ← hp.count_eq]
  have := List.nodup_iff_count.1 h.nd y
  have := List.count_pos_iff.2 hy
  omega
theorem keys_turn (bs t : Int) (r : List E) : keys (turn bs t r) = keys r := by
  unfold keys turn
  rw [List.map_map]
  apply List.map_congr_left
  intro e _
  simp; split <;> rfl
theorem cnt_turn (bs t y : Int) (r : List E) (h1 : y ≠ t) (h2 : y ≠ bs) : cnt (turn bs t r) y = cnt r y := by
  unfold cnt turn
  induction r with
  | nil => rfl
  | cons m r ih =>
    rw [List.map_cons, List.filter_cons, List.filter_cons]
    by_cases e : m.2 = t
    · rw [if_pos e]
      have k1 : decide (m.2 = y) = false := by simp; omega
      have k2 : decide (((m.1, bs) : E).2 = y) = false := by simp; omega
      rw [k1, k2]; simpa using ih
    · rw [if_neg e]; split <;> simp [ih]
theorem J.turned {R : List E} {bs t : Int} {rem out : List E} (h : J R bs rem [] out) (ht : t ∈ keys rem) : J R bs (turn bs t rem) [t] (out ++ [(bs, t)]) := by
  obtain ⟨c1, c2⟩ := circles h
  have htb : t ≠ bs := fun e => h.bk (e ▸ h.sub t ht)
  have hrb : ∀ e ∈ rem, e.2 ≠ bs := fun e he h2 => h.bk (h2 ▸ h.sub _ (c1 e he))
  have mt : ∀ e ∈ turn bs t rem, ∃ e' ∈ rem, e.1 = e'.1 ∧ ((e'.2 = t ∧ e.2 = bs) ∨ (e'.2 ≠ t ∧ e.2 = e'.2)) := by
    intro e he
    unfold turn at he
    obtain ⟨e', h1, rfl⟩ := List.mem_map.1 he
    refine ⟨e', h1, ?_⟩
    split
    · rename_i h2; exact ⟨rfl, .inl ⟨h2, rfl⟩⟩
    · rename_i h2; exact ⟨rfl, .inr ⟨h2, rfl⟩⟩
  refine ⟨by rw [keys_turn]; exact h.nd, by rw [keys_turn]; exact h.sub, (by simp), ?_, ?_, h.bk, ?_, ?_, ?_, ?_⟩
  · intro y
    rw [keys_turn, List.mem_singleton]
    constructor
    · rintro rfl
      refine ⟨ht, cnt_zero.2 fun e he => ?_⟩
      obtain ⟨e', _, _, ⟨h1, h2⟩ | ⟨h1, h2⟩⟩ := mt e he
      · rw [h2]; exact fun e => htb e.symm
      · rw [h2]; exact h1
    · rintro ⟨h1, h2⟩
      refine Classical.byContradiction fun hne => ?_
      rw [cnt_turn bs t y rem hne (fun e => h.bk (e ▸ h.sub y h1)), c2 y h1] at h2
      cases h2
  · intro e he
    obtain ⟨e', h0, k, ⟨h1, h2⟩ | ⟨h1, h2⟩⟩ := mt e he
    · rw [h2, k]; exact fun e2 => h.bk (e2 ▸ h.sub _ (mem_keys.2 ⟨e'.2, h0⟩))
    · rw [h2, k]; exact h.ne e' h0
  · intro p e he e0 he0 hk
    obtain ⟨e', h0, k, ⟨h1, h2⟩ | ⟨h1, h2⟩⟩ := mt e he
    · rw [h2, run_snoc, if_pos rfl, ← h1]
      exact h.e1 p e' h0 e0 he0 (hk.trans k)
    · rw [h2, run_snoc, if_neg (hrb e' h0)]
      exact h.e1 p e' h0 e0 he0 (hk.trans k)
  · intro p e he hk
    rw [keys_turn] at hk
    rw [run_snoc, if_neg (fun e2 : e.1 = bs => h.bk (e2 ▸ mem_keys.2 ⟨e.2, he⟩))]
    exact h.e2 p e he hk
  · intro p x hx hb
    rw [run_snoc, if_neg hb]; exact h.e3 p x hx hb
  · intro e he
    rcases List.mem_append.1 he with he | he
    · exact h.o e he
    · rw [List.mem_singleton] at he; subst he
      exact ⟨fun e => htb e.symm, .inr rfl⟩
theorem turn_len (bs t : Int) (r : List E) : (turn bs t r).length = r.length := by unfold turn; simp
theorem break_good {R : List E} {bs t : Int} {rem out : List E} (h : J R bs rem [] out) (ht : t ∈ keys rem) :
    J R bs (breakF bs t rem out).1 [] (breakF bs t rem out).2 ∧ (breakF bs t rem out).1.length + (breakF bs t rem out).2.length = rem.length + out.length + 1 ∧ (breakF bs t rem out).1.length + 2 ≤ rem.length ∧
    (∀ x ∈ keys (breakF bs t rem out).1, x ∈ keys rem ∧ x ≠ t) := by
  have hj := h.turned ht
  obtain ⟨g1, g2, g3, g4, g5⟩ := drain_good rem.length _ _ _ hj (by rw [turn_len]; exact Nat.le_refl _)
  refine ⟨g1, by unfold breakF; rw [g2, turn_len]; simp; omega, ?_, ?_⟩
  · obtain ⟨s1, s2⟩ := hj.step
    obtain ⟨c1, c2⟩ := circles h
    obtain ⟨a, ha⟩ := mem_keys.1 ht
    have hat : a ≠ t := fun e => h.ne _ ha e.symm
    have hak := c1 _ ha
    have hab : a ≠ bs := fun e => h.bk (e ▸ h.sub _ hak)
    have ha' : (t, a) ∈ turn bs t rem := by
      unfold turn; exact List.mem_map.2 ⟨(t, a), ha, by simp [hat]⟩
    have hv := val_some hj.nd ha'
    obtain ⟨_, hcn⟩ := rid_len hj.nd ha'
    have hca := hcn a
    rw [if_pos rfl, cnt_turn bs t a rem hat hab, c2 a hak] at hca
    have hnf : nextFree (rid (turn bs t rem) t) [] a = [a] := by
      unfold nextFree; rw [if_pos ⟨by omega, keys_rid.2 ⟨by rw [keys_turn]; exact hak, hat⟩⟩]; rfl
    rw [hv] at s1
    simp only [Option.getD_some] at s1
    rw [hnf] at s1
    rw [turn_len] at s2
    obtain ⟨k, hk⟩ : ∃ k, rem.length = k + 1 := ⟨rem.length - 1, by omega⟩
    obtain ⟨_, _, q3, _⟩ := drain_good k _ _ _ s1 (by omega)
    unfold breakF
    rw [hk]
    show (drainF k _ (nextFree _ [] ((val _ t).getD 0)) (_ ++ [(t, (val _ t).getD 0)])).1.length + 2 ≤ _
    rw [hv]
    simp only [Option.getD_some]
    rw [hnf]
    have q4 : ([a] : List Int).length.min 1 = 1 := rfl
    rw [q4] at q3; omega
  · intro x hx
    obtain ⟨b, hb⟩ := mem_keys.1 hx
    have := g4 _ hb
    refine ⟨?_, fun e => this.2 (by simp [e])⟩
    have h2 := mem_keys.2 ⟨b, this.1⟩
    rw [keys_turn] at h2; exact h2

theorem ord_good {R : List E} {bs : Int} (ri : List E) : ∀ (l rem out : List E) (j : Nat), J R bs rem [] out → rem.length + out.length = R.length + j → 2 * j + rem.length ≤ R.length → (j = 0 → rem = ri) →
    ∃ j', J R bs (ordF bs l rem out).1 [] (ordF bs l rem out).2 ∧ (ordF bs l rem out).1.length + (ordF bs l rem out).2.length = R.length + j' ∧ 2 * j' + (ordF bs l rem out).1.length ≤ R.length ∧ (j' = 0 → (ordF bs l rem out).1 = ri) ∧ (∀ x ∈ keys (ordF bs l rem out).1, x ∈ keys rem ∧ x ∉ keys l)
  | [], rem, out, j, h, h1, h2, h3 => ⟨j, h, h1, h2, h3, fun x hx => ⟨hx, by simp [keys]⟩⟩
  | m :: l, rem, out, j, h, h1, h2, h3 => by
    unfold ordF
    by_cases hm : m.1 ∈ keys rem
    · rw [if_pos hm]
      obtain ⟨g1, g2, g3, g4⟩ := break_good h hm
      obtain ⟨j', i1, i2, i3, i4, i5⟩ := ord_good ri l _ _ (j + 1) g1 (by omega) (by omega) (by omega)
      refine ⟨j', i1, i2, i3, i4, fun x hx => ?_⟩
      have k1 := i5 x hx
      have k2 := g4 x k1.1
      exact ⟨k2.1, by
        show x ∉ m.1 :: keys l
        intro hc
        rcases List.mem_cons.1 hc with e | e
        · exact k2.2 e
        · exact k1.2 e⟩
    · rw [if_neg hm]
      obtain ⟨j', i1, i2, i3, i4, i5⟩ := ord_good ri l rem out j h h1 h2 h3
      refine ⟨j', i1, i2, i3, i4, fun x hx => ?_⟩
      have k1 := i5 x hx
      exact ⟨k1.1, by
        show x ∉ m.1 :: keys l
        intro hc
        rcases List.mem_cons.1 hc with e | e
        · exact hm (e ▸ k1.1)
        · exact k1.2 e⟩

theorem free0_mem (l : List E) (hnd : (keys l).Nodup) (t : Int) : t ∈ free0 l (real l) ↔ t ∈ keys (real l) ∧ cnt (real l) t = 0 := by
  constructor
  · intro h
    unfold free0 at h
    obtain ⟨e, he, rfl⟩ := List.mem_map.1 h
    obtain ⟨h1, h2⟩ := List.mem_filter.1 he
    rw [Bool.and_eq_true] at h2
    exact ⟨mem_keys.2 ⟨e.2, List.mem_filter.2 ⟨h1, h2.1⟩⟩, by simpa using h2.2⟩
  · rintro ⟨h, h3⟩
    obtain ⟨a, ha⟩ := mem_keys.1 h
    obtain ⟨h1, h2⟩ := List.mem_filter.1 ha
    exact List.mem_map.2 ⟨(t, a), List.mem_filter.2 ⟨h1, by rw [Bool.and_eq_true]; exact ⟨h2, by simpa using h3⟩⟩, rfl⟩
theorem real_keys {l : List E} {x : Int} (h : x ∈ keys (real l)) : x ∈ keys l := by
  obtain ⟨a, ha⟩ := mem_keys.1 h
  unfold real at ha
  exact mem_keys.2 ⟨a, (List.mem_filter.1 ha).1⟩
theorem start_good (l : List E) (bs : Int) (hnd : (keys l).Nodup) (hb : bs ∉ keys l) : J (real l) bs (real l) (free0 l (real l)) [] := by
  have hr : (keys (real l)).Nodup := by unfold keys real; exact hnd.sublist (List.filter_sublist.map _)
  refine ⟨hr, fun _ h => h, ?_, free0_mem l hnd, ?_, fun h => hb (real_keys h), ?_, ?_, fun _ _ _ _ => rfl, ?_⟩
  · unfold free0; exact hnd.sublist (List.filter_sublist.map _)
  · intro e he; unfold real at he; simpa using (List.mem_filter.1 he).2
  · intro p e he e0 he0 hk
    obtain ⟨x, a⟩ := e
    obtain ⟨y, b⟩ := e0
    simp at hk; subst hk
    show p a = p b
    rw [nd_eq hr he he0]
  · intro p e he hk
    exact absurd (mem_keys.2 ⟨e.2, he⟩) hk
  · intro e he; cases he

theorem order_good (l : List E) (bs : Int) (hnd : (keys l).Nodup) (hb : ∀ e ∈ l, e.1 ≠ bs ∧ e.2 ≠ bs) :
    (∀ p, ∀ e ∈ l, run (orderF bs l) p e.1 = p e.2) ∧ (∀ p x, x ∉ keys l → x ≠ bs → run (orderF bs l) p x = p x) ∧ (orderF bs l).length ≤ (real l).length + (real l).length / 2 ∧
    (∀ e ∈ orderF bs l, e.1 ≠ e.2 ∧ (e.1 ∈ keys l ∨ e.1 = bs)) ∧
    ((∀ e ∈ real l, e.2 ∉ keys l) → (orderF bs l).length = (real l).length ∧ ∀ e ∈ orderF bs l, e.1 ≠ bs ∧ e.2 ≠ bs) ∧
    (real l ≠ [] → (∀ x ∈ keys (real l), ∃ e ∈ real l, e.2 = x) → (real l).length + 1 ≤ (orderF bs l).length) := by
  have hbk : bs ∉ keys l := fun h => by obtain ⟨a, ha⟩ := mem_keys.1 h; exact (hb _ ha).1 rfl
  have hs := start_good l bs hnd hbk
  obtain ⟨d1, d2, d3, d4, d5⟩ := drain_good (real l).length _ _ _ hs (Nat.le_refl _)
  change J (real l) bs (first l).1 [] (first l).2 at d1
  change (first l).1.length + (first l).2.length = _ at d2
  change (first l).1.length + _ ≤ _ at d3
  change ∀ e ∈ (first l).1, _ at d4
  change ∀ e ∈ (first l).2, _ at d5
  obtain ⟨j, o1, o2, o3, o4, o5⟩ := ord_good (first l).1 l (first l).1 (first l).2 0 d1 (by simpa using d2) (by omega) (fun _ => rfl)
  have hrem : (ordF bs l (first l).1 (first l).2).1 = [] := by
    refine List.eq_nil_iff_forall_not_mem.2 fun e he => ?_
    have h1 := mem_keys.2 ⟨e.2, he⟩
    exact (o5 _ h1).2 (real_keys (o1.sub _ h1))
  change J (real l) bs _ [] (orderF bs l) at o1
  change _ + (orderF bs l).length = _ at o2
  rw [hrem] at o1 o2 o3 o4
  have hself : ∀ e ∈ l, e.1 = e.2 → e.1 ∉ keys (real l) := by
    intro e he h1 h2
    obtain ⟨a, ha⟩ := mem_keys.1 h2
    unfold real at ha
    obtain ⟨k1, k2⟩ := List.mem_filter.1 ha
    have : a = e.2 := nd_eq hnd k1 (by simpa using he)
    simp at k2; exact k2 (by rw [this, h1])
  refine ⟨?_, ?_, ?_, ?_, ?_, ?_⟩
  · intro p e he
    by_cases h1 : e.1 = e.2
    · rw [o1.e3 p e.1 (hself e he h1) (hb e he).1, ← h1]
    · exact o1.e2 p e (by unfold real; exact List.mem_filter.2 ⟨he, by simpa using h1⟩) (by simp [keys])
  · intro p x hx hxb
    exact o1.e3 p x (fun h => hx (real_keys h)) hxb
  · simp at o2 o3; omega
  · intro e he
    obtain ⟨h1, h2⟩ := o1.o e he
    exact ⟨h1, h2.imp real_keys id⟩
  · intro hp
    have h0 : (first l).1 = [] := by
      refine List.eq_nil_iff_forall_not_mem.2 fun e he => ?_
      have h1 := (circles d1).1 e he
      exact hp e (d4 e he).1 (real_keys (d1.sub _ h1))
    have hout : orderF bs l = (first l).2 := by
      unfold orderF
      rw [h0]
      generalize (first l).2 = o
      have : ∀ l : List E, ordF bs l [] o = ([], o) := by
        intro l
        induction l with
        | nil => rfl
        | cons m l ih => unfold ordF; rw [if_neg (by simp [keys])]; exact ih
      rw [this]
    rw [hout]
    rw [h0] at d2
    refine ⟨by simpa using d2, fun e he => ?_⟩
    rcases d5 e he with h | h
    · cases h
    · unfold real at h; exact hb e (List.mem_filter.1 h).1
  · intro hne hall
    have hf : free0 l (real l) = [] := List.eq_nil_iff_forall_not_mem.2 fun t ht => by
      obtain ⟨h1, h2⟩ := (free0_mem l hnd t).1 ht
      obtain ⟨e, he, h3⟩ := hall t h1
      exact cnt_zero.1 h2 e he h3
    have h0 : (first l).1 = real l := by
      unfold first; rw [hf]
      cases (real l).length <;> rfl
    have hj : j ≠ 0 := fun e => hne (by rw [← h0]; exact (o4 e).symm)
    simp at o2; omega
end Go.Proofs.Ytjolnfhgiddafaa.Moves
