import Derived.Test.YtibhjlmffgabgaaZVisit
namespace Go.Proofs.Ytibhjlmffgabgaa.PAll
open Go.Proofs.Ytibhjlmffgabgaa.MapInt
set_option linter.unusedVariables false
set_option linter.unusedSimpArgs false
def isR (shs : List S65) (t : Thg) (i : Nat) : Bool := if (shOf shs t.s).f1 = true then (shOf shs t.s).f2 else (shOf shs t.s).f0.getD i false
inductive Rch (shs : List S65) (T : List Thg) (roots : List Int) : Int → Prop
  | root {r : Int} : r ∈ roots → (findT shs T 1 r).isSome = true → Rch shs T roots r
  | step {a : Int} {t : Thg} {i : Nat} : Rch shs T roots a → findT shs T 1 a = some t → i < t.xs.length → isR shs t i = true → (findT shs T 1 (t.xs.getD i 0)).isSome = true → Rch shs T roots (t.xs.getD i 0)
theorem Rch.found {shs : List S65} {T : List Thg} {roots : List Int} {x : Int} (h : Rch shs T roots x) : (findT shs T 1 x).isSome = true := by
  cases h with
  | root _ h => exact h
  | step _ _ _ _ h => exact h
def adrs (shs : List S65) : List Thg → Nat → List Int
  | [], _ => []
  | t :: T, b => (b : Int) :: adrs shs T (b + tsz shs t)
theorem adrs_len (shs : List S65) : ∀ (T : List Thg) (b : Nat), (adrs shs T b).length = T.length
  | [], _ => rfl
  | t :: T, b => by show (adrs shs T _).length + 1 = _; rw [adrs_len shs T]; rfl
theorem find_adrs {shs : List S65} : ∀ (T : List Thg) (b : Nat) (a : Int), (findT shs T b a).isSome = true ↔ a ∈ adrs shs T b
  | [], b, a => by simp [findT, adrs]
  | t :: T, b, a => by
    unfold findT adrs
    split
    · rename_i h; simp [h]
    · rename_i h
      rw [find_adrs T]
      simp only [List.mem_cons]
      constructor
      · exact .inr
      · rintro (e | e)
        · exact absurd e.symm h
        · exact e
def cnt (shs : List S65) (T : List Thg) (S : Int → Bool) : Nat := (adrs shs T 1).countP (fun x => !S x)
theorem count_ins {S : Int → Bool} {x : Int} (hS : S x = false) : ∀ l : List Int, x ∈ l → l.countP (fun y => !(ins S x) y) + 1 ≤ l.countP (fun y => !S y)
  | [], h => by cases h
  | y :: l, h => by
    have hle : ∀ l : List Int, l.countP (fun y => !(ins S x) y) ≤ l.countP (fun y => !S y) := fun l => by
      refine List.countP_mono_left (fun z _ hz => ?_)
      unfold ins at hz
      split at hz
      · simp at hz
      · exact hz
    rw [List.countP_cons, List.countP_cons]
    by_cases e : y = x
    · subst e
      have h1 : (ins S y) y = true := by unfold ins; rw [if_pos rfl]
      rw [h1, hS]
      have := hle l
      simp
      exact this
    · have h1 : (ins S x) y = S y := by unfold ins; rw [if_neg e]
      rw [h1]
      rcases List.mem_cons.1 h with e2 | e2
      · exact absurd e2.symm e
      · have := count_ins hS l e2
        omega
def Clo (shs : List S65) (T : List Thg) (S : Int → Bool) (E : Int → Prop) : Prop :=
  ∀ a, S a = true → ¬ E a → ∀ t, findT shs T 1 a = some t → ∀ i, i < t.xs.length → isR shs t i = true → (findT shs T 1 (t.xs.getD i 0)).isSome = true → S (t.xs.getD i 0) = true
structure MI (shs : List S65) (T : List Thg) (roots : List Int) (E : Int → Prop) (S : Int → Bool) (O : List Int) (n : Nat) : Prop where
  i1 : ∀ x, S x = true → Rch shs T roots x
  i2 : ∀ x ∈ O, S x = true
  i4 : Clo shs T S (fun a => a ∈ O ∨ E a)
  i5 : n + cnt shs T S ≤ T.length
  i6 : O.length + cnt shs T S ≤ T.length
section
variable {shs : List S65} {T : List Thg} {roots : List Int} {E : Int → Prop} {S : Int → Bool} {O : List Int} {n : Nat}
theorem vis_sub (x : Int) : ∀ y, S y = true → visS shs T S x y = true := by
  intro y hy
  unfold visS
  split
  · unfold ins; split
    · rfl
    · exact hy
  · exact hy
theorem vis_in {x : Int} (h : (findT shs T 1 x).isSome = true) : visS shs T S x x = true := by
  unfold visS
  split
  · unfold ins; rw [if_pos rfl]
  · rename_i h1
    cases e : S x with
    | true => rfl
    | false => exact absurd ⟨h, e⟩ h1
theorem MI.visit (h : MI shs T roots E S O n) {x : Int} (hx : (findT shs T 1 x).isSome = true → Rch shs T roots x) :
    MI shs T roots E (visS shs T S x) (visO shs T S O x) (visN shs T S n x) ∧ (visO shs T S O x).length + 2 * cnt shs T (visS shs T S x) ≤ O.length + 2 * cnt shs T S := by
  by_cases hc : (findT shs T 1 x).isSome = true ∧ S x = false
  · have hs : visS shs T S x = ins S x := by unfold visS; rw [if_pos hc]
    have ho : visO shs T S O x = O ++ [x] := by unfold visO; rw [if_pos hc]
    have hn : visN shs T S n x = n + 1 := by unfold visN; rw [if_pos hc]
    have hcnt := count_ins hc.2 (adrs shs T 1) ((find_adrs T 1 x).1 hc.1)
    have hcnt2 : cnt shs T (ins S x) + 1 ≤ cnt shs T S := hcnt
    rw [hs, ho, hn]
    have h5 := h.i5
    have h6 := h.i6
    refine ⟨⟨fun y hy => ?_, fun y hy => ?_, fun a ha hE t ht i hi hr hf => ?_, by omega, by rw [List.length_append]; simp; omega⟩, by rw [List.length_append]; simp; omega⟩
    · unfold ins at hy
      split at hy
      · rename_i e; subst e; exact hx hc.1
      · exact h.i1 y hy
    · unfold ins
      split
      · rfl
      · rename_i e
        rcases List.mem_append.1 hy with h1 | h1
        · exact h.i2 y h1
        · simp at h1; exact absurd h1 e
    · have hax : a ≠ x := fun e => hE (.inl (by subst e; simp))
      have hSa : S a = true := by unfold ins at ha; rw [if_neg hax] at ha; exact ha
      have := h.i4 a hSa (fun hh => hE (by rcases hh with hh | hh
                                           · exact .inl (List.mem_append_left _ hh)
                                           · exact .inr hh)) t ht i hi hr hf
      unfold ins
      split
      · rfl
      · exact this
  · have hs : visS shs T S x = S := by unfold visS; rw [if_neg hc]
    have ho : visO shs T S O x = O := by unfold visO; rw [if_neg hc]
    have hn : visN shs T S n x = n := by unfold visN; rw [if_neg hc]
    rw [hs, ho, hn]
    exact ⟨h, Nat.le_refl _⟩
theorem MI.pop {a : Int} (h : MI shs T roots (fun _ => False) S (O ++ [a]) n) : MI shs T roots (fun y => y = a) S O n := by
  have h5 := h.i5
  have h6 := h.i6
  rw [List.length_append] at h6
  refine ⟨h.i1, fun x hx => h.i2 x (List.mem_append_left _ hx), fun b hb hE => h.i4 b hb (fun hh => ?_), h5, by simp at h6; omega⟩
  rcases hh with hh | hh
  · rcases List.mem_append.1 hh with h1 | h1
    · exact hE (.inl h1)
    · simp at h1; exact hE (.inr h1)
  · exact hh
theorem MI.done {a : Int} {t : Thg} (h : MI shs T roots (fun y => y = a) S O n) (ht : findT shs T 1 a = some t) (hd : ∀ i, i < t.xs.length → isR shs t i = true → (findT shs T 1 (t.xs.getD i 0)).isSome = true → S (t.xs.getD i 0) = true) : MI shs T roots (fun _ => False) S O n := by
  refine ⟨h.i1, h.i2, fun b hb hE t' ht' i hi hr hf => ?_, h.i5, h.i6⟩
  by_cases e : b = a
  · subst e
    rw [ht] at ht'
    injection ht' with ht'
    subst ht'
    exact hd i hi hr hf
  · exact h.i4 b hb (fun hh => hE (by rcases hh with hh | hh
                                      · exact .inl hh
                                      · exact absurd hh e)) t' ht' i hi hr hf
theorem MI.end_ (h : MI shs T roots (fun _ => False) S [] n) (hr : ∀ r ∈ roots, (findT shs T 1 r).isSome = true → S r = true) : ∀ x, S x = true ↔ Rch shs T roots x := by
  intro x
  refine ⟨h.i1 x, fun hx => ?_⟩
  induction hx with
  | root h1 h2 => exact hr _ h1 h2
  | step _ h2 h3 h4 h5 ih => exact h.i4 _ ih (fun hh => by rcases hh with hh | hh
                                                           · cases hh
                                                           · exact hh) _ h2 _ h3 h4 h5
theorem MI.start : MI shs T roots (fun _ => False) (fun _ => false) [] 0 := by
  refine ⟨(fun x h => by cases h), (fun x h => by cases h), (fun a h => by cases h), ?_, ?_⟩
  · unfold cnt; have := List.countP_le_length (p := fun x => !(fun _ => false : Int → Bool) x) (l := adrs shs T 1); rw [adrs_len] at this; omega
  · unfold cnt; have := List.countP_le_length (p := fun x => !(fun _ => false : Int → Bool) x) (l := adrs shs T 1); rw [adrs_len] at this; rw [List.length_nil, Nat.zero_add]; exact this
end
theorem len_sum (shs : List S65) : ∀ T : List Thg, T.length ≤ sumT shs T
  | [] => Nat.zero_le _
  | t :: T => by
    have h1 := len_sum shs T
    have h2 := tsz_pos shs t
    have h3 : sumT shs (t :: T) = tsz shs t + sumT shs T := by simp [sumT]
    rw [h3, List.length_cons]; omega
theorem exists_least {p : Nat → Prop} (h : ∃ m, p m) : ∃ m, p m ∧ ∀ k, p k → m ≤ k := by
  obtain ⟨m, hm⟩ := h
  induction m using Nat.strongRecOn with
  | ind m ih =>
    by_cases hq : ∃ k, k < m ∧ p k
    · obtain ⟨k, hk, hp⟩ := hq; exact ih k hk hp
    · exact ⟨m, hm, fun k hk => by
        rcases Nat.lt_or_ge k m with h | h
        · exact absurd ⟨k, h, hk⟩ hq
        · exact h⟩
open Classical in
noncomputable def leastM (p : Nat → Prop) : Nat := if h : ∃ m, p m then Classical.choose (exists_least h) else 0
theorem least_spec {p : Nat → Prop} (h : ∃ m, p m) : p (leastM p) ∧ ∀ k, p k → leastM p ≤ k := by
  unfold leastM
  rw [dif_pos h]
  exact Classical.choose_spec (exists_least h)
end Go.Proofs.Ytibhjlmffgabgaa.PAll
