import Derived.Test.YtibhjlmffgabgaaZRefMake
namespace Go.Proofs.Ytibhjlmffgabgaa.PAll
open Go.RowKit Go.Proofs.YtibhjlmffgabgaaW.PrintWords Go.Proofs.YtibhjlmffgabgaaW.PrintLast Go.Proofs.YtibhjlmffgabgaaW.PrintMore
open Go.Proofs.Ytibhjlmffgabgaa.MapInt
set_option linter.unusedVariables false
set_option linter.unusedSimpArgs false
structure QI (shs : List S65) (T : List Thg) (roots : List Int) (E : Int → Nat → Prop) (S : Int → Bool) (O : List Int) : Prop where
  i1 : ∀ x, S x = true → Rch shs T roots x
  i2 : ∀ x ∈ O, (findT shs T 1 x).isSome = true → Rch shs T roots x
  i3 : ∀ r ∈ roots, (findT shs T 1 r).isSome = true → S r = true ∨ r ∈ O
  i4 : ∀ a, S a = true → ∀ t, findT shs T 1 a = some t → ∀ i, i < t.xs.length → E a i → isR shs t i = true → (findT shs T 1 (t.xs.getD i 0)).isSome = true → S (t.xs.getD i 0) = true ∨ t.xs.getD i 0 ∈ O
section
variable {shs : List S65} {T : List Thg} {roots : List Int} {E : Int → Nat → Prop} {S : Int → Bool} {O : List Int}
theorem QI.start : QI shs T roots (fun _ _ => True) (fun _ => false) roots :=
  ⟨fun x h => by simp at h, fun x h hf => .root h hf, fun r h _ => .inr h, fun a h => by simp at h⟩
theorem QI.skip {x : Int} (h : QI shs T roots E S (x :: O)) (hs : (findT shs T 1 x).isSome = true → S x = true) : QI shs T roots E S O := by
  have key : ∀ y, (findT shs T 1 y).isSome = true → (S y = true ∨ y ∈ x :: O) → S y = true ∨ y ∈ O := fun y hf hy => by
    rcases hy with h1 | h1
    · exact .inl h1
    · rcases List.mem_cons.1 h1 with e | e
      · subst e; exact .inl (hs hf)
      · exact .inr e
  exact ⟨h.i1, fun y hy => h.i2 y (List.mem_cons_of_mem _ hy), fun r hr hf => key r hf (h.i3 r hr hf), fun a ha t ht i hi hE hr hf => key _ hf (h.i4 a ha t ht i hi hE hr hf)⟩
theorem ins_self (S : Int → Bool) (x : Int) : ins S x x = true := by unfold ins; rw [if_pos rfl]
theorem ins_sub {S : Int → Bool} {x y : Int} (h : S y = true) : ins S x y = true := by unfold ins; split; rfl; exact h
theorem ins_ne {S : Int → Bool} {x y : Int} (h : y ≠ x) : ins S x y = S y := by unfold ins; rw [if_neg h]
theorem QI.take {x : Int} (h : QI shs T roots (fun _ _ => True) S (x :: O)) (hf : (findT shs T 1 x).isSome = true) : QI shs T roots (fun b i => b = x → i < 0) (ins S x) O := by
  have key : ∀ y, (S y = true ∨ y ∈ x :: O) → ins S x y = true ∨ y ∈ O := fun y hy => by
    rcases hy with h1 | h1
    · exact .inl (ins_sub h1)
    · rcases List.mem_cons.1 h1 with e | e
      · subst e; exact .inl (ins_self _ _)
      · exact .inr e
  refine ⟨fun y hy => ?_, fun y hy => h.i2 y (List.mem_cons_of_mem _ hy), fun r hr hf => key r (h.i3 r hr hf), fun a ha t ht i hi hE hr hf => ?_⟩
  · by_cases e : y = x
    · subst e; exact h.i2 _ (by simp) hf
    · rw [ins_ne e] at hy; exact h.i1 y hy
  · by_cases e : a = x
    · have := hE e; omega
    · rw [ins_ne e] at ha
      exact key _ (h.i4 a ha t ht i hi trivial hr hf)
def adds (r : Bool) (x : Int) (O : List Int) : List Int := if r = true ∧ 0 < x ∧ x < 2147483648 then O ++ [x] else O
theorem QI.push {x : Int} {t : Thg} {j : Nat} (hb : sumT shs T ≤ 65536) (h : QI shs T roots (fun b i => b = x → i < j) S O) (hx : S x = true) (ht : findT shs T 1 x = some t) (hj : j < t.xs.length) :
    QI shs T roots (fun b i => b = x → i < j + 1) S (adds (isR shs t j) (t.xs.getD j 0) O) := by
  have hsub : ∀ y, y ∈ O → y ∈ adds (isR shs t j) (t.xs.getD j 0) O := fun y hy => by
    unfold adds; split
    · exact List.mem_append_left _ hy
    · exact hy
  have key : ∀ y, (S y = true ∨ y ∈ O) → S y = true ∨ y ∈ adds (isR shs t j) (t.xs.getD j 0) O := fun y hy => hy.elim .inl (fun h1 => .inr (hsub y h1))
  refine ⟨h.i1, fun y hy hf => ?_, fun r hr hf => key r (h.i3 r hr hf), fun a ha u hu i hi hE hr hf => ?_⟩
  · unfold adds at hy
    split at hy
    · rename_i hc
      rcases List.mem_append.1 hy with h1 | h1
      · exact h.i2 y h1 hf
      · simp only [List.mem_singleton] at h1
        subst h1
        exact .step (h.i1 x hx) ht hj hc.1 hf
    · exact h.i2 y hy hf
  · by_cases e : a = x ∧ i = j
    · obtain ⟨rfl, rfl⟩ := e
      rw [ht] at hu; injection hu with hu; subst hu
      obtain ⟨v, hv⟩ := Option.isSome_iff_exists.1 hf
      obtain ⟨h1, h2, _⟩ := find_ge T _ _ v hv
      have h3 := tsz_pos shs v
      right
      unfold adds
      rw [if_pos ⟨hr, by omega, by omega⟩]
      simp
    · exact key _ (h.i4 a ha u hu i hi (fun e2 => by have := hE e2; have : i ≠ j := fun e3 => e ⟨e2, e3⟩; omega) hr hf)
theorem QI.full {x : Int} {t : Thg} {j : Nat} (h : QI shs T roots (fun b i => b = x → i < j) S O) (ht : findT shs T 1 x = some t) (hj : t.xs.length ≤ j) : QI shs T roots (fun _ _ => True) S O :=
  ⟨h.i1, h.i2, h.i3, fun a ha u hu i hi _ hr hf => h.i4 a ha u hu i hi (fun e => by subst e; rw [ht] at hu; injection hu with hu; subst hu; omega) hr hf⟩
theorem QI.end_ (h : QI shs T roots (fun _ _ => True) S []) : ∀ x, S x = true ↔ Rch shs T roots x := by
  intro x
  refine ⟨h.i1 x, fun hx => ?_⟩
  induction hx with
  | root h1 h2 => rcases h.i3 _ h1 h2 with h3 | h3
                  · exact h3
                  · cases h3
  | step _ h2 h3 h4 h5 ih => rcases h.i4 _ ih _ h2 _ h3 trivial h4 h5 with h6 | h6
                             · exact h6
                             · cases h6
end
theorem adrs_at (shs : List S65) : ∀ (T : List Thg) (b i : Nat), i < T.length → (adrs shs T b)[i]? = some ((b + sumT shs (T.take i) : Nat) : Int)
  | [], _, _, h => by simp at h
  | t :: T, b, 0, h => by simp [adrs, sumT]
  | t :: T, b, i + 1, h => by
    have h3 : sumT shs ((t :: T).take (i + 1)) = tsz shs t + sumT shs (T.take i) := by unfold sumT; simp
    unfold adrs
    rw [List.getElem?_cons_succ, adrs_at shs T _ i (by simpa using h), h3, Nat.add_assoc]
def seenL (shs : List S65) (T : List Thg) (S : Int → Bool) : List Bool := (adrs shs T 1).map S
theorem seen_len (shs : List S65) (T : List Thg) (S : Int → Bool) : (seenL shs T S).length = T.length := by unfold seenL; rw [List.length_map, adrs_len]
theorem seen_at (shs : List S65) (T : List Thg) (S : Int → Bool) {i : Nat} (h : i < T.length) : (seenL shs T S).getD i false = S ((1 + sumT shs (T.take i) : Nat) : Int) := by
  unfold seenL
  rw [List.getD_eq_getElem?_getD, List.getElem?_map, adrs_at shs T 1 i h]; rfl
theorem seen_set (shs : List S65) (T : List Thg) (S : Int → Bool) {i : Nat} (h : i < T.length) : (seenL shs T S).set i true = seenL shs T (ins S ((1 + sumT shs (T.take i) : Nat) : Int)) := by
  apply List.ext_getElem?
  intro j
  rw [List.getElem?_set]
  unfold seenL
  rw [List.getElem?_map, List.getElem?_map, List.length_map, adrs_len]
  by_cases hj : j < T.length
  · rw [adrs_at shs T 1 j hj]
    by_cases e : i = j
    · subst e; rw [if_pos rfl, if_pos h]; simp [ins_self]
    · rw [if_neg e]
      have hne : ((1 + sumT shs (T.take j) : Nat) : Int) ≠ ((1 + sumT shs (T.take i) : Nat) : Int) := by
        rcases Nat.lt_or_gt_of_ne e with h1 | h1
        · have := sum_mono shs (T := T) h1 (by omega); omega
        · have := sum_mono shs (T := T) h1 (by omega); omega
      rw [Option.map_some, Option.map_some, ins_ne hne]
  · rw [if_neg (by omega), List.getElem?_eq_none (by rw [adrs_len]; omega)]
    rfl
theorem seen_none (shs : List S65) (T : List Thg) : seenL shs T (fun _ => false) = List.replicate T.length false := by
  apply List.ext_getElem?
  intro j
  unfold seenL
  rw [List.getElem?_map]
  by_cases hj : j < T.length
  · rw [adrs_at shs T 1 j hj, List.getElem?_replicate, if_pos hj]; rfl
  · rw [List.getElem?_eq_none (by rw [adrs_len]; omega), List.getElem?_eq_none (by simp; omega)]; rfl
theorem cnt_ins {shs : List S65} {T : List Thg} {S : Int → Bool} {x : Int} (hf : (findT shs T 1 x).isSome = true) (hS : S x = false) : cnt shs T (ins S x) + 1 ≤ cnt shs T S :=
  count_ins hS (adrs shs T 1) ((find_adrs T 1 x).1 hf)
theorem cnt_le (shs : List S65) (T : List Thg) (S : Int → Bool) : cnt shs T S ≤ T.length := by
  unfold cnt
  have := List.countP_le_length (p := fun x => !S x) (l := adrs shs T 1)
  rw [adrs_len] at this
  exact this
end Go.Proofs.Ytibhjlmffgabgaa.PAll
