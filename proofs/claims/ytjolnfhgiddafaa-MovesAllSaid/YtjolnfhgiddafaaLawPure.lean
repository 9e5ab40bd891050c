/-
  What parts, Wrong, holds and Order answer, in plain Lean.
-/
import Derived.Test.YtjolnfhgiddafaaPAllx1
import Derived.Test.YtjolnfhgiddafaaPAllx2
namespace Go.Proofs.Ytjolnfhgiddafaa.PAll
open Go.RowKit Go.Proofs.YtjolnfhgiddafaaW.PrintWords
open Go.Proofs.Ytjolnfhgiddafaa.MapInt Go.Proofs.Ytjolnfhgiddafaa.Moves
set_option linter.unusedVariables false
set_option linter.unusedSimpArgs false
theorem order_ok {ls : List S35} {bs : Int} (hl : ls.length ≤ 1000) (hr : ∀ x ∈ ls, inR x.f0 ∧ inR x.f1) (hb : inR bs) (hok : OkL (ls.map toE) bs) : moves_Order.f ls bs = some ((orderF bs (ls.map toE)).map ofE, 0) := by
  unfold moves_Order.f; rw [if_pos ⟨hl, hr, hb⟩, if_pos hok]
theorem order_no {ls : List S35} {bs : Int} (hl : ls.length ≤ 1000) (hr : ∀ x ∈ ls, inR x.f0 ∧ inR x.f1) (hb : inR bs) (hok : ¬ OkL (ls.map toE) bs) : moves_Order.f ls bs = some ([], 1) := by
  unfold moves_Order.f; rw [if_pos ⟨hl, hr, hb⟩, if_neg hok]
theorem holds_eval : regletlaw18_holds.f = some true := by
  unfold regletlaw18_holds.f
  rw [order_ok (by decide) (by intro x hx; simp at hx; rcases hx with rfl | rfl <;> exact ⟨⟨by decide, by decide⟩, ⟨by decide, by decide⟩⟩) ⟨by decide, by decide⟩ ⟨by decide, by decide⟩]
  rw [order_no (ls := [⟨1, 0⟩, ⟨1, 2⟩]) (by decide) (by intro x hx; simp at hx; rcases hx with rfl | rfl <;> exact ⟨⟨by decide, by decide⟩, ⟨by decide, by decide⟩⟩) ⟨by decide, by decide⟩ (fun h => absurd h.1 (by decide))]
  rfl
theorem rd_map0 (ls : List S35) (i : Nat) (h : i < ls.length) : rd (ls.map (·.f0)) (i : Int) = (rd_T35 ls i).f0 := by
  unfold rd rd_T35; simp [List.getD_eq_getElem?_getD, h]
theorem rd_map1 (ls : List S35) (i : Nat) (h : i < ls.length) : rd (ls.map (·.f1)) (i : Int) = (rd_T35 ls i).f1 := by
  unfold rd rd_T35; simp [List.getD_eq_getElem?_getD, h]
theorem take35 (ls : List S35) (i : Nat) (h : i < ls.length) : ls.take (i + 1) = ls.take i ++ [rd_T35 ls i] := by
  rw [List.take_succ_eq_append_getElem h]
  unfold rd_T35; simp [List.getD_eq_getElem?_getD, h]
theorem parts_l0 (ls : List S35) (hl : ls.length ≤ 1000) : ∀ (d i k : Nat), i + d = ls.length → d < k → regletlaw18_parts.l0 k ((ls.take i).map (·.f0)) ((ls.take i).map (·.f1)) ls (ls.length : Int) (i : Int) = some (ls.map (·.f0), ls.map (·.f1))
  | 0, i, k + 1, hi, hk => by
    obtain rfl : i = ls.length := by omega
    unfold regletlaw18_parts.l0
    rw [if_neg (by omega), List.take_length]
  | d + 1, i, k + 1, hi, hk => by
    have h : i < ls.length := by omega
    unfold regletlaw18_parts.l0
    rw [if_pos (by omega), if_pos (by omega), if_pos (by omega)]
    simp only [Option.bind_some, List.length_map, List.length_take, List.length_singleton]
    rw [if_pos (by omega), if_pos (by omega), w_small _ (by omega) (by omega)]
    have := parts_l0 ls hl d (i + 1) k (by omega) (by omega)
    rw [take35 ls i h, List.map_append, List.map_append] at this
    exact this
theorem parts_eval (ls : List S35) (hl : ls.length ≤ 1000) (k : Nat) (hk : 1000 < k) : regletlaw18_parts.f k ls = some (ls.map (·.f0), ls.map (·.f1)) := by
  have := parts_l0 ls hl ls.length 0 k (by omega) (by omega)
  unfold regletlaw18_parts.f
  simpa using this
theorem key_take (ls : List S35) (j : Nat) (hj : j ≤ ls.length) (x : Int) : x ∈ keys ((ls.map toE).take j) ↔ ∃ i, i < j ∧ (rd_T35 ls i).f0 = x := by
  induction j with
  | zero => simp [keys]
  | succ j ih =>
    rw [takeE ls j (by omega), keys_app, List.mem_append, ih (by omega)]
    constructor
    · rintro (⟨i, h1, h2⟩ | h)
      · exact ⟨i, by omega, h2⟩
      · exact ⟨j, by omega, by have h5 : x = (rd_T35 ls j).f0 := by simpa [keys] using h
                               exact h5.symm⟩
    · rintro ⟨i, h1, h2⟩
      by_cases e : i = j
      · subst e; right; simp [keys, h2]
      · exact .inl ⟨i, by omega, h2⟩
theorem wrong_l (ls : List S35) (bs : Int) (hl : ls.length ≤ 1000) (C : Nat) (hC : ls.length + 3 ≤ C) : ∀ (d i k : Nat), i + d = ls.length → OkL ((ls.map toE).take i) bs → d * C < k → regletref18_Wrong.l0 k (ls.map (·.f0)) (ls.map (·.f1)) bs (i : Int) = some (!decide (OkL (ls.map toE) bs)) := by
  intro d
  induction d with
  | zero =>
    intro i k hi hok hk
    obtain ⟨k, rfl⟩ : ∃ k', k = k' + 1 := ⟨k - 1, by omega⟩
    obtain rfl : i = ls.length := by omega
    unfold regletref18_Wrong.l0
    rw [if_neg (by simp)]
    rw [show (ls.map toE).take ls.length = ls.map toE from by rw [← List.length_map (f := toE)]; exact List.take_length] at hok
    simp [hok]
  | succ d ihd =>
    intro i k hi hok hk
    have hk2 : d * C + C < k := by rw [← Nat.succ_mul]; exact hk
    generalize hM : d * C = M at *
    clear hk
    obtain ⟨k, rfl⟩ : ∃ k', k = k' + 1 := ⟨k - 1, by omega⟩
    have h : i < ls.length := by omega
    have ht := takeE ls i h
    unfold regletref18_Wrong.l0
    rw [if_pos (by simp; omega), if_pos (by omega), rd_map0 ls i h, rd_map1 ls i h]
    have hj : ∀ k, regletref18_Wrong.j1 (k + 1) (ls.map (·.f0)) (ls.map (·.f1)) bs i true = some true := fun k => by unfold regletref18_Wrong.j1; rfl
    obtain ⟨k, rfl⟩ : ∃ k', k = k' + 1 := ⟨k - 1, by omega⟩
    by_cases h1 : (rd_T35 ls i).f0 = bs
    · rw [if_pos h1, hj]
      have := not_okL (bs := bs) (L := ls.map toE) rfl ht (.inr (.inl h1))
      simp [this]
    · rw [if_neg h1, if_pos (by simp; omega)]
      by_cases h2 : (rd_T35 ls i).f1 = bs
      · rw [show ((rd_T35 ls i).f1 == bs) = true by simpa using h2, hj]
        have := not_okL (bs := bs) (L := ls.map toE) rfl ht (.inr (.inr h2))
        simp [this]
      · rw [show ((rd_T35 ls i).f1 == bs) = false by simpa using h2]
        unfold regletref18_Wrong.j1
        rw [if_neg (by simp)]
        have inner : ∀ (e j k : Nat), j + e = i → (∀ j', j' < j → (rd_T35 ls j').f0 ≠ (rd_T35 ls i).f0) → e + M + 1 < k → regletref18_Wrong.l1 k (ls.map (·.f0)) (ls.map (·.f1)) bs (i : Int) (j : Int) = some (!decide (OkL (ls.map toE) bs)) := by
          intro e
          induction e with
          | zero =>
            intro j k hje hn hk'
            obtain ⟨k, rfl⟩ : ∃ k', k = k' + 1 := ⟨k - 1, by omega⟩
            obtain rfl : j = i := by omega
            unfold regletref18_Wrong.l1
            rw [if_neg (by omega), w_small _ (by omega) (by omega)]
            refine ihd (j + 1) k (by omega) ?_ (by omega)
            rw [ht]
            refine okL_snoc hok ?_ h1 h2
            rw [key_take ls j (by omega)]
            rintro ⟨j', q1, q2⟩
            exact hn j' q1 q2
          | succ e ih =>
            intro j k hje hn hk'
            obtain ⟨k, rfl⟩ : ∃ k', k = k' + 1 := ⟨k - 1, by omega⟩
            unfold regletref18_Wrong.l1
            rw [if_pos (by omega), if_pos (by omega), if_pos (by simp; omega), if_pos (by omega), if_pos (by simp; omega), rd_map0 ls j (by omega), rd_map0 ls i h]
            by_cases q : (rd_T35 ls j).f0 = (rd_T35 ls i).f0
            · rw [if_pos q]
              have := not_okL (bs := bs) (L := ls.map toE) rfl ht (.inl ((key_take ls i (by omega) _).2 ⟨j, by omega, q⟩))
              simp [this]
            · rw [if_neg q, w_small _ (by omega) (by omega)]
              refine ih (j + 1) k (by omega) ?_ (by omega)
              intro j' hj'
              by_cases q2 : j' = j
              · subst q2; exact q
              · exact hn j' (by omega)
        exact inner i 0 k (by omega) (by intro j' hj'; omega) (by omega)
theorem wrong_eval (ls : List S35) (bs : Int) (hl : ls.length ≤ 1000) (k : Nat) (hk : 1100000 < k) : regletref18_Wrong.f k (ls.map (·.f0)) (ls.map (·.f1)) bs = some (!decide (OkL (ls.map toE) bs)) :=
  wrong_l ls bs hl (ls.length + 3) (Nat.le_refl _) ls.length 0 k (by omega) ⟨by simp [keys], fun e he => by simp at he⟩ (by have := Nat.mul_le_mul hl (show ls.length + 3 ≤ 1003 by omega); omega)
end Go.Proofs.Ytjolnfhgiddafaa.PAll
