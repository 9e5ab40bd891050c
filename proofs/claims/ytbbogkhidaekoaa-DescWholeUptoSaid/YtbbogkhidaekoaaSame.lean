/-
  Texts compared one by one; how many parameters a descriptor has.
-/
import Derived.Test.YtbbogkhidaekoaaEvalR
namespace Go.Proofs.Ytbbogkhidaekoaa.PAll
open Go.RowKit Go.Proofs.YtbbogkhidaekoaaW.PrintWords

theorem same_l0 (x y : List ByteArray) (hl : x.length = y.length) (hx : x.length ≤ 1000000) (d : Nat) : ∀ (i k : Nat), i + d = x.length → d < k →
    regletref02_Same.l0 k x y i = some (decide (x.drop i = y.drop i)) := by
  induction d with
  | zero =>
    intro i k hi hk
    obtain ⟨k, rfl⟩ : ∃ m, k = m + 1 := ⟨k - 1, by omega⟩
    simp only [regletref02_Same.l0]
    rw [if_neg (by omega), List.drop_eq_nil_of_le (by omega), List.drop_eq_nil_of_le (by omega)]; simp
  | succ d ih =>
    intro i k hi hk
    obtain ⟨k, rfl⟩ : ∃ m, k = m + 1 := ⟨k - 1, by omega⟩
    have hix : i < x.length := by omega
    have hiy : i < y.length := by omega
    have ex : rdOf ByteArray.empty x (i : Int) = x[i] := by unfold rdOf; simp [List.getD_eq_getElem?_getD, hix]
    have ey : rdOf ByteArray.empty y (i : Int) = y[i] := by unfold rdOf; simp [List.getD_eq_getElem?_getD, hiy]
    simp only [regletref02_Same.l0]
    rw [if_pos (by omega), if_pos (by omega), if_pos (by omega), ex, ey, wnat1 i (by omega), ih (i + 1) k (by omega) (by omega), List.drop_eq_getElem_cons hix, List.drop_eq_getElem_cons hiy, toList_data, toList_data]
    by_cases h : x[i] = y[i]
    · rw [if_pos (by rw [h]), h]; simp only [List.cons.injEq, true_and]
    · rw [if_neg (fun e => h (ba_ext e)), decide_eq_false (fun e => h (List.cons.inj e).1)]

theorem same_some (x y : List ByteArray) (hx : x.length ≤ 1000000) (k : Nat) (hk : x.length < k) : regletref02_Same.f k x y = some (decide (x = y)) := by
  unfold regletref02_Same.f
  by_cases h : (x.length : Int) = (y.length : Int)
  · rw [if_pos h]; exact same_l0 x y (by omega) hx x.length 0 k (by omega) (by omega)
  · rw [if_neg h, decide_eq_false (fun e => h (by rw [e]))]

theorem methL_len (n : Nat) : ∀ (l : List UInt8) (acc a : List (List UInt8)) (r : List UInt8), acc.length ≤ 20 → methL n l acc = some (a, r) → a.length ≤ 20 := by
  induction n with
  | zero => intro l acc a r ha h; cases h
  | succ n ih =>
    intro l acc a r ha h
    cases l with
    | nil => cases h
    | cons c t =>
      rw [methL_cons] at h
      by_cases hc : c = 41
      · rw [if_pos hc] at h
        by_cases h2 : t = [86] ∨ typeL t = true
        · rw [if_pos h2] at h
          obtain ⟨rfl, _⟩ := Prod.mk.inj (Option.some.inj h)
          exact ha
        · rw [if_neg h2] at h; cases h
      · rw [if_neg hc] at h
        by_cases h2 : takeL (c :: t) = 0 ∨ acc.length = 20
        · rw [if_pos h2] at h; cases h
        · rw [if_neg h2] at h
          have : acc.length ≠ 20 := fun e => h2 (.inr e)
          exact ih _ _ a r (by simp; omega) h

theorem methAll_len (l : List UInt8) : (mout (methAll l)).1.length ≤ 20 := by
  cases h : methAll l with
  | none => exact Nat.zero_le _
  | some p =>
    obtain ⟨a, r⟩ := p
    cases l with
    | nil => cases h
    | cons c t =>
      have h' : (if c = 40 then methL (t.length + 1) t [] else none) = some (a, r) := h
      by_cases hc : c = 40
      · rw [if_pos hc] at h'
        have := methL_len _ _ _ _ _ (Nat.zero_le _) h'
        simpa [mout] using this
      · rw [if_neg hc] at h'; cases h'

end Go.Proofs.Ytbbogkhidaekoaa.PAll
