/- For all int64 numbers a, b: a quotient times the divisor and the rest is the number; the rest is nearer to 0 than the divisor, and has the number's sign; so for ints. No condition. -/
import Derived.Test.YtmgeihpankhkcaaWalkParts
namespace Go.Proofs.Ytmgeihpankhkcaa.PAll
open Go.RowKit Go.Proofs.YtmgeihpankhkcaaW.PrintWords Go.Proofs.YtmgeihpankhkcaaW.PrintLast Go.Proofs.Ytmgeihpankhkcaa.Plain

/-- The rest's size and sign. -/
theorem tmod_sign (a b : Int) (hb : b ≠ 0) : (Int.tmod a b).natAbs < b.natAbs ∧ (0 < Int.tmod a b → 0 < a) ∧ (Int.tmod a b < 0 → a < 0) := by
  rw [tmod_pos]
  split
  · have h1 := Int.emod_nonneg a hb
    have h2 := Int.emod_lt a hb
    refine ⟨by omega, fun h => ?_, by omega⟩
    by_cases h0 : a = 0
    · rw [h0] at h; simp at h
    · omega
  · have h1 := Int.emod_nonneg (-a) hb
    have h2 := Int.emod_lt (-a) hb
    exact ⟨by omega, by omega, by omega⟩

/-- Quotient and rest of 64 bits. -/
theorem long_parts (a b : Int) (ha : -9223372036854775808 ≤ a ∧ a ≤ 9223372036854775807) (hb : b ≠ 0) :
    ∃ q r, num_Long.f 1 109 a b = some q ∧ num_Long.f 1 113 a b = some r ∧ wrap64 (wrap64 (q * b) + r) = a ∧ r.natAbs < b.natAbs ∧ (0 < r → 0 < a) ∧ (r < 0 → a < 0) := by
  rw [long_div 0, long_rem 0, num_divided_some false a b ha.1 ha.2, num_divided_some true a b ha.1 ha.2, if_neg hb, if_neg hb]
  by_cases h : b = -1
  · rw [if_pos h, if_pos h]
    refine ⟨_, _, rfl, rfl, ?_, by subst h; simp, by simp, by simp⟩
    subst h
    simp only [Bool.false_eq_true, if_false, if_true]
    unfold wrap64; omega
  · rw [if_neg h, if_neg h]
    simp only [Bool.false_eq_true, if_false, if_true]
    refine ⟨_, _, rfl, rfl, ?_, tmod_sign a b hb⟩
    have e := Int.mul_tdiv_add_tmod a b
    rw [Int.mul_comm] at e
    unfold wrap64; omega

theorem int_parts (a b : Int) (ha : -2147483648 ≤ a ∧ a ≤ 2147483647) (hb : -2147483648 ≤ b ∧ b ≤ 2147483647) :
    ∃ c d, num_Int.f 1 108 a b = some c ∧ num_Int.f 1 112 a b = some d ∧ (b ≠ 0 → wrap32 (wrap32 (c * b) + d) = a) := by
  have ea : wrap64 a = a := by unfold wrap64; omega
  have eb : wrap64 b = b := by unfold wrap64; omega
  rw [int_div 0, int_rem 0, ea, eb, num_divided_some false a b (by omega) (by omega), num_divided_some true a b (by omega) (by omega), Option.bind_some, Option.bind_some]
  by_cases h0 : b = 0
  · exact ⟨_, _, rfl, rfl, fun h => absurd h0 h⟩
  · refine ⟨_, _, rfl, rfl, fun _ => ?_⟩
    rw [if_neg h0, if_neg h0]
    by_cases h : b = -1
    · rw [if_pos h, if_pos h]
      subst h
      simp only [Bool.false_eq_true, if_false, if_true]
      unfold wrap64 wrap32; omega
    · rw [if_neg h, if_neg h]
      simp only [Bool.false_eq_true, if_false, if_true]
      have e := Int.mul_tdiv_add_tmod a b
      have l := tdiv_lim a b 2147483648 (by decide) h (by omega) (by omega) h0
      have m := tmod_lim a b 2147483648 h0 (by omega) (by omega)
      have e1 : wrap32 (Int.tdiv a b) = Int.tdiv a b := by unfold wrap32; omega
      have e2 : wrap32 (Int.tmod a b) = Int.tmod a b := by unfold wrap32; omega
      rw [e1, e2]
      rw [Int.mul_comm] at e
      unfold wrap32; omega

theorem numParts_walk (a b : Int) (w : World) (wa : (Lit.int .i64 a).wf = true) (wb : (Lit.int .i64 b).wf = true) :
    Calls Try.prog 5 #[.int .i64 a, .int .i64 b] w fun e w' => e = .returned (.bool true) ∧ Below w.heap.size w w' := by
  have hA := wf64 wa
  have hB := wf64 wb
  have wr : ∀ x : Int, -2147483648 ≤ wrap32 x ∧ wrap32 x ≤ 2147483647 := fun x => by unfold wrap32; omega
  obtain ⟨c, d, hc, hd, hcd⟩ := int_parts (wrap32 a) (wrap32 b) (wr a) (wr b)
  by_cases h0 : b = 0
  · have hq : num_Long.f 1 109 a b = some 0 := by rw [long_div 0, num_divided_some false a b hA.1 hA.2, if_pos h0]
    have hr : num_Long.f 1 113 a b = some 0 := by rw [long_rem 0, num_divided_some true a b hA.1 hA.2, if_pos h0]
    exact (parts_zero a b 0 0 c d w hq hr hc hd (by simp [h0]) rfl rfl).mono fun e w' h => ⟨h.1, h.2.below⟩
  · obtain ⟨q, r, hq, hr, hqr, hs, hp, hn⟩ := long_parts a b hA h0
    have f0 : (b == 0) = false := by simpa using h0
    have g : (wrap64 (wrap64 (q * b) + r) != a) = false := by simp [hqr]
    have T : ∀ {p : Prop} [Decidable p], p → decide p = true := fun h => decide_eq_true h
    have F : ∀ {p : Prop} [Decidable p], ¬ p → decide p = false := fun h => decide_eq_false h
    have fin : ∀ {P : Ending → World → Prop}, Calls Try.prog 5 #[.int .i64 a, .int .i64 b] w (fun e w' => e = .returned (.bool true) ∧ Drawn0 w w') → (∀ e w', e = .returned (.bool true) ∧ Below w.heap.size w w' → P e w') → Calls Try.prog 5 #[.int .i64 a, .int .i64 b] w P :=
      fun h k => h.mono fun e w' z => k e w' ⟨z.1, z.2.below⟩
    refine fin ?_ (fun e w' h => h)
    have ern : wrap64 (-r) = -r := by unfold wrap64; omega
    by_cases hl : wrap32 b = 0
    · have l0 : (wrap32 b == 0) = true := by simpa using hl
      by_cases hm : b = -9223372036854775808
      · have fm : (b == (-9223372036854775808)) = true := by simpa using hm
        rcases (show r = 0 ∨ r < 0 ∨ 0 < r by omega) with h | h | h
        · exact parts_S1z0 a b q r c d w hq hr hc hd f0 fm g (by simp [h]) l0
        · exact parts_S1n0 a b q r c d w hq hr hc hd f0 fm g (by simp; omega) (T (hn h)) (T h) l0
        · exact parts_S1p0 a b q r c d w hq hr hc hd f0 fm g (by simp; omega) (F (by have := hp h; omega)) (F (by omega)) l0
      · have fm : (b == (-9223372036854775808)) = false := by simpa using hm
        rcases (show r = 0 ∨ r < 0 ∨ 0 < r by omega) with h | h | h <;> rcases (show b < 0 ∨ 0 < b by omega) with k | k
        · exact parts_S5z0 a b q r c d w hq hr hc hd f0 fm (F (by omega)) (T (by omega)) (T k) (F (by omega)) (T (by rw [ern]; omega)) g (by simp [h]) l0
        · exact parts_S4z0 a b q r c d w hq hr hc hd f0 fm (F (by omega)) (T (by omega)) (F (by omega)) (T k) (T (by omega)) g (by simp [h]) l0
        · exact parts_S2n0 a b q r c d w hq hr hc hd f0 fm (T h) (F (by omega)) (T k) (F (by omega)) (T (by omega)) g (by simp; omega) (T (hn h)) l0
        · exact parts_S3n0 a b q r c d w hq hr hc hd f0 fm (T h) (F (by omega)) (F (by omega)) (T k) (T (by rw [ern]; omega)) g (by simp; omega) (T (hn h)) l0
        · exact parts_S5p0 a b q r c d w hq hr hc hd f0 fm (F (by omega)) (T (by omega)) (T k) (F (by omega)) (T (by rw [ern]; omega)) g (by simp; omega) (F (by have := hp h; omega)) l0
        · exact parts_S4p0 a b q r c d w hq hr hc hd f0 fm (F (by omega)) (T (by omega)) (F (by omega)) (T k) (T (by omega)) g (by simp; omega) (F (by have := hp h; omega)) l0
    · have l0 : (wrap32 b == 0) = false := by simpa using hl
      have l1 : (wrap32 (wrap32 (c * wrap32 b) + d) == wrap32 a) = true := by simpa using hcd hl
      by_cases hm : b = -9223372036854775808
      · have fm : (b == (-9223372036854775808)) = true := by simpa using hm
        rcases (show r = 0 ∨ r < 0 ∨ 0 < r by omega) with h | h | h
        · exact parts_S1z1 a b q r c d w hq hr hc hd f0 fm g (by simp [h]) l0 l1
        · exact parts_S1n1 a b q r c d w hq hr hc hd f0 fm g (by simp; omega) (T (hn h)) (T h) l0 l1
        · exact parts_S1p1 a b q r c d w hq hr hc hd f0 fm g (by simp; omega) (F (by have := hp h; omega)) (F (by omega)) l0 l1
      · have fm : (b == (-9223372036854775808)) = false := by simpa using hm
        rcases (show r = 0 ∨ r < 0 ∨ 0 < r by omega) with h | h | h <;> rcases (show b < 0 ∨ 0 < b by omega) with k | k
        · exact parts_S5z1 a b q r c d w hq hr hc hd f0 fm (F (by omega)) (T (by omega)) (T k) (F (by omega)) (T (by rw [ern]; omega)) g (by simp [h]) l0 l1
        · exact parts_S4z1 a b q r c d w hq hr hc hd f0 fm (F (by omega)) (T (by omega)) (F (by omega)) (T k) (T (by omega)) g (by simp [h]) l0 l1
        · exact parts_S2n1 a b q r c d w hq hr hc hd f0 fm (T h) (F (by omega)) (T k) (F (by omega)) (T (by omega)) g (by simp; omega) (T (hn h)) l0 l1
        · exact parts_S3n1 a b q r c d w hq hr hc hd f0 fm (T h) (F (by omega)) (F (by omega)) (T k) (T (by rw [ern]; omega)) g (by simp; omega) (T (hn h)) l0 l1
        · exact parts_S5p1 a b q r c d w hq hr hc hd f0 fm (F (by omega)) (T (by omega)) (T k) (F (by omega)) (T (by rw [ern]; omega)) g (by simp; omega) (F (by have := hp h; omega)) l0 l1
        · exact parts_S4p1 a b q r c d w hq hr hc hd f0 fm (F (by omega)) (T (by omega)) (F (by omega)) (T k) (T (by omega)) g (by simp; omega) (F (by have := hp h; omega)) l0 l1

end Go.Proofs.Ytmgeihpankhkcaa.PAll
