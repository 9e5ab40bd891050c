/- For all codes and all pairs of words: what an instruction of one or of two words makes, the comparison, and the kinds are told as the document has them. No condition. -/
import Derived.Test.YtmgeihpankhkcaaPAllx8
import Derived.Test.YtmgeihpankhkcaaMakeAll
namespace Go.Proofs.Ytmgeihpankhkcaa.Pure
open Go.RowKit Go.Proofs.Ytmgeihpankhkcaa.PAll Go.Proofs.YtmgeihpankhkcaaW.PrintWords Go.Proofs.YtmgeihpankhkcaaW.PrintLast Go.Proofs.Ytmgeihpankhkcaa.Plain

theorem kinds_same (code : Int) : ∃ r, num_Kinds.f 10 code = some r ∧ regletref01_Kinds.f 10 code = some r := by
  by_cases h : code < 96 ∨ 148 < code
  · refine ⟨(0, 0, 0), ?_, ?_⟩
    · unfold num_Kinds.f
      simp only [num_Kinds.j0, num_Kinds.j1, num_Kinds.j2, num_Kinds.j3]
      repeat (first | rw [if_neg (by omega)] | rw [if_neg (by simp; omega)])
    · unfold regletref01_Kinds.f
      simp only [regletref01_Kinds.j0, regletref01_Kinds.j1, regletref01_Kinds.j2, regletref01_Kinds.j3]
      rcases h with h | h
      · rw [if_neg (by omega), if_neg (by omega)]
        simp only [Bool.false_eq_true, if_false]
        repeat (first | rw [if_neg (by omega)] | rw [if_neg (by simp; omega)])
      · rw [if_pos (by omega), if_neg (by omega), if_pos (by omega)]
        have : decide (code ≤ 131) = false := by simp; omega
        simp only [this, Bool.false_eq_true, if_false]
        repeat (first | rw [if_neg (by omega)] | rw [if_pos (by omega)] | rw [if_neg (by simp; omega)])
  · obtain ⟨n, hn⟩ : ∃ n : Nat, code = 96 + n := ⟨(code - 96).toNat, by omega⟩
    have hlt : n < 53 := by omega
    subst hn
    have : ∀ n : Fin 53, num_Kinds.f 10 (96 + (n.val : Int)) = regletref01_Kinds.f 10 (96 + (n.val : Int)) ∧ (num_Kinds.f 10 (96 + (n.val : Int))).isSome = true := by decide +kernel
    have h := this ⟨n, hlt⟩
    obtain ⟨r, hr⟩ := Option.isSome_iff_exists.1 h.2
    exact ⟨r, hr, h.1 ▸ hr⟩

theorem more_kinds (d : Nat) {code : Int} {r : Int × Int × Int} (h : num_Kinds.f 10 code = some r) : num_Kinds.f (10 + d) code = some r := by
  induction d with
  | zero => exact h
  | succ d ih => exact num_Kinds.mono code (10 + d) r ih
theorem more_rkinds (d : Nat) {code : Int} {r : Int × Int × Int} (h : regletref01_Kinds.f 10 code = some r) : regletref01_Kinds.f (10 + d) code = some r := by
  induction d with
  | zero => exact h
  | succ d ih => exact regletref01_Kinds.mono code (10 + d) r ih

theorem one_same (k : Nat) (hk : 200 < k) (code a : Int) (ha : -9223372036854775808 ≤ a ∧ a ≤ 9223372036854775807) : ∃ r, num_One.f k code a = some r ∧ regletref01_One.f k code a = some r := by
  obtain ⟨m, rfl⟩ : ∃ m, k = m + 1 := ⟨k - 1, by omega⟩
  by_cases h : code ≠ 116 ∧ code ≠ 117 ∧ code ≠ 133 ∧ code ≠ 136 ∧ code ≠ 145 ∧ code ≠ 146 ∧ code ≠ 147
  · refine ⟨0, ?_, ?_⟩
    · unfold num_One.f
      simp only [num_One.j0]
      repeat (first | rw [if_neg (by omega)] | rw [if_neg (by simp; omega)])
    · unfold regletref01_One.f
      simp only [regletref01_One.j0]
      repeat (first | rw [if_neg (by omega)] | rw [if_neg (by simp; omega)])
  · have c32 : regletref01_cut.f a 32 = some (sg 32 a) := cut_some a 32 (by decide) ha.1 ha.2
    have c16 : regletref01_cut.f a 16 = some (sg 16 a) := cut_some a 16 (by decide) ha.1 ha.2
    have c8 : regletref01_cut.f a 8 = some (sg 8 a) := cut_some a 8 (by decide) ha.1 ha.2
    have n32 : regletref01_negative.f (m + 1) a 32 = some (sg 32 (-a)) := negative_some a 32 (m + 1) (by decide) (by omega) ha.1 ha.2
    have n64 : regletref01_negative.f (m + 1) a 64 = some (sg 64 (-a)) := negative_some a 64 (m + 1) (by decide) (by omega) ha.1 ha.2
    rcases (show code = 116 ∨ code = 117 ∨ code = 133 ∨ code = 136 ∨ code = 145 ∨ code = 146 ∨ code = 147 by omega) with rfl | rfl | rfl | rfl | rfl | rfl | rfl
    · refine ⟨_, one_neg32 _ a, ?_⟩
      unfold regletref01_One.f
      rw [if_pos rfl]; rw [n32]; rfl
    · refine ⟨_, one_neg64 _ a, ?_⟩
      unfold regletref01_One.f
      rw [if_neg (by decide), if_pos rfl]; rw [n64]; rfl
    · refine ⟨_, one_133 _ a, ?_⟩
      unfold regletref01_One.f
      simp only [regletref01_One.j0, Int.reduceEq, Int.reduceBEq, if_true, if_false]
      rw [c32]; rfl
    · refine ⟨_, one_136 _ a, ?_⟩
      unfold regletref01_One.f
      simp only [regletref01_One.j0, Int.reduceEq, Int.reduceBEq, if_true, if_false]
      rw [c32]; rfl
    · refine ⟨_, one_145 _ a, ?_⟩
      unfold regletref01_One.f
      simp only [regletref01_One.j0, Int.reduceEq, Int.reduceBEq, if_true, if_false, Bool.false_eq_true]
      rw [c8]
      show some (sg 8 a) = some _
      rw [wrap_i8]; rfl
    · refine ⟨_, one_146 _ a, ?_⟩
      unfold regletref01_One.f
      simp only [regletref01_One.j0, Int.reduceEq, Int.reduceBEq, if_true, if_false, Bool.false_eq_true]
      rw [c16]
      have e : sg 16 a = (a + 32768) % 65536 - 32768 := rfl
      show (if sg 16 a < 0 then some (wrap64 (sg 16 a + 65536)) else some (sg 16 a)) = some _
      rw [e]
      split
      · congr 1; unfold wrap64; omega
      · congr 1; omega
    · refine ⟨_, one_147 _ a, ?_⟩
      unfold regletref01_One.f
      simp only [regletref01_One.j0, Int.reduceEq, Int.reduceBEq, if_true, if_false, Bool.false_eq_true]
      rw [c16]
      show some (sg 16 a) = some _
      rw [wrap_i16]; rfl

theorem two_same (k : Nat) (hk : 600 < k) (code a b : Int) (hc : -9223372036854775808 ≤ code ∧ code ≤ 9223372036854775807) (ha : -9223372036854775808 ≤ a ∧ a ≤ 9223372036854775807) (hb : -9223372036854775808 ≤ b ∧ b ≤ 9223372036854775807) :
    ∃ r, num_Two.f k code a b = some r ∧ regletref01_Two.f k code a b = some r := by
  unfold num_Two.f regletref01_Two.f
  by_cases h : code = 148
  · rw [if_pos h, if_pos h]
    by_cases h1 : a < b
    · rw [if_pos h1, if_pos h1, if_neg (by omega)]; exact ⟨_, rfl, rfl⟩
    · rw [if_neg h1, if_neg h1]
      by_cases h2 : a > b
      · rw [if_pos h2]; exact ⟨_, rfl, rfl⟩
      · rw [if_neg h2]; exact ⟨_, rfl, rfl⟩
  · rw [if_neg h, if_neg h, and_one]
    by_cases h2 : code % 2 = 0
    · rw [if_pos h2, if_pos h2]
      have ca : regletref01_cut.f a 32 = some (sg 32 a) := cut_some a 32 (by decide) ha.1 ha.2
      have cb : regletref01_cut.f b 32 = some (sg 32 b) := cut_some b 32 (by decide) hb.1 hb.2
      rw [ca, cb, wrap32_sg, wrap32_sg]
      simp only [Option.bind_some]
      obtain ⟨r, h1, h2, h3, h4⟩ := make_int k hk code (sg 32 a) (sg 32 b) (sg32_range a) (sg32_range b)
      have er : wrap64 r = r := by unfold wrap64; omega
      rw [h1, h2]
      simp only [Option.bind_some]
      exact ⟨r, by rw [er], rfl⟩
    · rw [if_neg h2, if_neg h2]
      obtain ⟨r, h1, h2⟩ := make_long k hk code a b ha hb
      have e : wrap64 (code - 1) = code - 1 := by unfold wrap64; omega
      rw [e, h1, h2]
      exact ⟨r, rfl, rfl⟩

theorem NumWords : regletlaw01_NumWords.Pure := by
  intro code a b hc ha hb
  obtain ⟨r1, k1, k2⟩ := kinds_same code
  refine ⟨1000 + 1, ?_⟩
  have m1 : num_Kinds.f 1001 code = some r1 := more_kinds 991 k1
  have m2 : regletref01_Kinds.f 1001 code = some r1 := more_rkinds 991 k2
  obtain ⟨r2, t1, t2⟩ := two_same 1001 (by decide) code a b (wf64 hc) (wf64 ha) (wf64 hb)
  obtain ⟨r3, o1, o2⟩ := one_same 1001 (by decide) code a (wf64 ha)
  unfold regletlaw01_NumWords.f
  rw [holds_some 1000, Option.bind_some, if_pos rfl, m1, Option.bind_some, m2, Option.bind_some, t1, Option.bind_some, t2, Option.bind_some, if_pos rfl, o1, Option.bind_some, o2, Option.bind_some, if_pos rfl, if_pos rfl, if_pos rfl]
  simp

end Go.Proofs.Ytmgeihpankhkcaa.Pure
