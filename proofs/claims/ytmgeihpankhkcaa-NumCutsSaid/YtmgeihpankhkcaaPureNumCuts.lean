/- For every int64 number: what is cut to fewer bits and widened is the same again; an int widened and cut is itself. No condition. -/
import Derived.Test.YtmgeihpankhkcaaPNumCutsx2
import Derived.Test.YtmgeihpankhkcaaNumNumCuts
namespace Go.Proofs.Ytmgeihpankhkcaa.Pure
open Go.RowKit Go.Proofs.Ytmgeihpankhkcaa.PNumCuts Go.Proofs.YtmgeihpankhkcaaW.PrintWords Go.Proofs.YtmgeihpankhkcaaW.PrintLast Go.Proofs.Ytmgeihpankhkcaa.Plain

/-- One of the five cuts: what it makes, that it stands, and what it keeps. -/
theorem one_cut (k : Nat) (a code : Int) (hc : code = 133 ∨ code = 136 ∨ code = 145 ∨ code = 146 ∨ code = 147) :
    ∃ x, num_One.f (k + 1) code a = some x ∧ num_One.f (k + 1) code x = some x ∧ x % 256 = a % 256 ∧ (code = 145 ∨ IntKind.u16.wrap x = IntKind.u16.wrap a) := by
  rcases hc with rfl | rfl | rfl | rfl | rfl
  · refine ⟨_, one_133 k a, by rw [one_133, sg_sg], ?_⟩
    rw [wrap_u16, wrap_u16, ← wrap32_sg]; unfold wrap32; omega
  · refine ⟨_, one_136 k a, by rw [one_136, sg_sg], ?_⟩
    rw [wrap_u16, wrap_u16, ← wrap32_sg]; unfold wrap32; omega
  · refine ⟨_, one_145 k a, by rw [one_145]; congr 1; rw [wrap_i8, wrap_i8]; omega, ?_⟩
    rw [wrap_i8]; omega
  · refine ⟨_, one_146 k a, by rw [one_146]; congr 1; omega, ?_⟩
    rw [wrap_u16, wrap_u16]; omega
  · refine ⟨_, one_147 k a, by rw [one_147]; congr 1; rw [wrap_i16, wrap_i16]; omega, ?_⟩
    rw [wrap_u16, wrap_u16, wrap_i16]; omega

theorem cuts_l0 (a : Int) (ha : -9223372036854775808 ≤ a ∧ a ≤ 9223372036854775807) (d : Nat) : ∀ (k i : Nat), i + d = 5 → d < k → regletlaw01_NumCuts.l0 (k + 1) a [133, 136, 145, 146, 147] 5 i = some true := by
  induction d with
  | zero =>
    intro k i hi hk
    obtain ⟨k, rfl⟩ : ∃ m, k = m + 1 := ⟨k - 1, by omega⟩
    simp only [regletlaw01_NumCuts.l0]
    rw [if_neg (by omega), one_136 k, Option.bind_some, if_pos (by rw [← wrap32_sg]; unfold wrap64 wrap32; omega), one_146 k, Option.bind_some, if_pos (and_65535 a).symm]
    rw [one_neg64, Option.bind_some, one_neg64, Option.bind_some, if_pos (by rw [← wrap64_sg, ← wrap64_sg]; unfold wrap64; omega)]
    unfold num_Two.f
    rw [if_neg (by decide), if_pos (by decide +kernel), int_sub, Option.bind_some, Option.bind_some, one_neg32, Option.bind_some]
    congr 1
    rw [beq_iff_eq, ← wrap32_sg, ← wrap32_sg]
    unfold wrap64 wrap32; omega
  | succ d ih =>
    intro k i hi hk
    obtain ⟨k, rfl⟩ : ∃ m, k = m + 1 := ⟨k - 1, by omega⟩
    have hc : rd [133, 136, 145, 146, 147] (i : Int) = 133 ∨ rd [133, 136, 145, 146, 147] (i : Int) = 136 ∨ rd [133, 136, 145, 146, 147] (i : Int) = 145 ∨ rd [133, 136, 145, 146, 147] (i : Int) = 146 ∨ rd [133, 136, 145, 146, 147] (i : Int) = 147 := by
      rcases (show i = 0 ∨ i = 1 ∨ i = 2 ∨ i = 3 ∨ i = 4 by omega) with rfl | rfl | rfl | rfl | rfl <;> decide
    have hr := ih k (i + 1) (by omega) (by omega)
    generalize hcode : rd [133, 136, 145, 146, 147] (i : Int) = code at hc
    obtain ⟨x, hx1, hx2, hx3, hx4⟩ := one_cut k a code hc
    simp only [regletlaw01_NumCuts.l0, hcode]
    rw [if_pos (by omega), if_pos (by omega), if_pos (by simp; omega), hx1, Option.bind_some, hx2, Option.bind_some, if_pos rfl, if_pos hx3, wrap_succ i (by omega)]
    by_cases h : code = 145
    · rw [if_pos h]; exact hr
    · rw [if_neg h, if_pos (hx4.resolve_left h)]; exact hr

theorem NumCuts : regletlaw01_NumCuts.Pure := by
  intro a ha
  refine ⟨10, ?_⟩
  unfold regletlaw01_NumCuts.f
  rw [holds_some 9, Option.bind_some, if_pos rfl, Option.bind_some]
  exact cuts_l0 a (wf64 ha) 5 9 0 (by omega) (by omega)

end Go.Proofs.Ytmgeihpankhkcaa.Pure
