/- For all int64 numbers a, b, n: and, or and xor go bit by bit; shifts go by their lowest bits alone. No condition. -/
import Derived.Test.YtmgeihpankhkcaaPNumBitsx2
import Derived.Test.YtmgeihpankhkcaaNumNumBits
namespace Go.Proofs.Ytmgeihpankhkcaa.Pure
open Go.RowKit Go.Proofs.Ytmgeihpankhkcaa.PNumBits Go.Proofs.YtmgeihpankhkcaaW.PrintWords Go.Proofs.YtmgeihpankhkcaaW.PrintLast Go.Proofs.Ytmgeihpankhkcaa.Plain

theorem shr_bit (x : Int) (i : Nat) (hi : i < 64) : Go.bits .and .i64 (shr .i64 x (i : Int)) 1 = bitAt x i := by
  rw [and_one, shr_at .i64 x _ (by show (i : Int) ≤ 64; omega), Int.toNat_natCast]; rfl

theorem shifts (k : Nat) (a n : Int) (code : Int) (h : code = 121 ∨ code = 123 ∨ code = 125) : ∃ r, num_Long.f (k + 1) code a n = some r ∧ num_Long.f (k + 1) code a (Go.bits .and .i64 n 63) = some r := by
  have e : n % 64 % 64 = n % 64 := by omega
  rcases h with rfl | rfl | rfl
  · exact ⟨_, long_shl _ _ _, by rw [long_shl, and_63, e]⟩
  · exact ⟨_, long_shr _ _ _, by rw [long_shr, and_63, e]⟩
  · exact ⟨_, long_ushr _ _ _, by rw [long_ushr, and_63, e]⟩

theorem shifts32 (k : Nat) (a n : Int) (code : Int) (h : code = 120 ∨ code = 122 ∨ code = 124) : ∃ r, num_Int.f (k + 1) code a n = some r ∧ num_Int.f (k + 1) code a (Go.bits .and .i32 n 31) = some r := by
  have e : n % 32 % 32 = n % 32 := by omega
  rcases h with rfl | rfl | rfl
  · exact ⟨_, int_shl _ _ _, by rw [int_shl, and_i31, e]⟩
  · exact ⟨_, int_shr _ _ _, by rw [int_shr, and_i31, e]⟩
  · exact ⟨_, int_ushr _ _ _, by rw [int_ushr, and_i31, e]⟩

theorem bits_l1 (a n : Int) (d : Nat) : ∀ (k i : Nat), i + d = 3 → d < k → regletlaw01_NumBits.l1 (k + 1) a n [121, 123, 125] 3 i = some true := by
  induction d with
  | zero =>
    intro k i hi hk
    simp only [regletlaw01_NumBits.l1]
    rw [if_neg (by omega)]
  | succ d ih =>
    intro k i hi hk
    obtain ⟨k, rfl⟩ : ∃ m, k = m + 1 := ⟨k - 1, by omega⟩
    have hc : rd [121, 123, 125] (i : Int) = 121 ∨ rd [121, 123, 125] (i : Int) = 123 ∨ rd [121, 123, 125] (i : Int) = 125 := by
      rcases (show i = 0 ∨ i = 1 ∨ i = 2 by omega) with rfl | rfl | rfl <;> decide
    have hr := ih k (i + 1) (by omega) (by omega)
    generalize hcode : rd [121, 123, 125] (i : Int) = code at hc
    obtain ⟨r, hr1, hr2⟩ := shifts k a n code hc
    obtain ⟨s, hs1, hs2⟩ := shifts32 k (wrap32 a) (wrap32 n) (wrap64 (code - 1)) (by unfold wrap64; omega)
    simp only [regletlaw01_NumBits.l1, hcode]
    rw [if_pos (by omega), if_pos (by omega), if_pos (by simp; omega), hr1, Option.bind_some, hr2, Option.bind_some, if_pos rfl, hs1, Option.bind_some, hs2, Option.bind_some, if_pos rfl, wrap_succ i (by omega)]
    exact hr

theorem bits_l0 (a b n : Int) (d : Nat) : ∀ (k i : Nat), i + d = 64 → d + 10 < k → regletlaw01_NumBits.l0 k a b n (Go.bits .and .i64 a b) (Go.bits .or .i64 a b) (Go.bits .xor .i64 a b) i = some true := by
  induction d with
  | zero =>
    intro k i hi hk
    obtain ⟨k, rfl⟩ : ∃ m, k = m + 1 := ⟨k - 1, by omega⟩
    obtain ⟨k, rfl⟩ : ∃ m, k = m + 1 := ⟨k - 1, by omega⟩
    simp only [regletlaw01_NumBits.l0]
    rw [if_neg (by omega), Option.bind_some]
    exact bits_l1 a n 3 k 0 (by omega) (by omega)
  | succ d ih =>
    intro k i hi hk
    obtain ⟨k, rfl⟩ : ∃ m, k = m + 1 := ⟨k - 1, by omega⟩
    have h64 : i < 64 := by omega
    simp only [regletlaw01_NumBits.l0]
    rw [if_pos (by omega), if_pos (by omega), shr_bit _ i h64, shr_bit _ i h64, shr_bit _ i h64, shr_bit _ i h64, shr_bit _ i h64]
    rw [bit_and .i64 a b h64, bit_or .i64 a b h64, bit_xor .i64 a b h64, and_one, wrap_succ i (by omega)]
    have hr := ih k (i + 1) (by omega) (by omega)
    rcases bit_01 a i with h | h <;> rcases bit_01 b i with h' | h' <;> rw [h, h'] <;>
      (rw [if_pos (by decide +kernel), if_pos (by decide +kernel), if_pos (by decide +kernel)]; exact hr)

theorem NumBits : regletlaw01_NumBits.Pure := by
  intro a b n _ _ _
  refine ⟨100, ?_⟩
  unfold regletlaw01_NumBits.f
  rw [holds_some 99, Option.bind_some, if_pos rfl, long_and 99, Option.bind_some, long_or 99, Option.bind_some, long_xor 99, Option.bind_some]
  exact bits_l0 a b n 64 100 0 (by omega) (by omega)

end Go.Proofs.Ytmgeihpankhkcaa.Pure
