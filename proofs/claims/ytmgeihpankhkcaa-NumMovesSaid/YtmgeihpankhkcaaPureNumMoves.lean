/- For every pair of int64 numbers: to the left by n places is times 2^n; to the left and back loses just what went out; a place more is a place again. No condition. -/
import Derived.Test.YtmgeihpankhkcaaPNumMovesx2
import Derived.Test.YtmgeihpankhkcaaNumNumMoves
namespace Go.Proofs.Ytmgeihpankhkcaa.Pure
open Go.RowKit Go.Proofs.Ytmgeihpankhkcaa.PNumMoves Go.Proofs.YtmgeihpankhkcaaW.PrintWords Go.Proofs.YtmgeihpankhkcaaW.PrintLast Go.Proofs.Ytmgeihpankhkcaa.Plain

theorem low_some (a : Int) (m : Nat) (hm : 1 ≤ m) (hm' : m ≤ 64) : regletlaw01_low.f a (m : Int) = some (if m = 64 then a else a % 2 ^ m) := by
  unfold regletlaw01_low.f
  by_cases h : m = 64
  · rw [if_pos (by omega), if_pos h]
  · rw [if_neg (by omega), if_neg h, if_pos (by omega), shl_at .i64 1 _ (by show (m : Int) ≤ 64; omega), wrapi64_sg, Int.one_mul, Int.toNat_natCast]
    have e : wrap64 (sg 64 (2 ^ m) - 1) = 2 ^ m - 1 := by
      rw [wrap64_sg]
      have hp : (2 : Int) ^ m ≤ 2 ^ 63 := ple (by omega)
      have hp' := pow_pos' m
      rw [sg_congr (n := 64) (x := sg 64 (2 ^ m) - 1) (y := 2 ^ m - 1) (by rw [Int.sub_emod, sg_mod, ← Int.sub_emod])]
      exact sg_id (by decide) (by omega) (by omega)
    rw [e, and_low a m (by omega)]

theorem NumMoves : regletlaw01_NumMoves.Pure := by
  intro a b ha hb
  refine ⟨1, ?_⟩
  have hA := wf64 ha
  unfold regletlaw01_NumMoves.f
  rw [holds_some 0]
  simp only [Option.bind_some, if_true, and_63, and_one]
  obtain ⟨n, hn⟩ : ∃ n : Nat, b % 64 = n := ⟨(b % 64).toNat, by omega⟩
  rw [hn]
  have hnlt : n < 64 := by omega
  by_cases h63 : n = 63
  · subst h63
    rw [if_pos (by decide), long_shl 0, Option.bind_some, long_ushr 0, Option.bind_some]
    congr 1
    rw [beq_iff_eq, sg_mod]
    have e : (((63 : Nat) : Int) % 64).toNat = 63 := by decide
    rw [e, left_back a 63 1 (by decide)]
    exact sg_id (by decide) (by omega) (by omega)
  · rw [if_neg (by omega), long_shl 0, Option.bind_some, if_pos (by omega)]
    have en : ((n : Int) % 64).toNat = n := by omega
    have en1 : (((n + 1 : Nat) : Int) % 64).toNat = n + 1 := by omega
    have ew : wrap64 ((n : Int) + 1) = ((n + 1 : Nat) : Int) := wrap_succ n (by omega)
    have ew2 : wrap64 (64 - (n : Int)) = ((64 - n : Nat) : Int) := by unfold wrap64; omega
    have ew3 : wrap64 ((n : Int) + 64) = ((n + 64 : Nat) : Int) := by unfold wrap64; omega
    have en3 : (((n + 64 : Nat) : Int) % 64).toNat = n := by omega
    have es : shl .i64 1 (n : Int) = 2 ^ n := by
      rw [shl_at .i64 1 _ (by show (n : Int) ≤ 64; omega), wrapi64_sg, Int.one_mul, Int.toNat_natCast]
      have hp : (2 : Int) ^ n ≤ 2 ^ 62 := ple (by omega)
      have hp' := pow_pos' n
      exact sg_id (by decide) (by omega) (by omega)
    rw [en, es, if_pos (wrap64_sg _).symm, long_ushr 0, Option.bind_some, ew2, low_some a (64 - n) (by omega) (by omega), Option.bind_some, en, sg_mod, left_back a n (64 - n) (by omega)]
    rw [if_pos (by
      by_cases h0 : 64 - n = 64
      · rw [if_pos h0, h0, sg_congr (n := 64) (x := a % 2 ^ 64) (y := a) (Int.emod_emod_of_dvd _ (Int.dvd_refl _))]
        exact sg_id (by decide) (by omega) (by omega)
      · rw [if_neg h0]
        have hp : (2 : Int) ^ (64 - n) ≤ 2 ^ 63 := ple (by omega)
        have h1 := Int.emod_nonneg a (b := 2 ^ (64 - n)) (by have := pow_pos' (64 - n); omega)
        have h2 := Int.emod_lt_of_pos a (pow_pos' (64 - n))
        exact sg_id (by decide) (by omega) (by omega))]
    rw [long_shl 0, Option.bind_some, ew, long_shl 0, Option.bind_some, en1]
    rw [if_pos (by
      refine sg_congr ?_
      rw [Int.mul_emod, sg_mod, ← Int.mul_emod, Int.mul_assoc, ← Int.pow_add]; rfl)]
    rw [long_shr 0, Option.bind_some, long_shr 0, Option.bind_some, long_shr 0, Option.bind_some, en, en1]
    rw [if_pos (by rw [Int.ediv_ediv_of_nonneg (by have := pow_pos' n; omega), ← Int.pow_add]; rfl)]
    rw [ew3, long_shl 0, Option.bind_some, en3]
    simp

end Go.Proofs.Ytmgeihpankhkcaa.Pure
