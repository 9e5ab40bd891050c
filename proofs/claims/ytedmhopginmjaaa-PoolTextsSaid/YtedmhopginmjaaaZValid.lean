import Derived.Test.YtedmhopginmjaaaZG2
import Derived.Test.YtedmhopginmjaaaZMadeCalls
namespace Go.Proofs.Ytedmhopginmjaaa.PAll
open Go.RowKit Go.Proofs.YtedmhopginmjaaaW.PrintWords
set_option linter.unusedVariables false
set_option linter.unusedSimpArgs false
def namedL (l : List UInt8) : Bool := nmL false l || (typeL l && decide (l.head? = some 91))
theorem named_eval (l : List UInt8) (hl : l.length ≤ big) (k : Nat) (hk : 2 * l.length + 11 ≤ k) : pool_Named.f k (ba l) = some (namedL l) := by
  unfold pool_Named.f namedL
  rw [name_eval l false hl, Option.bind_some]
  by_cases h1 : nmL false l = true
  · rw [if_pos h1, h1]; rfl
  · rw [if_neg h1, show nmL false l = false by simpa using h1, Bool.false_or, ba_toList]
    cases l with
    | nil => rw [if_pos rfl]; rfl
    | cons c t =>
      rw [if_neg (by simp), if_pos (by rw [ba_size]; simp)]
      have hb : bt (ba (c :: t)) 0 = (c.toNat : Int) := ba_bt (c :: t) 0 (by simp)
      rw [hb]
      by_cases hc : c = 91
      · rw [if_pos ((u91 c).2 hc), type_eval _ hl k hk, Option.bind_some]; simp [hc]
      · rw [if_neg (fun h => hc ((u91 c).1 h))]; simp [hc]
def bl (s : ByteArray) : List UInt8 := s.data.toList
theorem ba_bl (s : ByteArray) : ba (bl s) = s := by cases s; rfl
theorem bl_len (s : ByteArray) : (bl s).length = s.size := by cases s; rfl
def methE (l : List UInt8) : Int := (mout (methAll l)).2.2
def validS (c : S44) : Int :=
  if c.f0 = 7 then (if namedL (bl c.f2) = true then 0 else 20)
  else if c.f0 = 9 ∨ c.f0 = 10 ∨ c.f0 = 11 then
    (if (nmL false (bl c.f2) && nmL (c.f0 != 9) (bl c.f3)) = true then (if c.f0 = 9 then (if typeL (bl c.f4) = true then 0 else 21) else methE (bl c.f4)) else 20)
  else 0
theorem valid_j1 (k : Nat) (c : S44) (h4 : (bl c.f4).length ≤ big) (hk : 4 * (bl c.f4).length + 31 ≤ k) : pool_valid.j1 k false c.f0 c.f1 c.f2 c.f3 c.f4 = some (if c.f0 = 9 then (if typeL (bl c.f4) = true then 0 else 21) else methE (bl c.f4)) := by
  obtain ⟨k, rfl⟩ : ∃ m, k = m + 1 := ⟨k - 1, by omega⟩
  simp only [pool_valid.j1]
  rw [if_neg (by simp)]
  have e4 := ba_bl c.f4
  by_cases h9 : c.f0 = 9
  · rw [if_pos h9, if_pos h9, ← e4, type_eval _ h4 k (by omega), Option.bind_some, e4]
    split <;> rfl
  · rw [if_neg h9, if_neg h9, ← e4, meth_eval _ h4 k (by omega), Option.bind_some, e4]
    unfold methE
    split
    · rename_i h; rw [h]
    · rfl
theorem valid_j0 (k : Nat) (c : S44) (h2 : (bl c.f2).length ≤ big) (h3 : (bl c.f3).length ≤ big) (h4 : (bl c.f4).length ≤ big) (hk : 4 * (bl c.f4).length + 32 ≤ k) :
    pool_valid.j0 k true c.f0 c.f1 c.f2 c.f3 c.f4 = some (if (nmL false (bl c.f2) && nmL (c.f0 != 9) (bl c.f3)) = true then (if c.f0 = 9 then (if typeL (bl c.f4) = true then 0 else 21) else methE (bl c.f4)) else 20) := by
  obtain ⟨k, rfl⟩ : ∃ m, k = m + 1 := ⟨k - 1, by omega⟩
  have hj : pool_valid.j1 k true c.f0 c.f1 c.f2 c.f3 c.f4 = some 20 := by
    obtain ⟨k, rfl⟩ : ∃ m, k = m + 1 := ⟨k - 1, by omega⟩
    simp only [pool_valid.j1, if_true]
  have n2 := name_eval (bl c.f2) false h2
  have n3 := name_eval (bl c.f3) (c.f0 != 9) h3
  rw [ba_bl] at n2 n3
  simp only [pool_valid.j0, if_true]
  rw [n2, Option.bind_some]
  by_cases q2 : nmL false (bl c.f2) = true
  · rw [if_pos q2, n3, Option.bind_some, q2, Bool.true_and]
    by_cases q3 : nmL (c.f0 != 9) (bl c.f3) = true
    · rw [q3, if_pos rfl]
      exact valid_j1 k c h4 (by omega)
    · rw [show nmL (c.f0 != 9) (bl c.f3) = false by simpa using q3, if_neg (by decide)]
      exact hj
  · rw [if_neg q2, show nmL false (bl c.f2) = false by simpa using q2, Bool.false_and, if_neg (by decide)]
    exact hj
theorem valid_ok (c : S44) (h2 : c.f2.size ≤ 65535) (h3 : c.f3.size ≤ 65535) (h4 : c.f4.size ≤ 65535) : ValOk validS c := by
  have l2 : (bl c.f2).length ≤ 65535 := by rw [bl_len]; exact h2
  have l3 : (bl c.f3).length ≤ 65535 := by rw [bl_len]; exact h3
  have l4 : (bl c.f4).length ≤ 65535 := by rw [bl_len]; exact h4
  have hb : (65535 : Nat) ≤ big := by decide
  refine ⟨1000000, ?_⟩
  unfold pool_valid.f validS
  by_cases h7 : c.f0 = 7
  · have n2 := named_eval (bl c.f2) (by omega) 1000000 (by omega)
    rw [ba_bl] at n2
    rw [if_pos h7, if_pos h7, n2, Option.bind_some]
    split <;> rfl
  · rw [if_neg h7, if_neg h7]
    have hj := valid_j0 1000000 c (by omega) (by omega) (by omega) (by omega)
    by_cases h9 : c.f0 = 9
    · rw [if_pos h9, if_pos (.inl h9), ← hj, h9]; rfl
    · rw [if_neg h9]
      by_cases h10 : c.f0 = 10
      · rw [if_pos h10, if_pos (.inr (.inl h10)), ← hj, h10]; rfl
      · rw [if_neg h10]
        by_cases h11 : c.f0 = 11
        · rw [if_pos (.inr (.inr h11)), ← hj, h11]; rfl
        · rw [if_neg (by omega), show (c.f0 == 11) = false by simpa using h11]
          simp [pool_valid.j0]
theorem valid_all : ∀ c : S44, c.f2.size ≤ 65535 → c.f3.size ≤ 65535 → c.f4.size ≤ 65535 → ValOk validS c := fun c => valid_ok c
end Go.Proofs.Ytedmhopginmjaaa.PAll
