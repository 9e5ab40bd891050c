/-
  What the document makes of two numbers is what the program makes of them: of 32 bits, and of 64.
-/
import Derived.Test.YtmgeihpankhkcaaNumAll
import Derived.Test.YtmgeihpankhkcaaRefAll
namespace Go.Proofs.Ytmgeihpankhkcaa.PAll
open Go.RowKit Go.Proofs.YtmgeihpankhkcaaW.PrintWords Go.Proofs.YtmgeihpankhkcaaW.PrintLast Go.Proofs.Ytmgeihpankhkcaa.Plain

theorem sum32 (k : Nat) (hk : 600 < k) (a b : Int) (c : Int) (hc : c = 0 ∨ c = 1) : regletref01_sum.f k a b c 32 = some (sg 32 (a + b + c)) := sum_some a b c 32 k (Or.inr rfl) hc (by omega)
theorem sum64 (k : Nat) (hk : 600 < k) (a b : Int) (c : Int) (hc : c = 0 ∨ c = 1) : regletref01_sum.f k a b c 64 = some (sg 64 (a + b + c)) := sum_some a b c 64 k (Or.inl rfl) hc (by omega)
theorem product32 (k : Nat) (hk : 600 < k) (a b : Int) : regletref01_product.f k a b 32 = some (sg 32 (a * b)) := product_some a b 32 k (Or.inr rfl) (by omega)
theorem product64 (k : Nat) (hk : 600 < k) (a b : Int) : regletref01_product.f k a b 64 = some (sg 64 (a * b)) := product_some a b 64 k (Or.inl rfl) (by omega)
theorem divided32 (k : Nat) (hk : 600 < k) (a b : Int) (ha0 : -9223372036854775808 ≤ a) (ha1 : a ≤ 9223372036854775807) (hb0 : -9223372036854775808 ≤ b) (hb1 : b ≤ 9223372036854775807) :
    regletref01_divided.f k a b 32 = some (if b = 0 then (0, 0) else if b = -1 then (sg 32 (-a), 0) else (Int.tdiv a b, Int.tmod a b)) := divided_some a b 32 k (Or.inr rfl) (by omega) ha0 ha1 hb0 hb1
theorem divided64 (k : Nat) (hk : 600 < k) (a b : Int) (ha0 : -9223372036854775808 ≤ a) (ha1 : a ≤ 9223372036854775807) (hb0 : -9223372036854775808 ≤ b) (hb1 : b ≤ 9223372036854775807) :
    regletref01_divided.f k a b 64 = some (if b = 0 then (0, 0) else if b = -1 then (sg 64 (-a), 0) else (Int.tdiv a b, Int.tmod a b)) := divided_some a b 64 k (Or.inl rfl) (by omega) ha0 ha1 hb0 hb1
theorem left32 (k : Nat) (hk : 600 < k) (a b : Int) : regletref01_moved.f k a (b % 32) 32 false false = some (sg 32 (a * 2 ^ (b % 32).toNat)) := by
  have := moved_left a (b % 32).toNat 32 k (Or.inr rfl) (by omega) (by omega)
  rw [Int.toNat_of_nonneg (by omega)] at this; exact this
theorem left64 (k : Nat) (hk : 600 < k) (a b : Int) : regletref01_moved.f k a (b % 64) 64 false false = some (sg 64 (a * 2 ^ (b % 64).toNat)) := by
  have := moved_left a (b % 64).toNat 64 k (Or.inl rfl) (by omega) (by omega)
  rw [Int.toNat_of_nonneg (by omega)] at this; exact this
theorem sign32 (k : Nat) (hk : 600 < k) (a b : Int) (h0 : -2147483648 ≤ a) (h1 : a ≤ 2147483647) : regletref01_moved.f k a (b % 32) 32 true true = some (a / 2 ^ (b % 32).toNat) := by
  have := moved_sign a (b % 32).toNat 32 k (Or.inr rfl) (by omega) (by omega) (by omega) (by omega)
  rw [Int.toNat_of_nonneg (by omega)] at this
  have l := ediv_lim a 2147483648 (b % 32).toNat (by omega) (by omega)
  rw [sg_id (by decide) (by omega) (by omega)] at this; exact this
theorem sign64 (k : Nat) (hk : 600 < k) (a b : Int) (h0 : -9223372036854775808 ≤ a) (h1 : a ≤ 9223372036854775807) : regletref01_moved.f k a (b % 64) 64 true true = some (a / 2 ^ (b % 64).toNat) := by
  have := moved_sign a (b % 64).toNat 64 k (Or.inl rfl) (by omega) (by omega) (by omega) (by omega)
  rw [Int.toNat_of_nonneg (by omega)] at this
  have l := ediv_lim a 9223372036854775808 (b % 64).toNat (by omega) (by omega)
  rw [sg_id (by decide) (by omega) (by omega)] at this; exact this
theorem zero32 (k : Nat) (hk : 600 < k) (a b : Int) : regletref01_moved.f k a (b % 32) 32 true false = some (sg 32 (a % 2 ^ 32 / 2 ^ (b % 32).toNat)) := by
  have := moved_zero a (b % 32).toNat 32 k (Or.inr rfl) (by omega) (by omega)
  rw [Int.toNat_of_nonneg (by omega)] at this; exact this
theorem zero64 (k : Nat) (hk : 600 < k) (a b : Int) : regletref01_moved.f k a (b % 64) 64 true false = some (sg 64 (a % 2 ^ 64 / 2 ^ (b % 64).toNat)) := by
  have := moved_zero a (b % 64).toNat 64 k (Or.inl rfl) (by omega) (by omega)
  rw [Int.toNat_of_nonneg (by omega)] at this; exact this
theorem and32 (k : Nat) (hk : 600 < k) (a b : Int) : regletref01_logic.f k 0 a b 32 = some (Go.bits .and .i32 a b) := by
  have := logic_some 0 a b (Go.bits .and .i32 a b) 32 k (Or.inr rfl) (by omega) (fun i hi => by rw [if_pos rfl, bit_and .i32 a b hi])
  rw [bits_sg32] at this; exact this
theorem or32 (k : Nat) (hk : 600 < k) (a b : Int) : regletref01_logic.f k 1 a b 32 = some (Go.bits .or .i32 a b) := by
  have := logic_some 1 a b (Go.bits .or .i32 a b) 32 k (Or.inr rfl) (by omega) (fun i hi => by rw [if_neg (by decide), if_pos rfl, bit_or .i32 a b hi])
  rw [bits_sg32] at this; exact this
theorem xor32 (k : Nat) (hk : 600 < k) (a b : Int) : regletref01_logic.f k 2 a b 32 = some (Go.bits .xor .i32 a b) := by
  have := logic_some 2 a b (Go.bits .xor .i32 a b) 32 k (Or.inr rfl) (by omega) (fun i hi => by rw [if_neg (by decide), if_neg (by decide), bit_xor .i32 a b hi])
  rw [bits_sg32] at this; exact this
theorem and64 (k : Nat) (hk : 600 < k) (a b : Int) : regletref01_logic.f k 0 a b 64 = some (Go.bits .and .i64 a b) := by
  have := logic_some 0 a b (Go.bits .and .i64 a b) 64 k (Or.inl rfl) (by omega) (fun i hi => by rw [if_pos rfl, bit_and .i64 a b hi])
  rw [bits_sg64] at this; exact this
theorem or64 (k : Nat) (hk : 600 < k) (a b : Int) : regletref01_logic.f k 1 a b 64 = some (Go.bits .or .i64 a b) := by
  have := logic_some 1 a b (Go.bits .or .i64 a b) 64 k (Or.inl rfl) (by omega) (fun i hi => by rw [if_neg (by decide), if_pos rfl, bit_or .i64 a b hi])
  rw [bits_sg64] at this; exact this
theorem xor64 (k : Nat) (hk : 600 < k) (a b : Int) : regletref01_logic.f k 2 a b 64 = some (Go.bits .xor .i64 a b) := by
  have := logic_some 2 a b (Go.bits .xor .i64 a b) 64 k (Or.inl rfl) (by omega) (fun i hi => by rw [if_neg (by decide), if_neg (by decide), bit_xor .i64 a b hi])
  rw [bits_sg64] at this; exact this

theorem by32 (b : Int) : Go.bits .and .i64 b (wrap64 (32 - 1)) = b % 32 := by
  rw [show wrap64 (32 - 1) = 31 from by decide +kernel, and_31]
theorem by64 (b : Int) : Go.bits .and .i64 b (wrap64 63) = b % 64 := by
  rw [show wrap64 63 = 63 from by decide +kernel, and_63]

/-- None of the table's codes. -/
theorem int_none (k : Nat) (code a b : Int) (h : code ≠ 96 ∧ code ≠ 100 ∧ code ≠ 104 ∧ code ≠ 108 ∧ code ≠ 112 ∧ code ≠ 120 ∧ code ≠ 122 ∧ code ≠ 124 ∧ code ≠ 126 ∧ code ≠ 128 ∧ code ≠ 130) : num_Int.f (k + 1) code a b = some 0 := by
  obtain ⟨h1, h2, h3, h4, h5, h6, h7, h8, h9, h10, h11⟩ := h
  unfold num_Int.f
  rw [if_neg h1, if_neg h2, if_neg h3, if_neg h4]
  simp only [num_Int.j0]
  rw [if_neg (by simpa using h5), if_neg h6, if_neg h7, if_neg h8, if_neg h9, if_neg h10, if_neg h11]

theorem long_none (k : Nat) (code a b : Int) (h : code ≠ 97 ∧ code ≠ 101 ∧ code ≠ 105 ∧ code ≠ 109 ∧ code ≠ 113 ∧ code ≠ 121 ∧ code ≠ 123 ∧ code ≠ 125 ∧ code ≠ 127 ∧ code ≠ 129 ∧ code ≠ 131) : num_Long.f (k + 1) code a b = some 0 := by
  obtain ⟨h1, h2, h3, h4, h5, h6, h7, h8, h9, h10, h11⟩ := h
  unfold num_Long.f
  rw [if_neg h1, if_neg h2, if_neg h3, if_neg h4]
  simp only [num_Long.j0]
  rw [if_neg (by simpa using h5), if_neg h6, if_neg h7, if_neg h8, if_neg h9, if_neg h10, if_neg h11]

theorem make_none (k : Nat) (code a b : Int) (long : Bool) (h : code ≠ 96 ∧ code ≠ 100 ∧ code ≠ 104 ∧ code ≠ 108 ∧ code ≠ 112 ∧ code ≠ 120 ∧ code ≠ 122 ∧ code ≠ 124 ∧ code ≠ 126 ∧ code ≠ 128 ∧ code ≠ 130) : regletref01_Make.f k code a b long = some 0 := by
  obtain ⟨h1, h2, h3, h4, h5, h6, h7, h8, h9, h10, h11⟩ := h
  unfold regletref01_Make.f
  obtain ⟨n, hn⟩ : ∃ n, regletref01_bits.f long = some n := by cases long <;> exact ⟨_, rfl⟩
  rw [hn, Option.bind_some, if_neg h1, if_neg h2, if_neg h3, if_neg h4, if_neg h5, if_neg h6, if_neg h7, if_neg h8, if_neg h9, if_neg h10, if_neg h11]

theorem bits_false : regletref01_bits.f false = some 32 := rfl
theorem bits_true : regletref01_bits.f true = some 64 := rfl

theorem sg32_range (x : Int) : -2147483648 ≤ sg 32 x ∧ sg 32 x ≤ 2147483647 := by
  have := sg_range (n := 32) (by decide) x
  omega

theorem make_int (k : Nat) (hk : 600 < k) (code a b : Int) (ha : -2147483648 ≤ a ∧ a ≤ 2147483647) (hb : -2147483648 ≤ b ∧ b ≤ 2147483647) :
    ∃ r, regletref01_Make.f k code a b false = some r ∧ num_Int.f k code a b = some r ∧ -2147483648 ≤ r ∧ r ≤ 2147483647 := by
  obtain ⟨m, rfl⟩ : ∃ m, k = m + 1 := ⟨k - 1, by omega⟩
  by_cases h : code ≠ 96 ∧ code ≠ 100 ∧ code ≠ 104 ∧ code ≠ 108 ∧ code ≠ 112 ∧ code ≠ 120 ∧ code ≠ 122 ∧ code ≠ 124 ∧ code ≠ 126 ∧ code ≠ 128 ∧ code ≠ 130
  · exact ⟨0, make_none _ _ _ _ _ h, int_none _ _ _ _ h, by decide, by decide⟩
  · have ewa : wrap64 a = a := by unfold wrap64; omega
    have ewb : wrap64 b = b := by unfold wrap64; omega
    rcases (show code = 96 ∨ code = 100 ∨ code = 104 ∨ code = 108 ∨ code = 112 ∨ code = 120 ∨ code = 122 ∨ code = 124 ∨ code = 126 ∨ code = 128 ∨ code = 130 by omega) with rfl | rfl | rfl | rfl | rfl | rfl | rfl | rfl | rfl | rfl | rfl
    all_goals (unfold regletref01_Make.f; rw [bits_false]; simp only [Option.bind_some, Int.reduceEq, if_true, if_false, by32])
    · rw [sum32 _ hk a b 0 (Or.inl rfl), int_add]
      exact ⟨_, rfl, by rw [Int.add_zero], sg32_range _⟩
    · rw [xor_neg_one b (by omega) (by omega), sum32 _ hk a _ 1 (Or.inr rfl), int_sub]
      exact ⟨_, rfl, by congr 2; omega, sg32_range _⟩
    · rw [product32 _ hk, int_mul]
      exact ⟨_, rfl, rfl, sg32_range _⟩
    · rw [divided32 _ hk a b (by omega) (by omega) (by omega) (by omega), int_div, ewa, ewb, num_divided_some false a b (by omega) (by omega)]
      by_cases h0 : b = 0
      · simp only [h0, if_true, Option.bind_some]; exact ⟨_, rfl, by decide +kernel, by decide, by decide⟩
      · by_cases h1 : b = -1
        · simp only [h1, Int.reduceEq, if_true, if_false, Option.bind_some, Bool.false_eq_true]
          exact ⟨_, rfl, by rw [← wrap32_sg]; congr 1; unfold wrap32 wrap64; omega, sg32_range _⟩
        · simp only [h0, h1, if_false, Option.bind_some, Bool.false_eq_true]
          have l := tdiv_lim a b 2147483648 (by decide) h1 (by omega) (by omega) h0
          exact ⟨_, rfl, by congr 1; unfold wrap32; omega, by omega, by omega⟩
    · rw [divided32 _ hk a b (by omega) (by omega) (by omega) (by omega), int_rem, ewa, ewb, num_divided_some true a b (by omega) (by omega)]
      by_cases h0 : b = 0
      · simp only [h0, if_true, Option.bind_some]; exact ⟨_, rfl, by decide +kernel, by decide, by decide⟩
      · by_cases h1 : b = -1
        · simp only [h1, Int.reduceEq, if_true, if_false, Option.bind_some]
          exact ⟨_, rfl, by decide +kernel, by decide, by decide⟩
        · simp only [h0, h1, if_true, if_false, Option.bind_some]
          have l := tmod_lim a b 2147483648 h0 (by omega) (by omega)
          exact ⟨_, rfl, by congr 1; unfold wrap32; omega, by omega, by omega⟩
    · rw [left32 _ hk, int_shl]
      exact ⟨_, rfl, rfl, sg32_range _⟩
    · rw [sign32 _ hk a b ha.1 ha.2, int_shr]
      have l := ediv_lim a 2147483648 (b % 32).toNat (by omega) (by omega)
      exact ⟨_, rfl, rfl, by omega, by omega⟩
    · rw [zero32 _ hk, int_ushr]
      exact ⟨_, rfl, rfl, sg32_range _⟩
    · rw [and32 _ hk, int_and]; exact ⟨_, rfl, rfl, bits_range32 _ _ _⟩
    · rw [or32 _ hk, int_or]; exact ⟨_, rfl, rfl, bits_range32 _ _ _⟩
    · rw [xor32 _ hk, int_xor]; exact ⟨_, rfl, rfl, bits_range32 _ _ _⟩

theorem make_long (k : Nat) (hk : 600 < k) (code a b : Int) (ha : -9223372036854775808 ≤ a ∧ a ≤ 9223372036854775807) (hb : -9223372036854775808 ≤ b ∧ b ≤ 9223372036854775807) :
    ∃ r, regletref01_Make.f k (code - 1) a b true = some r ∧ num_Long.f k code a b = some r := by
  obtain ⟨m, rfl⟩ : ∃ m, k = m + 1 := ⟨k - 1, by omega⟩
  by_cases h : code ≠ 97 ∧ code ≠ 101 ∧ code ≠ 105 ∧ code ≠ 109 ∧ code ≠ 113 ∧ code ≠ 121 ∧ code ≠ 123 ∧ code ≠ 125 ∧ code ≠ 127 ∧ code ≠ 129 ∧ code ≠ 131
  · exact ⟨0, make_none _ _ _ _ _ (by omega), long_none _ _ _ _ h⟩
  · rcases (show code = 97 ∨ code = 101 ∨ code = 105 ∨ code = 109 ∨ code = 113 ∨ code = 121 ∨ code = 123 ∨ code = 125 ∨ code = 127 ∨ code = 129 ∨ code = 131 by omega) with rfl | rfl | rfl | rfl | rfl | rfl | rfl | rfl | rfl | rfl | rfl
    all_goals (unfold regletref01_Make.f; rw [bits_true]; simp only [Option.bind_some, Int.reduceSub, Int.reduceEq, if_true, if_false])
    · rw [sum64 _ hk a b 0 (Or.inl rfl), long_add]
      exact ⟨_, rfl, by rw [Int.add_zero]⟩
    · rw [xor_neg_one b hb.1 hb.2, sum64 _ hk a _ 1 (Or.inr rfl), long_sub]
      exact ⟨_, rfl, by congr 2; omega⟩
    · rw [product64 _ hk, long_mul]
      exact ⟨_, rfl, rfl⟩
    · rw [divided64 _ hk a b ha.1 ha.2 hb.1 hb.2, long_div, num_divided_some false a b ha.1 ha.2]
      by_cases h0 : b = 0
      · simp only [h0, if_true, Option.bind_some]; exact ⟨_, rfl, rfl⟩
      · by_cases h1 : b = -1
        · simp only [h1, Int.reduceEq, if_true, if_false, Option.bind_some, Bool.false_eq_true]
          exact ⟨_, rfl, by rw [wrap64_sg]⟩
        · simp only [h0, h1, if_false, Option.bind_some, Bool.false_eq_true]
          exact ⟨_, rfl, rfl⟩
    · rw [divided64 _ hk a b ha.1 ha.2 hb.1 hb.2, long_rem, num_divided_some true a b ha.1 ha.2]
      by_cases h0 : b = 0
      · simp only [h0, if_true, Option.bind_some]; exact ⟨_, rfl, rfl⟩
      · by_cases h1 : b = -1
        · simp only [h1, Int.reduceEq, if_true, if_false, Option.bind_some]
          exact ⟨_, rfl, rfl⟩
        · simp only [h0, h1, if_true, if_false, Option.bind_some]
          exact ⟨_, rfl, rfl⟩
    · rw [by64, left64 _ hk, long_shl]; exact ⟨_, rfl, rfl⟩
    · rw [by64, sign64 _ hk a b ha.1 ha.2, long_shr]; exact ⟨_, rfl, rfl⟩
    · rw [by64, zero64 _ hk, long_ushr]; exact ⟨_, rfl, rfl⟩
    · rw [and64 _ hk, long_and]; exact ⟨_, rfl, rfl⟩
    · rw [or64 _ hk, long_or]; exact ⟨_, rfl, rfl⟩
    · rw [xor64 _ hk, long_xor]; exact ⟨_, rfl, rfl⟩

end Go.Proofs.Ytmgeihpankhkcaa.PAll
