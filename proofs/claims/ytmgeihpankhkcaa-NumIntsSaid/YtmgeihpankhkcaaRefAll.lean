/-
  The document's functions of the first layer, as they are printed for the law All, come to what arithmetic says; so do the program's.
-/
import Derived.Test.YtmgeihpankhkcaaPlain
import Derived.Test.YtmgeihpankhkcaaPAllx4
namespace Go.Proofs.Ytmgeihpankhkcaa.PAll
open Go.RowKit Go.Proofs.YtmgeihpankhkcaaW.PrintWords Go.Proofs.YtmgeihpankhkcaaW.PrintLast Go.Proofs.Ytmgeihpankhkcaa.Plain

theorem bit_some (a : Int) (i : Nat) (hi : i < 64) : regletref01_bit.f a i = some (bitAt a i) := by
  unfold regletref01_bit.f
  rw [if_pos (by omega), and_one]
  unfold shr bitAt
  rw [Nat.min_eq_left (by show (i : Int).toNat ≤ 64; omega)]
  simp

theorem cut_some (a : Int) (n : Nat) (hn : n = 64 ∨ n = 32 ∨ n = 16 ∨ n = 8) (h0 : -9223372036854775808 ≤ a) (h1 : a ≤ 9223372036854775807) : regletref01_cut.f a n = some (sg n a) := by
  unfold regletref01_cut.f
  rcases hn with rfl | rfl | rfl | rfl
  · rw [if_pos (by decide), sg_id (by decide) (by omega) (by omega)]
  · have e : shl .i64 1 ((32 : Nat) : Int) = 4294967296 := by decide
    rw [if_neg (by decide), if_pos (by decide), e, if_neg (by decide)]
    exact cut_at a 4294967296 2147483648 32 (by decide) (by decide) (by decide) (by decide) (by decide) (by decide +kernel)
  · have e : shl .i64 1 ((16 : Nat) : Int) = 65536 := by decide
    rw [if_neg (by decide), if_pos (by decide), e, if_neg (by decide)]
    exact cut_at a 65536 32768 16 (by decide) (by decide) (by decide) (by decide) (by decide) (by decide +kernel)
  · have e : shl .i64 1 ((8 : Nat) : Int) = 256 := by decide
    rw [if_neg (by decide), if_pos (by decide), e, if_neg (by decide)]
    exact cut_at a 256 128 8 (by decide) (by decide) (by decide) (by decide) (by decide) (by decide +kernel)

theorem sg64_range (x : Int) : -9223372036854775808 ≤ sg 64 x ∧ sg 64 x ≤ 9223372036854775807 := by
  have := sg_range (n := 64) (by decide) x
  omega

theorem made_l0 (l : List Int) (n : Nat) (hl : l.length = n) (hb : AllBits l) (hn : n = 64 ∨ n = 32) (d : Nat) : ∀ (k i : Nat), i + d = n → d < k →
    regletref01_made.l0 k l n (sg 64 (val (l.take i))) i = some (sg n (val l)) := by
  induction d with
  | zero =>
    intro k i hi hk
    obtain ⟨k, rfl⟩ : ∃ m, k = m + 1 := ⟨k - 1, by omega⟩
    simp only [regletref01_made.l0]
    rw [if_neg (by omega), List.take_of_length_le (by omega), cut_some _ n (by omega) (sg64_range _).1 (sg64_range _).2]
    simp only [Option.bind_some]
    rw [sg_congr (n := n) (x := sg 64 (val l)) (y := val l)]
    exact sg_mod_le (by omega) _
  | succ d ih =>
    intro k i hi hk
    obtain ⟨k, rfl⟩ : ∃ m, k = m + 1 := ⟨k - 1, by omega⟩
    simp only [regletref01_made.l0]
    rw [if_pos (by omega), if_pos (by omega), if_pos (by omega)]
    have hin : i < l.length := by omega
    have hbit : rd l (i : Int) = 0 ∨ rd l (i : Int) = 1 := by rw [rd_of l i hin]; exact hb _ (List.getElem_mem hin)
    have hv := val_bound (l := l.take i) (fun b hb' => hb b (List.mem_of_mem_take hb'))
    rw [List.length_take, Nat.min_eq_left (by omega)] at hv
    have e1 : shl .i64 (rd l (i : Int)) (i : Int) = sg 64 (rd l (i : Int) * 2 ^ i) := by
      unfold shl
      rw [wrapi64_sg, Nat.min_eq_left (by show (i : Int).toNat ≤ 64; omega)]; simp
    rw [e1, or_bit (by omega) hv.1 hv.2 hbit, wrap_succ i (by omega)]
    have := ih k (i + 1) (by omega) (by omega)
    rw [rd_snoc_take l i hin, val_snoc, List.length_take, Nat.min_eq_left (by omega)] at this
    exact this

theorem made_some (l : List Int) (n k : Nat) (hl : l.length = n) (hb : AllBits l) (hn : n = 64 ∨ n = 32) (hk : 64 < k) : regletref01_made.f k l n = some (sg n (val l)) := by
  have := made_l0 l n hl hb hn n k 0 (by omega) (by omega)
  unfold regletref01_made.f
  simpa [val, sg] using this

theorem sum_l0 (a b c0 : Int) (n : Nat) (hn : n = 64 ∨ n = 32) (d : Nat) : ∀ (k i : Nat) (l : List Int) (c : Int), i + d = n → d + 65 < k → l.length = i → AllBits l → (c = 0 ∨ c = 1) →
    val l + c * 2 ^ i = a % 2 ^ i + b % 2 ^ i + c0 → regletref01_sum.l0 k a b c n l i = some (sg n (a + b + c0)) := by
  induction d with
  | zero =>
    intro k i l c hi hk hl hb hc hv
    obtain ⟨k, rfl⟩ : ∃ m, k = m + 1 := ⟨k - 1, by omega⟩
    obtain rfl : i = n := by omega
    simp only [regletref01_sum.l0]
    rw [if_neg (by omega), made_some l i k hl hb hn (by omega)]
    simp only [Option.bind_some]
    rw [sg_congr (n := i) (x := val l) (y := a + b + c0)]
    rw [show val l = (a % 2 ^ i + b % 2 ^ i + c0) + 2 ^ i * (-c) from by rw [Int.mul_neg, Int.mul_comm]; omega, Int.add_mul_emod_self_left]
    rw [Int.add_emod (a % 2 ^ i + b % 2 ^ i), ← Int.add_emod a b, ← Int.add_emod]
  | succ d ih =>
    intro k i l c hi hk hl hb hc hv
    obtain ⟨k, rfl⟩ : ∃ m, k = m + 1 := ⟨k - 1, by omega⟩
    simp only [regletref01_sum.l0]
    have ha := bit_01 a i
    have hb' := bit_01 b i
    rw [if_pos (by omega), bit_some a i (by omega), bit_some b i (by omega)]
    simp only [Option.bind_some]
    rw [if_pos (by omega)]
    generalize hA : bitAt a i = A at *
    generalize hB : bitAt b i = B at *
    have e1 : wrap64 (wrap64 (A + B) + c) = A + B + c := by unfold wrap64; omega
    rw [e1, Int.tdiv_eq_ediv_of_nonneg (by omega), Int.tmod_eq_emod_of_nonneg (by omega), wrap_succ i (by omega)]
    have e2 : wrap64 ((A + B + c) / 2) = (A + B + c) / 2 := by unfold wrap64; omega
    rw [e2]
    refine ih k (i + 1) _ _ (by omega) (by omega) (by simp; omega) (allBits_snoc hb (by omega)) (by omega) ?_
    rw [val_snoc, hl, mod_succ a, mod_succ b, hA, hB, Int.pow_succ]
    have e3 : (A + B + c) % 2 + 2 * ((A + B + c) / 2) = A + B + c := by omega
    have e4 : (A + B + c) % 2 * 2 ^ i + (A + B + c) / 2 * (2 ^ i * 2) = A * 2 ^ i + B * 2 ^ i + c * 2 ^ i := by
      rw [Int.mul_comm ((2 : Int) ^ i) 2, ← Int.mul_assoc, ← Int.add_mul, ← Int.add_mul, ← Int.add_mul]
      congr 1; omega
    omega

theorem sum_some (a b c : Int) (n k : Nat) (hn : n = 64 ∨ n = 32) (hc : c = 0 ∨ c = 1) (hk : 130 < k) : regletref01_sum.f k a b c n = some (sg n (a + b + c)) := by
  unfold regletref01_sum.f
  exact sum_l0 a b c n hn n k 0 [] c (by omega) (by omega) rfl (fun _ h => by cases h) hc (by simp [val])

theorem negative_some (a : Int) (n k : Nat) (hn : n = 64 ∨ n = 32) (hk : 130 < k) (h0 : -9223372036854775808 ≤ a) (h1 : a ≤ 9223372036854775807) : regletref01_negative.f k a n = some (sg n (-a)) := by
  unfold regletref01_negative.f
  rw [xor_neg_one a h0 h1, sum_some _ _ _ n k hn (Or.inr rfl) hk]
  simp only [Option.bind_some]
  congr 2; omega

/-- Bits laid one behind the other, whatever they are of. -/
theorem moved_l0 (T a by_ : Int) (n : Nat) (right sign : Bool) (hn : n = 64 ∨ n = 32) (hb0 : 0 ≤ by_) (hb1 : by_ < 64)
    (hin : ∀ i : Nat, i < n → ∀ j : Int, j = (if right = true then (i : Int) + by_ else (i : Int) - by_) → 0 ≤ j → j < n → bitAt a j.toNat = bitAt T i)
    (hout : ∀ i : Nat, i < n → ∀ j : Int, j = (if right = true then (i : Int) + by_ else (i : Int) - by_) → ¬ (0 ≤ j ∧ j < n) → (if right = true ∧ sign = true then bitAt a (n - 1) else 0) = bitAt T i)
    (d : Nat) : ∀ (k i : Nat) (l : List Int), i + d = n → 3 * d + 65 < k → l.length = i → AllBits l → val l = T % 2 ^ i →
    regletref01_moved.l0 k a by_ n right sign l i = some (sg n T) := by
  induction d with
  | zero =>
    intro k i l hi hk hl hb hv
    obtain ⟨k, rfl⟩ : ∃ m, k = m + 1 := ⟨k - 1, by omega⟩
    obtain rfl : i = n := by omega
    simp only [regletref01_moved.l0]
    rw [if_neg (by omega), made_some l i k hl hb hn (by omega)]
    simp only [Option.bind_some]
    rw [hv, sg_congr (n := i) (x := T % 2 ^ i) (y := T)]
    exact Int.emod_emod_of_dvd _ (Int.dvd_refl _)
  | succ d ih =>
    intro k i l hi hk hl hb hv
    obtain ⟨k, rfl⟩ : ∃ m, k = m + 3 := ⟨k - 3, by omega⟩
    have hil : i < n := by omega
    have hstep : ∀ b : Int, b = bitAt T i → regletref01_moved.l0 k a by_ n right sign (l ++ [b]) (wrap64 ((i : Int) + 1)) = some (sg n T) := by
      intro b hbe
      rw [wrap_succ i (by omega)]
      refine ih k (i + 1) _ (by omega) (by omega) (by simp; omega) (allBits_snoc hb (by rw [hbe]; exact bit_01 _ _)) ?_
      rw [val_snoc, hl, hv, hbe, ← mod_succ]
    have hlen : l.length < 17592186044416 := by omega
    have hw1 : wrap64 ((i : Int) + by_) = i + by_ := by unfold wrap64; omega
    have hw2 : wrap64 ((i : Int) - by_) = i - by_ := by unfold wrap64; omega
    have hw3 : wrap64 ((n : Int) - 1) = ((n - 1 : Nat) : Int) := by unfold wrap64; omega
    have hj2 : ∀ j : Int, j = (if right = true then (i : Int) + by_ else (i : Int) - by_) →
        regletref01_moved.j1 (k + 2) a by_ n right sign l i j = some (sg n T) := by
      intro j hj
      simp only [regletref01_moved.j1]
      by_cases hc : 0 ≤ j ∧ j < n
      · rw [if_pos hc.1]
        simp only [regletref01_moved.j2]
        rw [if_pos (by simpa using hc.2)]
        have := hin i hil j hj hc.1 hc.2
        have hb2 := bit_some a j.toNat (by omega)
        rw [Int.toNat_of_nonneg hc.1] at hb2
        rw [hb2]; simp only [Option.bind_some]
        rw [if_pos hlen]
        exact hstep _ this
      · have ho := hout i hil j hj hc
        have hz : ∀ x : Bool, x = false → regletref01_moved.j2 (k + 1) a by_ n right sign l i j 0 x = some (sg n T) := by
          intro x hx
          simp only [regletref01_moved.j2]
          rw [if_neg (by simp [hx])]
          by_cases hr : right = true
          · rw [if_pos hr]
            by_cases hs : sign = true
            · rw [if_pos hs, hw3, bit_some a (n - 1) (by omega)]
              simp only [Option.bind_some]
              rw [if_pos hlen]
              rw [if_pos ⟨hr, hs⟩] at ho
              exact hstep _ ho
            · rw [if_neg hs, if_pos hlen]
              rw [if_neg (fun h => hs h.2)] at ho
              exact hstep _ ho
          · rw [if_neg hr, if_pos hlen]
            rw [if_neg (fun h => hr h.1)] at ho
            exact hstep _ ho
        by_cases h0 : j ≥ 0
        · rw [if_pos h0]; exact hz _ (by simp; omega)
        · rw [if_neg h0]; exact hz _ rfl
    simp only [regletref01_moved.l0]
    rw [if_pos (by omega)]
    by_cases hr : right = true
    · rw [if_pos hr, hw1]; exact hj2 _ (by rw [if_pos hr])
    · rw [if_neg hr, hw2]; exact hj2 _ (by rw [if_neg hr])

theorem moved_left (a : Int) (by_ n k : Nat) (hn : n = 64 ∨ n = 32) (hb : by_ < n) (hk : 300 < k) : regletref01_moved.f k a by_ n false false = some (sg n (a * 2 ^ by_)) := by
  unfold regletref01_moved.f
  refine moved_l0 (a * 2 ^ by_) a by_ n false false hn (by omega) (by omega) ?_ ?_ n k 0 [] (by omega) (by omega) rfl (fun _ h => by cases h) (by simp [val])
  · intro i hi j hj h0 h1
    rw [if_neg (by decide)] at hj
    rw [bit_mul, if_pos (by omega)]
    congr 1; omega
  · intro i hi j hj h
    rw [if_neg (by decide)] at hj
    rw [if_neg (by decide), bit_mul, if_neg (by omega)]

theorem moved_sign (a : Int) (by_ n k : Nat) (hn : n = 64 ∨ n = 32) (hb : by_ < n) (hk : 300 < k) (h0 : -2 ^ (n - 1) ≤ a) (h1 : a < 2 ^ (n - 1)) : regletref01_moved.f k a by_ n true true = some (sg n (a / 2 ^ by_)) := by
  unfold regletref01_moved.f
  refine moved_l0 (a / 2 ^ by_) a by_ n true true hn (by omega) (by omega) ?_ ?_ n k 0 [] (by omega) (by omega) rfl (fun _ h => by cases h) (by simp [val])
  · intro i hi j hj _ _
    rw [if_pos rfl] at hj
    rw [bit_div]
    congr 1; omega
  · intro i hi j hj h
    rw [if_pos rfl] at hj
    rw [if_pos ⟨rfl, rfl⟩, bit_div, bit_sign (n := n) h0 h1 (n - 1) (by omega), bit_sign (n := n) h0 h1 (i + by_) (by omega)]

theorem moved_zero (a : Int) (by_ n k : Nat) (hn : n = 64 ∨ n = 32) (hb : by_ < n) (hk : 300 < k) : regletref01_moved.f k a by_ n true false = some (sg n (a % 2 ^ n / 2 ^ by_)) := by
  unfold regletref01_moved.f
  refine moved_l0 (a % 2 ^ n / 2 ^ by_) a by_ n true false hn (by omega) (by omega) ?_ ?_ n k 0 [] (by omega) (by omega) rfl (fun _ h => by cases h) (by simp [val])
  · intro i hi j hj _ _
    rw [if_pos rfl] at hj
    rw [bit_div, show j.toNat = i + by_ from by omega]
    exact (bit_congr (n := n) (by omega) (Int.emod_emod_of_dvd _ (Int.dvd_refl _))).symm
  · intro i hi j hj h
    rw [if_pos rfl] at hj
    rw [if_neg (by decide), bit_div]
    exact (bit_high (n := n) (Int.emod_nonneg _ (by have := pow_pos' n; omega)) (Int.emod_lt_of_pos _ (pow_pos' n)) _ (by omega)).symm

theorem product_l0 (a b : Int) (n : Nat) (hn : n = 64 ∨ n = 32) (d : Nat) : ∀ (k i : Nat) (x : Int), i + d = n → d + 400 < k → x = sg n (a * (b % 2 ^ i)) → regletref01_product.l0 k a b n x i = some (sg n (a * b)) := by
  induction d with
  | zero =>
    intro k i x hi hk hx
    obtain ⟨k, rfl⟩ : ∃ m, k = m + 1 := ⟨k - 1, by omega⟩
    obtain rfl : i = n := by omega
    simp only [regletref01_product.l0]
    rw [if_neg (by omega), hx]
    congr 1
    refine sg_congr ?_
    rw [Int.mul_emod, Int.emod_emod_of_dvd _ (Int.dvd_refl _), ← Int.mul_emod]
  | succ d ih =>
    intro k i x hi hk hx
    obtain ⟨k, rfl⟩ : ∃ m, k = m + 1 := ⟨k - 1, by omega⟩
    simp only [regletref01_product.l0]
    rw [if_pos (by omega), bit_some b i (by omega)]
    simp only [Option.bind_some]
    rw [wrap_succ i (by omega)]
    rcases bit_01 b i with h | h
    · rw [if_neg (by omega)]
      refine ih k (i + 1) _ (by omega) (by omega) ?_
      rw [hx, mod_succ, h]; simp
    · rw [if_pos h, moved_left a i n k hn (by omega) (by omega)]
      simp only [Option.bind_some]
      rw [sum_some _ _ 0 n k hn (Or.inl rfl) (by omega)]
      simp only [Option.bind_some]
      refine ih k (i + 1) _ (by omega) (by omega) ?_
      rw [hx, mod_succ, h]
      refine sg_congr ?_
      rw [Int.add_zero, Int.add_emod, sg_mod, sg_mod, ← Int.add_emod, Int.one_mul, Int.mul_add]

theorem product_some (a b : Int) (n k : Nat) (hn : n = 64 ∨ n = 32) (hk : 500 < k) : regletref01_product.f k a b n = some (sg n (a * b)) := by
  unfold regletref01_product.f
  refine product_l0 a b n hn n k 0 0 (by omega) (by omega) ?_
  rw [mod_zero, Int.mul_zero, sg_id (by omega)] <;> have := pow_pos' (n - 1) <;> omega

theorem amount_some (a : Int) (h0 : -9223372036854775808 ≤ a) (h1 : a ≤ 9223372036854775807) : regletref01_amount.f a = some (a.natAbs : Int) := by
  unfold regletref01_amount.f
  by_cases h : a < 0
  · rw [if_pos h]
    have e1 : wrap64 (a + 1) = a + 1 := by unfold wrap64; omega
    have e2 : wrap64 (-(a + 1)) = -(a + 1) := by unfold wrap64; omega
    rw [e1, e2, wr_u64 (-(a + 1)) (by omega) (by omega), wr_u64 _ (by omega) (by omega)]
    congr 1; omega
  · rw [if_neg h, wr_u64 _ (by omega) (by omega)]
    congr 1; omega

theorem divided_l0 (a b x y : Int) (hx : x = a.natAbs) (hy : y = b.natAbs) (hb : b ≠ 0) (hb' : b ≠ -1) (ha0 : -9223372036854775808 ≤ a) (ha1 : a ≤ 9223372036854775807) (hb0 : -9223372036854775808 ≤ b) (hb1 : b ≤ 9223372036854775807)
    (d : Nat) : ∀ (k : Nat) (q r : Int), d < k → d ≤ 64 → x / 2 ^ d = q * y + r → 0 ≤ r → r < y → 0 ≤ q →
    regletref01_divided.l0 k a b x y q r ((d : Int) - 1) = some (Int.tdiv a b, Int.tmod a b) := by
  induction d with
  | zero =>
    intro k q r hk _ hv hr0 hr1 hq
    obtain ⟨k, rfl⟩ : ∃ m, k = m + 1 := ⟨k - 1, by omega⟩
    simp only [regletref01_divided.l0]
    rw [if_neg (by omega)]
    have hv' : x = q * y + r := by simpa using hv
    obtain ⟨ht, hm⟩ := tdiv_amount a b q r (by rw [← hx, ← hy]; exact hv') hr0 (by rw [← hy]; exact hr1)
    have hqx : q ≤ x := by
      have : q * 1 ≤ q * y := Int.mul_le_mul_of_nonneg_left (by omega) hq
      omega
    have hT := tdiv_range a b hb hb' ha0 ha1
    have hR := tmod_range a b hb ha0 ha1
    rw [ht, hm] at *
    by_cases hs : (decide (a < 0) != decide (b < 0)) = true
    · rw [if_pos hs]
      rw [if_pos hs] at hT ⊢
      have e1 : wrap64 (-(wrap64 q)) = -q := by unfold wrap64; omega
      by_cases h : a < 0
      · rw [if_pos h]
        rw [if_pos h] at hR ⊢
        have e2 : wrap64 (-(wrap64 r)) = -r := by unfold wrap64; omega
        rw [e1, e2]
      · rw [if_neg h]
        rw [if_neg h] at hR ⊢
        have e2 : wrap64 r = r := by unfold wrap64; omega
        rw [e1, e2]
    · rw [if_neg hs]
      rw [if_neg hs] at hT ⊢
      have e1 : wrap64 q = q := by unfold wrap64; omega
      by_cases h : a < 0
      · rw [if_pos h]
        rw [if_pos h] at hR ⊢
        have e2 : wrap64 (-(wrap64 r)) = -r := by unfold wrap64; omega
        rw [e1, e2]
      · rw [if_neg h]
        rw [if_neg h] at hR ⊢
        have e2 : wrap64 r = r := by unfold wrap64; omega
        rw [e1, e2]
  | succ d ih =>
    intro k q r hk hd hv hr0 hr1 hq
    obtain ⟨k, rfl⟩ : ∃ m, k = m + 1 := ⟨k - 1, by omega⟩
    simp only [regletref01_divided.l0]
    have hdi : ((d + 1 : Nat) : Int) - 1 = d := by omega
    rw [hdi, if_pos (by omega), if_pos (by omega)]
    have hy0 : 1 ≤ y := by omega
    have hy1 : y ≤ 9223372036854775808 := by omega
    have hx0 : 0 ≤ x := by omega
    have hx1 : x ≤ 9223372036854775808 := by omega
    rw [if_neg (by omega)]
    have hsh : shr .u64 x d = x / 2 ^ d := by
      unfold shr
      rw [Nat.min_eq_left (by show (d : Int).toNat ≤ 64; omega)]; simp
    have hxd0 : 0 ≤ x / 2 ^ d := Int.ediv_nonneg hx0 (by have := pow_pos' d; omega)
    have hxd1 : x / 2 ^ d ≤ x := Int.ediv_le_self _ hx0
    rw [hsh, Int.tmod_eq_emod_of_nonneg hxd0]
    have hdd : x / 2 ^ (d + 1) = x / 2 ^ d / 2 := by rw [Int.pow_succ, Int.ediv_ediv_of_nonneg (by have := pow_pos' d; omega)]
    rw [hdd] at hv
    generalize hZ : x / 2 ^ d = Z at *
    have hz : Z = 2 * (q * y + r) + Z % 2 := by omega
    have hqy : q ≤ q * y := by
      have : q * 1 ≤ q * y := Int.mul_le_mul_of_nonneg_left (by omega) hq
      omega
    have e1 : IntKind.u64.wrap (r * 2) = r * 2 := wr_u64 _ (by omega) (by omega)
    have e2 : IntKind.u64.wrap (r * 2 + Z % 2) = r * 2 + Z % 2 := wr_u64 _ (by omega) (by omega)
    have e3 : IntKind.u64.wrap (q * 2) = q * 2 := wr_u64 _ (by omega) (by omega)
    have e4 : IntKind.u64.wrap (q * 2 + 1) = q * 2 + 1 := wr_u64 _ (by omega) (by omega)
    have e5 : wrap64 ((d : Int) - 1) = d - 1 := by unfold wrap64; omega
    rw [e1, e2, e3, e4, e5]
    have hmul : q * 2 * y = 2 * (q * y) := by rw [Int.mul_comm q 2, Int.mul_assoc]
    by_cases hge : r * 2 + Z % 2 ≥ y
    · rw [if_pos hge, wr_u64 _ (by omega) (by omega)]
      exact ih k _ _ (by omega) (by omega) (by rw [Int.add_mul, hmul]; omega) (by omega) (by omega) (by omega)
    · rw [if_neg hge]
      exact ih k _ _ (by omega) (by omega) (by rw [hmul]; omega) (by omega) (by omega) (by omega)

theorem divided_some (a b : Int) (n k : Nat) (hn : n = 64 ∨ n = 32) (hk : 200 < k) (ha0 : -9223372036854775808 ≤ a) (ha1 : a ≤ 9223372036854775807) (hb0 : -9223372036854775808 ≤ b) (hb1 : b ≤ 9223372036854775807) :
    regletref01_divided.f k a b n = some (if b = 0 then (0, 0) else if b = -1 then (sg n (-a), 0) else (Int.tdiv a b, Int.tmod a b)) := by
  unfold regletref01_divided.f
  by_cases h : b = 0
  · rw [if_pos h, if_pos h]
  · rw [if_neg h, if_neg h]
    by_cases h' : b = -1
    · rw [if_pos h', if_pos h', negative_some a n k hn (by omega) ha0 ha1]; rfl
    · rw [if_neg h', if_neg h', amount_some a ha0 ha1, amount_some b hb0 hb1]
      simp only [Option.bind_some]
      refine divided_l0 a b a.natAbs b.natAbs rfl rfl h h' ha0 ha1 hb0 hb1 64 k 0 0 (by omega) (by omega) ?_ (by omega) (by omega) (by omega)
      rw [Int.ediv_eq_zero_of_lt (by omega) (by omega)]; omega

theorem logic_l0 (kd a b T : Int) (n : Nat) (hn : n = 64 ∨ n = 32)
    (hT : ∀ i : Nat, i < n → bitAt T i = if kd = 0 then bitAt a i * bitAt b i else if kd = 1 then (bitAt a i + bitAt b i + 1) / 2 else (bitAt a i + bitAt b i) % 2)
    (d : Nat) : ∀ (k i : Nat) (l : List Int), i + d = n → d + 65 < k → l.length = i → AllBits l → val l = T % 2 ^ i → regletref01_logic.l0 k kd a b n l i = some (sg n T) := by
  induction d with
  | zero =>
    intro k i l hi hk hl hb hv
    obtain ⟨k, rfl⟩ : ∃ m, k = m + 1 := ⟨k - 1, by omega⟩
    obtain rfl : i = n := by omega
    simp only [regletref01_logic.l0]
    rw [if_neg (by omega), made_some l i k hl hb hn (by omega)]
    simp only [Option.bind_some]
    rw [hv, sg_congr (n := i) (x := T % 2 ^ i) (y := T)]
    exact Int.emod_emod_of_dvd _ (Int.dvd_refl _)
  | succ d ih =>
    intro k i l hi hk hl hb hv
    obtain ⟨k, rfl⟩ : ∃ m, k = m + 1 := ⟨k - 1, by omega⟩
    have hil : i < n := by omega
    have hstep : ∀ b' : Int, b' = bitAt T i → regletref01_logic.l0 k kd a b n (l ++ [b']) (wrap64 ((i : Int) + 1)) = some (sg n T) := by
      intro b' hbe
      rw [wrap_succ i (by omega)]
      refine ih k (i + 1) _ (by omega) (by omega) (by simp; omega) (allBits_snoc hb (by rw [hbe]; exact bit_01 _ _)) ?_
      rw [val_snoc, hl, hv, hbe, ← mod_succ]
    have hlen : l.length < 17592186044416 := by omega
    have ht := hT i hil
    simp only [regletref01_logic.l0]
    rw [if_pos (by omega), bit_some a i (by omega), bit_some b i (by omega)]
    simp only [Option.bind_some]
    have ha := bit_01 a i
    have hb' := bit_01 b i
    by_cases h0 : kd = 0
    · rw [if_pos h0, if_pos hlen]
      rw [if_pos h0] at ht
      refine hstep _ ?_
      rw [ht]
      rcases ha with h | h <;> rcases hb' with h' | h' <;> rw [h, h'] <;> decide +kernel
    · rw [if_neg h0]
      rw [if_neg h0] at ht
      by_cases h1 : kd = 1
      · rw [if_pos h1, if_pos hlen]
        rw [if_pos h1] at ht
        refine hstep _ ?_
        rw [ht]
        rcases ha with h | h <;> rcases hb' with h' | h' <;> rw [h, h'] <;> decide +kernel
      · rw [if_neg h1, if_pos hlen]
        rw [if_neg h1] at ht
        refine hstep _ ?_
        rw [ht]
        rcases ha with h | h <;> rcases hb' with h' | h' <;> rw [h, h'] <;> decide +kernel

theorem logic_some (kd a b T : Int) (n k : Nat) (hn : n = 64 ∨ n = 32) (hk : 200 < k)
    (hT : ∀ i : Nat, i < n → bitAt T i = if kd = 0 then bitAt a i * bitAt b i else if kd = 1 then (bitAt a i + bitAt b i + 1) / 2 else (bitAt a i + bitAt b i) % 2) :
    regletref01_logic.f k kd a b n = some (sg n T) := by
  unfold regletref01_logic.f
  exact logic_l0 kd a b T n hn hT n k 0 [] (by omega) (by omega) rfl (fun _ h => by cases h) (by simp [val])

end Go.Proofs.Ytmgeihpankhkcaa.PAll
