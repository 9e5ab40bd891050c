/-
  Plain lemmas on whole numbers, their bits and their remainders. No program and no memory is named here.
-/
import Derived.RowKit
import Derived.Laws.BitsLemmas
import Derived.Test.YtmgeihpankhkcaaWMore
namespace Go.Proofs.Ytmgeihpankhkcaa.Plain
open Go.RowKit Go.Proofs.YtmgeihpankhkcaaW.PrintWords

/-- A number's bit. -/
def bitAt (x : Int) (i : Nat) : Int := (x / 2 ^ i) % 2

/-- A number cut to its lowest n bits, with their sign. -/
def sg (n : Nat) (x : Int) : Int := (x + 2 ^ (n - 1)) % 2 ^ n - 2 ^ (n - 1)

theorem pow_pos' (n : Nat) : (0 : Int) < 2 ^ n := Int.pow_pos (by decide)

theorem wrap64_sg (x : Int) : wrap64 x = sg 64 x := by
  have a : (2 : Int) ^ (64 - 1) = 9223372036854775808 := by decide
  have b : (2 : Int) ^ 64 = 18446744073709551616 := by decide
  unfold wrap64 sg; rw [a, b]
theorem wrap32_sg (x : Int) : wrap32 x = sg 32 x := by
  have a : (2 : Int) ^ (32 - 1) = 2147483648 := by decide
  have b : (2 : Int) ^ 32 = 4294967296 := by decide
  unfold wrap32 sg; rw [a, b]
theorem pdvd {a b : Nat} (h : a ≤ b) : (2 : Int) ^ a ∣ 2 ^ b := ⟨2 ^ (b - a), by rw [← Int.pow_add]; congr 1; omega⟩
theorem ple {a b : Nat} (h : a ≤ b) : (2 : Int) ^ a ≤ 2 ^ b := by
  have := Nat.pow_le_pow_right (n := 2) (by decide) h
  exact_mod_cast this
theorem wrapi64_sg (x : Int) : IntKind.i64.wrap x = sg 64 x := by rw [IntKind.wrap_i64, ← wrap64_sg, wrap64]
theorem wrapi32_sg (x : Int) : IntKind.i32.wrap x = sg 32 x := by rw [IntKind.wrap_i32, ← wrap32_sg, wrap32]

theorem sg_congr {n : Nat} {x y : Int} (h : x % 2 ^ n = y % 2 ^ n) : sg n x = sg n y := by
  unfold sg
  rw [Int.add_emod x, Int.add_emod y, h]

theorem sg_mod (n : Nat) (x : Int) : (sg n x) % 2 ^ n = x % 2 ^ n := by
  unfold sg
  rw [Int.sub_emod, Int.emod_emod_of_dvd _ (Int.dvd_refl _), ← Int.sub_emod]
  congr 1
  omega

theorem sg_id {n : Nat} (hn : 0 < n) {x : Int} (h0 : -2 ^ (n - 1) ≤ x) (h1 : x < 2 ^ (n - 1)) : sg n x = x := by
  unfold sg
  have e : (2 : Int) ^ n = 2 ^ (n - 1) + 2 ^ (n - 1) := by
    obtain ⟨m, rfl⟩ : ∃ m, n = m + 1 := ⟨n - 1, by omega⟩
    simp only [Nat.add_sub_cancel]
    rw [Int.pow_succ]; omega
  rw [Int.emod_eq_of_lt (by omega) (by omega)]
  omega

theorem sg_range {n : Nat} (hn : 0 < n) (x : Int) : -2 ^ (n - 1) ≤ sg n x ∧ sg n x < 2 ^ (n - 1) := by
  unfold sg
  have e : (2 : Int) ^ n = 2 ^ (n - 1) + 2 ^ (n - 1) := by
    obtain ⟨m, rfl⟩ : ∃ m, n = m + 1 := ⟨n - 1, by omega⟩
    simp only [Nat.add_sub_cancel]
    rw [Int.pow_succ]; omega
  have h0 := Int.emod_nonneg (x + 2 ^ (n - 1)) (b := 2 ^ n) (by have := pow_pos' n; omega)
  have h1 := Int.emod_lt_of_pos (x + 2 ^ (n - 1)) (pow_pos' n)
  omega

theorem sg_sg (n : Nat) (x : Int) : sg n (sg n x) = sg n x := sg_congr (sg_mod n x)

theorem bit_01 (x : Int) (i : Nat) : bitAt x i = 0 ∨ bitAt x i = 1 := by unfold bitAt; omega

/-- One bit more. -/
theorem mod_succ (x : Int) (i : Nat) : x % 2 ^ (i + 1) = x % 2 ^ i + bitAt x i * 2 ^ i := by
  unfold bitAt
  have hp := pow_pos' i
  have e1 := Int.mul_ediv_add_emod x (2 ^ i)
  have h0 := Int.emod_nonneg x (b := 2 ^ i) (by omega)
  have h1 := Int.emod_lt_of_pos x hp
  generalize x / 2 ^ i = q at *
  generalize x % 2 ^ i = r at *
  have e2 : x = (q % 2 * 2 ^ i + r) + 2 ^ (i + 1) * (q / 2) := by
    have : q = 2 * (q / 2) + q % 2 := by omega
    rw [Int.pow_succ, Int.mul_assoc, Int.add_right_comm, Int.mul_comm (q % 2), ← Int.mul_add]
    rw [← e1]
    congr 2
    omega
  rw [e2, Int.add_mul_emod_self_left, Int.emod_eq_of_lt]
  · omega
  · have : 0 ≤ q % 2 * 2 ^ i := Int.mul_nonneg (by omega) (by omega)
    omega
  · rw [Int.pow_succ]
    rcases (show q % 2 = 0 ∨ q % 2 = 1 by omega) with h | h <;> rw [h] <;> omega

theorem mod_zero (x : Int) : x % 2 ^ 0 = 0 := by simp

/-- A bit hangs on the lowest bits alone. -/
theorem bit_congr {n i : Nat} (hi : i < n) {x y : Int} (h : x % 2 ^ n = y % 2 ^ n) : bitAt x i = bitAt y i := by
  have hd : ∀ z : Int, z % 2 ^ (i + 1) = (z % 2 ^ n) % 2 ^ (i + 1) := fun z =>
    (Int.emod_emod_of_dvd z (pdvd (by omega))).symm
  have hd' : ∀ z : Int, z % 2 ^ i = (z % 2 ^ n) % 2 ^ i := fun z =>
    (Int.emod_emod_of_dvd z (pdvd (by omega))).symm
  have a := mod_succ x i
  have b := mod_succ y i
  rw [hd x, h, ← hd y, b, hd' y, ← h, ← hd' x] at a
  have hp := pow_pos' i
  have : (bitAt y i - bitAt x i) * 2 ^ i = 0 := by rw [Int.sub_mul]; omega
  rcases Int.mul_eq_zero.1 this with h | h <;> omega

theorem bit_nat (m i : Nat) : bitAt (m : Int) i = if m.testBit i then 1 else 0 := by
  unfold bitAt
  rw [Nat.testBit_eq_decide_div_mod_eq]
  have : ((m : Int) / 2 ^ i) % 2 = ((m / 2 ^ i % 2 : Nat) : Int) := by push_cast; rfl
  rw [this]
  rcases Nat.mod_two_eq_zero_or_one (m / 2 ^ i) with h | h <;> simp [h]

theorem toNat_ofInt' (n : Nat) (x : Int) : (((BitVec.ofInt n x).toNat : Nat) : Int) = x % 2 ^ n := by
  rw [BitVec.toNat_ofInt]
  have := Int.emod_nonneg x (b := ((2 ^ n : Nat) : Int)) (by have := Nat.two_pow_pos n; omega)
  rw [Int.toNat_of_nonneg this]
  push_cast; rfl

theorem wrap_mod (k : IntKind) (x : Int) : (k.wrap x) % 2 ^ k.bits = x % 2 ^ k.bits := by
  unfold IntKind.wrap
  simp only []
  split
  · rw [Int.sub_emod, Int.emod_emod_of_dvd _ (Int.dvd_refl _), Int.emod_self]; simp
  · exact Int.emod_emod_of_dvd _ (Int.dvd_refl _)

theorem bit_bv (n : Nat) (x : Int) {i : Nat} (hi : i < n) : bitAt x i = if (BitVec.ofInt n x).toNat.testBit i then 1 else 0 := by
  rw [← bit_nat, toNat_ofInt']
  exact bit_congr hi (Int.emod_emod_of_dvd _ (Int.dvd_refl _)).symm

theorem bit_and (k : IntKind) (x y : Int) {i : Nat} (hi : i < k.bits) : bitAt (Go.bits .and k x y) i = bitAt x i * bitAt y i := by
  unfold Go.bits
  rw [bit_congr hi (wrap_mod k _), bit_nat, BitVec.toNat_and, Nat.testBit_and, bit_bv k.bits x hi, bit_bv k.bits y hi]
  cases (BitVec.ofInt k.bits x).toNat.testBit i <;> cases (BitVec.ofInt k.bits y).toNat.testBit i <;> rfl

theorem bit_or (k : IntKind) (x y : Int) {i : Nat} (hi : i < k.bits) : bitAt (Go.bits .or k x y) i = (bitAt x i + bitAt y i + 1) / 2 := by
  unfold Go.bits
  rw [bit_congr hi (wrap_mod k _), bit_nat, BitVec.toNat_or, Nat.testBit_or, bit_bv k.bits x hi, bit_bv k.bits y hi]
  cases (BitVec.ofInt k.bits x).toNat.testBit i <;> cases (BitVec.ofInt k.bits y).toNat.testBit i <;> rfl

theorem bit_xor (k : IntKind) (x y : Int) {i : Nat} (hi : i < k.bits) : bitAt (Go.bits .xor k x y) i = (bitAt x i + bitAt y i) % 2 := by
  unfold Go.bits
  rw [bit_congr hi (wrap_mod k _), bit_nat, BitVec.toNat_xor, Nat.testBit_xor, bit_bv k.bits x hi, bit_bv k.bits y hi]
  cases (BitVec.ofInt k.bits x).toNat.testBit i <;> cases (BitVec.ofInt k.bits y).toNat.testBit i <;> rfl

/-- The bits tell the number. -/
theorem mod_ext {n : Nat} {x y : Int} (h : ∀ i, i < n → bitAt x i = bitAt y i) : x % 2 ^ n = y % 2 ^ n := by
  induction n with
  | zero => rw [mod_zero, mod_zero]
  | succ n ih => rw [mod_succ, mod_succ, ih (fun i hi => h i (by omega)), h n (by omega)]

/-- A mask of the lowest bits. -/
theorem and_mask (k : IntKind) (x : Int) (j : Nat) (hj : j ≤ k.bits) (hk : ∀ n : Int, 0 ≤ n → n < 2 ^ j → k.wrap n = n) : Go.bits .and k x (2 ^ j - 1) = x % 2 ^ j := by
  show k.wrap ((BitVec.ofInt k.bits x &&& BitVec.ofInt k.bits (2 ^ j - 1)).toNat : Int) = _
  have hm : (BitVec.ofInt k.bits (2 ^ j - 1)).toNat = 2 ^ j - 1 := by
    have := toNat_ofInt' k.bits (2 ^ j - 1)
    rw [Int.emod_eq_of_lt] at this
    · have hp := Nat.two_pow_pos j
      have e : ((2 : Int) ^ j) = ((2 ^ j : Nat) : Int) := by push_cast; rfl
      omega
    · have := pow_pos' j; omega
    · have : (2 : Int) ^ j ≤ 2 ^ k.bits := ple hj
      omega
  rw [BitVec.toNat_and, hm, Nat.and_two_pow_sub_one_eq_mod]
  have e : (((BitVec.ofInt k.bits x).toNat % 2 ^ j : Nat) : Int) = x % 2 ^ j := by
    push_cast
    rw [toNat_ofInt']
    exact Int.emod_emod_of_dvd x (pdvd hj)
  rw [e]
  exact hk _ (Int.emod_nonneg _ (by have := pow_pos' j; omega)) (Int.emod_lt_of_pos _ (pow_pos' j))

theorem wr_i64 (n : Int) (h₀ : 0 ≤ n) (h₁ : n < 2 ^ 63) : IntKind.i64.wrap n = n := by rw [IntKind.wrap_i64]; omega
theorem wr_i32 (n : Int) (h₀ : 0 ≤ n) (h₁ : n < 2 ^ 31) : IntKind.i32.wrap n = n := by rw [IntKind.wrap_i32]; omega
theorem wr_u64 (n : Int) (h₀ : 0 ≤ n) (h₁ : n < 2 ^ 64) : IntKind.u64.wrap n = n := by
  unfold IntKind.wrap; simp [IntKind.bits, IntKind.signed]; omega
theorem wr_u32 (n : Int) (h₀ : 0 ≤ n) (h₁ : n < 2 ^ 32) : IntKind.u32.wrap n = n := by rw [IntKind.wrap_u32]; omega

theorem and_one (x : Int) : Go.bits .and .i64 x 1 = x % 2 := and_mask .i64 x 1 (by decide) (fun n h h' => wr_i64 n h (by omega))
theorem and_63 (x : Int) : Go.bits .and .i64 x 63 = x % 64 := and_mask .i64 x 6 (by decide) (fun n h h' => wr_i64 n h (by omega))
theorem and_31 (x : Int) : Go.bits .and .i64 x 31 = x % 32 := and_mask .i64 x 5 (by decide) (fun n h h' => wr_i64 n h (by omega))
theorem and_65535 (x : Int) : Go.bits .and .i64 x 65535 = x % 65536 := and_mask .i64 x 16 (by decide) (fun n h h' => wr_i64 n h (by omega))
theorem and_i31 (x : Int) : Go.bits .and .i32 x 31 = x % 32 := and_mask .i32 x 5 (by decide) (fun n h h' => wr_i32 n h (by omega))
theorem and_u63 (x : Int) : Go.bits .and .u64 x 63 = x % 64 := and_mask .u64 x 6 (by decide) (fun n h h' => wr_u64 n h (by omega))
theorem and_u31 (x : Int) : Go.bits .and .u32 x 31 = x % 32 := and_mask .u32 x 5 (by decide) (fun n h h' => wr_u32 n h (by omega))
theorem and_low (x : Int) (j : Nat) (hj : j ≤ 63) : Go.bits .and .i64 x (2 ^ j - 1) = x % 2 ^ j :=
  and_mask .i64 x j (by show j ≤ 64; omega) (fun n h h' => wr_i64 n h (Int.lt_of_lt_of_le h' (ple hj)))

/-- All but -1: the complement. -/
theorem xor_neg_one (x : Int) (h0 : -9223372036854775808 ≤ x) (h1 : x ≤ 9223372036854775807) : Go.bits .xor .i64 (-1) x = -1 - x := by
  have hm : (Go.bits .xor .i64 (-1) x) % 2 ^ 64 = (-1 - x) % 2 ^ 64 := by
    refine mod_ext (n := 64) fun i hi => ?_
    rw [bit_xor .i64 _ _ hi]
    unfold bitAt
    have hp := pow_pos' i
    have e1 : (-1 : Int) / 2 ^ i = -1 := by
      rw [Int.ediv_eq_iff_of_pos hp]; omega
    have e2 : (-1 - x) / 2 ^ i = -1 - x / 2 ^ i := by
      rw [Int.ediv_eq_iff_of_pos hp]
      have a := Int.mul_ediv_add_emod x (2 ^ i)
      have b := Int.emod_nonneg x (b := 2 ^ i) (by omega)
      have c := Int.emod_lt_of_pos x hp
      rw [Int.sub_mul, Int.mul_comm (x / 2 ^ i)]
      omega
    rw [e1, e2]; omega
  have hr : Go.bits .xor .i64 (-1) x = sg 64 (Go.bits .xor .i64 (-1) x) := by
    unfold Go.bits
    simp only []
    rw [wrapi64_sg, sg_sg]
  rw [hr, sg_congr hm, sg_id (by decide) (by omega) (by omega)]

/-- What a list of bits tells, the lowest first. -/
def val : List Int → Int
  | [] => 0
  | b :: l => b + 2 * val l

theorem val_snoc (l : List Int) (b : Int) : val (l ++ [b]) = val l + b * 2 ^ l.length := by
  induction l with
  | nil => simp [val]
  | cons x l ih =>
    simp only [List.cons_append, val, ih, List.length_cons, Int.pow_succ]
    rw [Int.mul_add, ← Int.mul_assoc, Int.mul_comm (2 ^ l.length) 2, ← Int.mul_assoc, Int.mul_comm b 2]
    omega

def AllBits (l : List Int) : Prop := ∀ b ∈ l, b = 0 ∨ b = 1

theorem allBits_snoc {l : List Int} {b : Int} (h : AllBits l) (hb : b = 0 ∨ b = 1) : AllBits (l ++ [b]) := by
  intro x hx
  rcases List.mem_append.1 hx with h' | h'
  · exact h x h'
  · rw [List.mem_singleton.1 h']; exact hb

theorem val_bound {l : List Int} (h : AllBits l) : 0 ≤ val l ∧ val l < 2 ^ l.length := by
  induction l with
  | nil => simp [val]
  | cons x l ih =>
    have := ih (fun b hb => h b (List.mem_cons_of_mem _ hb))
    have hx := h x List.mem_cons_self
    simp only [val, List.length_cons, Int.pow_succ]
    omega

/-- One bit more behind a number that is below its place. -/
theorem or_bit {u b : Int} {i : Nat} (hi : i < 64) (h0 : 0 ≤ u) (h1 : u < 2 ^ i) (hb : b = 0 ∨ b = 1) : Go.bits .or .i64 (sg 64 u) (sg 64 (b * 2 ^ i)) = sg 64 (u + b * 2 ^ i) := by
  have hp : (2 : Int) ^ (i + 1) ≤ 2 ^ 64 := ple (by omega)
  rw [Int.pow_succ] at hp
  have hpi := pow_pos' i
  have ea : (((BitVec.ofInt 64 (sg 64 u)).toNat : Nat) : Int) = u := by
    rw [toNat_ofInt', sg_mod, Int.emod_eq_of_lt h0 (by omega)]
  have eb : (((BitVec.ofInt 64 (sg 64 (b * 2 ^ i))).toNat : Nat) : Int) = b * 2 ^ i := by
    rw [toNat_ofInt', sg_mod, Int.emod_eq_of_lt] <;> rcases hb with rfl | rfl <;> omega
  unfold Go.bits
  simp only []
  rw [wrapi64_sg]
  show sg 64 ((BitVec.ofInt 64 (sg 64 u) ||| BitVec.ofInt 64 (sg 64 (b * 2 ^ i))).toNat : Int) = _
  rw [BitVec.toNat_or]
  congr 1
  generalize (BitVec.ofInt 64 (sg 64 u)).toNat = A at *
  generalize (BitVec.ofInt 64 (sg 64 (b * 2 ^ i))).toNat = B at *
  have hA : A < 2 ^ i := by have : (A : Int) < ((2 ^ i : Nat) : Int) := by push_cast; omega
                            exact_mod_cast this
  rcases hb with rfl | rfl
  · have : B = 0 := by omega
    subst this; simp; omega
  · have : B = 2 ^ i * 1 := by
      have : (B : Int) = ((2 ^ i : Nat) : Int) := by push_cast; omega
      omega
    subst this
    rw [Nat.or_comm, ← Nat.two_pow_add_eq_or_of_lt hA 1]
    push_cast; omega

theorem rd_of (l : List Int) (i : Nat) (h : i < l.length) : rd l (i : Int) = l[i] := by
  unfold rd; simp [List.getD_eq_getElem?_getD, h]

theorem rd_snoc_take (l : List Int) (i : Nat) (h : i < l.length) : l.take (i + 1) = l.take i ++ [rd l (i : Int)] := by
  rw [List.take_succ_eq_append_getElem h, rd_of l i h]

theorem wf64 {x : Int} (h : (Lit.int .i64 x).wf = true) : -9223372036854775808 ≤ x ∧ x ≤ 9223372036854775807 := by
  simp [Lit.wf, IntKind.min, IntKind.max, IntKind.signed, IntKind.bits] at h; omega
theorem wf32 {x : Int} (h : (Lit.int .i32 x).wf = true) : -2147483648 ≤ x ∧ x ≤ 2147483647 := by
  simp [Lit.wf, IntKind.min, IntKind.max, IntKind.signed, IntKind.bits] at h; omega

theorem wrap_succ (i : Nat) (h : i < 1000000) : wrap64 ((i : Int) + 1) = ((i + 1 : Nat) : Int) := by unfold wrap64; omega

theorem tmod_pos (x m : Int) : Int.tmod x m = if 0 ≤ x then x % m else -((-x) % m) := by
  by_cases h : 0 ≤ x
  · rw [if_pos h, Int.tmod_eq_emod_of_nonneg h]
  · rw [if_neg h]
    have := Int.neg_tmod (-x) m
    rw [Int.neg_neg] at this
    rw [this, Int.tmod_eq_emod_of_nonneg (by omega)]

theorem cut_at (a m h : Int) (n : Nat) (hm : m = h + h) (hh : 0 < h) (h2 : h ≤ 2147483648) (e1 : m = 2 ^ n) (e2 : h = 2 ^ (n - 1)) (e3 : wrap64 (Int.tdiv m 2) = h) :
    (if (Int.tmod (wrap64 ((Int.tmod a m) + m)) m) ≥ (wrap64 (Int.tdiv m 2)) then (some (wrap64 ((Int.tmod (wrap64 ((Int.tmod a m) + m)) m) - m))) else (some (Int.tmod (wrap64 ((Int.tmod a m) + m)) m))) = some (sg n a) := by
  have hr : -m < Int.tmod a m ∧ Int.tmod a m < m ∧ (Int.tmod a m) % m = a % m := by
    rw [tmod_pos]
    split
    · have a1 := Int.emod_nonneg a (b := m) (by omega)
      have a2 := Int.emod_lt_of_pos a (b := m) (by omega)
      exact ⟨by omega, by omega, Int.emod_emod_of_dvd _ (Int.dvd_refl _)⟩
    · have a1 := Int.emod_nonneg (-a) (b := m) (by omega)
      have a2 := Int.emod_lt_of_pos (-a) (b := m) (by omega)
      refine ⟨by omega, by omega, ?_⟩
      have : (-(-a % m)) % m = (-(-a)) % m := by
        rw [← Int.zero_sub, Int.sub_emod, Int.emod_emod_of_dvd _ (Int.dvd_refl _), ← Int.sub_emod, Int.zero_sub]
      rw [this, Int.neg_neg]
  generalize hT : Int.tmod a m = T at *
  have ew : wrap64 (T + m) = T + m := by unfold wrap64; omega
  rw [ew, e3, Int.tmod_eq_emod_of_nonneg (by omega)]
  have e4 : (T + m) % m = a % m := by rw [Int.add_emod_right, hr.2.2]
  rw [e4]
  have b0 := Int.emod_nonneg a (b := m) (by omega)
  have b1 := Int.emod_lt_of_pos a (b := m) (by omega)
  have es : sg n a = (a % m + h) % m - h := by
    unfold sg; rw [← e1, ← e2, Int.add_emod a h m, Int.add_emod (a % m) h m, Int.emod_emod_of_dvd _ (Int.dvd_refl _)]
  rw [es]
  by_cases hc : a % m ≥ h
  · rw [if_pos hc]
    have : (a % m + h) % m = a % m + h - m := by
      rw [show a % m + h = (a % m + h - m) + m from by omega, Int.add_emod_right, Int.emod_eq_of_lt (by omega) (by omega)]
      omega
    rw [this]
    have ew2 : wrap64 (a % m - m) = a % m - m := by unfold wrap64; omega
    rw [ew2]; congr 1; omega
  · rw [if_neg hc, Int.emod_eq_of_lt (a := a % m + h) (by omega) (by omega)]
    congr 1; omega

theorem sg_mod_le {n : Nat} (hn : n ≤ 64) (x : Int) : (sg 64 x) % 2 ^ n = x % 2 ^ n := by
  rw [← Int.emod_emod_of_dvd (sg 64 x) (pdvd hn), sg_mod, Int.emod_emod_of_dvd _ (pdvd hn)]

theorem bit_div (a : Int) (m i : Nat) : bitAt (a / 2 ^ m) i = bitAt a (i + m) := by
  unfold bitAt
  rw [Int.ediv_ediv_of_nonneg (by have := pow_pos' m; omega), ← Int.pow_add, Nat.add_comm]

theorem bit_mul (a : Int) (m i : Nat) : bitAt (a * 2 ^ m) i = if m ≤ i then bitAt a (i - m) else 0 := by
  unfold bitAt
  by_cases h : m ≤ i
  · rw [if_pos h]
    obtain ⟨j, rfl⟩ : ∃ j, i = m + j := ⟨i - m, by omega⟩
    rw [Int.pow_add, ← Int.ediv_ediv_of_nonneg (by have := pow_pos' m; omega), Int.mul_ediv_cancel _ (by have := pow_pos' m; omega), Nat.add_sub_cancel_left]
  · rw [if_neg h]
    obtain ⟨j, rfl⟩ : ∃ j, m = i + (j + 1) := ⟨m - i - 1, by omega⟩
    rw [Int.pow_add, Int.mul_comm ((2 : Int) ^ i), ← Int.mul_assoc, Int.mul_ediv_cancel _ (by have := pow_pos' i; omega), Int.pow_succ, ← Int.mul_assoc]
    omega

theorem bit_sign {n : Nat} {a : Int} (h0 : -2 ^ (n - 1) ≤ a) (h1 : a < 2 ^ (n - 1)) (i : Nat) (hi : n - 1 ≤ i) : bitAt a i = if a < 0 then 1 else 0 := by
  unfold bitAt
  have hp : (2 : Int) ^ (n - 1) ≤ 2 ^ i := ple hi
  by_cases h : a < 0
  · rw [if_pos h]
    have : a / 2 ^ i = -1 := by rw [Int.ediv_eq_iff_of_pos (pow_pos' i)]; omega
    rw [this]; rfl
  · rw [if_neg h, Int.ediv_eq_zero_of_lt (by omega) (by omega)]; rfl

theorem bit_high {n : Nat} {a : Int} (h0 : 0 ≤ a) (h1 : a < 2 ^ n) (i : Nat) (hi : n ≤ i) : bitAt a i = 0 := by
  unfold bitAt
  have hp : (2 : Int) ^ n ≤ 2 ^ i := ple hi
  rw [Int.ediv_eq_zero_of_lt h0 (by omega)]; rfl

theorem tdiv_amount (a b q r : Int) (hv : (a.natAbs : Int) = q * b.natAbs + r) (hr0 : 0 ≤ r) (hr1 : r < b.natAbs) :
    Int.tdiv a b = (if (decide (a < 0) != decide (b < 0)) = true then -q else q) ∧ Int.tmod a b = (if a < 0 then -r else r) := by
  have hq : (a.natAbs : Int) / b.natAbs = q := by
    rw [hv, Int.add_comm, Int.add_mul_ediv_right _ _ (by omega), Int.ediv_eq_zero_of_lt hr0 hr1]; omega
  have hr : (a.natAbs : Int) % b.natAbs = r := by
    rw [hv, Int.add_comm, Int.add_mul_emod_self_right, Int.emod_eq_of_lt hr0 hr1]
  by_cases ha : a < 0 <;> by_cases hb' : b < 0
  · have ea : (a.natAbs : Int) = -a := by omega
    have eb : (b.natAbs : Int) = -b := by omega
    rw [ea, eb] at hq hr
    simp only [ha, hb', decide_true, bne_self_eq_false, Bool.false_eq_true, if_false, if_true]
    have t := Int.tdiv_eq_ediv_of_nonneg (a := -a) (b := -b) (by omega)
    have m := Int.tmod_eq_emod_of_nonneg (a := -a) (b := -b) (by omega)
    rw [Int.neg_tdiv, Int.tdiv_neg, Int.neg_neg] at t
    rw [Int.neg_tmod, Int.tmod_neg] at m
    exact ⟨by omega, by omega⟩
  · have ea : (a.natAbs : Int) = -a := by omega
    have eb : (b.natAbs : Int) = b := by omega
    rw [ea, eb] at hq hr
    simp only [ha, hb', decide_true, decide_false, Bool.true_bne, Bool.not_false, if_true]
    have t := Int.tdiv_eq_ediv_of_nonneg (a := -a) (b := b) (by omega)
    have m := Int.tmod_eq_emod_of_nonneg (a := -a) (b := b) (by omega)
    rw [Int.neg_tdiv] at t
    rw [Int.neg_tmod] at m
    exact ⟨by omega, by omega⟩
  · have ea : (a.natAbs : Int) = a := by omega
    have eb : (b.natAbs : Int) = -b := by omega
    rw [ea, eb] at hq hr
    simp only [ha, hb', decide_true, decide_false, Bool.false_bne, if_true, if_false]
    have t := Int.tdiv_eq_ediv_of_nonneg (a := a) (b := -b) (by omega)
    have m := Int.tmod_eq_emod_of_nonneg (a := a) (b := -b) (by omega)
    rw [Int.tdiv_neg] at t
    rw [Int.tmod_neg] at m
    exact ⟨by omega, by omega⟩
  · have ea : (a.natAbs : Int) = a := by omega
    have eb : (b.natAbs : Int) = b := by omega
    rw [ea, eb] at hq hr
    simp only [ha, hb', decide_false, bne_self_eq_false, Bool.false_eq_true, if_false]
    rw [Int.tdiv_eq_ediv_of_nonneg (by omega), Int.tmod_eq_emod_of_nonneg (by omega)]
    exact ⟨hq, hr⟩

theorem tdiv_abs (a b : Int) : ((Int.tdiv a b).natAbs : Int) = (a.natAbs : Int) / b.natAbs := by
  rw [Int.natAbs_tdiv]; push_cast; rfl

theorem tdiv_range (a b : Int) (hb : b ≠ 0) (hb' : b ≠ -1) (h0 : -9223372036854775808 ≤ a) (h1 : a ≤ 9223372036854775807) : -9223372036854775808 ≤ Int.tdiv a b ∧ Int.tdiv a b ≤ 9223372036854775807 := by
  by_cases h : b = 1
  · subst h; rw [Int.tdiv_one]; omega
  · have e := tdiv_abs a b
    have hle : (a.natAbs : Int) / b.natAbs ≤ (a.natAbs : Int) / 2 := by
      rw [Int.le_ediv_iff_mul_le (by decide)]
      have h3 := Int.ediv_mul_le (a.natAbs : Int) (b := (b.natAbs : Int)) (by omega)
      have h4 : (0 : Int) ≤ (a.natAbs : Int) / b.natAbs := Int.ediv_nonneg (by omega) (by omega)
      have h5 : (a.natAbs : Int) / b.natAbs * 2 ≤ (a.natAbs : Int) / b.natAbs * b.natAbs := Int.mul_le_mul_of_nonneg_left (by omega) h4
      omega
    omega

theorem tmod_range (a b : Int) (hb : b ≠ 0) (h0 : -9223372036854775808 ≤ a) (h1 : a ≤ 9223372036854775807) : -9223372036854775808 ≤ Int.tmod a b ∧ Int.tmod a b ≤ 9223372036854775807 := by
  have e := Int.natAbs_tmod a b
  have l := Nat.mod_le a.natAbs b.natAbs
  rw [← e] at l
  have s := tmod_pos a b
  split at s
  · have a1 := Int.emod_nonneg a hb
    omega
  · have a1 := Int.emod_nonneg (-a) hb
    omega

theorem bits_sg64 (op : BinOp) (x y : Int) : sg 64 (Go.bits op .i64 x y) = Go.bits op .i64 x y := by
  unfold Go.bits; simp only []; rw [wrapi64_sg, sg_sg]
theorem bits_sg32 (op : BinOp) (x y : Int) : sg 32 (Go.bits op .i32 x y) = Go.bits op .i32 x y := by
  unfold Go.bits; simp only []; rw [wrapi32_sg, sg_sg]

theorem u64_mod (b : Int) : IntKind.u64.wrap b = b % 18446744073709551616 := by
  unfold IntKind.wrap; simp [IntKind.bits, IntKind.signed]
theorem u64_mod64 (b : Int) : IntKind.u64.wrap b % 64 = b % 64 := by
  rw [u64_mod]; omega
theorem wrap_i8 (n : Int) : IntKind.i8.wrap n = (n + 128) % 256 - 128 := by
  simp [IntKind.wrap, IntKind.bits, IntKind.signed]
  split <;> omega
theorem wrap_i16 (n : Int) : IntKind.i16.wrap n = (n + 32768) % 65536 - 32768 := by
  simp [IntKind.wrap, IntKind.bits, IntKind.signed]
  split <;> omega
theorem wrap_u16 (n : Int) : IntKind.u16.wrap n = n % 65536 := by simp [IntKind.wrap, IntKind.bits, IntKind.signed]

theorem shl_at (k : IntKind) (x y : Int) (hy : y ≤ k.bits) : shl k x y = k.wrap (x * 2 ^ y.toNat) := by
  unfold shl; rw [Nat.min_eq_left (by omega)]
theorem shr_at (k : IntKind) (x y : Int) (hy : y ≤ k.bits) : shr k x y = x / 2 ^ y.toNat := by
  unfold shr; rw [Nat.min_eq_left (by omega)]

theorem mul_pow_mod (a : Int) (n m : Nat) : (a * 2 ^ n) % 2 ^ (n + m) = a % 2 ^ m * 2 ^ n := by
  rw [Int.pow_add, Int.mul_comm a, Int.mul_emod_mul_of_pos _ _ (pow_pos' n), Int.mul_comm]

/-- To the left and back. -/
theorem left_back (a : Int) (n m : Nat) (h : n + m = 64) : (a * 2 ^ n) % 2 ^ 64 / 2 ^ n = a % 2 ^ m := by
  rw [← h, mul_pow_mod, Int.mul_ediv_cancel _ (by have := pow_pos' n; omega)]

theorem tdiv_lim (a b L : Int) (hL : 2 ≤ L) (hb' : b ≠ -1) (h0 : -L ≤ a) (h1 : a < L) (hb : b ≠ 0) : -L ≤ Int.tdiv a b ∧ Int.tdiv a b < L := by
  by_cases h : b = 1
  · subst h; rw [Int.tdiv_one]; omega
  · have e := tdiv_abs a b
    have hle : (a.natAbs : Int) / b.natAbs ≤ (a.natAbs : Int) / 2 := by
      rw [Int.le_ediv_iff_mul_le (by decide)]
      have h3 := Int.ediv_mul_le (a.natAbs : Int) (b := (b.natAbs : Int)) (by omega)
      have h4 : (0 : Int) ≤ (a.natAbs : Int) / b.natAbs := Int.ediv_nonneg (by omega) (by omega)
      have h5 : (a.natAbs : Int) / b.natAbs * 2 ≤ (a.natAbs : Int) / b.natAbs * b.natAbs := Int.mul_le_mul_of_nonneg_left (by omega) h4
      omega
    omega

theorem tmod_lim (a b L : Int) (hb : b ≠ 0) (h0 : -L ≤ a) (h1 : a < L) : -L ≤ Int.tmod a b ∧ Int.tmod a b < L := by
  have e := Int.natAbs_tmod a b
  have l := Nat.mod_le a.natAbs b.natAbs
  rw [← e] at l
  have s := tmod_pos a b
  split at s
  · have a1 := Int.emod_nonneg a hb
    omega
  · have a1 := Int.emod_nonneg (-a) hb
    omega

theorem bit_andNot (k : IntKind) (x y : Int) {i : Nat} (hi : i < k.bits) : bitAt (Go.bits .andNot k x y) i = bitAt x i * (1 - bitAt y i) := by
  unfold Go.bits
  rw [bit_congr hi (wrap_mod k _), bit_nat, BitVec.toNat_and, Nat.testBit_and, bit_bv k.bits x hi, bit_bv k.bits y hi]
  have : (~~~ (BitVec.ofInt k.bits y)).toNat.testBit i = !((BitVec.ofInt k.bits y).toNat.testBit i) := by
    rw [BitVec.testBit_toNat, BitVec.testBit_toNat, BitVec.getLsbD_not]; simp [hi]
  rw [this]
  cases (BitVec.ofInt k.bits x).toNat.testBit i <;> cases (BitVec.ofInt k.bits y).toNat.testBit i <;> rfl

theorem andNot_one (x : Int) (h0 : -9223372036854775808 ≤ x) (h1 : x ≤ 9223372036854775807) : Go.bits .andNot .i64 x 1 = x - x % 2 := by
  have hm : (Go.bits .andNot .i64 x 1) % 2 ^ 64 = (x - x % 2) % 2 ^ 64 := by
    refine mod_ext (n := 64) fun i hi => ?_
    rw [bit_andNot .i64 _ _ hi]
    cases i with
    | zero => unfold bitAt; simp <;> omega
    | succ i =>
      have e1 : bitAt 1 (i + 1) = 0 := bit_high (n := 1) (by decide) (by decide) _ (by omega)
      have e2 : bitAt (x - x % 2) (i + 1) = bitAt x (i + 1) := by
        unfold bitAt
        rw [Int.pow_succ, Int.mul_comm, ← Int.ediv_ediv_of_nonneg (by decide), ← Int.ediv_ediv_of_nonneg (by decide)]
        congr 2; omega
      rw [e1, e2]; simp
  rw [← bits_sg64, sg_congr hm, sg_id (by decide) (by omega) (by omega)]

theorem bits_range32 (op : BinOp) (x y : Int) : -2147483648 ≤ Go.bits op .i32 x y ∧ Go.bits op .i32 x y ≤ 2147483647 := by
  have := sg_range (n := 32) (by decide) (Go.bits op .i32 x y)
  rw [bits_sg32] at this
  omega

/-- A quotient by a power of two is no greater. -/
theorem ediv_lim (a L : Int) (m : Nat) (h0 : -L ≤ a) (h1 : a < L) : -L ≤ a / 2 ^ m ∧ a / 2 ^ m < L := by
  have hp := pow_pos' m
  constructor
  · rw [Int.le_ediv_iff_mul_le hp]
    by_cases h : 0 ≤ L
    · have : L * 1 ≤ L * 2 ^ m := Int.mul_le_mul_of_nonneg_left (by omega) h
      rw [Int.neg_mul]; omega
    · omega
  · by_cases h : 0 ≤ a
    · have := Int.ediv_le_self (2 ^ m) h; omega
    · have : a / 2 ^ m < 0 := Int.ediv_neg_of_neg_of_pos (by omega) hp
      omega

end Go.Proofs.Ytmgeihpankhkcaa.Plain
