/-
  The program's functions of the first layer, as they are printed for the law All, come to what arithmetic says.
-/
import Derived.Test.YtmgeihpankhkcaaPlain
import Derived.Test.YtmgeihpankhkcaaPAllx1
import Derived.Test.YtmgeihpankhkcaaPAllx2
namespace Go.Proofs.Ytmgeihpankhkcaa.PAll
open Go.RowKit Go.Proofs.YtmgeihpankhkcaaW.PrintWords Go.Proofs.YtmgeihpankhkcaaW.PrintLast Go.Proofs.Ytmgeihpankhkcaa.Plain

theorem num_divided_some (rest : Bool) (a b : Int) (ha0 : -9223372036854775808 ≤ a) (ha1 : a ≤ 9223372036854775807) :
    num_divided.f rest a b = some (if b = 0 then 0 else if b = -1 then (if rest = true then 0 else wrap64 (-a)) else if rest = true then Int.tmod a b else Int.tdiv a b) := by
  unfold num_divided.f
  by_cases h : b = 0
  · rw [if_pos h, if_pos h]
  · rw [if_neg h, if_neg h]
    by_cases h' : b = -1
    · rw [if_pos h', if_pos h']
      cases rest <;> rfl
    · rw [if_neg h', if_neg h']
      cases rest
      · have := tdiv_range a b h h' ha0 ha1
        have e : wrap64 (Int.tdiv a b) = Int.tdiv a b := by unfold wrap64; omega
        simp [e]
      · rfl

theorem amt64 (b : Int) : Go.bits .and .u64 (IntKind.u64.wrap b) 63 = b % 64 := by rw [and_u63, u64_mod64]
theorem amt32 (b : Int) : Go.bits .and .u32 (b % 4294967296) 31 = b % 32 := by rw [and_u31]; omega

theorem long_add (k : Nat) (a b : Int) : num_Long.f k 97 a b = some (sg 64 (a + b)) := by
  simp only [num_Long.f, Int.reduceEq, if_true, if_false, wrap64_sg]
theorem long_sub (k : Nat) (a b : Int) : num_Long.f k 101 a b = some (sg 64 (a - b)) := by
  simp only [num_Long.f, Int.reduceEq, if_true, if_false, wrap64_sg]
theorem long_mul (k : Nat) (a b : Int) : num_Long.f k 105 a b = some (sg 64 (a * b)) := by
  simp only [num_Long.f, Int.reduceEq, if_true, if_false, wrap64_sg]
theorem long_div (k : Nat) (a b : Int) : num_Long.f (k + 1) 109 a b = num_divided.f false a b := by
  simp only [num_Long.f, num_Long.j0, Int.reduceEq, if_true, if_false, Int.reduceBEq]
  cases num_divided.f false a b <;> rfl
theorem long_rem (k : Nat) (a b : Int) : num_Long.f (k + 1) 113 a b = num_divided.f true a b := by
  simp only [num_Long.f, num_Long.j0, Int.reduceEq, if_true, if_false, Int.reduceBEq]
  cases num_divided.f true a b <;> rfl
theorem long_shl (k : Nat) (a b : Int) : num_Long.f (k + 1) 121 a b = some (sg 64 (a * 2 ^ (b % 64).toNat)) := by
  simp only [num_Long.f, num_Long.j0, Int.reduceEq, if_true, if_false, Int.reduceBEq, Bool.false_eq_true, amt64]
  rw [if_pos (by omega), shl_at .i64 a _ (by show b % 64 ≤ 64; omega), wrapi64_sg]
theorem long_shr (k : Nat) (a b : Int) : num_Long.f (k + 1) 123 a b = some (a / 2 ^ (b % 64).toNat) := by
  simp only [num_Long.f, num_Long.j0, Int.reduceEq, if_true, if_false, Int.reduceBEq, Bool.false_eq_true, amt64]
  rw [if_pos (by omega), shr_at .i64 a _ (by show b % 64 ≤ 64; omega)]
theorem long_ushr (k : Nat) (a b : Int) : num_Long.f (k + 1) 125 a b = some (sg 64 (a % 2 ^ 64 / 2 ^ (b % 64).toNat)) := by
  simp only [num_Long.f, num_Long.j0, Int.reduceEq, if_true, if_false, Int.reduceBEq, Bool.false_eq_true, amt64]
  rw [if_pos (by omega), shr_at .u64 _ _ (by show b % 64 ≤ 64; omega), wrap64_sg, u64_mod]; rfl
theorem long_and (k : Nat) (a b : Int) : num_Long.f (k + 1) 127 a b = some (Go.bits .and .i64 a b) := by
  simp only [num_Long.f, num_Long.j0, Int.reduceEq, if_true, if_false, Int.reduceBEq, Bool.false_eq_true]
theorem long_or (k : Nat) (a b : Int) : num_Long.f (k + 1) 129 a b = some (Go.bits .or .i64 a b) := by
  simp only [num_Long.f, num_Long.j0, Int.reduceEq, if_true, if_false, Int.reduceBEq, Bool.false_eq_true]
theorem long_xor (k : Nat) (a b : Int) : num_Long.f (k + 1) 131 a b = some (Go.bits .xor .i64 a b) := by
  simp only [num_Long.f, num_Long.j0, Int.reduceEq, if_true, if_false, Int.reduceBEq, Bool.false_eq_true]

theorem int_add (k : Nat) (a b : Int) : num_Int.f k 96 a b = some (sg 32 (a + b)) := by
  simp only [num_Int.f, Int.reduceEq, if_true, if_false, wrap32_sg]
theorem int_sub (k : Nat) (a b : Int) : num_Int.f k 100 a b = some (sg 32 (a - b)) := by
  simp only [num_Int.f, Int.reduceEq, if_true, if_false, wrap32_sg]
theorem int_mul (k : Nat) (a b : Int) : num_Int.f k 104 a b = some (sg 32 (a * b)) := by
  simp only [num_Int.f, Int.reduceEq, if_true, if_false, wrap32_sg]
theorem int_div (k : Nat) (a b : Int) : num_Int.f (k + 1) 108 a b = (num_divided.f false (wrap64 a) (wrap64 b)).bind fun t => some (wrap32 t) := by
  simp only [num_Int.f, num_Int.j0, Int.reduceEq, if_true, if_false, Int.reduceBEq]
theorem int_rem (k : Nat) (a b : Int) : num_Int.f (k + 1) 112 a b = (num_divided.f true (wrap64 a) (wrap64 b)).bind fun t => some (wrap32 t) := by
  simp only [num_Int.f, num_Int.j0, Int.reduceEq, if_true, if_false, Int.reduceBEq]
theorem int_shl (k : Nat) (a b : Int) : num_Int.f (k + 1) 120 a b = some (sg 32 (a * 2 ^ (b % 32).toNat)) := by
  simp only [num_Int.f, num_Int.j0, Int.reduceEq, if_true, if_false, Int.reduceBEq, Bool.false_eq_true, amt32]
  rw [if_pos (by omega), shl_at .i32 a _ (by show b % 32 ≤ 32; omega), wrapi32_sg]
theorem int_shr (k : Nat) (a b : Int) : num_Int.f (k + 1) 122 a b = some (a / 2 ^ (b % 32).toNat) := by
  simp only [num_Int.f, num_Int.j0, Int.reduceEq, if_true, if_false, Int.reduceBEq, Bool.false_eq_true, amt32]
  rw [if_pos (by omega), shr_at .i32 a _ (by show b % 32 ≤ 32; omega)]
theorem int_ushr (k : Nat) (a b : Int) : num_Int.f (k + 1) 124 a b = some (sg 32 (a % 2 ^ 32 / 2 ^ (b % 32).toNat)) := by
  simp only [num_Int.f, num_Int.j0, Int.reduceEq, if_true, if_false, Int.reduceBEq, Bool.false_eq_true, amt32]
  rw [if_pos (by omega), shr_at .u32 _ _ (by show b % 32 ≤ 32; omega), wrap32_sg]; rfl
theorem int_and (k : Nat) (a b : Int) : num_Int.f (k + 1) 126 a b = some (Go.bits .and .i32 a b) := by
  simp only [num_Int.f, num_Int.j0, Int.reduceEq, if_true, if_false, Int.reduceBEq, Bool.false_eq_true]
theorem int_or (k : Nat) (a b : Int) : num_Int.f (k + 1) 128 a b = some (Go.bits .or .i32 a b) := by
  simp only [num_Int.f, num_Int.j0, Int.reduceEq, if_true, if_false, Int.reduceBEq, Bool.false_eq_true]
theorem int_xor (k : Nat) (a b : Int) : num_Int.f (k + 1) 130 a b = some (Go.bits .xor .i32 a b) := by
  simp only [num_Int.f, num_Int.j0, Int.reduceEq, if_true, if_false, Int.reduceBEq, Bool.false_eq_true]

theorem one_neg32 (k : Nat) (a : Int) : num_One.f k 116 a = some (sg 32 (-a)) := by
  simp only [num_One.f, Int.reduceEq, if_true, if_false, ← wrap32_sg]
  congr 1; unfold wrap64 wrap32; omega
theorem one_neg64 (k : Nat) (a : Int) : num_One.f k 117 a = some (sg 64 (-a)) := by
  simp only [num_One.f, Int.reduceEq, if_true, if_false, wrap64_sg]
theorem one_133 (k : Nat) (a : Int) : num_One.f (k + 1) 133 a = some (sg 32 a) := by
  simp only [num_One.f, num_One.j0, Int.reduceEq, if_true, if_false, Int.reduceBEq, ← wrap32_sg]
  congr 1; unfold wrap64 wrap32; omega
theorem one_136 (k : Nat) (a : Int) : num_One.f (k + 1) 136 a = some (sg 32 a) := by
  simp only [num_One.f, num_One.j0, Int.reduceEq, if_true, if_false, Int.reduceBEq, ← wrap32_sg]
  congr 1; unfold wrap64 wrap32; omega
theorem one_145 (k : Nat) (a : Int) : num_One.f (k + 1) 145 a = some (IntKind.i8.wrap a) := by
  simp only [num_One.f, num_One.j0, Int.reduceEq, if_true, if_false, Int.reduceBEq, Bool.false_eq_true]
  congr 1; rw [wrap_i8]; unfold wrap64; omega
theorem one_146 (k : Nat) (a : Int) : num_One.f (k + 1) 146 a = some (a % 65536) := by
  simp only [num_One.f, num_One.j0, Int.reduceEq, if_true, if_false, Int.reduceBEq, Bool.false_eq_true]
  congr 1; rw [wrap_u16]; unfold wrap64; omega
theorem one_147 (k : Nat) (a : Int) : num_One.f (k + 1) 147 a = some (IntKind.i16.wrap a) := by
  simp only [num_One.f, num_One.j0, Int.reduceEq, if_true, if_false, Int.reduceBEq, Bool.false_eq_true]
  congr 1; rw [wrap_i16]; unfold wrap64; omega

theorem holds_some (k : Nat) : regletlaw01_holds.f (k + 1) = some true := by
  unfold regletlaw01_holds.f
  rw [int_div, int_rem, int_shl, long_ushr, one_146]
  decide +kernel

end Go.Proofs.Ytmgeihpankhkcaa.PAll
