/-
  One instruction: the program and the document read the same, byte by byte; and so all of a code.
-/
import Derived.Test.YtbicilgcmopidaaTable
import Derived.Laws.BitsLemmas
namespace Go.Proofs.Ytbicilgcmopidaa.PAll
open Go.RowKit Go.Proofs.YtbicilgcmopidaaW.PrintWords Go.Proofs.YtbicilgcmopidaaW.PrintLast Go.Proofs.YtbicilgcmopidaaW.PrintMore

def sx8 (v : Int) : Int := if v ≥ 128 then v - 256 else v
def sx16 (v : Int) : Int := if v ≥ 32768 then v - 65536 else v

/-- An instruction by its shape, its place and its bytes. -/
def opOf (s pc c b1 b2 : Int) : S36 :=
  if s = 1 then ⟨pc, c, b1, 0⟩ else if s = 2 then ⟨pc, c, sx8 b1, 0⟩ else if s = 3 then ⟨pc, c, b1 * 256 + b2, 0⟩ else if s = 4 then ⟨pc, c, sx16 (b1 * 256 + b2), 0⟩
  else if s = 5 then ⟨pc, c, pc + sx16 (b1 * 256 + b2), 0⟩ else if s = 6 then ⟨pc, c, b1, sx8 b2⟩ else ⟨pc, c, 0, 0⟩

/-- How many bytes a shape has. -/
def shapeSize (s : Int) : Int := if s = -1 then 0 else if s = 0 then 1 else if s = 1 then 2 else if s = 2 then 2 else 3

theorem wrap_i8 (n : Int) : IntKind.i8.wrap n = (n + 128) % 256 - 128 := by
  simp [IntKind.wrap, IntKind.bits, IntKind.signed]
  split <;> omega
theorem wrap_i16 (n : Int) : IntKind.i16.wrap n = (n + 32768) % 65536 - 32768 := by
  simp [IntKind.wrap, IntKind.bits, IntKind.signed]
  split <;> omega
theorem wr_i64 (n : Int) (h₀ : 0 ≤ n) (h₁ : n < 2 ^ 62) : IntKind.i64.wrap n = n := by rw [IntKind.wrap_i64]; omega

theorem w_small (n : Int) (h0 : -1000000000 ≤ n) (h1 : n ≤ 1000000000) : wrap64 n = n := by unfold wrap64; omega

theorem half_or (u v : Int) (hu : 0 ≤ u ∧ u ≤ 255) (hv : 0 ≤ v ∧ v ≤ 255) : Go.bits .or .i64 (wrap64 ((wrap64 u) * 256)) (wrap64 v) = u * 256 + v := by
  rw [w_small u (by omega) (by omega), w_small v (by omega) (by omega), w_small (u * 256) (by omega) (by omega)]
  exact bits_join .i64 62 (by decide) wr_i64 8 (u * 256) v (by omega) (by omega) (by omega) hv.1 (by omega) (by omega)

theorem sx8_eq (v : Int) (h : 0 ≤ v ∧ v ≤ 255) : (v + 128) % 256 - 128 = sx8 v := by unfold sx8; split <;> omega

theorem code_one_some (k : Nat) (hk : 10 ≤ k) (l : List Int) (pc s : Int) (hpc : 0 ≤ pc ∧ pc ≤ 4000) (h0 : 0 ≤ rd l 0 ∧ rd l 0 ≤ 255) (h1 : 0 ≤ rd l 1 ∧ rd l 1 ≤ 255) (h2 : 0 ≤ rd l 2 ∧ rd l 2 ≤ 255)
    (hs : code_shape.f 10 (rd l 0) = some s) (hl : (l.length : Int) = shapeSize s) (hl0 : 0 < l.length) :
    code_one.f k l pc = some ((opOf s pc (rd l 0) (rd l 1) (rd l 2)).f0, (opOf s pc (rd l 0) (rd l 1) (rd l 2)).f1, (opOf s pc (rd l 0) (rd l 1) (rd l 2)).f2, (opOf s pc (rd l 0) (rd l 1) (rd l 2)).f3) := by
  unfold code_one.f
  rw [if_pos hl0, w_small (rd l 0) (by omega) (by omega), shape_le hk hs, Option.bind_some]
  unfold shapeSize at hl
  rw [half_or _ _ h1 h2, w_small (rd l 1) (by omega) (by omega), wrap_i8, wrap_i8, wrap_i16]
  unfold opOf
  by_cases c1 : s = 1
  · subst c1; rw [if_pos rfl, if_pos (by simp at hl; omega)]; rfl
  rw [if_neg c1, if_neg c1]
  by_cases c2 : s = 2
  · subst c2; rw [if_pos rfl, if_pos (by simp at hl; omega)]
    rw [w_small _ (by omega) (by omega), sx8_eq _ h1]; rfl
  rw [if_neg c2, if_neg c2]
  by_cases c3 : s = 3
  · subst c3; rw [if_pos rfl, if_pos (by simp at hl; omega)]; rfl
  rw [if_neg c3, if_neg c3]
  have e16 : wrap64 ((rd l 1 * 256 + rd l 2 + 32768) % 65536 - 32768) = sx16 (rd l 1 * 256 + rd l 2) := by
    rw [w_small _ (by omega) (by omega)]; unfold sx16; split <;> omega
  by_cases c4 : s = 4
  · subst c4; rw [if_pos rfl, if_pos (by simp at hl; omega), e16]; rfl
  rw [if_neg c4, if_neg c4]
  by_cases c5 : s = 5
  · subst c5; rw [if_pos rfl, if_pos (by simp at hl; omega), e16, w_small _ (by unfold sx16; split <;> omega) (by unfold sx16; split <;> omega)]; rfl
  rw [if_neg c5, if_neg c5]
  by_cases c6 : s = 6
  · subst c6; rw [if_pos rfl, if_pos (by simp at hl; omega)]
    rw [w_small _ (by omega) (by omega), sx8_eq _ h2]; rfl
  rw [if_neg c6, if_neg c6]

/-- All is a byte. -/
def Bytes (b : List Int) : Prop := ∀ x ∈ b, 0 ≤ x ∧ x ≤ 255

theorem byte_at {b : List Int} (h : Bytes b) (i : Int) : 0 ≤ rd b i ∧ rd b i ≤ 255 := by
  unfold rd
  rw [List.getD_eq_getElem?_getD]
  by_cases hi : i.toNat < b.length
  · rw [List.getElem?_eq_getElem hi]; exact h _ (List.getElem_mem hi)
  · rw [List.getElem?_eq_none (by omega)]; decide

theorem rd_slice (b : List Int) (pc n i : Nat) (hi : i < n) : rd ((b.take (pc + n)).drop pc) (i : Int) = rd b ((pc + i : Nat) : Int) := by
  unfold rd
  rw [List.getD_eq_getElem?_getD, List.getD_eq_getElem?_getD, Int.toNat_natCast, Int.toNat_natCast, List.getElem?_drop, List.getElem?_take, if_pos (by omega)]

theorem bytes_slice {b : List Int} (h : Bytes b) (m n : Nat) : Bytes ((b.take m).drop n) := fun x hx => h x (List.mem_of_mem_take (List.mem_of_mem_drop hx))

theorem slice_length (b : List Int) (pc n : Nat) (h : pc + n ≤ b.length) : ((b.take (pc + n)).drop pc).length = n := by
  rw [List.length_drop, List.length_take]; omega

end Go.Proofs.Ytbicilgcmopidaa.PAll
