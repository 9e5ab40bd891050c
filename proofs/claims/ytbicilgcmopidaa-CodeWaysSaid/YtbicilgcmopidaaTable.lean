/-
  The code's table: what shape, row, Size, Leads and Ends are, as they are printed; each for enough rounds.
-/
import Derived.Test.YtbicilgcmopidaaPAllx8
namespace Go.Proofs.Ytbicilgcmopidaa.PAll
open Go.RowKit Go.Proofs.YtbicilgcmopidaaW.PrintWords Go.Proofs.YtbicilgcmopidaaW.PrintLast Go.Proofs.YtbicilgcmopidaaW.PrintMore

theorem mono_le {α : Type} {f : Nat → Option α} (h : ∀ k, LeO (f k) (f (k + 1))) {k m : Nat} {r : α} (hkm : k ≤ m) (hf : f k = some r) : f m = some r := by
  obtain ⟨d, rfl⟩ : ∃ d, m = k + d := ⟨m - k, by omega⟩
  induction d with
  | zero => exact hf
  | succ d ih => exact h (k + d) r (ih (by omega))

theorem shape_le {k m : Nat} {c r : Int} (h : k ≤ m) (hf : code_shape.f k c = some r) : code_shape.f m c = some r := mono_le (f := fun k => code_shape.f k c) (fun k => code_shape.mono c k) h hf
theorem row_le {k m : Nat} {c r : Int} (h : k ≤ m) (hf : regletref06_row.f k c = some r) : regletref06_row.f m c = some r := mono_le (f := fun k => regletref06_row.f k c) (fun k => regletref06_row.mono c k) h hf

theorem among_l0 (a : Int) (l : List Int) (hl : l.length < 1000000) (d : Nat) : ∀ (k i : Nat), i + d = l.length → d < k → regletref06_among.l0 k a l i = some (decide (a ∈ l.drop i)) := by
  induction d with
  | zero =>
    intro k i hi hk
    obtain ⟨k, rfl⟩ : ∃ m, k = m + 1 := ⟨k - 1, by omega⟩
    simp only [regletref06_among.l0]
    rw [if_neg (by omega), List.drop_eq_nil_of_le (by omega)]; simp
  | succ d ih =>
    intro k i hi hk
    obtain ⟨k, rfl⟩ : ∃ m, k = m + 1 := ⟨k - 1, by omega⟩
    have hil : i < l.length := by omega
    have hrd : rd l (i : Int) = l[i] := by unfold rd; simp [List.getD_eq_getElem?_getD, hil]
    have hw : wrap64 ((i : Int) + 1) = ((i + 1 : Nat) : Int) := by unfold wrap64; omega
    simp only [regletref06_among.l0]
    rw [if_pos (by omega), if_pos (by omega), hrd, hw, ih k (i + 1) (by omega) (by omega), List.drop_eq_getElem_cons hil]
    by_cases h : l[i] = a
    · rw [if_pos h]; simp [h]
    · rw [if_neg h]
      have ne : a ≠ l[i] := fun e => h e.symm
      congr 1
      rw [decide_eq_decide, List.mem_cons]
      exact ⟨Or.inr, fun h' => h'.resolve_left ne⟩

theorem among_some (k : Nat) (a : Int) (l : List Int) (hl : l.length < 1000000) (hk : l.length < k) : regletref06_among.f k a l = some (decide (a ∈ l)) := by
  unfold regletref06_among.f
  exact among_l0 a l hl l.length k 0 (by omega) hk

/-- A code's shape and its row of the document's table, from 0 to 255: the pairs that occur. -/
def pairs : List (Int × Int) := [(-1, 0), (0, 1), (1, 2), (2, 3), (4, 4), (3, 5), (5, 6), (6, 7)]

theorem table_fin : ∀ n : Fin 256, ∃ p ∈ pairs, code_shape.f 10 (n.val : Int) = some p.1 ∧ regletref06_row.f 50 (n.val : Int) = some p.2 := by decide +kernel

theorem table (c : Int) (h0 : 0 ≤ c) (h1 : c ≤ 255) : ∃ p ∈ pairs, code_shape.f 10 c = some p.1 ∧ regletref06_row.f 50 c = some p.2 := by
  have := table_fin ⟨c.toNat, by omega⟩
  simp only [Int.toNat_of_nonneg h0] at this
  exact this

theorem row_out (k : Nat) (hk : 50 < k) (c : Int) (h : c < 0 ∨ 255 < c) : regletref06_row.f k c = some 0 := by
  obtain ⟨k, rfl⟩ : ∃ m, k = m + 3 := ⟨k - 3, by omega⟩
  have hl : regletref06_Leads.f c = some false := by
    unfold regletref06_Leads.f
    by_cases hc : c ≥ 153
    · rw [if_pos hc, if_neg (by omega), if_neg (by omega)]; simp; omega
    · rw [if_neg hc, if_neg (by omega)]; simp; omega
  have a1 : decide (c ∈ ([46, 47, 50, 79, 80, 83, 87, 89, 90, 95, 96, 97, 100, 101, 104, 105, 108, 109, 112, 113, 116, 117, 133, 136, 172, 173, 176, 177, 190, 191] : List Int)) = false := by
    rw [decide_eq_false_iff_not]; simp only [List.mem_cons, List.not_mem_nil, or_false]; omega
  have a2 : decide (c ∈ ([21, 22, 25, 54, 55, 58, 188] : List Int)) = false := by
    rw [decide_eq_false_iff_not]; simp only [List.mem_cons, List.not_mem_nil, or_false]; omega
  have a3 : decide (c ∈ ([19, 187, 189, 192, 193] : List Int)) = false := by
    rw [decide_eq_false_iff_not]; simp only [List.mem_cons, List.not_mem_nil, or_false]; omega
  have hj2 : ∀ b : Bool, b = false → regletref06_row.j2 (k + 1) c b = some 0 := by
    intro b hb
    simp only [regletref06_row.j2]
    rw [if_neg (by simp [hb]), hl, Option.bind_some, if_neg (by decide), if_neg (by omega)]
  have hj1 : ∀ b : Bool, b = false → regletref06_row.j1 (k + 2) c b = some 0 := by
    intro b hb
    simp only [regletref06_row.j1]
    rw [if_neg (by simp [hb]), among_some _ _ _ (by decide) (by simp; omega), Option.bind_some, a2, if_neg (by decide), if_neg (by omega), if_neg (by omega), among_some _ _ _ (by decide) (by simp; omega), Option.bind_some, a3, if_neg (by decide)]
    by_cases hc : c ≥ 178
    · rw [if_pos hc]; exact hj2 _ (by simp; omega)
    · rw [if_neg hc]; exact hj2 _ rfl
  have hj0 : ∀ b : Bool, b = false → regletref06_row.j0 (k + 3) c b = some 0 := by
    intro b hb
    simp only [regletref06_row.j0]
    rw [if_neg (by simp [hb]), among_some _ _ _ (by decide) (by simp; omega), Option.bind_some, a1, if_neg (by decide)]
    by_cases hc : c ≥ 120
    · rw [if_pos hc, if_neg (by omega), if_pos (by omega)]; exact hj1 _ (by simp; omega)
    · rw [if_neg hc, if_neg (by omega)]; exact hj1 _ rfl
  unfold regletref06_row.f
  by_cases hc : c ≥ 0
  · rw [if_pos hc]; exact hj0 _ (by simp; omega)
  · rw [if_neg hc]; exact hj0 _ rfl

/-- How many bytes a row has. -/
def rowSize (r : Int) : Int := if r = 0 then 0 else if r = 1 then 1 else if r = 2 ∨ r = 3 then 2 else 3

theorem ref_size_of (k : Nat) (c r : Int) (h : regletref06_row.f k c = some r) (hr : 0 ≤ r ∧ r ≤ 7) : regletref06_Size.f k c = some (rowSize r) := by
  unfold regletref06_Size.f
  rw [Option.bind_some, h, Option.bind_some, if_pos hr.1, if_pos (by simp; omega)]
  rcases (show r = 0 ∨ r = 1 ∨ r = 2 ∨ r = 3 ∨ r = 4 ∨ r = 5 ∨ r = 6 ∨ r = 7 by omega) with rfl | rfl | rfl | rfl | rfl | rfl | rfl | rfl <;> decide

theorem code_size_of (k : Nat) (c s : Int) (h0 : 0 ≤ c) (h1 : c ≤ 255) (h : code_shape.f k c = some s) : code_Size.f (k + 1) c = some (if s = -1 then 0 else if s = 0 then 1 else if s = 1 then 2 else if s = 2 then 2 else 3) := by
  unfold code_Size.f
  rw [if_neg (by omega)]
  simp only [code_Size.j0]
  rw [if_neg (by simp; omega), h, Option.bind_some]
  split <;> (try rfl)
  split <;> (try rfl)
  split <;> (try rfl)
  split <;> rfl

theorem code_size_out (k : Nat) (c : Int) (h : c < 0 ∨ 255 < c) : code_Size.f (k + 1) c = some 0 := by
  unfold code_Size.f
  simp only [code_Size.j0]
  by_cases hc : c < 0
  · rw [if_pos hc]; simp
  · rw [if_neg hc, if_pos (by simp; omega)]

theorem holds_fin : regletlaw06_holds.f 60 = some true := by decide +kernel
theorem holds_some (k : Nat) (hk : 60 ≤ k) : regletlaw06_holds.f k = some true := mono_le (f := fun k => regletlaw06_holds.f k) (fun k => regletlaw06_holds.mono k) hk holds_fin

end Go.Proofs.Ytbicilgcmopidaa.PAll
