/-
  What Encode makes, on the program's side and on the document's: the same bytes, or both refuse.
-/
import Derived.Test.YtbicilgcmopidaaPAllx9
import Derived.Test.YtbicilgcmopidaaPAllx10
import Derived.Test.YtbicilgcmopidaaDecode
namespace Go.Proofs.Ytbicilgcmopidaa.PAll
open Go.RowKit Go.Proofs.YtbicilgcmopidaaW.PrintWords Go.Proofs.YtbicilgcmopidaaW.PrintLast Go.Proofs.YtbicilgcmopidaaW.PrintMore

theorem and255 (x : Int) : Go.bits .and .i64 x 255 = x % 256 := by
  have e2 : (BitVec.ofInt 64 255).toNat = 2 ^ 8 - 1 := by decide
  have h : (BitVec.ofInt 64 x).toNat &&& (BitVec.ofInt 64 255).toNat = (x % 256).toNat := by
    rw [e2, Nat.and_two_pow_sub_one_eq_mod, BitVec.toNat_ofInt]; omega
  show IntKind.i64.wrap ((((BitVec.ofInt 64 x) &&& (BitVec.ofInt 64 255)).toNat : Nat) : Int) = _
  rw [BitVec.toNat_and, h, IntKind.wrap_i64]; omega

instance : DecidableEq S36 := fun x y => decidable_of_iff (x.f0 = y.f0 ∧ x.f1 = y.f1 ∧ x.f2 = y.f2 ∧ x.f3 = y.f3)
  ⟨fun ⟨a, b, c, d⟩ => by cases x; cases y; simp_all, fun h => by subst h; exact ⟨rfl, rfl, rfl, rfl⟩⟩

theorem ne_bool (x y : S36) : (!(x.f0 == y.f0) || (!(x.f1 == y.f1) || (!(x.f2 == y.f2) || (!(x.f3 == y.f3))))) = decide (x ≠ y) := by
  rw [Bool.eq_iff_iff]
  simp only [Bool.or_eq_true, Bool.not_eq_true', beq_eq_false_iff_ne, decide_eq_true_eq, ne_eq]
  constructor
  · intro h e; subst e; simp at h
  · intro h
    by_cases h0 : x.f0 = y.f0
    · by_cases h1 : x.f1 = y.f1
      · by_cases h2 : x.f2 = y.f2
        · by_cases h3 : x.f3 = y.f3
          · exact absurd (by cases x; cases y; simp_all) h
          · exact .inr (.inr (.inr h3))
        · exact .inr (.inr (.inl h2))
      · exact .inr (.inl h1)
    · exact .inl h0

/-- A code's shape, as a number. -/
def shp (c : Int) : Int := (code_shape.f 10 c).getD (-1)
theorem shp_some (k : Nat) (hk : 10 ≤ k) (c : Int) (h0 : 0 ≤ c) (h1 : c ≤ 255) : code_shape.f k c = some (shp c) := by
  obtain ⟨p, _, h, _⟩ := table c h0 h1
  unfold shp; rw [h]; exact shape_le hk h
/-- A code's row of the document's table. -/
def rwn (c : Int) : Int := (regletref06_row.f 60 c).getD 0
theorem rwn_some (k : Nat) (hk : 60 ≤ k) (c : Int) : regletref06_row.f k c = some (rwn c) := by
  by_cases h : 0 ≤ c ∧ c ≤ 255
  · obtain ⟨p, _, _, h2⟩ := table c h.1 h.2
    unfold rwn; rw [row_le (show 50 ≤ 60 by decide) h2]; exact row_le (by omega) h2
  · unfold rwn; rw [row_out 60 (by decide) c (by omega)]; exact row_out k (by omega) c (by omega)
theorem shp_rwn (c : Int) (h0 : 0 ≤ c) (h1 : c ≤ 255) : (shp c, rwn c) ∈ pairs := by
  obtain ⟨p, hp, h, h2⟩ := table c h0 h1
  have e1 : shp c = p.1 := by unfold shp; rw [h]; rfl
  have e2 : rwn c = p.2 := by unfold rwn; rw [row_le (show 50 ≤ 60 by decide) h2]; rfl
  rw [e1, e2]; exact hp

/-- An instruction's bytes, by its shape. -/
def tailP (x : S36) (s : Int) : List Int :=
  if s = 1 ∨ s = 2 then [x.f2 % 256] else if s = 3 ∨ s = 4 then [x.f2 / 256 % 256, x.f2 % 256] else if s = 5 then [wrap64 (x.f2 - x.f0) / 256 % 256, wrap64 (x.f2 - x.f0) % 256] else if s = 6 then [x.f2 % 256, x.f3 % 256] else []
def bytesP (x : S36) : List Int := (x.f1 % 256) :: tailP x (shp (x.f1 % 256))
/-- An instruction's bytes, by its row of the document's table. -/
def tailR (x : S36) (r : Int) : List Int :=
  if r = 2 ∨ r = 3 then [x.f2 % 256] else if r = 4 ∨ r = 5 then [x.f2 / 256 % 256, x.f2 % 256] else if r = 6 then [wrap64 (x.f2 - x.f0) / 256 % 256, wrap64 (x.f2 - x.f0) % 256] else if r = 7 then [x.f2 % 256, x.f3 % 256] else []
def bytesR (x : S36) : List Int := (x.f1 % 256) :: tailR x (rwn x.f1)

theorem tailP_le (x : S36) (s : Int) : (tailP x s).length ≤ 2 := by unfold tailP; split <;> (try split) <;> (try split) <;> (try split) <;> simp
theorem tailR_le (x : S36) (s : Int) : (tailR x s).length ≤ 2 := by unfold tailR; split <;> (try split) <;> (try split) <;> (try split) <;> simp
theorem tailP_bytes (x : S36) (s : Int) : Bytes (tailP x s) := by
  unfold tailP Bytes; intro y hy
  split at hy <;> (try split at hy) <;> (try split at hy) <;> (try split at hy) <;> simp at hy <;> omega
theorem tailR_bytes (x : S36) (s : Int) : Bytes (tailR x s) := by
  unfold tailR Bytes; intro y hy
  split at hy <;> (try split at hy) <;> (try split at hy) <;> (try split at hy) <;> simp at hy <;> omega
theorem bytes_app {a b : List Int} (ha : Bytes a) (hb : Bytes b) : Bytes (a ++ b) := fun x hx => by
  rcases List.mem_append.1 hx with h | h
  · exact ha x h
  · exact hb x h
theorem bytesP_bytes (x : S36) : Bytes (bytesP x) := by
  intro y hy
  rcases List.mem_cons.1 hy with h | h
  · omega
  · exact tailP_bytes _ _ y h
theorem bytesR_bytes (x : S36) : Bytes (bytesR x) := by
  intro y hy
  rcases List.mem_cons.1 hy with h | h
  · omega
  · exact tailR_bytes _ _ y h

theorem same_bytes (x : S36) (h0 : 0 ≤ x.f1) (h1 : x.f1 ≤ 255) : bytesP x = bytesR x := by
  unfold bytesP bytesR
  have e : x.f1 % 256 = x.f1 := by omega
  rw [e]
  have hp := shp_rwn x.f1 h0 h1
  generalize shp x.f1 = s at hp ⊢
  generalize rwn x.f1 = r at hp ⊢
  simp only [pairs, List.mem_cons, Prod.mk.injEq, List.not_mem_nil, or_false] at hp
  rcases hp with ⟨rfl, rfl⟩ | ⟨rfl, rfl⟩ | ⟨rfl, rfl⟩ | ⟨rfl, rfl⟩ | ⟨rfl, rfl⟩ | ⟨rfl, rfl⟩ | ⟨rfl, rfl⟩ | ⟨rfl, rfl⟩ <;> rfl

theorem enc_l0_le {k m : Nat} {x0 : List S36} {b : List Int} {x13 : List S36} {n i : Int} {R : List Int × Int} (h : k ≤ m) (hf : code_Encode.l0 k x0 b x13 n i = some R) : code_Encode.l0 m x0 b x13 n i = some R :=
  mono_le (f := fun k => code_Encode.l0 k x0 b x13 n i) (fun k => (code_Encode.mono_l k).1 _ _ _ _ _) h hf

theorem enc_step (k : Nat) (x0 : List S36) (b : List Int) (i : Nat) (R : List Int × Int) (hk : 10 ≤ k) (hi : i < x0.length) (hx : x0.length ≤ 1000000) (hb : b.length ≤ 4000)
    (h : code_Encode.l0 k x0 (b ++ bytesP (rd_T36 x0 i)) x0 (x0.length : Int) ((i + 1 : Nat) : Int) = some R) : code_Encode.l0 (k + 3) x0 b x0 (x0.length : Int) i = some R := by
  have hw : wrap64 ((i : Int) + 1) = ((i + 1 : Nat) : Int) := w_add i 1 (by omega)
  have hs := shp_some (k + 2) (by omega) ((rd_T36 x0 i).f1 % 256) (by omega) (by omega)
  have h' := enc_l0_le (show k ≤ k + 1 by omega) h
  have hln : (b ++ [(rd_T36 x0 i).f1 % 256]).length < 140737488355328 := by simp; omega
  have hln2 : ∀ u v : Int, (b ++ [(rd_T36 x0 i).f1 % 256]).length + [u, v].length < 140737488355328 := fun u v => by simp; omega
  simp only [code_Encode.l0]
  rw [if_pos (by omega), if_pos (by omega), if_pos (by omega), if_neg (by omega), and255, hs, Option.bind_some, if_pos (by omega), Option.bind_some]
  unfold bytesP at h h'
  generalize hS : shp ((rd_T36 x0 i).f1 % 256) = s at h h' ⊢
  have ea : ∀ t : List Int, b ++ (rd_T36 x0 i).f1 % 256 :: t = (b ++ [(rd_T36 x0 i).f1 % 256]) ++ t := fun t => by simp
  rw [ea] at h h'
  by_cases c1 : s = 1
  · subst c1
    rw [if_pos rfl]
    simp only [code_Encode.j1]
    rw [if_pos (by decide), if_pos hln, hw]
    exact h'
  rw [if_neg c1]
  simp only [code_Encode.j1]
  by_cases c2 : s = 2
  · subst c2
    rw [if_pos (by decide), if_pos hln, hw]
    exact h'
  rw [if_neg (by simpa using c2)]
  simp only [code_Encode.j2]
  by_cases c3 : s = 3
  · subst c3
    rw [if_pos rfl, if_pos (by decide), Option.bind_some, if_pos (hln2 _ _), hw]
    exact h
  rw [if_neg c3]
  by_cases c4 : s = 4
  · subst c4
    rw [if_pos (by decide), Option.bind_some, if_pos (hln2 _ _), hw]
    exact h
  rw [if_neg (by simpa using c4)]
  by_cases c5 : s = 5
  · subst c5
    rw [if_pos rfl, Option.bind_some, if_pos (hln2 _ _), hw]
    exact h
  rw [if_neg c5]
  by_cases c6 : s = 6
  · subst c6
    rw [if_pos rfl, Option.bind_some, if_pos (hln2 _ _), hw]
    exact h
  rw [if_neg c6, hw]
  have et : tailP (rd_T36 x0 i) s = [] := by unfold tailP; simp [c1, c2, c3, c4, c5, c6]
  rw [et, List.append_nil] at h
  exact h

theorem ref_l0_le {k m : Nat} {x0 : List S36} {b : List Int} {i : Int} {R : List Int × Int} (h : k ≤ m) (hf : regletref06_Encode.l0 k x0 b i = some R) : regletref06_Encode.l0 m x0 b i = some R :=
  mono_le (f := fun k => regletref06_Encode.l0 k x0 b i) (fun k => (regletref06_Encode.mono_l k).1 _ _ _) h hf

theorem ref_enc_step (k : Nat) (x0 : List S36) (b : List Int) (i : Nat) (R : List Int × Int) (hk : 60 ≤ k) (hi : i < x0.length) (hx : x0.length ≤ 1000000) (hb : b.length ≤ 4000)
    (h : regletref06_Encode.l0 k x0 (b ++ bytesR (rd_T36 x0 i)) ((i + 1 : Nat) : Int) = some R) : regletref06_Encode.l0 (k + 6) x0 b i = some R := by
  have hw : wrap64 ((i : Int) + 1) = ((i + 1 : Nat) : Int) := w_add i 1 (by omega)
  have hs := rwn_some (k + 4) (by omega) (rd_T36 x0 i).f1
  have hln : (b ++ [(rd_T36 x0 i).f1 % 256]).length < 140737488355328 := by simp; omega
  have hln2 : ∀ u v : Int, (b ++ [(rd_T36 x0 i).f1 % 256]).length + [u, v].length < 140737488355328 := fun u v => by simp; omega
  simp only [regletref06_Encode.l0]
  rw [if_pos (by omega), decide_eq_true (by omega)]
  simp only [regletref06_Encode.j1]
  rw [if_pos trivial, if_pos (by omega), if_pos (by omega), hs, Option.bind_some, if_pos (by omega), Option.bind_some]
  unfold bytesR at h
  generalize rwn (rd_T36 x0 i).f1 = r at h ⊢
  have ea : ∀ t : List Int, b ++ (rd_T36 x0 i).f1 % 256 :: t = (b ++ [(rd_T36 x0 i).f1 % 256]) ++ t := fun t => by simp
  rw [ea] at h
  generalize hy : b ++ [(rd_T36 x0 i).f1 % 256] = y at h hln hln2 ⊢
  have key : ∀ a : Int, (a = if r = 6 then wrap64 ((rd_T36 x0 i).f2 - (rd_T36 x0 i).f0) else (rd_T36 x0 i).f2) →
      regletref06_Encode.j2 (k + 4) x0 y i r a (rd_T36 x0 i).f0 (rd_T36 x0 i).f1 (rd_T36 x0 i).f2 (rd_T36 x0 i).f3 = some R := by
    intro a ha
    simp only [regletref06_Encode.j2]
    by_cases c2 : r = 2
    · subst c2
      rw [if_neg (by decide)] at ha; subst ha
      rw [if_pos rfl]; simp only [regletref06_Encode.j3]; rw [if_pos trivial, if_pos hln]
      simp only [regletref06_Encode.j4]; rw [if_neg (by decide)]
      simp only [regletref06_Encode.j5]; rw [if_neg (by decide), if_neg (by decide), hw]
      exact h
    rw [if_neg c2]
    by_cases c3 : r = 3
    · subst c3
      rw [if_neg (by decide)] at ha; subst ha
      simp only [regletref06_Encode.j3]; rw [if_pos (by decide), if_pos hln]
      simp only [regletref06_Encode.j4]; rw [if_neg (by decide)]
      simp only [regletref06_Encode.j5]; rw [if_neg (by decide), if_neg (by decide), hw]
      exact h
    simp only [regletref06_Encode.j3]; rw [if_neg (by simpa using c3)]
    simp only [regletref06_Encode.j4]
    by_cases c4 : r = 4 ∨ r = 5
    · have e7 : ¬ r = 7 := by omega
      have e6 : ¬ r = 6 := by omega
      rw [if_neg e6] at ha; subst ha
      rw [if_pos (by omega), decide_eq_true (by omega)]
      simp only [regletref06_Encode.j5]; rw [if_pos trivial, Option.bind_some, if_pos (hln2 _ _), Option.bind_some, if_neg e7, hw]
      have et : tailR (rd_T36 x0 i) r = [(rd_T36 x0 i).f2 / 256 % 256, (rd_T36 x0 i).f2 % 256] := by
        unfold tailR; rw [if_neg (by omega), if_pos c4]
      rw [et] at h
      exact h
    by_cases c6 : r = 6
    · subst c6
      rw [if_pos rfl] at ha; subst ha
      rw [if_pos (by decide)]
      simp only [regletref06_Encode.j5]; rw [if_pos (by decide), Option.bind_some, if_pos (hln2 _ _), Option.bind_some, if_neg (by decide), hw]
      exact h
    rw [if_neg c6] at ha; subst ha
    by_cases c7 : r = 7
    · subst c7
      rw [if_pos (by decide)]
      simp only [regletref06_Encode.j5]; rw [if_neg (by decide), if_pos trivial, Option.bind_some, if_pos (hln2 _ _), hw]
      exact h
    have et : tailR (rd_T36 x0 i) r = [] := by unfold tailR; simp [c2, c3, c6, c7]; omega
    rw [et, List.append_nil] at h
    have fin : regletref06_Encode.j5 (k + 1) x0 y i r (rd_T36 x0 i).f2 false (rd_T36 x0 i).f0 (rd_T36 x0 i).f1 (rd_T36 x0 i).f2 (rd_T36 x0 i).f3 = some R := by
      simp only [regletref06_Encode.j5]; rw [if_neg (by decide), if_neg c7, hw]; exact h
    by_cases c8 : r ≥ 4
    · rw [if_pos c8, decide_eq_false (by omega)]; exact fin
    · rw [if_neg c8]; exact fin
  by_cases c6 : r = 6
  · rw [if_pos c6]; exact key _ (by rw [if_pos c6])
  · rw [if_neg c6]; exact key _ (by rw [if_neg c6])

end Go.Proofs.Ytbicilgcmopidaa.PAll
