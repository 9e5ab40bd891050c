/-
  moves.Order as the printed texts call it.
-/
import Derived.Test.YtjolnfhgiddafaaMovesOrder
namespace Go.Proofs.Ytjolnfhgiddafaa.PAll
set_option linter.unusedSimpArgs false
open Go.RowKit Go.Proofs.YtjolnfhgiddafaaW.PrintWords Go.Proofs.YtjolnfhgiddafaaW.PrintLast Go.Proofs.YtjolnfhgiddafaaW.PrintMore
open Go.Proofs.Ytjolnfhgiddafaa.MapInt Go.Proofs.Ytjolnfhgiddafaa.Moves
set_option linter.unusedVariables false
instance (x : Int) : Decidable (inR x) := by unfold inR; infer_instance
instance (L : List E) (bs : Int) : Decidable (OkL L bs) := by unfold OkL; infer_instance
def ofE (e : E) : S35 := ⟨e.1, e.2⟩
def moves_Order.f (l0 : List S35) (a1 : Int) : Option (List S35 × Int) :=
  if l0.length ≤ 1000 ∧ (∀ x ∈ l0, inR x.f0 ∧ inR x.f1) ∧ inR a1 then some (if OkL (l0.map toE) a1 then ((orderF a1 (l0.map toE)).map ofE, 0) else ([], 1)) else none
theorem reps35 (w : World) (base : Nat) (ok : Nat → Prop) : ∀ out : List E, Reps (k35.M w base ok) 2 (out.map ofE) (cellsE out)
  | [] => ⟨rfl, fun j p hj => by simp at hj⟩
  | e :: out => by
    obtain ⟨h1, h2⟩ := reps35 w base ok out
    refine ⟨by simp [cellsE] at h1 ⊢; omega, fun j p hj => ?_⟩
    cases j with
    | zero =>
      simp at hj; subst hj
      exact k35_mkM w base ok (ofE e)
    | succ j =>
      have := h2 j p (by simpa using hj)
      rw [show (j + 1) * 2 = 2 + j * 2 by omega, ← List.drop_drop]
      exact this
theorem moves_Order.calls (A0 : Option Addr) (c0 : Nat) (l0 : List S35) (a1 : Int) (r1 : List S35) (r2 : Int) (w : World) (hr0 : Kd.C k35 w A0 l0.length l0) (hc0 : l0.length ≤ c0) (h : moves_Order.f l0 a1 = some (r1, r2)) :
    Calls Try.prog 10 #[.slice A0 l0.length c0, .int .i64 a1] w fun e w' => ∃ v0_ : Value, e = .returned (.tuple #[v0_, .int .i64 r2]) ∧ Kd.R k35 35 w' w.heap.size (fun _ => True) v0_ r1 ∧ Below w.heap.size w w' := by
  unfold moves_Order.f at h
  split at h
  · rename_i hg
    refine (order_calls w A0 c0 l0 a1 hr0 hg.2.1 hg.2.2 hg.1).mono ?_
    rintro e w' ⟨hb, ⟨hn, rfl⟩ | ⟨hn, v, rfl, ho⟩⟩
    · rw [if_neg hn] at h
      injection h with h; injection h with h1 h2
      subst h1; subst h2
      exact ⟨_, rfl, Kd.R_nil _ _ _ _ _, hb⟩
    · rw [if_pos hn] at h
      injection h with h; injection h with h1 h2
      subst h1; subst h2
      exact ⟨v, rfl, ⟨fun _ _ => trivial, ⟨_, by rw [List.length_map]; exact ho, reps35 _ _ _ _⟩⟩, hb⟩
  · cases h
end Go.Proofs.Ytjolnfhgiddafaa.PAll
