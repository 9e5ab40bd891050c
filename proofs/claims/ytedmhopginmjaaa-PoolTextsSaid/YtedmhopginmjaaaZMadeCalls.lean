import Derived.Test.YtedmhopginmjaaaZG5
import Derived.Test.YtedmhopginmjaaaZMadeKA
import Derived.Test.YtedmhopginmjaaaZMadeK9
import Derived.Test.YtedmhopginmjaaaZMadeK10
import Derived.Test.YtedmhopginmjaaaZMadeK11
namespace Go.Proofs.Ytedmhopginmjaaa.PAll
open Go.RowKit Go.Proofs.YtedmhopginmjaaaW.PrintWords Go.Proofs.YtedmhopginmjaaaW.PrintLast Go.Proofs.YtedmhopginmjaaaW.PrintMore
open Go.Proofs.Ytedmhopginmjaaa.MapInt
set_option linter.unusedVariables false
set_option linter.unusedSimpArgs false
def ValOk (vv : S44 → Int) (c : S44) : Prop := ∃ K, pool_valid.f K c.f0 c.f1 c.f2 c.f3 c.f4 = some (vv c)
theorem made_calls {vv : S44 → Int} {w : World} {A : Option Addr} {c : Nat} {l : List SR} {i : Nat} (hr : Kd.C k62 w A l.length l) (hc : l.length ≤ c) (hi : i < l.length) (hk : kindIn (rd62 l (i : Int))) (hv : (preF l (rd62 l (i : Int))).2 = true → ValOk vv (preF l (rd62 l (i : Int))).1) :
    Calls Try.prog 23 #[.slice A l.length c, .int .i64 i] w fun e w' => e = .returned (.tuple #[.agg (conC (madeF vv l (rd62 l (i : Int))).1), .int .i64 (madeF vv l (rd62 l (i : Int))).2]) ∧ Below w.heap.size w w' := by
  rcases hX : rd62 l (i : Int) with ⟨k, Xn, Xt, X0, X1, X2⟩
  rw [hX] at hk hv
  unfold kindIn at hk
  dsimp only at hk
  unfold madeF
  rcases hk with rfl | rfl | rfl | rfl | rfl | rfl | rfl | rfl
  · obtain ⟨K, hK⟩ := hv rfl
    exact made_c1 hr hc hi hX hK
  · obtain ⟨K, hK⟩ := hv rfl
    exact made_c3 hr hc hi hX hK
  · obtain ⟨K, hK⟩ := hv rfl
    exact made_c5 hr hc hi hX hK
  · rcases ht : textF l X0 with ⟨S, ok⟩
    have hp : preF l ⟨7, Xn, Xt, X0, X1, X2⟩ = (⟨7, 0, S, ⟨#[]⟩, ⟨#[]⟩⟩, ok) := by simp [preF, ht]
    rw [hp] at hv ⊢
    cases ok with
    | true =>
      obtain ⟨K, hK⟩ := hv rfl
      exact made_c7 hr hc hi hX ht hK
    | false => exact made_f7 hr hc hi hX ht
  · rcases ht : textF l X0 with ⟨S, ok⟩
    have hp : preF l ⟨8, Xn, Xt, X0, X1, X2⟩ = (⟨8, 0, S, ⟨#[]⟩, ⟨#[]⟩⟩, ok) := by simp [preF, ht]
    rw [hp] at hv ⊢
    cases ok with
    | true =>
      obtain ⟨K, hK⟩ := hv rfl
      exact made_c8 hr hc hi hX ht hK
    | false => exact made_f8 hr hc hi hX ht
  · rcases ht : classF l X0 with ⟨S, o1⟩
    rcases ht2 : textF l X1 with ⟨S2, o2⟩
    rcases ht3 : textF l X2 with ⟨S3, o3⟩
    have hp : preF l ⟨9, Xn, Xt, X0, X1, X2⟩ = (⟨9, 0, S, S2, S3⟩, o1 && o2 && o3) := by simp [preF, ht, ht2, ht3]
    rw [hp] at hv ⊢
    by_cases ho : (o1 && o2 && o3) = true
    · obtain ⟨K, hK⟩ := hv ho
      dsimp only
      rw [if_pos ho]
      obtain ⟨rfl, rfl, rfl⟩ : o1 = true ∧ o2 = true ∧ o3 = true := by cases o1 <;> cases o2 <;> cases o3 <;> simp_all
      exact made_c9 hr hc hi hX ht ht2 ht3 hK
    · dsimp only
      rw [if_neg ho]
      exact made_f9 hr hc hi hX ht ht2 ht3 (by simpa using ho)
  · rcases ht : classF l X0 with ⟨S, o1⟩
    rcases ht2 : textF l X1 with ⟨S2, o2⟩
    rcases ht3 : textF l X2 with ⟨S3, o3⟩
    have hp : preF l ⟨10, Xn, Xt, X0, X1, X2⟩ = (⟨10, 0, S, S2, S3⟩, o1 && o2 && o3) := by simp [preF, ht, ht2, ht3]
    rw [hp] at hv ⊢
    by_cases ho : (o1 && o2 && o3) = true
    · obtain ⟨K, hK⟩ := hv ho
      dsimp only
      rw [if_pos ho]
      obtain ⟨rfl, rfl, rfl⟩ : o1 = true ∧ o2 = true ∧ o3 = true := by cases o1 <;> cases o2 <;> cases o3 <;> simp_all
      exact made_c10 hr hc hi hX ht ht2 ht3 hK
    · dsimp only
      rw [if_neg ho]
      exact made_f10 hr hc hi hX ht ht2 ht3 (by simpa using ho)
  · rcases ht : classF l X0 with ⟨S, o1⟩
    rcases ht2 : textF l X1 with ⟨S2, o2⟩
    rcases ht3 : textF l X2 with ⟨S3, o3⟩
    have hp : preF l ⟨11, Xn, Xt, X0, X1, X2⟩ = (⟨11, 0, S, S2, S3⟩, o1 && o2 && o3) := by simp [preF, ht, ht2, ht3]
    rw [hp] at hv ⊢
    by_cases ho : (o1 && o2 && o3) = true
    · obtain ⟨K, hK⟩ := hv ho
      dsimp only
      rw [if_pos ho]
      obtain ⟨rfl, rfl, rfl⟩ : o1 = true ∧ o2 = true ∧ o3 = true := by cases o1 <;> cases o2 <;> cases o3 <;> simp_all
      exact made_c11 hr hc hi hX ht ht2 ht3 hK
    · dsimp only
      rw [if_neg ho]
      exact made_f11 hr hc hi hX ht ht2 ht3 (by simpa using ho)
theorem made_at {vv : S44 → Int} {w : World} {A : Option Addr} {c n : Nat} {l : List SR} {i : Nat} {x : SR} {cc : S44} {e : Int} (hn : n = l.length) (hr : Kd.C k62 w A l.length l) (hc : n ≤ c) (hi : i < n) (hX : rd62 l (i : Int) = x) (hk : kindIn x) (hv : (preF l x).2 = true → ValOk vv (preF l x).1) (he : madeF vv l x = (cc, e)) :
    Calls Try.prog 23 #[.slice A n c, .int .i64 i] w fun ee w' => ee = .returned (.tuple #[.agg (conC cc), .int .i64 e]) ∧ Below w.heap.size w w' := by
  subst hn
  subst hX
  have := made_calls (vv := vv) hr hc hi hk hv
  rw [he] at this
  exact this
end Go.Proofs.Ytedmhopginmjaaa.PAll
