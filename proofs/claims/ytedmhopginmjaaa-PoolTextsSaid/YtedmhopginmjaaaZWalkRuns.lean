import Derived.Test.YtedmhopginmjaaaZG8
import Derived.Test.YtedmhopginmjaaaZBRead
import Derived.Test.YtedmhopginmjaaaZPAllx9
namespace Go.Proofs.Ytedmhopginmjaaa.PAll
open Go.RowKit Go.Proofs.YtedmhopginmjaaaW.PrintWords Go.Proofs.YtedmhopginmjaaaW.PrintLast Go.Proofs.YtedmhopginmjaaaW.PrintMore
open Go.Proofs.Ytedmhopginmjaaa.MapInt
set_option linter.unusedVariables false
set_option linter.unusedSimpArgs false
theorem read_r {W0 w : World} {g : Nat} {l : List Int} {bad : Bool} {er : Int} {out : List S44} {l2 : List Int} {b2 : Bool} (h : RS W0 w g l bad) (hv : readF validS l bad = (er, out, l2, b2)) :
    Calls Try.prog 15 #[.pointer (some ⟨g, 0, none⟩)] w fun e w' => ∃ A c, e = .returned (.tuple #[.slice A out.length c, .int .i64 er]) ∧ Kd.R k44 44 w' w.heap.size (fun _ => True) (.slice A out.length c) out ∧ RS W0 w' g l2 b2 ∧ w.grownBy w' (some g) := by
  refine (read_calls (vv := validS) h valid_all).mono ?_
  rintro e w' ⟨v, rfl, h1, h2, h3⟩
  rw [hv] at h1 h2 ⊢
  obtain ⟨A, c, rfl⟩ := Kd.R_slice h1
  exact ⟨A, c, rfl, h1, h2, h3⟩
end Go.Proofs.Ytedmhopginmjaaa.PAll
