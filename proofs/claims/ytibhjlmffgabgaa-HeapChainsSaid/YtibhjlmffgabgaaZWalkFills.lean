import Derived.Test.YtibhjlmffgabgaaZHolds
namespace Go.Proofs.Ytibhjlmffgabgaa.PAll
open Go.RowKit Go.Proofs.YtibhjlmffgabgaaW.PrintWords Go.Proofs.YtibhjlmffgabgaaW.PrintLast Go.Proofs.YtibhjlmffgabgaaW.PrintMore
open Go.Proofs.Ytibhjlmffgabgaa.MapInt
set_option linter.unusedVariables false
set_option linter.unusedSimpArgs false
section
variable {W w : World} {g m n k : Nat}
end
theorem mod_pos (a d : Int) (hd : 0 < d) (hd2 : d ≤ 100000) : ∃ r : Nat, (wrap64 (a.tmod d + d)).tmod d = (r : Int) ∧ (r : Int) < d := by
  have h1 : -d < a.tmod d := Int.lt_tmod_of_pos a hd
  have h2 : a.tmod d < d := Int.tmod_lt_of_pos a hd
  have h3 : wrap64 (a.tmod d + d) = a.tmod d + d := by unfold wrap64; omega
  rw [h3]
  have h4 := Int.tmod_lt_of_pos (a.tmod d + d) hd
  have h5 := Int.tmod_nonneg d (a := a.tmod d + d) (by omega)
  exact ⟨((a.tmod d + d).tmod d).toNat, by omega, by omega⟩
end Go.Proofs.Ytibhjlmffgabgaa.PAll
