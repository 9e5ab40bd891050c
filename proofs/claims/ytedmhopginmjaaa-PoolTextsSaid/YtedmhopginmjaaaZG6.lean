import Derived.Test.YtedmhopginmjaaaZOne
import Derived.Deep.RegionWith
section
namespace Go.Proofs.Ytedmhopginmjaaa.PAll
open Go.RowKit Go.Proofs.YtedmhopginmjaaaW.PrintWords Go.Proofs.YtedmhopginmjaaaW.PrintLast Go.Proofs.YtedmhopginmjaaaW.PrintMore
open Go.Proofs.Ytedmhopginmjaaa.MapInt
set_option linter.unusedVariables false
set_option linter.unusedSimpArgs false
structure BS (W0 w : World) (g : Nat) (full l : List Int) (bad : Bool) : Prop where
  bel : Below W0.heap.size W0 w
  lg : W0.heap.size ≤ g
  u8 : ∀ x ∈ full, 0 ≤ x ∧ x < 256
  box : ∃ A c at_, Blk w g 29 #[.slice A full.length c, .int .i64 (at_ : Nat), .bool bad] ∧ full.length ≤ c ∧ Kd.C (Kd.int .u8) W0 A full.length full ∧ at_ ≤ full.length ∧ l = full.drop at_
section
variable {W0 w w2 : World} {g : Nat} {full l l2 : List Int} {bad bad2 : Bool}
theorem BS.below (h : BS W0 w g full l bad) (hb : Below w.heap.size w w2) : BS W0 w2 g full l bad := by
  obtain ⟨A, c, t, hB, r⟩ := h.box
  exact ⟨below_step h.bel hb, h.lg, h.u8, A, c, t, hB.below hb, r⟩
theorem BS.kept {row : Option Nat} (h : BS W0 w g full l bad) (hg : w.grownBy w2 row) (hne : some g ≠ row) (hr : ∀ k, row = some k → W0.heap.size ≤ k) : BS W0 w2 g full l bad := by
  obtain ⟨A, c, t, hB, r⟩ := h.box
  exact ⟨h.bel.grown hg h.bel.size hr, h.lg, h.u8, A, c, t, hB.kept hg hne, r⟩
end
end Go.Proofs.Ytedmhopginmjaaa.PAll
end
section
namespace Go.Proofs.Ytedmhopginmjaaa.PAll
open Go.RowKit Go.Proofs.YtedmhopginmjaaaW.PrintWords Go.Proofs.YtedmhopginmjaaaW.PrintLast Go.Proofs.YtedmhopginmjaaaW.PrintMore
open Go.Proofs.Ytedmhopginmjaaa.MapInt
set_option linter.unusedVariables false
set_option linter.unusedSimpArgs false
end Go.Proofs.Ytedmhopginmjaaa.PAll
end
