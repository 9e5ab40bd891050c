import Derived.Test.YtedmhopginmjaaaZHolds
import Derived.Test.YtedmhopginmjaaaZG6
section
namespace Go.Proofs.Ytedmhopginmjaaa.PAll
open Go.RowKit Go.Proofs.YtedmhopginmjaaaW.PrintWords Go.Proofs.YtedmhopginmjaaaW.PrintLast Go.Proofs.YtedmhopginmjaaaW.PrintMore
open Go.Proofs.Ytedmhopginmjaaa.MapInt
set_option linter.unusedVariables false
set_option linter.unusedSimpArgs false
end Go.Proofs.Ytedmhopginmjaaa.PAll
end
section
namespace Go.Proofs.Ytedmhopginmjaaa.PAll
open Go.RowKit Go.Proofs.YtedmhopginmjaaaW.PrintWords Go.Proofs.YtedmhopginmjaaaW.PrintLast Go.Proofs.YtedmhopginmjaaaW.PrintMore
open Go.Proofs.Ytedmhopginmjaaa.MapInt
set_option linter.unusedVariables false
set_option linter.unusedSimpArgs false
structure TS (W0 w : World) (g gB : Nat) (full l : List Int) (bad : Bool) : Prop where
  rs : RS W0 w g l bad
  bs : BS W0 w gB full l bad
  ne : g ≠ gB
section
variable {W0 w w2 w3 : World} {g gB : Nat} {full l l2 : List Int} {bad b2 : Bool}
theorem TS.below (h : TS W0 w g gB full l bad) (hb : Below w.heap.size w w2) : TS W0 w2 g gB full l bad := ⟨h.rs.below hb, h.bs.below hb, h.ne⟩
end
end Go.Proofs.Ytedmhopginmjaaa.PAll
end
