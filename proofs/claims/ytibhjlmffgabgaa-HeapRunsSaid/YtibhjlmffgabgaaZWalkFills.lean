import Derived.Test.YtibhjlmffgabgaaZHolds
namespace Go.Proofs.Ytibhjlmffgabgaa.PAll
open Go.RowKit Go.Proofs.YtibhjlmffgabgaaW.PrintWords Go.Proofs.YtibhjlmffgabgaaW.PrintLast Go.Proofs.YtibhjlmffgabgaaW.PrintMore
open Go.Proofs.Ytibhjlmffgabgaa.MapInt
set_option linter.unusedVariables false
set_option linter.unusedSimpArgs false
section
variable {W w : World} {g m n k : Nat}
end
end Go.Proofs.Ytibhjlmffgabgaa.PAll
