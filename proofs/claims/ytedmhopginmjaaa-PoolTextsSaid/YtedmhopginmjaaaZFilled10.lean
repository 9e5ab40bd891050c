import Derived.Test.YtedmhopginmjaaaZFilled
namespace Go.Proofs.Ytedmhopginmjaaa.PAll
open Go.RowKit Go.Proofs.YtedmhopginmjaaaW.PrintWords Go.Proofs.YtedmhopginmjaaaW.PrintLast Go.Proofs.YtedmhopginmjaaaW.PrintMore
open Go.Proofs.Ytedmhopginmjaaa.MapInt
set_option linter.unusedVariables false
set_option linter.unusedSimpArgs false
end Go.Proofs.Ytedmhopginmjaaa.PAll
