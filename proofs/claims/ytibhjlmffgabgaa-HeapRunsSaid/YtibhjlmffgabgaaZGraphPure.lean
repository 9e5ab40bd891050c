import Derived.Test.YtibhjlmffgabgaaZGState
import Derived.Test.YtibhjlmffgabgaaZDo
import Derived.Test.YtibhjlmffgabgaaZChainPure
namespace Go.Proofs.Ytibhjlmffgabgaa.PAll
open Go.Proofs.Ytibhjlmffgabgaa.MapInt
set_option linter.unusedVariables false
set_option linter.unusedSimpArgs false
section
variable {shs : List S65} {T : List Thg} {roots : List Int}
@[reducible] noncomputable def sS (shs : List S65) (T : List Thg) (roots : List Int) : Int → Bool := rchB shs T roots
@[reducible] noncomputable def sF (shs : List S65) (T : List Thg) (roots : List Int) : Int → Option Int := newF shs (rchB shs T roots) T
@[reducible] noncomputable def sT (shs : List S65) (T : List Thg) (roots : List Int) : List Thg := clrT shs (rchB shs T roots) T
end
end Go.Proofs.Ytibhjlmffgabgaa.PAll
