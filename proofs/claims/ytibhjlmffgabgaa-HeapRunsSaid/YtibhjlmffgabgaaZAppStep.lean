import Derived.Test.YtibhjlmffgabgaaZG0
import Derived.Test.YtibhjlmffgabgaaZG1
namespace Go.Proofs.Ytibhjlmffgabgaa.MapInt
open Go.RowKit Go.Proofs.YtibhjlmffgabgaaW.PrintWords
set_option linter.unusedVariables false
section
variable {P : Program} {ops : Array Oper} {o : Oper} {a : Act} {Kc : Act → World → Prop} {Q' : Exit → Act → World → Prop} {E : Prop} {W : World}
end
end Go.Proofs.Ytibhjlmffgabgaa.MapInt
