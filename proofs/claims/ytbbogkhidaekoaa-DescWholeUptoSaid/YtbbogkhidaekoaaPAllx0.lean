-- Printed by this session's own program wip/tools/pp.py (the kit's printer with hooks of the session's); not a text of print.sh.
import Derived.Test.YtbbogkhidaekoaaProg
import Derived.Below
import Derived.Deep.Draws
import Derived.Deep.AppendLies
import Derived.Maps.AppendAt
import Derived.OwnWalk
import Derived.Laws.BytesArg
import Derived.Laws.MakeOwn
import Derived.Laws.OwnMore
import Derived.Deep.OwnRows
import Derived.Tactics
import Derived.Lib.ConvBytes
import Derived.Laws.Slices
import Derived.WalkKit
import Derived.KernelRfl
import Derived.RowKit3
import Derived.Deep.LoopGhost
import Derived.Deep.QuietTactic
import Derived.BigQuiet
import Derived.WideLaws
import Derived.Deep.DeepCutAuto
import Derived.Deep.CutBlock
import Derived.Deep.RegionHeld3
import Derived.Laws.Rows
import Derived.Lib.AppendStr
import Derived.ArgAppend
import Derived.Laws.IdiomCopy
import Derived.OrdersHeld
import Derived.Laws.BitsLemmas
import Derived.RowKit
import Derived.Lib.ConvBytes
import Derived.Test.YtbbogkhidaekoaaShelf
import Derived.Test.YtbbogkhidaekoaaWWords
import Derived.Test.YtbbogkhidaekoaaWLast
import Derived.Test.YtbbogkhidaekoaaWTab
import Derived.Test.YtbbogkhidaekoaaWFour
import Derived.Test.YtbbogkhidaekoaaWQPut
import Derived.Test.YtbbogkhidaekoaaWApart
import Derived.Test.YtbbogkhidaekoaaWArr
import Derived.Test.YtbbogkhidaekoaaWZeros
import Derived.Test.YtbbogkhidaekoaaWFoot
import Derived.Test.YtbbogkhidaekoaaWKept
import Derived.Test.YtbbogkhidaekoaaWShare
import Derived.Test.YtbbogkhidaekoaaWN
import Derived.Test.YtbbogkhidaekoaaWFootNe
import Derived.Test.YtbbogkhidaekoaaWAt
import Derived.Test.YtbbogkhidaekoaaWEqStruct
import Derived.Test.YtbbogkhidaekoaaWRepsOne
import Derived.Test.YtbbogkhidaekoaaWInv
import Derived.Test.YtbbogkhidaekoaaWInvWords
import Derived.Test.YtbbogkhidaekoaaWGuard
import Derived.Test.YtbbogkhidaekoaaWNEv
import Derived.Test.YtbbogkhidaekoaaWMore
namespace Go.Proofs.Ytbbogkhidaekoaa.PAll
open Go.RowKit Go.Proofs.YtbbogkhidaekoaaW.PrintWords Go.Proofs.YtbbogkhidaekoaaW.PrintLast Go.Proofs.YtbbogkhidaekoaaW.PrintMore
attribute [local go_sem] max2_int min2_int max_two min_two max_three min_three max_four min_four   -- for this text's walks alone
set_option linter.unusedVariables false
set_option linter.unusedSimpArgs false



def errW : Option Int → Value
 | none => .nilIface
 | some c => .iface 0 (.int .i64 c)
theorem errW_none : errW none = .nilIface := rfl
theorem errW_some (c : Int) : errW (some c) = .iface 0 (.int .i64 c) := rfl

theorem info9 : (Try.prog.info? 9).map (fun i => (i.zero, i.size, i.bytes)) = some (some (.string ⟨#[]⟩), 1, 16) := by kernel_rfl
-- the values' own types

end Go.Proofs.Ytbbogkhidaekoaa.PAll
