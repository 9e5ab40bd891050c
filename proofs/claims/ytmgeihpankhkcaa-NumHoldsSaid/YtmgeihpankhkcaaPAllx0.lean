-- Printed by this session's own program wip/tools/pp.py (the kit's printer with hooks of the session's); not a text of print.sh.
import Derived.Test.YtmgeihpankhkcaaProg
import Derived.Below
import Derived.Deep.Draws
import Derived.Deep.AppendLies
import Derived.Maps.AppendAt
import Derived.OwnWalk
import Derived.Laws.BytesArg
import Derived.Laws.MakeOwn
import Derived.Laws.OwnMore
import Derived.Deep.OwnRows
import Derived.Tactics
import Derived.Lib.ConvBytes
import Derived.Laws.Slices
import Derived.WalkKit
import Derived.KernelRfl
import Derived.RowKit3
import Derived.Deep.LoopGhost
import Derived.Deep.QuietTactic
import Derived.BigQuiet
import Derived.WideLaws
import Derived.Deep.DeepCutAuto
import Derived.Deep.CutBlock
import Derived.Deep.RegionHeld3
import Derived.Laws.Rows
import Derived.Lib.AppendStr
import Derived.ArgAppend
import Derived.Laws.IdiomCopy
import Derived.OrdersHeld
import Derived.Laws.BitsLemmas
import Derived.RowKit
import Derived.Test.YtmgeihpankhkcaaWWords
import Derived.Test.YtmgeihpankhkcaaWLast
import Derived.Test.YtmgeihpankhkcaaWTab
import Derived.Test.YtmgeihpankhkcaaWFour
import Derived.Test.YtmgeihpankhkcaaWQPut
import Derived.Test.YtmgeihpankhkcaaWApart
import Derived.Test.YtmgeihpankhkcaaWArr
import Derived.Test.YtmgeihpankhkcaaWZeros
import Derived.Test.YtmgeihpankhkcaaWFoot
import Derived.Test.YtmgeihpankhkcaaWKept
import Derived.Test.YtmgeihpankhkcaaWShare
import Derived.Test.YtmgeihpankhkcaaWN
import Derived.Test.YtmgeihpankhkcaaWFootNe
import Derived.Test.YtmgeihpankhkcaaWAt
import Derived.Test.YtmgeihpankhkcaaWEqStruct
import Derived.Test.YtmgeihpankhkcaaWRepsOne
import Derived.Test.YtmgeihpankhkcaaWInv
import Derived.Test.YtmgeihpankhkcaaWInvWords
import Derived.Test.YtmgeihpankhkcaaWGuard
import Derived.Test.YtmgeihpankhkcaaWNEv
import Derived.Test.YtmgeihpankhkcaaWMore
namespace Go.Proofs.Ytmgeihpankhkcaa.PAll
open Go.RowKit Go.Proofs.YtmgeihpankhkcaaW.PrintWords Go.Proofs.YtmgeihpankhkcaaW.PrintLast Go.Proofs.YtmgeihpankhkcaaW.PrintMore
attribute [local go_sem] max2_int min2_int max_two min_two max_three min_three max_four min_four   -- for this text's walks alone
set_option linter.unusedVariables false
set_option linter.unusedSimpArgs false



def errW : Option Int → Value
  | none => .nilIface
  | some c => .iface 0 (.int .i64 c)
theorem errW_none : errW none = .nilIface := rfl
theorem errW_some (c : Int) : errW (some c) = .iface 0 (.int .i64 c) := rfl

theorem info2 : (Try.prog.info? 2).map (fun i => (i.zero, i.size, i.bytes)) = some (some (.int .i64 0), 1, 8) := by kernel_rfl
-- the values' own types

end Go.Proofs.Ytmgeihpankhkcaa.PAll
