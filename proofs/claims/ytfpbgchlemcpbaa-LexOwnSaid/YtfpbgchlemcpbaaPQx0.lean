-- Written by this session's own run of a turned printer; Lean checks every line.
import Derived.Test.YtfpbgchlemcpbaaProg
import Derived.Below
import Derived.Deep.Draws
import Derived.Deep.AppendLies
import Derived.Maps.AppendAt
import Derived.OwnWalk
import Derived.Laws.BytesArg
import Derived.Laws.MakeOwn
import Derived.Laws.OwnMore
import Derived.Deep.OwnRows
import Derived.Tactics
import Derived.Lib.ConvBytes
import Derived.Laws.Slices
import Derived.WalkKit
import Derived.KernelRfl
import Derived.RowKit3
import Derived.Deep.LoopGhost
import Derived.Deep.QuietTactic
import Derived.BigQuiet
import Derived.WideLaws
import Derived.Deep.DeepCutAuto
import Derived.Deep.CutBlock
import Derived.Deep.RegionHeld3
import Derived.Laws.Rows
import Derived.Lib.AppendStr
import Derived.ArgAppend
import Derived.Laws.IdiomCopy
import Derived.OrdersHeld
import Derived.Laws.BitsLemmas
import Derived.RowKit
import Derived.Test.YtfpbgchlemcpbaaHandA
import Derived.Test.YtfpbgchlemcpbaaWWords
import Derived.Test.YtfpbgchlemcpbaaWLast
import Derived.Test.YtfpbgchlemcpbaaWTab
import Derived.Test.YtfpbgchlemcpbaaWFour
import Derived.Test.YtfpbgchlemcpbaaWQPut
import Derived.Test.YtfpbgchlemcpbaaWApart
import Derived.Test.YtfpbgchlemcpbaaWArr
import Derived.Test.YtfpbgchlemcpbaaWZeros
import Derived.Test.YtfpbgchlemcpbaaWFoot
import Derived.Test.YtfpbgchlemcpbaaWKept
import Derived.Test.YtfpbgchlemcpbaaWShare
import Derived.Test.YtfpbgchlemcpbaaWN
import Derived.Test.YtfpbgchlemcpbaaWFootNe
import Derived.Test.YtfpbgchlemcpbaaWAt
import Derived.Test.YtfpbgchlemcpbaaWEqStruct
import Derived.Test.YtfpbgchlemcpbaaWRepsOne
import Derived.Test.YtfpbgchlemcpbaaWInv
import Derived.Test.YtfpbgchlemcpbaaWInvWords
import Derived.Test.YtfpbgchlemcpbaaWGuard
import Derived.Test.YtfpbgchlemcpbaaWNEv
import Derived.Test.YtfpbgchlemcpbaaWMore
namespace Go.Proofs.Ytfpbgchlemcpbaa.PQ
open Go.RowKit Go.Proofs.YtfpbgchlemcpbaaW.PrintWords Go.Proofs.YtfpbgchlemcpbaaW.PrintLast Go.Proofs.YtfpbgchlemcpbaaW.PrintMore
attribute [local go_sem] max2_int min2_int max_two min_two max_three min_three max_four min_four   -- for this text's walks alone
set_option linter.unusedVariables false
set_option linter.unusedSimpArgs false



def errW : Option Int → Value
  | none => .nilIface
  | some c => .iface 0 (.int .i64 c)
theorem errW_none : errW none = .nilIface := rfl
theorem errW_some (c : Int) : errW (some c) = .iface 0 (.int .i64 c) := rfl

theorem info5 : (Try.prog.info? 5).map (fun i => (i.zero, i.size, i.bytes)) = some (some (.int .u8 0), 1, 1) := by kernel_rfl
-- the values' own types

end Go.Proofs.Ytfpbgchlemcpbaa.PQ
