-- Written by this session's own run of a turned printer; Lean checks every line.
import Derived.Test.YtggahoojpikecaaProg
import Derived.Below
import Derived.Deep.Draws
import Derived.Deep.AppendLies
import Derived.Maps.AppendAt
import Derived.OwnWalk
import Derived.Laws.BytesArg
import Derived.Laws.MakeOwn
import Derived.Laws.OwnMore
import Derived.Deep.OwnRows
import Derived.Tactics
import Derived.Lib.ConvBytes
import Derived.Laws.Slices
import Derived.WalkKit
import Derived.KernelRfl
import Derived.RowKit3
import Derived.Deep.LoopGhost
import Derived.Deep.QuietTactic
import Derived.BigQuiet
import Derived.WideLaws
import Derived.Deep.DeepCutAuto
import Derived.Deep.CutBlock
import Derived.Deep.RegionHeld3
import Derived.Laws.Rows
import Derived.Lib.AppendStr
import Derived.ArgAppend
import Derived.Laws.IdiomCopy
import Derived.OrdersHeld
import Derived.Laws.BitsLemmas
import Derived.RowKit
import Derived.Test.YtggahoojpikecaaShelf
import Derived.Test.YtggahoojpikecaaWWords
import Derived.Test.YtggahoojpikecaaWLast
import Derived.Test.YtggahoojpikecaaWTab
import Derived.Test.YtggahoojpikecaaWFour
import Derived.Test.YtggahoojpikecaaWQPut
import Derived.Test.YtggahoojpikecaaWApart
import Derived.Test.YtggahoojpikecaaWArr
import Derived.Test.YtggahoojpikecaaWZeros
import Derived.Test.YtggahoojpikecaaWFoot
import Derived.Test.YtggahoojpikecaaWKept
import Derived.Test.YtggahoojpikecaaWShare
import Derived.Test.YtggahoojpikecaaWN
import Derived.Test.YtggahoojpikecaaWFootNe
import Derived.Test.YtggahoojpikecaaWAt
import Derived.Test.YtggahoojpikecaaWEqStruct
import Derived.Test.YtggahoojpikecaaWRepsOne
import Derived.Test.YtggahoojpikecaaWInv
import Derived.Test.YtggahoojpikecaaWInvWords
import Derived.Test.YtggahoojpikecaaWGuard
import Derived.Test.YtggahoojpikecaaWNEv
import Derived.Test.YtggahoojpikecaaWMore
namespace Go.Proofs.Ytggahoojpikecaa.PS
open Go.RowKit Go.Proofs.YtggahoojpikecaaW.PrintWords Go.Proofs.YtggahoojpikecaaW.PrintLast Go.Proofs.YtggahoojpikecaaW.PrintMore
attribute [local go_sem] max2_int min2_int max_two min_two max_three min_three max_four min_four   -- for this text's walks alone
set_option linter.unusedVariables false
set_option linter.unusedSimpArgs false



def errW : Option Int → Value
  | none => .nilIface
  | some c => .iface 0 (.int .i64 c)
theorem errW_none : errW none = .nilIface := rfl
theorem errW_some (c : Int) : errW (some c) = .iface 0 (.int .i64 c) := rfl

-- the values' own types

end Go.Proofs.Ytggahoojpikecaa.PS
