/- What the Go functions that a law reaches compute, as plain Lean functions, and that their calls come to just that; a law's pure statement. Conditions: those that each theorem states. Written by the session's program. -/
import Derived.Test.YthjlapmjpjpgeaaProg
import Derived.Below
import Derived.Deep.Draws
import Derived.Deep.AppendLies
import Derived.Maps.AppendAt
import Derived.OwnWalk
import Derived.Laws.BytesArg
import Derived.Laws.MakeOwn
import Derived.Laws.OwnMore
import Derived.Deep.OwnRows
import Derived.Tactics
import Derived.Lib.ConvBytes
import Derived.Laws.Slices
import Derived.WalkKit
import Derived.KernelRfl
import Derived.RowKit3
import Derived.Deep.LoopGhost
import Derived.Deep.QuietTactic
import Derived.BigQuiet
import Derived.WideLaws
import Derived.Deep.DeepCutAuto
import Derived.Deep.CutBlock
import Derived.Deep.RegionHeld3
import Derived.Laws.Rows
import Derived.Lib.AppendStr
import Derived.ArgAppend
import Derived.Laws.IdiomCopy
import Derived.OrdersHeld
import Derived.Laws.BitsLemmas
import Derived.RowKit
import Derived.WalkLawsBesides
import Derived.Test.YthjlapmjpjpgeaaOpen
import Derived.Test.YthjlapmjpjpgeaaWWords
import Derived.Test.YthjlapmjpjpgeaaWLast
import Derived.Test.YthjlapmjpjpgeaaWQPut
import Derived.Test.YthjlapmjpjpgeaaWApart
import Derived.Test.YthjlapmjpjpgeaaWArr
import Derived.Test.YthjlapmjpjpgeaaWZeros
import Derived.Test.YthjlapmjpjpgeaaWFoot
import Derived.Test.YthjlapmjpjpgeaaWKept
import Derived.Test.YthjlapmjpjpgeaaWShare
import Derived.Test.YthjlapmjpjpgeaaWN
import Derived.Test.YthjlapmjpjpgeaaWNEv
import Derived.Test.YthjlapmjpjpgeaaWMore
namespace Go.Proofs.Ythjlapmjpjpgeaa.M
open Go.RowKit Go.Proofs.YthjlapmjpjpgeaaW.PrintWords Go.Proofs.YthjlapmjpjpgeaaW.PrintLast Go.Proofs.YthjlapmjpjpgeaaW.PrintMore
attribute [local go_sem] max2_int min2_int max_two min_two max_three min_three max_four min_four   -- for this text's walks alone
set_option linter.unusedVariables false
set_option linter.unusedSimpArgs false



def errW : Option Int → Value
  | none => .nilIface
  | some c => .iface 0 (.int .i64 c)
theorem errW_none : errW none = .nilIface := rfl
theorem errW_some (c : Int) : errW (some c) = .iface 0 (.int .i64 c) := rfl

-- the values' own types


end Go.Proofs.Ythjlapmjpjpgeaa.M
