/- What the Go functions that a law reaches compute, as plain Lean functions, and that their calls come to just that; a law's pure statement. Conditions: those that each theorem states. Written by the session's program. -/
import Derived.Test.YtppidjpamaddhaaDoorProg
import Derived.Test.YtppidjpamaddhaaDoorShelf
import Derived.Below
import Derived.Deep.Draws
import Derived.Deep.AppendLies
import Derived.Maps.AppendAt
import Derived.OwnWalk
import Derived.Laws.BytesArg
import Derived.Laws.MakeOwn
import Derived.Laws.OwnMore
import Derived.Deep.OwnRows
import Derived.Tactics
import Derived.Lib.ConvBytes
import Derived.Laws.Slices
import Derived.WalkKit
import Derived.KernelRfl
import Derived.RowKit3
import Derived.Deep.LoopGhost
import Derived.Deep.QuietTactic
import Derived.BigQuiet
import Derived.WideLaws
import Derived.Deep.DeepCutAuto
import Derived.Deep.CutBlock
import Derived.Deep.RegionHeld3
import Derived.Laws.Rows
import Derived.Lib.AppendStr
import Derived.ArgAppend
import Derived.Laws.IdiomCopy
import Derived.OrdersHeld
import Derived.Laws.BitsLemmas
import Derived.RowKit
import Derived.WalkLawsBesides
import Derived.Test.YtppidjpamaddhaaDoorOpen
import Derived.Test.YtppidjpamaddhaaDoorWWords
import Derived.Test.YtppidjpamaddhaaDoorWLast
import Derived.Test.YtppidjpamaddhaaDoorWTab
import Derived.Test.YtppidjpamaddhaaDoorWQPut
import Derived.Test.YtppidjpamaddhaaDoorWApart
import Derived.Test.YtppidjpamaddhaaDoorWArr
import Derived.Test.YtppidjpamaddhaaDoorWZeros
import Derived.Test.YtppidjpamaddhaaDoorWFoot
import Derived.Test.YtppidjpamaddhaaDoorWKept
import Derived.Test.YtppidjpamaddhaaDoorWShare
import Derived.Test.YtppidjpamaddhaaDoorWN
import Derived.Test.YtppidjpamaddhaaDoorWRepsOne
import Derived.Test.YtppidjpamaddhaaDoorWNEv
import Derived.Test.YtppidjpamaddhaaDoorWMore
namespace Go.Proofs.YtppidjpamaddhaaDoor.M
open Go.RowKit Go.Proofs.YtppidjpamaddhaaDoorW.PrintWords Go.Proofs.YtppidjpamaddhaaDoorW.PrintLast Go.Proofs.YtppidjpamaddhaaDoorW.PrintMore
attribute [local go_sem] max2_int min2_int max_two min_two max_three min_three max_four min_four   -- for this text's walks alone
set_option linter.unusedVariables false
set_option linter.unusedSimpArgs false



def errW : Option Int → Value
  | none => .nilIface
  | some c => .iface 0 (.int .i64 c)
theorem errW_none : errW none = .nilIface := rfl
theorem errW_some (c : Int) : errW (some c) = .iface 0 (.int .i64 c) := rfl

theorem info5 : (Tryd.prog.info? 5).map (fun i => (i.zero, i.size, i.bytes)) = some (some (.int .u8 0), 1, 1) := by kernel_rfl
-- the values' own types


end Go.Proofs.YtppidjpamaddhaaDoor.M
