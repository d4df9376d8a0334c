/- What the Go functions that the law FnReclaimed reaches compute, as plain Lean functions, and that their calls come to just that. Conditions: those that each theorem states. Written by the session's program. -/
import Derived.Test.YtemdjfiimgjiaaaVFnReclaimedB
import Derived.Test.YtemdjfiimgjiaaaVFnReclaimedPk
import Derived.Test.YtemdjfiimgjiaaaVFnReclaimed9
namespace Go.Proofs.Ytemdjfiimgjiaaa.R
open Go.Proofs.Ytemdjfiimgjiaaa.Sq
open Go.RowKit Go.Proofs.YtemdjfiimgjiaaaW.PrintWords Go.Proofs.YtemdjfiimgjiaaaW.PrintLast Go.Proofs.YtemdjfiimgjiaaaW.PrintMore
attribute [local go_sem] max2_int min2_int max_two min_two max_three min_three max_four min_four   -- for this text's walks alone
set_option linter.unusedVariables false
set_option linter.unusedSimpArgs false

attribute [local go_sem high] eqA41
/-- THE ONE PURE STATEMENT of laws_FnReclaimed. -/
def laws_FnReclaimed.Pure : Prop := ∀ (l0 : List Int), (l0.length ≤ maxLen ∧ ∀ z0 ∈ l0, (Lit.int .u8 z0).wf = true) → ∃ k, laws_FnReclaimed.f k l0 = some true


end Go.Proofs.Ytemdjfiimgjiaaa.R
