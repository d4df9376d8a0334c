/- The pure statement of FnExactConstants and what it needs. Conditions: those that each theorem states. -/
import Derived.Test.YthjlapmjpjpgeaaVFnExactConstants0
namespace Go.Proofs.Ythjlapmjpjpgeaa.Pure
open Go.RowKit Go.Proofs.Ythjlapmjpjpgeaa.M Go.Proofs.YthjlapmjpjpgeaaW.PrintWords

theorem FnExactConstants : laws_FnExactConstants.Pure := rfl


end Go.Proofs.Ythjlapmjpjpgeaa.Pure
