/- The pure statement of the law FnExactVarsOf: over numbers, strings and lists alone. Written by this session's program wip/xrow.py. -/
import Derived.Test.YtaldbnbceboelaaAx7
import Derived.Test.YtaldbnbceboelaaBr
namespace Go.Proofs.Ytaldbnbceboelaa.Pure
open Go Go.RowKit Go.Proofs.Ytaldbnbceboelaa.Br Go.Proofs.YtaldbnbceboelaaW.PrintWords Go.Proofs.YtaldbnbceboelaaW.PrintLast Go.Proofs.Ytaldbnbceboelaa.A Go.Proofs.Ytaldbnbceboelaa.Ext
set_option linter.unusedVariables false
def FnExactVarsOf.Pure : Prop := ∀ (a0 : ByteArray), ((a0 : ByteArray).size ≤ 9223372036854775807) → ∃ k, laws_FnExactVarsOf.f k a0 = some true
end Go.Proofs.Ytaldbnbceboelaa.Pure
