/- The pure statement of the law FnExactIsTerm: over numbers, strings and lists alone. Written by this session's program wip/xrow.py. -/
import Derived.Test.YtaldbnbceboelaaAx10
import Derived.Test.YtaldbnbceboelaaBr
namespace Go.Proofs.Ytaldbnbceboelaa.Pure
open Go Go.RowKit Go.Proofs.Ytaldbnbceboelaa.Br Go.Proofs.YtaldbnbceboelaaW.PrintWords Go.Proofs.YtaldbnbceboelaaW.PrintLast Go.Proofs.Ytaldbnbceboelaa.A Go.Proofs.Ytaldbnbceboelaa.Ext
set_option linter.unusedVariables false
def FnExactIsTerm.Pure : Prop := ∀ (a0 : ByteArray), ((a0 : ByteArray).size ≤ 9223372036854775807) → ∃ k, laws_FnExactIsTerm.f k a0 = some true
end Go.Proofs.Ytaldbnbceboelaa.Pure
