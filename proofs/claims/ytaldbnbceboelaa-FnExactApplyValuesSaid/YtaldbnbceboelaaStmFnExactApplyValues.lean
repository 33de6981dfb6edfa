/- The pure statement of the law FnExactApplyValues: over numbers, strings and lists alone. Written by this session's program wip/xrow.py. -/
import Derived.Test.YtaldbnbceboelaaAx26
import Derived.Test.YtaldbnbceboelaaBr
namespace Go.Proofs.Ytaldbnbceboelaa.Pure
open Go Go.RowKit Go.Proofs.Ytaldbnbceboelaa.Br Go.Proofs.YtaldbnbceboelaaW.PrintWords Go.Proofs.YtaldbnbceboelaaW.PrintLast Go.Proofs.Ytaldbnbceboelaa.A Go.Proofs.Ytaldbnbceboelaa.Ext
set_option linter.unusedVariables false
def FnExactApplyValues.Pure : Prop := ∀ (a0 : ByteArray) (a1_0 : ByteArray) (a1_1 : ByteArray) (a1_2 : ByteArray), ((a0 : ByteArray).size ≤ 9223372036854775807) → ((a1_0 : ByteArray).size ≤ 9223372036854775807) → ((a1_1 : ByteArray).size ≤ 9223372036854775807) → ((a1_2 : ByteArray).size ≤ 9223372036854775807) → ∃ k, laws_FnExactApplyValues.f k a0 a1_0 a1_1 a1_2 = some true
end Go.Proofs.Ytaldbnbceboelaa.Pure
