/- The pure statement of the law FnExactIsSolved: over numbers, strings and lists alone. Written by this session's program wip/xrow.py. -/
import Derived.Test.YtaldbnbceboelaaAx23
import Derived.Test.YtaldbnbceboelaaBr
namespace Go.Proofs.Ytaldbnbceboelaa.Pure
open Go Go.RowKit Go.Proofs.Ytaldbnbceboelaa.Br Go.Proofs.YtaldbnbceboelaaW.PrintWords Go.Proofs.YtaldbnbceboelaaW.PrintLast Go.Proofs.Ytaldbnbceboelaa.A Go.Proofs.Ytaldbnbceboelaa.Ext
set_option linter.unusedVariables false
def FnExactIsSolved.Pure : Prop := ∀ (a0_0 : ByteArray) (a0_1 : ByteArray) (l0_2 : (List Int)), ((a0_0 : ByteArray).size ≤ 9223372036854775807) → ((a0_1 : ByteArray).size ≤ 9223372036854775807) → ((l0_2 : (List Int)).length ≤ 9223372036854775807 ∧ ∀ a ∈ l0_2, (Lit.int .i64 a).wf = true) → ∃ k, laws_FnExactIsSolved.f k a0_0 a0_1 l0_2 = some true
end Go.Proofs.Ytaldbnbceboelaa.Pure
