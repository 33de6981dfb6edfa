/- The pure statement of the law FnExactReplaceVar: over numbers, strings and lists alone. Written by this session's program wip/xrow.py. -/
import Derived.Test.YtaldbnbceboelaaAx25
import Derived.Test.YtaldbnbceboelaaBr
namespace Go.Proofs.Ytaldbnbceboelaa.Pure
open Go Go.RowKit Go.Proofs.Ytaldbnbceboelaa.Br Go.Proofs.YtaldbnbceboelaaW.PrintWords Go.Proofs.YtaldbnbceboelaaW.PrintLast Go.Proofs.Ytaldbnbceboelaa.A Go.Proofs.Ytaldbnbceboelaa.Ext
set_option linter.unusedVariables false
def FnExactReplaceVar.Pure : Prop := ∀ (a0 : ByteArray) (a1 : Int) (a2 : ByteArray), ((a0 : ByteArray).size ≤ 9223372036854775807) → ((Lit.int .u8 a1).wf = true) → ((a2 : ByteArray).size ≤ 9223372036854775807) → ∃ k, laws_FnExactReplaceVar.f k a0 a1 a2 = some true
end Go.Proofs.Ytaldbnbceboelaa.Pure
