/- The pure statement of the law FnExactIsQuadratic: over numbers, strings and lists alone. Written by this session's program wip/xrow.py. -/
import Derived.Test.YtkefiajemifklaaAx17
import Derived.Test.YtkefiajemifklaaBr
namespace Go.Proofs.Ytkefiajemifklaa.Pure
open Go Go.RowKit Go.Proofs.Ytkefiajemifklaa.Br Go.Proofs.YtkefiajemifklaaW.PrintWords Go.Proofs.YtkefiajemifklaaW.PrintLast Go.Proofs.Ytkefiajemifklaa.A Go.Proofs.Ytkefiajemifklaa.Ext
set_option linter.unusedVariables false
def FnExactIsQuadratic.Pure : Prop := ∀ (a0_0 : ByteArray) (a0_1 : ByteArray), ((a0_0 : ByteArray).size ≤ 9223372036854775807) → ((a0_1 : ByteArray).size ≤ 9223372036854775807) → ∃ k, laws_FnExactIsQuadratic.f k a0_0 a0_1 = some true
end Go.Proofs.Ytkefiajemifklaa.Pure
