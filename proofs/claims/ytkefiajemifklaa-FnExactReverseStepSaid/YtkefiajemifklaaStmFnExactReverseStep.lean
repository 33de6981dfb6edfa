/- The pure statement of the law FnExactReverseStep: over numbers, strings and lists alone. Written by this session's program wip/xrow.py. -/
import Derived.Test.YtkefiajemifklaaAx21
import Derived.Test.YtkefiajemifklaaBr
namespace Go.Proofs.Ytkefiajemifklaa.Pure
open Go Go.RowKit Go.Proofs.Ytkefiajemifklaa.Br Go.Proofs.YtkefiajemifklaaW.PrintWords Go.Proofs.YtkefiajemifklaaW.PrintLast Go.Proofs.Ytkefiajemifklaa.A Go.Proofs.Ytkefiajemifklaa.Ext
set_option linter.unusedVariables false
def FnExactReverseStep.Pure : Prop := ∀ (a0_0 : ByteArray) (a0_1 : ByteArray) (a0_2 : ByteArray) (a1_0 : Int) (a1_1 : ByteArray), ((a0_0 : ByteArray).size ≤ 9223372036854775807) → ((a0_1 : ByteArray).size ≤ 9223372036854775807) → ((a0_2 : ByteArray).size ≤ 9223372036854775807) → ((Lit.int .u8 a1_0).wf = true) → ((a1_1 : ByteArray).size ≤ 9223372036854775807) → laws_FnExactReverseStep.f a0_0 a0_1 a0_2 a1_0 a1_1 = some true
end Go.Proofs.Ytkefiajemifklaa.Pure
