/- FnExactVarsOf: the pure law: at every input (each length at most 2^63 - 1) the printed function answers true. Own work of this session. -/
import Derived.Test.YtaldbnbceboelaaStmFnExactVarsOf
import Derived.Test.YtaldbnbceboelaaF08
namespace Go.Proofs.Ytaldbnbceboelaa.Pure
set_option linter.unusedVariables false
set_option linter.unusedSimpArgs false
open Go Go.RowKit Go.Proofs.YtaldbnbceboelaaW.PrintWords Go.Proofs.Ytaldbnbceboelaa.Pl Go.Proofs.Ytaldbnbceboelaa.F Go.Proofs.Ytaldbnbceboelaa.A

theorem FnExactVarsOf : FnExactVarsOf.Pure := by
  intro s hs
  refine Evt.get (g := fun k => laws_FnExactVarsOf.f k s) ?_
  simp only [laws_FnExactVarsOf.f]
  by_cases h : (s.size : Int) > 1048576
  · exact Evt.pos h (Evt.ret _)
  · exact Evt.neg h (Evt.bind (spec_VarsOf_ev s hs) (Evt.bind (impl_VarsOf_ev s) (Evt.pos (by trivial) (Evt.ret _))))

end Go.Proofs.Ytaldbnbceboelaa.Pure
