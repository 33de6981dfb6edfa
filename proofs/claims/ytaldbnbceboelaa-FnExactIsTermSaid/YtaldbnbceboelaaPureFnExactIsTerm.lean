/- FnExactIsTerm: the pure law: at every input (each length at most 2^63 - 1) the printed function answers true. Own work of this session. -/
import Derived.Test.YtaldbnbceboelaaStmFnExactIsTerm
import Derived.Test.YtaldbnbceboelaaF08
namespace Go.Proofs.Ytaldbnbceboelaa.Pure
set_option linter.unusedVariables false
set_option linter.unusedSimpArgs false
open Go Go.RowKit Go.Proofs.YtaldbnbceboelaaW.PrintWords Go.Proofs.Ytaldbnbceboelaa.Pl Go.Proofs.Ytaldbnbceboelaa.F Go.Proofs.Ytaldbnbceboelaa.A

theorem FnExactIsTerm : FnExactIsTerm.Pure := by
  intro s hs
  refine Evt.get (g := fun k => laws_FnExactIsTerm.f k s) ?_
  simp only [laws_FnExactIsTerm.f]
  by_cases h : (s.size : Int) > 1048576
  · exact Evt.pos h (Evt.ret _)
  · exact Evt.neg h (Evt.bind (spec_IsTerm_ev s hs) (Evt.bind (impl_IsTerm_ev s) (Evt.neg (by simp) (Evt.ret _))))

end Go.Proofs.Ytaldbnbceboelaa.Pure
