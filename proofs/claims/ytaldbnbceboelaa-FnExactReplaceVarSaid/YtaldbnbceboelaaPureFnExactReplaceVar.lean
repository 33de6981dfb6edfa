/- FnExactReplaceVar: the pure law: at every input (each length at most 2^63 - 1) the printed function answers true. Own work of this session. -/
import Derived.Test.YtaldbnbceboelaaStmFnExactReplaceVar
import Derived.Test.YtaldbnbceboelaaFRv
import Derived.Test.YtaldbnbceboelaaAx25
namespace Go.Proofs.Ytaldbnbceboelaa.Pure
set_option linter.unusedVariables false
set_option linter.unusedSimpArgs false
open Go Go.RowKit Go.Proofs.YtaldbnbceboelaaW.PrintWords Go.Proofs.Ytaldbnbceboelaa.Pl Go.Proofs.Ytaldbnbceboelaa.F Go.Proofs.Ytaldbnbceboelaa.A Go.Proofs.Ytaldbnbceboelaa.Ext

theorem FnExactReplaceVar : FnExactReplaceVar.Pure := by
  intro s c b hs hc hb
  refine Evt.get (g := fun k => laws_FnExactReplaceVar.f k s c b) ?_
  simp only [laws_FnExactReplaceVar.f]
  by_cases h : (s.size : Int) > 1048576
  · exact Evt.pos h (Evt.ret _)
  refine Evt.neg h ?_
  by_cases h2 : (b.size : Int) > 1048576
  · exact Evt.pos h2 (Evt.ret _)
  exact Evt.neg h2 (Evt.bind (spec_ReplaceVar_ev s b c hs (by omega)) (Evt.bindc (impl_ReplaceVar_eq s b c hs (by omega)) (Evt.pos (by trivial) (Evt.ret _))))

end Go.Proofs.Ytaldbnbceboelaa.Pure
