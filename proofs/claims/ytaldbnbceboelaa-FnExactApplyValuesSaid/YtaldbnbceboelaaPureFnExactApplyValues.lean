/- FnExactApplyValues: the pure law: at every input (each length at most 2^63 - 1) the printed function answers true. Own work of this session. -/
import Derived.Test.YtaldbnbceboelaaStmFnExactApplyValues
import Derived.Test.YtaldbnbceboelaaFAv
import Derived.Test.YtaldbnbceboelaaFzValues
import Derived.Test.YtaldbnbceboelaaAx26
namespace Go.Proofs.Ytaldbnbceboelaa.Pure
set_option linter.unusedVariables false
set_option linter.unusedSimpArgs false
open Go Go.RowKit Go.Proofs.YtaldbnbceboelaaW.PrintWords Go.Proofs.Ytaldbnbceboelaa.Pl Go.Proofs.Ytaldbnbceboelaa.F Go.Proofs.Ytaldbnbceboelaa.A Go.Proofs.Ytaldbnbceboelaa.Ext

theorem FnExactApplyValues : FnExactApplyValues.Pure := by
  intro s a b c hs ha hb hc
  refine Evt.get (g := fun k => laws_FnExactApplyValues.f k s a b c) ?_
  simp only [laws_FnExactApplyValues.f]
  by_cases h : (s.size : Int) > 1048576
  · exact Evt.pos h (Evt.ret _)
  refine Evt.neg h ?_
  obtain ⟨t, ht, hz⟩ := szValues_eq a b c ha hb hc
  refine Evt.bindc ht ?_
  by_cases h2 : t < 0
  · exact Evt.pos h2 (Evt.ret _)
  exact Evt.neg h2 (Evt.bindc rfl (Evt.bind (spec_ApplyValues_ev s a b c hs (by omega) (by omega) (by omega)) (Evt.bindc rfl (Evt.bindc (impl_ApplyValues_eq s a b c hs (by omega) (by omega) (by omega)) (Evt.pos (by trivial) (Evt.ret _))))))

end Go.Proofs.Ytaldbnbceboelaa.Pure
