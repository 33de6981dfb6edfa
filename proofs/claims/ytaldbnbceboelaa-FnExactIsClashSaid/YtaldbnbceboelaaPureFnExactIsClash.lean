/- FnExactIsClash: the pure law: at every input (each length at most 2^63 - 1) the printed function answers true. Own work of this session. -/
import Derived.Test.YtaldbnbceboelaaStmFnExactIsClash
import Derived.Test.YtaldbnbceboelaaF12
import Derived.Test.YtaldbnbceboelaaFzEquation
namespace Go.Proofs.Ytaldbnbceboelaa.Pure
set_option linter.unusedVariables false
set_option linter.unusedSimpArgs false
open Go Go.RowKit Go.Proofs.YtaldbnbceboelaaW.PrintWords Go.Proofs.Ytaldbnbceboelaa.Pl Go.Proofs.Ytaldbnbceboelaa.F Go.Proofs.Ytaldbnbceboelaa.A

theorem FnExactIsClash : FnExactIsClash.Pure := by
  intro a b ha hb
  obtain ⟨t, ht, hs⟩ := szEquation_eq a b ha hb
  refine Evt.get (g := fun k => laws_FnExactIsClash.f k a b) ?_
  simp only [laws_FnExactIsClash.f]
  refine Evt.bindc ht ?_
  by_cases h : t < 0
  · exact Evt.pos h (Evt.ret _)
  exact Evt.neg h (Evt.bindc rfl (Evt.bind (spec_IsClash_ev a b (by omega)) (Evt.bindc rfl (Evt.bind (impl_IsClash_ev a b (by omega)) (Evt.neg (by simp) (Evt.ret _))))))

end Go.Proofs.Ytaldbnbceboelaa.Pure
