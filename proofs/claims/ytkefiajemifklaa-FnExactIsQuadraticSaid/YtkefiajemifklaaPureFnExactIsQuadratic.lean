/- FnExactIsQuadratic: the pure law: at every input (each length at most 2^63 - 1) the printed function answers true. Own work of this session. -/
import Derived.Test.YtkefiajemifklaaStmFnExactIsQuadratic
import Derived.Test.YtkefiajemifklaaFQuad
import Derived.Test.YtkefiajemifklaaFzEquation
import Derived.Test.YtkefiajemifklaaAx17
namespace Go.Proofs.Ytkefiajemifklaa.Pure
set_option linter.unusedVariables false
set_option linter.unusedSimpArgs false
open Go Go.RowKit Go.Proofs.YtkefiajemifklaaW.PrintWords Go.Proofs.Ytkefiajemifklaa.Pl Go.Proofs.Ytkefiajemifklaa.F Go.Proofs.Ytkefiajemifklaa.A Go.Proofs.Ytkefiajemifklaa.Ext

theorem FnExactIsQuadratic : FnExactIsQuadratic.Pure := by
  intro a b ha hb
  obtain ⟨t, ht, hs⟩ := szEquation_eq a b ha hb
  refine Evt.get (g := fun k => laws_FnExactIsQuadratic.f k a b) ?_
  simp only [laws_FnExactIsQuadratic.f]
  refine Evt.bindc ht ?_
  by_cases h : t < 0
  · exact Evt.pos h (Evt.ret _)
  exact Evt.neg h (Evt.bindc rfl (Evt.bind (spec_IsQuadratic_ev a b (by omega)) (Evt.bindc rfl (Evt.bind (impl_IsQuadratic_ev a b (by omega)) (Evt.neg (by simp) (Evt.ret _))))))

end Go.Proofs.Ytkefiajemifklaa.Pure
