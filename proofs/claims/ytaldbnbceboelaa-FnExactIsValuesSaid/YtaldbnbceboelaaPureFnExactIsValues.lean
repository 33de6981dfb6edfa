/- FnExactIsValues: the pure law: at every input (each length at most 2^63 - 1) the printed function answers true. Own work of this session. -/
import Derived.Test.YtaldbnbceboelaaStmFnExactIsValues
import Derived.Test.YtaldbnbceboelaaF02
import Derived.Test.YtaldbnbceboelaaFzValues
namespace Go.Proofs.Ytaldbnbceboelaa.Pure
set_option linter.unusedVariables false
set_option linter.unusedSimpArgs false
open Go Go.RowKit Go.Proofs.YtaldbnbceboelaaW.PrintWords Go.Proofs.Ytaldbnbceboelaa.Pl Go.Proofs.Ytaldbnbceboelaa.F Go.Proofs.Ytaldbnbceboelaa.A

theorem FnExactIsValues : FnExactIsValues.Pure := by
  intro a b c ha hb hc
  obtain ⟨t, ht, hs⟩ := szValues_eq a b c ha hb hc
  refine Evt.get (g := fun k => laws_FnExactIsValues.f k a b c) ?_
  simp only [laws_FnExactIsValues.f]
  refine Evt.bindc ht ?_
  by_cases h : t < 0
  · exact Evt.pos h (Evt.ret _)
  have e1 : Evt (fun k => spec_IsValues.f k a b c) (isW a && (isW b && isW c)) := by
    simp only [spec_IsValues.f]
    refine Evt.bind (spec_IsWord_ev a ha) ?_
    cases h1 : isW a with
    | false => exact Evt.neg (by simp) (Evt.ret _)
    | true =>
      refine Evt.pos rfl (Evt.bind (spec_IsWord_ev b hb) ?_)
      cases h2 : isW b with
      | false => exact Evt.neg (by simp) (Evt.ret _)
      | true => exact Evt.pos rfl (Evt.bind (spec_IsWord_ev c hc) (Evt.ret _))
  have e2 : Evt (fun k => impl_IsValues.f k a b c) (isW a && (isW b && isW c)) := by
    simp only [impl_IsValues.f]
    refine Evt.bind (impl_IsWord_ev a ha) ?_
    cases h1 : isW a with
    | false => exact Evt.neg (by simp) (Evt.ret _)
    | true =>
      refine Evt.pos rfl (Evt.bind (impl_IsWord_ev b hb) ?_)
      cases h2 : isW b with
      | false => exact Evt.neg (by simp) (Evt.ret _)
      | true => exact Evt.pos rfl (Evt.bind (impl_IsWord_ev c hc) (Evt.ret _))
  exact Evt.neg h (Evt.bindc rfl (Evt.bind e1 (Evt.bindc rfl (Evt.bind e2 (Evt.neg (by simp) (Evt.ret _))))))

end Go.Proofs.Ytaldbnbceboelaa.Pure
