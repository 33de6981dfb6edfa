/- FnExactIsSolved: the pure law: at every input (each length at most 2^63 - 1) the printed function answers true. Own work of this session. -/
import Derived.Test.YtaldbnbceboelaaStmFnExactIsSolved
import Derived.Test.YtaldbnbceboelaaFzState
namespace Go.Proofs.Ytaldbnbceboelaa.Pure
set_option linter.unusedVariables false
set_option linter.unusedSimpArgs false
open Go Go.RowKit Go.Proofs.YtaldbnbceboelaaW.PrintWords Go.Proofs.Ytaldbnbceboelaa.Pl Go.Proofs.Ytaldbnbceboelaa.F Go.Proofs.Ytaldbnbceboelaa.A

theorem FnExactIsSolved : FnExactIsSolved.Pure := by
  intro a b l ha hb hl
  obtain ⟨t, ht, hs⟩ := szState_eq a b l 1048576 (by omega) (by omega) ha hb hl.1
  refine Evt.get (g := fun k => laws_FnExactIsSolved.f k a b l) ?_
  simp only [laws_FnExactIsSolved.f]
  refine Evt.bindc ht ?_
  by_cases h : t < 0
  · exact Evt.pos h (Evt.ret _)
  refine Evt.neg h ?_
  have hlen : l.length ≤ 1048576 := by omega
  have e : impl_IsSolved.f a b l = spec_IsSolved.f a b l := rfl
  obtain ⟨q, hq⟩ : ∃ q, spec_IsSolved.f a b l = some q := by
    unfold spec_IsSolved.f
    split
    all_goals exact ⟨_, rfl⟩
  refine Evt.bind (toState_ev a b l (by omega)) (Evt.bindc hq (Evt.bind (toState_ev a b l (by omega)) (Evt.bindc (e.trans hq) ?_)))
  refine Evt.neg (by simp) (Evt.bind (toState_ev a b l (by omega)) (Evt.bind (eqState_ev a b l hl.1) ?_))
  exact Evt.pos (by trivial) (Evt.ret _)

end Go.Proofs.Ytaldbnbceboelaa.Pure
