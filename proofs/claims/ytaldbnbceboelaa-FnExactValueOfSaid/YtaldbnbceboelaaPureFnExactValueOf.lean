/- FnExactValueOf: the pure law: at every input (each length at most 2^63 - 1) the printed function answers true. Own work of this session. -/
import Derived.Test.YtaldbnbceboelaaStmFnExactValueOf
import Derived.Test.YtaldbnbceboelaaFzValues
namespace Go.Proofs.Ytaldbnbceboelaa.Pure
set_option linter.unusedVariables false
set_option linter.unusedSimpArgs false
open Go Go.RowKit Go.Proofs.YtaldbnbceboelaaW.PrintWords Go.Proofs.Ytaldbnbceboelaa.Pl Go.Proofs.Ytaldbnbceboelaa.F Go.Proofs.Ytaldbnbceboelaa.A

theorem FnExactValueOf : FnExactValueOf.Pure := by
  intro a b c x ha hb hc hx
  obtain ⟨t, ht, hs⟩ := szValues_eq a b c ha hb hc
  unfold laws_FnExactValueOf.f
  rw [ht]
  simp only [Option.bind_some]
  by_cases h : t < 0
  · rw [if_pos h]
  · rw [if_neg h]
    have e : impl_ValueOf.f a b c x = spec_ValueOf.f a b c x := rfl
    simp only [laws_toValues.f, Option.bind_some, e]
    unfold spec_ValueOf.f
    repeat' split
    all_goals simp

end Go.Proofs.Ytaldbnbceboelaa.Pure
