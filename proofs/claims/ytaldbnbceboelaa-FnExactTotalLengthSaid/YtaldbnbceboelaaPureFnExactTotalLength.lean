/- FnExactTotalLength: the pure law: at every input (each length at most 2^63 - 1) the printed function answers true. Own work of this session. -/
import Derived.Test.YtaldbnbceboelaaStmFnExactTotalLength
import Derived.Test.YtaldbnbceboelaaFzValues
namespace Go.Proofs.Ytaldbnbceboelaa.Pure
set_option linter.unusedVariables false
set_option linter.unusedSimpArgs false
open Go Go.RowKit Go.Proofs.YtaldbnbceboelaaW.PrintWords Go.Proofs.Ytaldbnbceboelaa.Pl Go.Proofs.Ytaldbnbceboelaa.F Go.Proofs.Ytaldbnbceboelaa.A

theorem totals (a b c : ByteArray) : ∃ q, spec_TotalLength.f a b c = some q ∧ impl_TotalLength.f a b c = some q := by
  unfold spec_TotalLength.f impl_TotalLength.f
  generalize wrap64 ((wrap64 ((a.size : Int) + (b.size : Int))) + (c.size : Int)) = q
  exact ⟨q, rfl, rfl⟩
theorem FnExactTotalLength : FnExactTotalLength.Pure := by
  intro a b c ha hb hc
  obtain ⟨t, ht, hs⟩ := szValues_eq a b c ha hb hc
  obtain ⟨q, h1, h2⟩ := totals a b c
  refine Option.bind_eq_some_iff.2 ⟨t, ht, ?_⟩
  by_cases h : t < 0
  · exact if_pos h
  · refine (if_neg h).trans ?_
    exact Option.bind_eq_some_iff.2 ⟨(a, b, c), rfl, Option.bind_eq_some_iff.2 ⟨q, h1, Option.bind_eq_some_iff.2 ⟨(a, b, c), rfl, Option.bind_eq_some_iff.2 ⟨q, h2, if_pos rfl⟩⟩⟩⟩

end Go.Proofs.Ytaldbnbceboelaa.Pure
