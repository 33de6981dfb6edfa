/- FnExactWithValue: the pure law: at every input (each length at most 2^63 - 1) the printed function answers true. Own work of this session. -/
import Derived.Test.YtaldbnbceboelaaStmFnExactWithValue
import Derived.Test.YtaldbnbceboelaaFzValues
namespace Go.Proofs.Ytaldbnbceboelaa.Pure
set_option linter.unusedVariables false
set_option linter.unusedSimpArgs false
open Go Go.RowKit Go.Proofs.YtaldbnbceboelaaW.PrintWords Go.Proofs.Ytaldbnbceboelaa.Pl Go.Proofs.Ytaldbnbceboelaa.F Go.Proofs.Ytaldbnbceboelaa.A

theorem FnExactWithValue : FnExactWithValue.Pure := by
  intro a b c x s ha hb hc hx hs
  unfold laws_FnExactWithValue.f
  by_cases h0 : (s.size : Int) > 1048576
  · rw [if_pos h0]
  rw [if_neg h0]
  obtain ⟨t, ht, hs⟩ := szValues_eq a b c ha hb hc
  rw [ht]
  simp only [Option.bind_some]
  by_cases h : t < 0
  · rw [if_pos h]
  · rw [if_neg h]
    have e : impl_WithValue.f a b c x s = spec_WithValue.f a b c x s := rfl
    simp only [laws_toValues.f, Option.bind_some, e]
    have q : ∀ y z v, laws_eqValues.f y z v y z v = some true := fun y z v => by simp [laws_eqValues.f]
    obtain ⟨y, z, v, hr⟩ : ∃ y z v, spec_WithValue.f a b c x s = some (y, z, v) := by
      unfold spec_WithValue.f
      repeat' split
      all_goals exact ⟨_, _, _, rfl⟩
    rw [hr]
    simp only [Option.bind_some, q]
    simp

end Go.Proofs.Ytaldbnbceboelaa.Pure
