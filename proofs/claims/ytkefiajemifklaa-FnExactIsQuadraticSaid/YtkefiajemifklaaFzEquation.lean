/- The laws' weighing of equations. Conditions: each length at most 2^63 - 1. Own work of this session (wip/tpl/FzEquation.lean). -/
import Derived.Test.YtkefiajemifklaaPl
import Derived.Test.YtkefiajemifklaaAx8
namespace Go.Proofs.Ytkefiajemifklaa.F
set_option linter.unusedVariables false
set_option linter.unusedSimpArgs false
open Go.RowKit Go.Proofs.YtkefiajemifklaaW.PrintWords Go.Proofs.Ytkefiajemifklaa.Pl Go.Proofs.Ytkefiajemifklaa.A

theorem szEquation_eq (a b : ByteArray) (ha : a.size ≤ 9223372036854775807) (hb : b.size ≤ 9223372036854775807) :
    ∃ t, laws_szEquation.f a b 1048576 = some t ∧ (t < 0 ∨ a.size + b.size ≤ 1048576) := by
  unfold laws_szEquation.f
  rw [w64_sub (by omega) (by omega) ha]
  by_cases h1 : (1048576 : Int) - a.size < 0
  · exact ⟨-1, by rw [if_pos h1], .inl (by omega)⟩
  rw [if_neg h1, w64_sub (by omega) (by omega) hb]
  by_cases h2 : (1048576 : Int) - a.size - b.size < 0
  · exact ⟨-1, by rw [if_pos h2], .inl (by omega)⟩
  rw [if_neg h2]
  exact ⟨_, rfl, .inr (by omega)⟩
theorem szEquation_at (a b : ByteArray) (x : Int) (hx : 0 ≤ x) (hx' : x ≤ 1048576) (ha : a.size ≤ 9223372036854775807) (hb : b.size ≤ 9223372036854775807) :
    ∃ t, laws_szEquation.f a b x = some t ∧ (t = -1 ∨ (0 ≤ t ∧ t = x - a.size - b.size)) := by
  unfold laws_szEquation.f
  rw [w64_sub (by omega) (by omega) ha]
  by_cases h1 : x - a.size < 0
  · exact ⟨-1, by rw [if_pos h1], .inl rfl⟩
  rw [if_neg h1, w64_sub (by omega) (by omega) hb]
  by_cases h2 : x - a.size - b.size < 0
  · exact ⟨-1, by rw [if_pos h2], .inl rfl⟩
  rw [if_neg h2]
  exact ⟨_, rfl, .inr ⟨by omega, rfl⟩⟩
end Go.Proofs.Ytkefiajemifklaa.F
