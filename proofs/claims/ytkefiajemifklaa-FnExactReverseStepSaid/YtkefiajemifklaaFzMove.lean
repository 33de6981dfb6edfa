/- The laws' weighing of moves. Conditions: each length at most 2^63 - 1. Own work of this session (wip/tpl/FzMove.lean). -/
import Derived.Test.YtkefiajemifklaaPl
import Derived.Test.YtkefiajemifklaaAx9
namespace Go.Proofs.Ytkefiajemifklaa.F
set_option linter.unusedVariables false
set_option linter.unusedSimpArgs false
open Go.RowKit Go.Proofs.YtkefiajemifklaaW.PrintWords Go.Proofs.Ytkefiajemifklaa.Pl Go.Proofs.Ytkefiajemifklaa.A

theorem szMove_at (c : Int) (b : ByteArray) (x : Int) (hx : 0 ≤ x) (hx' : x ≤ 1048576) (hb : b.size ≤ 9223372036854775807) :
    ∃ t, laws_szMove.f c b x = some t ∧ (t = -1 ∨ (0 ≤ t ∧ t = x - b.size)) := by
  unfold laws_szMove.f
  rw [w64_sub (by omega) (by omega) hb]
  by_cases h1 : x - b.size < 0
  · exact ⟨-1, by rw [if_pos h1], .inl rfl⟩
  rw [if_neg h1]
  exact ⟨_, rfl, .inr ⟨by omega, rfl⟩⟩
end Go.Proofs.Ytkefiajemifklaa.F
