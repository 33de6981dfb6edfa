/- The laws' weighing, copying and comparing of states. Conditions: each length at most 2^63 - 1. Own work of this session (wip/tpl/FzState.lean). -/
import Derived.Test.YtaldbnbceboelaaFzInt
import Derived.Test.YtaldbnbceboelaaAx20
namespace Go.Proofs.Ytaldbnbceboelaa.F
set_option linter.unusedVariables false
set_option linter.unusedSimpArgs false
open Go.RowKit Go.Proofs.YtaldbnbceboelaaW.PrintWords Go.Proofs.Ytaldbnbceboelaa.Pl Go.Proofs.Ytaldbnbceboelaa.A

theorem szState_eq (a b : ByteArray) (l : List Int) (x : Int) (hx : 0 ≤ x) (hx' : x ≤ 1048576) (ha : a.size ≤ 9223372036854775807) (hb : b.size ≤ 9223372036854775807) (hl : l.length ≤ 9223372036854775807) :
    ∃ t, laws_szState.f a b l x = some t ∧ (t = -1 ∨ (0 ≤ t ∧ t = x - a.size - b.size - l.length)) := by
  unfold laws_szState.f
  rw [w64_sub (by omega) (by omega) ha]
  by_cases h1 : x - a.size < 0
  · exact ⟨-1, by rw [if_pos h1], .inl rfl⟩
  rw [if_neg h1, w64_sub (by omega) (by omega) hb]
  by_cases h2 : x - a.size - b.size < 0
  · exact ⟨-1, by rw [if_pos h2], .inl rfl⟩
  rw [if_neg h2]
  obtain ⟨t, ht, hc⟩ := szIntS_eq l (x - a.size - b.size) (by omega) (by omega) hl
  rw [ht]
  simp only [Option.bind_some]
  rcases hc with rfl | ⟨h0, he⟩
  · exact ⟨-1, by simp, .inl rfl⟩
  · exact ⟨t, by rw [if_neg (by omega)], .inr ⟨h0, he⟩⟩
theorem eqState_ev (a b : ByteArray) (l : List Int) (hl : l.length ≤ 9223372036854775807) : Evt (fun k => laws_eqState.f k a b l a b l) true := by
  simp only [laws_eqState.f]
  exact Evt.pos (by trivial) (Evt.pos (by trivial) (Evt.bind (eqIntS_ev l l hl) (Evt.pos (by simp) (Evt.ret _))))
theorem toState_ev (a b : ByteArray) (l : List Int) (hl : l.length ≤ 35184372088832) : Evt (fun k => laws_toState.f k a b l) (a, b, l) := by
  simp only [laws_toState.f]
  exact Evt.bind (toIntS_ev l hl) (Evt.ret _)
end Go.Proofs.Ytaldbnbceboelaa.F
