/- FnExactReverseStep: the pure law: at every input (each length at most 2^63 - 1) the printed function answers true. Own work of this session. -/
import Derived.Test.YtkefiajemifklaaStmFnExactReverseStep
import Derived.Test.YtkefiajemifklaaF08
import Derived.Test.YtkefiajemifklaaFzValues
import Derived.Test.YtkefiajemifklaaFzMove
import Derived.Test.YtkefiajemifklaaAx11
import Derived.Test.YtkefiajemifklaaAx15
import Derived.Test.YtkefiajemifklaaAx18
import Derived.Test.YtkefiajemifklaaAx19
import Derived.Test.YtkefiajemifklaaAx20
import Derived.Test.YtkefiajemifklaaAx21
namespace Go.Proofs.Ytkefiajemifklaa.Pure
set_option linter.unusedVariables false
set_option linter.unusedSimpArgs false
open Go Go.RowKit Go.Proofs.YtkefiajemifklaaW.PrintWords Go.Proofs.Ytkefiajemifklaa.Pl Go.Proofs.Ytkefiajemifklaa.F Go.Proofs.Ytkefiajemifklaa.A Go.Proofs.Ytkefiajemifklaa.Ext

theorem FnExactReverseStep : FnExactReverseStep.Pure := by
  intro a b c m s ha hb hc hm hs
  obtain ⟨t, ht, hz⟩ := szValues_at a b c 1048576 (by omega) (by omega) ha hb hc
  unfold laws_FnExactReverseStep.f
  refine Option.bind_eq_some_iff.2 ⟨t, ht, ?_⟩
  by_cases h : t < 0
  · exact if_pos h
  refine (if_neg h).trans ?_
  obtain ⟨t', ht', hz'⟩ := szMove_at m s t (by omega) (by omega) hs
  refine Option.bind_eq_some_iff.2 ⟨t', ht', ?_⟩
  by_cases h' : t' < 0
  · exact if_pos h'
  refine (if_neg h').trans ?_
  have q : ∀ y z v, laws_eqValues.f y z v y z v = some true := fun y z v => by simp [laws_eqValues.f]
  have hw : ∀ x, ∃ y z v, spec_WithValue.f a b c m x = some (y, z, v) ∧ impl_WithValue.f a b c m x = some (y, z, v) := by
    intro x
    unfold spec_WithValue.f impl_WithValue.f
    by_cases h1 : m = 88
    · exact ⟨_, _, _, if_pos h1, if_pos h1⟩
    by_cases h2 : m = 89
    · exact ⟨_, _, _, (if_neg h1).trans (if_pos h2), (if_neg h1).trans (if_pos h2)⟩
    by_cases h3 : m = 90
    · exact ⟨_, _, _, (if_neg h1).trans ((if_neg h2).trans (if_pos h3)), (if_neg h1).trans ((if_neg h2).trans (if_pos h3))⟩
    · exact ⟨_, _, _, (if_neg h1).trans ((if_neg h2).trans (if_neg h3)), (if_neg h1).trans ((if_neg h2).trans (if_neg h3))⟩
  have hv : ∀ x, ∃ y, spec_ValueOf.f a b c x = some y ∧ impl_ValueOf.f a b c x = some y ∧ y.size ≤ 1048576 := by
    intro x
    unfold spec_ValueOf.f impl_ValueOf.f
    by_cases h1 : x = 88
    · exact ⟨_, if_pos h1, if_pos h1, by omega⟩
    by_cases h2 : x = 89
    · exact ⟨_, (if_neg h1).trans (if_pos h2), (if_neg h1).trans (if_pos h2), by omega⟩
    by_cases h3 : x = 90
    · exact ⟨_, (if_neg h1).trans ((if_neg h2).trans (if_pos h3)), (if_neg h1).trans ((if_neg h2).trans (if_pos h3)), by omega⟩
    · exact ⟨_, (if_neg h1).trans ((if_neg h2).trans (if_neg h3)), (if_neg h1).trans ((if_neg h2).trans (if_neg h3)), Nat.zero_le _⟩
  have hx1 : s.size ≠ 0 → (s.extract 0 1).size = 1 := by
    intro h0
    rw [← bytesOf_length, bytesOf_extract, List.length_take, List.length_drop, bytesOf_length]
    omega
  obtain ⟨y, z, v, e1, e2⟩ : ∃ y z v, spec_ReverseStep.f a b c m s = some (y, z, v) ∧ impl_ReverseStep.f a b c m s = some (y, z, v) := by
    unfold spec_ReverseStep.f impl_ReverseStep.f
    by_cases h0 : s.toList = ([] : List UInt8)
    · obtain ⟨y, z, v, w1, w2⟩ := hw ⟨#[]⟩
      exact ⟨y, z, v, (if_pos h0).trans (Option.bind_eq_some_iff.2 ⟨_, w1, rfl⟩), (if_pos h0).trans (Option.bind_eq_some_iff.2 ⟨_, w2, rfl⟩)⟩
    have h0' : s.size ≠ 0 := fun e => h0 ((toList_nil_iff s).2 e)
    have hx := hx1 h0'
    obtain ⟨p, p1, p2, p3⟩ := hv m
    obtain ⟨q', q1, q2, q3⟩ := hv (bt s 0)
    rw [if_neg h0, if_neg h0, if_pos (by omega), if_pos (by omega), if_pos (by omega), if_pos (by omega), if_pos (by omega), if_pos (by omega), spec_l8Var_eq, impl_isVariable_eq (bt0 _ _) (bt255 _ _), Option.bind_some, Option.bind_some]
    by_cases hb : isVr (bt s 0) = true
    · obtain ⟨y, z, v, w1, w2⟩ := hw (q' ++ p)
      refine ⟨y, z, v, ?_, ?_⟩
      · rw [if_pos hb, q1, Option.bind_some, p1, Option.bind_some, if_pos (by omega), w1]; rfl
      · rw [if_pos hb, q2, Option.bind_some, p2, Option.bind_some, if_pos (by omega), w2]; rfl
    · obtain ⟨y, z, v, w1, w2⟩ := hw (s.extract 0 1 ++ p)
      refine ⟨y, z, v, ?_, ?_⟩
      · rw [if_neg hb, p1, Option.bind_some, if_pos (by omega), w1]; rfl
      · rw [if_neg hb, p2, Option.bind_some, if_pos (by omega), w2]; rfl
  refine Option.bind_eq_some_iff.2 ⟨(a, b, c), rfl, Option.bind_eq_some_iff.2 ⟨(m, s), rfl, Option.bind_eq_some_iff.2 ⟨(y, z, v), e1, Option.bind_eq_some_iff.2 ⟨(a, b, c), rfl, Option.bind_eq_some_iff.2 ⟨(m, s), rfl, Option.bind_eq_some_iff.2 ⟨(y, z, v), e2, Option.bind_eq_some_iff.2 ⟨true, q y z v, if_pos rfl⟩⟩⟩⟩⟩⟩⟩

end Go.Proofs.Ytkefiajemifklaa.Pure
