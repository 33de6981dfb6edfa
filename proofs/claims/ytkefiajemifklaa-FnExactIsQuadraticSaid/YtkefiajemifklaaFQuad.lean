/- What quadratic equations are, in the reference and in the program alike. Conditions: the two sides hold at most 2^63 - 1 bytes together. Own work of this session (wip/tpl/FQuad.lean). -/
import Derived.Test.YtkefiajemifklaaF12
import Derived.Test.YtkefiajemifklaaAx10
import Derived.Test.YtkefiajemifklaaAx12
import Derived.Test.YtkefiajemifklaaAx15
namespace Go.Proofs.Ytkefiajemifklaa.F
set_option linter.unusedVariables false
set_option linter.unusedSimpArgs false
open Go.RowKit Go.Proofs.YtkefiajemifklaaW.PrintWords Go.Proofs.Ytkefiajemifklaa.Pl Go.Proofs.Ytkefiajemifklaa.A Go.Proofs.Ytkefiajemifklaa.Ext

theorem impl_CountByte_ev (s : ByteArray) (c : Int) (hs : s.size ≤ 9223372036854775807) : Evt (fun k => impl_CountByte.f k s c) ((cntB (bytesOf s) c : Nat) : Int) := by
  have h : ∀ d i n : Nat, i + d = s.size → n ≤ i → Evt (fun k => impl_CountByte.l0 k s c (n : Int) (i : Int)) (((n + cntB ((bytesOf s).drop i) c : Nat)) : Int) := by
    intro d
    induction d with
    | zero =>
      intro i n hi hn
      refine Evt.step ?_
      simp only [impl_CountByte.l0]
      rw [List.drop_of_length_le (by rw [bytesOf_length]; omega)]
      exact Evt.neg (by omega) (Evt.const (by simp [cntB]))
    | succ d ih =>
      intro i n hi hn
      refine Evt.step ?_
      simp only [impl_CountByte.l0]
      have hl : i < (bytesOf s).length := by rw [bytesOf_length]; omega
      rw [List.drop_eq_getElem_cons hl, ← bt_get s i hl, w64s (i := i) (by omega), w64s (i := n) (by omega)]
      refine Evt.pos (by omega) (Evt.pos (by omega) ?_)
      by_cases hc : bt s i = c
      · exact Evt.pos hc ((ih (i + 1) (n + 1) (by omega) (by omega)).cast (by simp [cntB, hc]; omega))
      · exact Evt.neg hc ((ih (i + 1) n (by omega) (by omega)).cast (by simp [cntB, hc]))
  have := h s.size 0 0 (by omega) (by omega)
  simpa [impl_CountByte.f] using this
theorem cntB_le (s : ByteArray) (c : Int) : cntB (bytesOf s) c ≤ s.size := by
  have := List.count_le_length (a := c) (l := bytesOf s)
  rw [bytesOf_length] at this
  exact this
theorem cntB_append (a b : ByteArray) (c : Int) : cntB (bytesOf (a ++ b)) c = cntB (bytesOf a) c + cntB (bytesOf b) c := by
  unfold cntB
  rw [bytesOf_append, List.count_append]
/-- Each variable from number i on occurs at most twice. -/
def twice (a b : ByteArray) : Nat → Int → Bool
  | 0, _ => true
  | n + 1, i => decide (cntB (bytesOf a) (bt (⟨#[88, 89, 90]⟩ : ByteArray) i) + cntB (bytesOf b) (bt (⟨#[88, 89, 90]⟩ : ByteArray) i) ≤ 2) && twice a b n (i + 1)
def isQd (a b : ByteArray) : Bool := twice a b 3 0 && isEq a b
theorem spec_IsQuadratic_ev (a b : ByteArray) (h : a.size + b.size ≤ 9223372036854775807) : Evt (fun k => spec_IsQuadratic.f k a b) (isQd a b) := by
  have hh : ∀ (n : Nat) (i : Int), 0 ≤ i → i + n = 3 → Evt (fun k => spec_IsQuadratic.l0 k i a b) (twice a b n i && isEq a b) := by
    intro n
    induction n with
    | zero =>
      intro i h0 hi
      refine Evt.step ?_
      simp only [spec_IsQuadratic.l0]
      exact Evt.neg (by omega) (Evt.bind (spec_IsEquation_ev a b (by omega) (by omega)) (Evt.const (by simp [twice])))
    | succ n ih =>
      intro i h0 hi
      have hw : wrap64 (i + 1) = i + 1 := w64 (by omega) (by omega)
      refine Evt.step ?_
      simp only [spec_IsQuadratic.l0, hw]
      refine Evt.pos (by omega) (Evt.pos (by omega) (Evt.bind (spec_CountByte_ev a _ (by omega)) (Evt.bind (spec_CountByte_ev b _ (by omega)) ?_)))
      have h1 := cntB_le a (bt (⟨#[88, 89, 90]⟩ : ByteArray) i)
      have h2 := cntB_le b (bt (⟨#[88, 89, 90]⟩ : ByteArray) i)
      rw [w64 (by omega) (by omega)]
      unfold twice
      by_cases hc : cntB (bytesOf a) (bt (⟨#[88, 89, 90]⟩ : ByteArray) i) + cntB (bytesOf b) (bt (⟨#[88, 89, 90]⟩ : ByteArray) i) ≤ 2
      · exact Evt.neg (by omega) ((ih (i + 1) (by omega) (by omega)).cast (by simp [hc]))
      · exact Evt.pos (by omega) (Evt.const (by simp [hc]))
  simpa [spec_IsQuadratic.f, isQd] using hh 3 0 (by omega) (by omega)
theorem impl_IsQuadratic_ev (a b : ByteArray) (h : a.size + b.size ≤ 9223372036854775807) : Evt (fun k => impl_IsQuadratic.f k a b) (isQd a b) := by
  have hh : ∀ (n : Nat) (i : Int), 0 ≤ i → i + n = 3 → Evt (fun k => impl_IsQuadratic.l0 k i a b) (twice a b n i) := by
    intro n
    induction n with
    | zero =>
      intro i h0 hi
      refine Evt.step ?_
      simp only [impl_IsQuadratic.l0]
      exact Evt.neg (by omega) (Evt.const rfl)
    | succ n ih =>
      intro i h0 hi
      have hw : wrap64 (i + 1) = i + 1 := w64 (by omega) (by omega)
      refine Evt.step ?_
      simp only [impl_IsQuadratic.l0, hw]
      refine Evt.pos (by omega) (Evt.pos (by omega) (Evt.pos (by omega) (Evt.bind (impl_CountByte_ev (a ++ b) _ (by rw [size_append']; omega)) ?_)))
      have h1 := cntB_le a (bt (⟨#[88, 89, 90]⟩ : ByteArray) i)
      have h2 := cntB_le b (bt (⟨#[88, 89, 90]⟩ : ByteArray) i)
      rw [cntB_append]
      unfold twice
      by_cases hc : cntB (bytesOf a) (bt (⟨#[88, 89, 90]⟩ : ByteArray) i) + cntB (bytesOf b) (bt (⟨#[88, 89, 90]⟩ : ByteArray) i) ≤ 2
      · exact Evt.neg (by omega) ((ih (i + 1) (by omega) (by omega)).cast (by simp [hc]))
      · exact Evt.pos (by omega) (Evt.const (by simp [hc]))
  unfold isQd
  simp only [impl_IsQuadratic.f]
  refine Evt.bind (impl_IsEquation_ev a b (by omega) (by omega)) ?_
  cases he : isEq a b with
  | true => exact Evt.pos rfl ((hh 3 0 (by omega) (by omega)).cast (by simp))
  | false => exact Evt.neg (by simp) (Evt.const (by simp))
end Go.Proofs.Ytkefiajemifklaa.F
