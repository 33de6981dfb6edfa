/- What putting words for variables comes to, of the reference and of the program alike. Conditions: the term has at most 2^63 - 1 bytes, each word at most 2^20. Own work of this session (wip/tpl/FAv.lean). -/
import Derived.Test.YtaldbnbceboelaaFRv
import Derived.Test.YtaldbnbceboelaaF08
import Derived.Test.YtaldbnbceboelaaAx5
namespace Go.Proofs.Ytaldbnbceboelaa.F
set_option linter.unusedVariables false
set_option linter.unusedSimpArgs false
open Go.RowKit Go.Proofs.YtaldbnbceboelaaW.PrintWords Go.Proofs.Ytaldbnbceboelaa.Pl Go.Proofs.Ytaldbnbceboelaa.A Go.Proofs.Ytaldbnbceboelaa.Ext

theorem impl_ApplyValues_eq (s x y z : ByteArray) (hs : s.size ≤ 9223372036854775807) (hx : x.size ≤ 1048576) (hy : y.size ≤ 1048576) (hz : z.size ≤ 1048576) : impl_ApplyValues.f s x y z = some (replB (wordOf x y z) s) := by
  unfold impl_ApplyValues.f
  rw [if_pos ⟨hs, hx, hy, hz⟩]
theorem wordOf_var (x y z : ByteArray) {c : Int} (h0 : 0 ≤ c) (h1 : c ≤ 255) : (wordOf x y z c).2 = isVr c := by
  unfold wordOf
  rw [impl_isVariable_eq h0 h1]
  rfl
theorem spec_ValueOf_eq (x y z : ByteArray) (c : Int) : spec_ValueOf.f x y z c = some (wordOf x y z c).1 := valueOf_some x y z c
theorem spec_ApplyValues_ev (s x y z : ByteArray) (hs : s.size ≤ 9223372036854775807) (hx : x.size ≤ 1048576) (hy : y.size ≤ 1048576) (hz : z.size ≤ 1048576) : Evt (fun k => spec_ApplyValues.f k s x y z) (replB (wordOf x y z) s) := by
  have h : ∀ (d i : Nat) (acc : ByteArray), i + d = s.size → acc.size ≤ 1048576 → Evt (fun k => spec_ApplyValues.l0 k s acc (i : Int) x y z) (strOfNums (repl (wordOf x y z) ((bytesOf s).drop i) (bytesOf acc))) := by
    intro d
    induction d with
    | zero =>
      intro i acc hi ha
      refine Evt.step ?_
      simp only [spec_ApplyValues.l0]
      refine Evt.neg (by omega) (Evt.const ?_)
      rw [List.drop_of_length_le (by rw [bytesOf_length]; omega)]
      exact congrArg some (bytesOf_strOf acc).symm
    | succ d ih =>
      intro i acc hi ha
      have hl : i < (bytesOf s).length := by rw [bytesOf_length]; omega
      have hx1 : ((s.extract i (i + 1)).size : Nat) = 1 := by rw [size_le_of, one_byte s i (by omega)]; rfl
      refine Evt.step ?_
      simp only [spec_ApplyValues.l0]
      rw [w64s (by omega), Int.toNat_natCast, Int.toNat_natCast]
      rw [List.drop_eq_getElem_cons hl, ← bt_get s i hl]
      have hv := wordOf_var x y z (bt0 s i) (bt255 s i)
      have hw := wordOf_size x y z (bt s i) hx hy hz
      have hs2 := spec_ValueOf_eq x y z (bt s i)
      refine Evt.pos (by omega) (Evt.pos (by omega) (Evt.bindc (spec_l8Var_eq _) ?_))
      by_cases hc : isVr (bt s i) = true
      · have e : (if (wordOf x y z (bt s (i : Int))).2 = true then bytesOf (wordOf x y z (bt s (i : Int))).1 else [bt s (i : Int)]) = bytesOf (wordOf x y z (bt s (i : Int))).1 := by rw [hv, if_pos hc]
        refine Evt.pos hc (Evt.bindc hs2 (Evt.pos (by omega) ?_))
        by_cases hbig : ((acc ++ (wordOf x y z (bt s (i : Int))).1).size : Int) > 1048576
        · refine Evt.pos hbig (Evt.const ?_)
          unfold repl
          simp only [e]
          rw [if_pos (by rw [← bytesOf_append, bytesOf_length]; omega)]
          rfl
        · refine Evt.neg hbig ((ih (i + 1) (acc ++ (wordOf x y z (bt s (i : Int))).1) (by omega) (by omega)).cast ?_)
          rw [bytesOf_append]
          conv => rhs; unfold repl
          simp only [e]
          rw [if_neg (by rw [← bytesOf_append, bytesOf_length]; omega)]
      · have e : (if (wordOf x y z (bt s (i : Int))).2 = true then bytesOf (wordOf x y z (bt s (i : Int))).1 else [bt s (i : Int)]) = [bt s (i : Int)] := by rw [hv, if_neg hc]
        refine Evt.neg hc (Evt.pos (by omega) (Evt.pos (by omega) (Evt.pos (by omega) ?_)))
        by_cases hbig : ((acc ++ s.extract i (i + 1)).size : Int) > 1048576
        · refine Evt.pos hbig (Evt.const ?_)
          unfold repl
          simp only [e]
          rw [if_pos (by rw [← one_byte s i (by omega), ← bytesOf_append, bytesOf_length]; omega)]
          rfl
        · refine Evt.neg hbig ((ih (i + 1) (acc ++ s.extract i (i + 1)) (by omega) (by omega)).cast ?_)
          rw [bytesOf_append, one_byte s i (by omega)]
          conv => rhs; unfold repl
          simp only [e]
          rw [if_neg (by rw [← one_byte s i (by omega), ← bytesOf_append, bytesOf_length]; omega)]
  have := h s.size 0 (⟨#[]⟩ : ByteArray) (by omega) (by decide)
  rw [show bytesOf (⟨#[]⟩ : ByteArray) = [] from rfl] at this
  simpa [spec_ApplyValues.f, replB] using this
end Go.Proofs.Ytaldbnbceboelaa.F
