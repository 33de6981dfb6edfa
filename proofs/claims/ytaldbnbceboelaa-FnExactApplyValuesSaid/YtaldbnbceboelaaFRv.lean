/- What replacing a byte by a string comes to, of the reference and of the program alike. Conditions: the string has at most 2^63 - 1 bytes, what is put in at most 2^20. Own work of this session (wip/tpl/FRv.lean). -/
import Derived.Test.YtaldbnbceboelaaPl
import Derived.Test.YtaldbnbceboelaaAx5
import Derived.Test.YtaldbnbceboelaaExtReplaced
namespace Go.Proofs.Ytaldbnbceboelaa.F
set_option linter.unusedVariables false
set_option linter.unusedSimpArgs false
open Go.RowKit Go.Proofs.YtaldbnbceboelaaW.PrintWords Go.Proofs.Ytaldbnbceboelaa.Pl Go.Proofs.Ytaldbnbceboelaa.A Go.Proofs.Ytaldbnbceboelaa.Ext

theorem bytesOf_strOf (s : ByteArray) : strOfNums (bytesOf s) = s := by
  apply bytesOf_inj
  unfold strOfNums bytesOf
  simp
theorem one_byte (s : ByteArray) (i : Nat) (h : i < s.size) : bytesOf (s.extract i (i + 1)) = [bt s (i : Int)] := by
  have hl : i < (bytesOf s).length := by rw [bytesOf_length]; exact h
  rw [bytesOf_extract, List.drop_eq_getElem_cons hl, bt_get s i hl, show i + 1 - i = 1 by omega]
  rfl
theorem size_le_of (s : ByteArray) : s.size = (bytesOf s).length := (bytesOf_length s).symm
theorem impl_ReplaceVar_eq (s b : ByteArray) (c : Int) (hs : s.size ≤ 9223372036854775807) (hb : b.size ≤ 1048576) : impl_ReplaceVar.f s c b = some (replB (fun x => (b, x == c)) s) := by
  unfold impl_ReplaceVar.f
  rw [if_pos ⟨hs, hb⟩]
theorem spec_ReplaceVar_ev (s b : ByteArray) (c : Int) (hs : s.size ≤ 9223372036854775807) (hb : b.size ≤ 1048576) : Evt (fun k => spec_ReplaceVar.f k s c b) (replB (fun x => (b, x == c)) s) := by
  have h : ∀ (d i : Nat) (acc : ByteArray), i + d = s.size → acc.size ≤ 1048576 → Evt (fun k => spec_ReplaceVar.l0 k s c b acc (i : Int)) (strOfNums (repl (fun x => (b, x == c)) ((bytesOf s).drop i) (bytesOf acc))) := by
    intro d
    induction d with
    | zero =>
      intro i acc hi ha
      refine Evt.step ?_
      simp only [spec_ReplaceVar.l0]
      refine Evt.neg (by omega) (Evt.const ?_)
      rw [List.drop_of_length_le (by rw [bytesOf_length]; omega)]
      exact congrArg some (bytesOf_strOf acc).symm
    | succ d ih =>
      intro i acc hi ha
      have hl : i < (bytesOf s).length := by rw [bytesOf_length]; omega
      have hx : ((s.extract i (i + 1)).size : Nat) = 1 := by rw [size_le_of, one_byte s i (by omega)]; rfl
      refine Evt.step ?_
      simp only [spec_ReplaceVar.l0]
      rw [w64s (by omega), Int.toNat_natCast, Int.toNat_natCast]
      rw [List.drop_eq_getElem_cons hl, ← bt_get s i hl]
      refine Evt.pos (by omega) (Evt.pos (by omega) ?_)
      by_cases hc : bt s i = c
      · have e : (if (bt s (i : Int) == c) = true then bytesOf b else [bt s (i : Int)]) = bytesOf b := by rw [hc]; simp
        refine Evt.pos hc (Evt.pos (by omega) ?_)
        by_cases hbig : ((acc ++ b).size : Int) > 1048576
        · refine Evt.pos hbig (Evt.const ?_)
          unfold repl
          simp only [e]
          rw [if_pos (by rw [← bytesOf_append, bytesOf_length]; omega)]
          rfl
        · refine Evt.neg hbig ((ih (i + 1) (acc ++ b) (by omega) (by omega)).cast ?_)
          rw [bytesOf_append]
          conv => rhs; unfold repl
          simp only [e]
          rw [if_neg (by rw [← bytesOf_append, bytesOf_length]; omega)]
      · have e : (if (bt s (i : Int) == c) = true then bytesOf b else [bt s (i : Int)]) = [bt s (i : Int)] := by simp [hc]
        refine Evt.neg hc (Evt.pos (by omega) (Evt.pos (by omega) (Evt.pos (by omega) ?_)))
        by_cases hbig : ((acc ++ s.extract i (i + 1)).size : Int) > 1048576
        · refine Evt.pos hbig (Evt.const ?_)
          unfold repl
          simp only [e]
          rw [if_pos (by rw [← one_byte s i (by omega), ← bytesOf_append, bytesOf_length]; omega)]
          rfl
        · refine Evt.neg hbig ((ih (i + 1) (acc ++ s.extract i (i + 1)) (by omega) (by omega)).cast ?_)
          rw [bytesOf_append, one_byte s i (by omega)]
          conv => rhs; unfold repl
          simp only [e]
          rw [if_neg (by rw [← one_byte s i (by omega), ← bytesOf_append, bytesOf_length]; omega)]
  have := h s.size 0 (⟨#[]⟩ : ByteArray) (by omega) (by decide)
  rw [show bytesOf (⟨#[]⟩ : ByteArray) = [] from rfl] at this
  simpa [spec_ReplaceVar.f, replB] using this
end Go.Proofs.Ytaldbnbceboelaa.F
