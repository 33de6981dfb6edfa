/- What the functions of words come to (letters, words), of the reference and of the program alike. Conditions: a byte is from 0 to 255, a string has at most 2^63 - 1 bytes. Own work of this session (wip/tpl/F02.lean). -/
import Derived.Test.YtkefiajemifklaaPl
import Derived.Test.YtkefiajemifklaaAx14
import Derived.Test.YtkefiajemifklaaAx16
namespace Go.Proofs.Ytkefiajemifklaa.F
set_option linter.unusedVariables false
set_option linter.unusedSimpArgs false
open Go.RowKit Go.Proofs.YtkefiajemifklaaW.PrintWords Go.Proofs.Ytkefiajemifklaa.Pl Go.Proofs.Ytkefiajemifklaa.A Go.Proofs.Ytkefiajemifklaa.Ext

theorem spec_LetterIndex_ev (c : Int) : Evt (fun k => spec_LetterIndex.f k c) (ltI c) := by
  refine ⟨4, fun k hk => ?_⟩
  obtain ⟨m, rfl⟩ : ∃ m, k = m + 4 := ⟨k - 4, by omega⟩
  unfold ltI
  by_cases h0 : (97 : Int) = c
  · simp [spec_LetterIndex.f, spec_LetterIndex.l0, w64_a, w64_b, w64_c, bt_abc0, bt_abc1, bt_abc2, h0]
  · by_cases h1 : (98 : Int) = c
    · simp [spec_LetterIndex.f, spec_LetterIndex.l0, w64_a, w64_b, w64_c, bt_abc0, bt_abc1, bt_abc2, h0, h1]
    · by_cases h2 : (99 : Int) = c
      · simp [spec_LetterIndex.f, spec_LetterIndex.l0, w64_a, w64_b, w64_c, bt_abc0, bt_abc1, bt_abc2, h0, h1, h2]
      · simp [spec_LetterIndex.f, spec_LetterIndex.l0, w64_a, w64_b, w64_c, bt_abc0, bt_abc1, bt_abc2, h0, h1, h2]
theorem impl_LetterIndex_eq {c : Int} (h0 : 0 ≤ c) (h1 : c ≤ 255) : impl_LetterIndex.f c = some (ltI c) := by
  obtain ⟨n, rfl⟩ := Int.eq_ofNat_of_zero_le h0
  simp only [impl_LetterIndex.f, strings_IndexByte.f, Option.bind_some]
  rw [Int.toNat_natCast]
  exact congrArg some (ix_abc n (by omega))

def allL (l : List Int) : Bool := l.all fun c => decide (0 ≤ ltI c)
theorem impl_isLetters_ev (s : ByteArray) (hs : s.size ≤ 9223372036854775807) : Evt (fun k => impl_isLetters.f k s) (allL (bytesOf s)) := by
  have h := Evt.up (fun k i => impl_isLetters.l0 k s i) s.size (fun i => allL ((bytesOf s).drop i)) ?_ ?_
  · simpa [impl_isLetters.f] using h
  · refine Evt.step ?_
    simp only [impl_isLetters.l0]
    rw [List.drop_of_length_le (by rw [bytesOf_length]; omega)]
    exact Evt.neg (by omega) (Evt.ret _)
  · intro i hi h
    refine Evt.step ?_
    simp only [impl_isLetters.l0]
    refine Evt.pos (by omega) (Evt.pos (by omega) (Evt.bindc (impl_LetterIndex_eq (bt0 _ _) (bt255 _ _)) ?_))
    have hl : i < (bytesOf s).length := by rw [bytesOf_length]; exact hi
    rw [List.drop_eq_getElem_cons hl, ← bt_get s i hl]
    by_cases hc : ltI (bt s i) < 0
    · exact Evt.pos hc (Evt.const (by simp [allL, show ¬ (0 ≤ ltI (bt s i)) by omega]))
    · rw [w64s (by omega)]
      exact Evt.neg hc (h.cast (by simp [allL, show 0 ≤ ltI (bt s i) by omega]))
/-- A word. -/
def isW (s : ByteArray) : Bool := allL (bytesOf s) && decide (s.size ≤ 30)
theorem impl_IsWord_ev (s : ByteArray) (hs : s.size ≤ 9223372036854775807) : Evt (fun k => impl_IsWord.f k s) (isW s) := by
  unfold isW
  simp only [impl_IsWord.f]
  by_cases h : s.size ≤ 30
  · exact Evt.pos (by omega) (Evt.bind (impl_isLetters_ev s hs) (Evt.const (by simp [h])))
  · exact Evt.neg (by omega) (Evt.const (by simp [h]))
theorem spec_IsWord_ev (s : ByteArray) (hs : s.size ≤ 9223372036854775807) : Evt (fun k => spec_IsWord.f k s) (isW s) := by
  have h := Evt.up (fun k i => spec_IsWord.l0 k s i) s.size (fun i => allL ((bytesOf s).drop i) && decide (s.size ≤ 30)) ?_ ?_
  · simpa [spec_IsWord.f, isW] using h
  · refine Evt.step ?_
    simp only [spec_IsWord.l0]
    rw [List.drop_of_length_le (by rw [bytesOf_length]; omega)]
    refine Evt.neg (by omega) (Evt.const ?_)
    have e : ((s.size : Int) ≤ 30) = (s.size ≤ 30) := by apply propext; omega
    simp [allL, e]
  · intro i hi h
    refine Evt.step ?_
    simp only [spec_IsWord.l0]
    refine Evt.pos (by omega) (Evt.pos (by omega) (Evt.bind (spec_LetterIndex_ev _) ?_))
    have hl : i < (bytesOf s).length := by rw [bytesOf_length]; exact hi
    rw [List.drop_eq_getElem_cons hl, ← bt_get s i hl]
    by_cases hc : ltI (bt s i) < 0
    · exact Evt.pos hc (Evt.const (by simp [allL, show ¬ (0 ≤ ltI (bt s i)) by omega]))
    · rw [w64s (by omega)]
      exact Evt.neg hc (h.cast (by simp [allL, show 0 ≤ ltI (bt s i) by omega]))
end Go.Proofs.Ytkefiajemifklaa.F
