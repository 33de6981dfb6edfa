/- What the functions of equations come to (sides, equal first bytes removed, clashes), of the reference and of the program alike. Conditions: the two sides hold at most 2^63 - 1 bytes together. Own work of this session (wip/tpl/F12.lean). -/
import Derived.Test.YtkefiajemifklaaF08
import Derived.Test.YtkefiajemifklaaAx10
import Derived.Test.YtkefiajemifklaaAx12
namespace Go.Proofs.Ytkefiajemifklaa.F
set_option linter.unusedVariables false
set_option linter.unusedSimpArgs false
open Go.RowKit Go.Proofs.YtkefiajemifklaaW.PrintWords Go.Proofs.Ytkefiajemifklaa.Pl Go.Proofs.Ytkefiajemifklaa.A Go.Proofs.Ytkefiajemifklaa.Ext

def isSd (c : Int) : Bool := decide (0 ≤ ltI c) || isVr c || decide (c = 35)
theorem spec_l12Side_ev (s : ByteArray) (hs : s.size ≤ 9223372036854775807) : Evt (fun k => spec_l12Side.f k s) ((bytesOf s).all isSd && decide (s.size ≤ 24)) := by
  have h := Evt.up (fun k i => spec_l12Side.l0 k s i) s.size (fun i => ((bytesOf s).drop i).all isSd && decide (s.size ≤ 24)) ?_ ?_
  · simpa [spec_l12Side.f] using h
  · refine Evt.step ?_
    simp only [spec_l12Side.l0]
    rw [List.drop_of_length_le (by rw [bytesOf_length]; omega)]
    refine Evt.neg (by omega) (Evt.const ?_)
    have e : ((s.size : Int) ≤ 24) = (s.size ≤ 24) := by apply propext; omega
    simp [e]
  · intro i hi h
    refine Evt.step ?_
    simp only [spec_l12Side.l0]
    refine Evt.pos (by omega) (Evt.pos (by omega) (Evt.bind (spec_LetterIndex_ev _) ?_))
    have hl : i < (bytesOf s).length := by rw [bytesOf_length]; exact hi
    rw [List.drop_eq_getElem_cons hl, ← bt_get s i hl, w64s (by omega)]
    by_cases hc : ltI (bt s i) < 0
    · refine Evt.pos hc (Evt.bindc (spec_l8Var_eq _) ?_)
      by_cases hv : isVr (bt s i) = true
      · exact Evt.pos hv (h.cast (by simp [isSd, hv]))
      · refine Evt.neg hv ?_
        by_cases h35 : bt s i = 35
        · exact Evt.pos h35 (h.cast (by simp [isSd, h35]))
        · exact Evt.neg h35 (Evt.const (by simp [isSd, hv, h35, show ¬ (0 ≤ ltI (bt s i)) by omega]))
    · exact Evt.neg hc (h.cast (by simp [isSd, show 0 ≤ ltI (bt s i) by omega]))
theorem impl_isSide_ev (s : ByteArray) (hs : s.size ≤ 9223372036854775807) : Evt (fun k => impl_isSide.f k s) ((bytesOf s).all isSd) := by
  have h := Evt.up (fun k i => impl_isSide.l0 k s i) s.size (fun i => ((bytesOf s).drop i).all isSd) ?_ ?_
  · simpa [impl_isSide.f] using h
  · refine Evt.step ?_
    simp only [impl_isSide.l0]
    rw [List.drop_of_length_le (by rw [bytesOf_length]; omega)]
    exact Evt.neg (by omega) (Evt.ret _)
  · intro i hi h
    refine Evt.step ?_
    simp only [impl_isSide.l0]
    refine Evt.pos (by omega) (Evt.pos (by omega) ?_)
    have hl : i < (bytesOf s).length := by rw [bytesOf_length]; exact hi
    rw [List.drop_eq_getElem_cons hl, ← bt_get s i hl, w64s (by omega)]
    by_cases h35 : bt s i = 35
    · exact Evt.pos h35 (h.cast (by simp [isSd, h35]))
    refine Evt.neg h35 (Evt.bindc (impl_LetterIndex_eq (bt0 _ _) (bt255 _ _)) ?_)
    by_cases hc : ltI (bt s i) < 0
    · refine Evt.pos hc (Evt.bindc (impl_isVariable_eq (bt0 _ _) (bt255 _ _)) ?_)
      by_cases hv : isVr (bt s i) = true
      · exact Evt.pos hv (h.cast (by simp [isSd, hv]))
      · exact Evt.neg hv (Evt.const (by simp [isSd, hv, h35, show ¬ (0 ≤ ltI (bt s i)) by omega]))
    · exact Evt.neg hc (h.cast (by simp [isSd, show 0 ≤ ltI (bt s i) by omega]))
/-- An equation. -/
def isEq (a b : ByteArray) : Bool := ((bytesOf a).all isSd && decide (a.size ≤ 24)) && ((bytesOf b).all isSd && decide (b.size ≤ 24))
theorem spec_IsEquation_ev (a b : ByteArray) (ha : a.size ≤ 9223372036854775807) (hb : b.size ≤ 9223372036854775807) : Evt (fun k => spec_IsEquation.f k a b) (isEq a b) := by
  unfold isEq
  simp only [spec_IsEquation.f]
  refine Evt.bind (spec_l12Side_ev a ha) ?_
  cases h : ((bytesOf a).all isSd && decide (a.size ≤ 24)) with
  | true => exact Evt.pos rfl (Evt.bind (spec_l12Side_ev b hb) (Evt.const (by simp)))
  | false => exact Evt.neg (by simp) (Evt.const (by simp))
theorem impl_IsEquation_ev (a b : ByteArray) (ha : a.size ≤ 9223372036854775807) (hb : b.size ≤ 9223372036854775807) : Evt (fun k => impl_IsEquation.f k a b) (isEq a b) := by
  unfold isEq
  simp only [impl_IsEquation.f]
  refine Evt.bind (impl_isSide_ev a ha) ?_
  cases h : (bytesOf a).all isSd with
  | true =>
    refine Evt.pos rfl (Evt.bind (impl_isSide_ev b hb) ?_)
    cases h2 : (bytesOf b).all isSd with
    | true =>
      refine Evt.pos rfl ?_
      by_cases h3 : a.size ≤ 24
      · refine Evt.pos (by omega) (Evt.const ?_)
        have e : ((b.size : Int) ≤ 24) = (b.size ≤ 24) := by apply propext; omega
        simp [h3, e]
      · exact Evt.neg (by omega) (Evt.const (by simp [h3]))
    | false => exact Evt.neg (by simp) (Evt.const (by simp))
  | false => exact Evt.neg (by simp) (Evt.const (by simp))

/-- How many first bytes are equal. -/
def cp : List Int → List Int → Nat
  | x :: xs, y :: ys => if x = y then cp xs ys + 1 else 0
  | _, _ => 0
theorem cp_nil_r (xs : List Int) : cp xs [] = 0 := by cases xs <;> rfl
theorem cp_nil_l (xs : List Int) : cp [] xs = 0 := by cases xs <;> rfl
theorem cp_le (xs ys : List Int) : cp xs ys ≤ xs.length ∧ cp xs ys ≤ ys.length := by
  induction xs generalizing ys with
  | nil => simp [cp_nil_l]
  | cons x xs ih =>
    cases ys with
    | nil => simp [cp_nil_r]
    | cons y ys =>
      unfold cp
      have := ih ys
      split <;> simp <;> omega
def stripB (a b : ByteArray) : ByteArray × ByteArray := (a.extract (cp (bytesOf a) (bytesOf b)) a.size, b.extract (cp (bytesOf a) (bytesOf b)) b.size)
theorem spec_StripEquation_ev (a b : ByteArray) (ha : a.size ≤ 9223372036854775807) (hb : b.size ≤ 9223372036854775807) : Evt (fun k => spec_StripEquation.f k a b) (stripB a b) := by
  have h : ∀ d i : Nat, i + d = a.size → i ≤ b.size → Evt (fun k => spec_StripEquation.l0 k (i : Int) a b) (a.extract (i + cp ((bytesOf a).drop i) ((bytesOf b).drop i)) a.size, b.extract (i + cp ((bytesOf a).drop i) ((bytesOf b).drop i)) b.size) := by
    intro d
    induction d with
    | zero =>
      intro i hi hb2
      refine Evt.step ?_
      simp only [spec_StripEquation.l0]
      refine Evt.neg (by omega) (Evt.pos (by omega) (Evt.pos (by omega) (Evt.pos (by omega) (Evt.const ?_))))
      rw [List.drop_of_length_le (l := bytesOf a) (by rw [bytesOf_length]; omega), cp_nil_l]
      simp
    | succ d ih =>
      intro i hi hb2
      have hl : i < (bytesOf a).length := by rw [bytesOf_length]; omega
      refine Evt.step ?_
      simp only [spec_StripEquation.l0]
      refine Evt.pos (by omega) ?_
      by_cases h2 : i < b.size
      · have hl2 : i < (bytesOf b).length := by rw [bytesOf_length]; omega
        refine Evt.pos (by omega) (Evt.pos (by omega) ?_)
        rw [List.drop_eq_getElem_cons hl, List.drop_eq_getElem_cons hl2, ← bt_get a i hl, ← bt_get b i hl2, w64s (by omega)]
        by_cases hc : bt a i = bt b i
        · refine Evt.pos hc ((ih (i + 1) (by omega) (by omega)).cast ?_)
          simp only [cp, hc, if_true]
          rw [show i + 1 + cp ((bytesOf a).drop (i + 1)) ((bytesOf b).drop (i + 1)) = i + (cp ((bytesOf a).drop (i + 1)) ((bytesOf b).drop (i + 1)) + 1) by omega]
        · refine Evt.neg hc (Evt.pos (by omega) (Evt.pos (by omega) (Evt.const ?_)))
          simp [cp, hc]
      · refine Evt.neg (by omega) (Evt.pos (by omega) (Evt.pos (by omega) (Evt.pos (by omega) (Evt.const ?_))))
        rw [List.drop_of_length_le (l := bytesOf b) (by rw [bytesOf_length]; omega), cp_nil_r]
        simp
  have := h a.size 0 (by omega) (by omega)
  simpa [spec_StripEquation.f, stripB] using this
theorem extract_all (a : ByteArray) : a.extract 0 a.size = a := bytesOf_inj (by rw [bytesOf_tail]; rfl)
theorem extract_one (a : ByteArray) (n : Nat) : (a.extract 1 a.size).extract n (a.extract 1 a.size).size = a.extract (n + 1) a.size :=
  bytesOf_inj (by rw [bytesOf_tail, bytesOf_tail, bytesOf_tail, List.drop_drop, Nat.add_comm])
theorem impl_StripEquation_ev (a b : ByteArray) : Evt (fun k => impl_StripEquation.f k a b) (stripB a b) := by
  have h : ∀ (n : Nat) (a b : ByteArray), a.size = n → Evt (fun k => impl_StripEquation.l0 k a b) (stripB a b) := by
    intro n
    induction n with
    | zero =>
      intro a b hn
      refine Evt.step ?_
      simp only [impl_StripEquation.l0]
      refine Evt.pos ((toList_nil_iff a).2 hn) (Evt.const ?_)
      have e : bytesOf a = [] := List.length_eq_zero_iff.1 (by rw [bytesOf_length]; exact hn)
      simp only [stripB, e, cp_nil_l, extract_all]
    | succ n ih =>
      intro a b hn
      refine Evt.step ?_
      simp only [impl_StripEquation.l0]
      refine Evt.neg (fun h => by rw [toList_nil_iff] at h; omega) ?_
      by_cases hb : b.size = 0
      · refine Evt.pos ((toList_nil_iff b).2 hb) (Evt.const ?_)
        have e : bytesOf b = [] := List.length_eq_zero_iff.1 (by rw [bytesOf_length]; exact hb)
        simp only [stripB, e, cp_nil_r, extract_all]
      · refine Evt.neg (fun h => hb ((toList_nil_iff b).1 h)) (Evt.pos (by omega) (Evt.pos (by omega) ?_))
        have hl : 0 < (bytesOf a).length := by rw [bytesOf_length]; omega
        have hl2 : 0 < (bytesOf b).length := by rw [bytesOf_length]; omega
        have ea : bytesOf a = bt a 0 :: (bytesOf a).drop 1 := by
          have := List.drop_eq_getElem_cons hl
          rw [List.drop_zero, ← bt_get a 0 hl] at this
          exact this
        have eb : bytesOf b = bt b 0 :: (bytesOf b).drop 1 := by
          have := List.drop_eq_getElem_cons hl2
          rw [List.drop_zero, ← bt_get b 0 hl2] at this
          exact this
        by_cases hc : bt a 0 = bt b 0
        · refine Evt.pos hc (Evt.pos (by omega) (Evt.pos (by omega) ((ih _ _ ?_).cast ?_)))
          · rw [← bytesOf_length, bytesOf_tail, List.length_drop, bytesOf_length]; omega
          · have e1 : cp (bytesOf a) (bytesOf b) = cp ((bytesOf a).drop 1) ((bytesOf b).drop 1) + 1 := by
              rw [ea, eb]
              simp [cp, hc]
            simp only [stripB, extract_one, bytesOf_tail, e1]
        · refine Evt.neg hc (Evt.const ?_)
          have e1 : cp (bytesOf a) (bytesOf b) = 0 := by
            rw [ea, eb]
            simp [cp, hc]
          simp only [stripB, e1, extract_all]
  exact h a.size a b rfl

theorem size_append' (a b : ByteArray) : (a ++ b).size = a.size + b.size := ByteArray.size_append
theorem stripB_size (a b : ByteArray) : (stripB a b).1.size ≤ a.size ∧ (stripB a b).2.size ≤ b.size := by
  unfold stripB
  constructor
  · rw [← bytesOf_length, bytesOf_tail, List.length_drop, bytesOf_length]; omega
  · rw [← bytesOf_length, bytesOf_tail, List.length_drop, bytesOf_length]; omega
theorem spec_l12Hard_ev (s : ByteArray) (hs : s.size ≤ 9223372036854775807) : Evt (fun k => spec_l12Hard.f k s) (!(bytesOf s).all isVr) := by
  have h := Evt.up (fun k i => spec_l12Hard.l0 k s i) s.size (fun i => !((bytesOf s).drop i).all isVr) ?_ ?_
  · simpa [spec_l12Hard.f] using h
  · refine Evt.step ?_
    simp only [spec_l12Hard.l0]
    rw [List.drop_of_length_le (by rw [bytesOf_length]; omega)]
    exact Evt.neg (by omega) (Evt.const rfl)
  · intro i hi h
    refine Evt.step ?_
    simp only [spec_l12Hard.l0]
    refine Evt.pos (by omega) (Evt.pos (by omega) (Evt.bindc (spec_l8Var_eq _) ?_))
    have hl : i < (bytesOf s).length := by rw [bytesOf_length]; exact hi
    rw [List.drop_eq_getElem_cons hl, ← bt_get s i hl, w64s (by omega)]
    by_cases hv : isVr (bt s i) = true
    · exact Evt.pos hv (h.cast (by simp [hv]))
    · exact Evt.neg hv (Evt.const (by simp [hv]))
theorem impl_onlyVariables_ev (s : ByteArray) (hs : s.size ≤ 9223372036854775807) : Evt (fun k => impl_onlyVariables.f k s) ((bytesOf s).all isVr) := by
  have h := Evt.up (fun k i => impl_onlyVariables.l0 k s i) s.size (fun i => ((bytesOf s).drop i).all isVr) ?_ ?_
  · simpa [impl_onlyVariables.f] using h
  · refine Evt.step ?_
    simp only [impl_onlyVariables.l0]
    rw [List.drop_of_length_le (by rw [bytesOf_length]; omega)]
    exact Evt.neg (by omega) (Evt.const rfl)
  · intro i hi h
    refine Evt.step ?_
    simp only [impl_onlyVariables.l0]
    refine Evt.pos (by omega) (Evt.pos (by omega) (Evt.bindc (impl_isVariable_eq (bt0 _ _) (bt255 _ _)) ?_))
    have hl : i < (bytesOf s).length := by rw [bytesOf_length]; exact hi
    rw [List.drop_eq_getElem_cons hl, ← bt_get s i hl, w64s (by omega)]
    by_cases hv : isVr (bt s i) = true
    · exact Evt.pos hv (h.cast (by simp [hv]))
    · exact Evt.neg hv (Evt.const (by simp [hv]))
/-- A clash of two sides that are stripped. -/
def clashS (a b : ByteArray) : Bool := if a.size = 0 ∨ b.size = 0 then !(bytesOf (a ++ b)).all isVr else !isVr (bt a 0) && !isVr (bt b 0)
def clashB (a b : ByteArray) : Bool := clashS (stripB a b).1 (stripB a b).2
theorem spec_IsClash_ev (a b : ByteArray) (h : a.size + b.size ≤ 9223372036854775807) : Evt (fun k => spec_IsClash.f k a b) (clashB a b) := by
  unfold clashB
  simp only [spec_IsClash.f]
  refine Evt.bind (spec_StripEquation_ev a b (by omega) (by omega)) ?_
  have hs := stripB_size a b
  generalize stripB a b = p at hs ⊢
  obtain ⟨x, y⟩ := p
  simp only at hs ⊢
  have hj : ∀ e : Bool, e = decide (x.size = 0 ∨ y.size = 0) → Evt (fun k => spec_IsClash.j0 k e x y) (clashS x y) := by
    intro e he
    refine Evt.step ?_
    simp only [spec_IsClash.j0]
    unfold clashS
    by_cases hc : x.size = 0 ∨ y.size = 0
    · rw [if_pos hc]
      refine Evt.pos (by rw [he]; exact decide_eq_true hc) (Evt.pos (by omega) (Evt.bind (spec_l12Hard_ev _ (by rw [size_append']; omega)) (Evt.const rfl)))
    · rw [if_neg hc]
      refine Evt.neg (by rw [he, decide_eq_false hc]; decide) (Evt.pos (by omega) (Evt.bindc (spec_l8Var_eq _) ?_))
      by_cases hv : isVr (bt x 0) = true
      · exact Evt.pos hv (Evt.const (by simp [hv]))
      · exact Evt.neg hv (Evt.pos (by omega) (Evt.bindc (spec_l8Var_eq _) (Evt.const (by simp [hv]))))
  by_cases h0 : x.size = 0
  · exact Evt.pos ((toList_nil_iff x).2 h0) (hj _ (by simp [h0]))
  · refine Evt.neg (fun e => h0 ((toList_nil_iff x).1 e)) (hj _ ?_)
    rw [Bool.eq_iff_iff]
    simp [h0, toList_nil_iff]
theorem impl_IsClash_ev (a b : ByteArray) (h : a.size + b.size ≤ 9223372036854775807) : Evt (fun k => impl_IsClash.f k a b) (clashB a b) := by
  unfold clashB
  simp only [impl_IsClash.f]
  refine Evt.bind (impl_StripEquation_ev a b) ?_
  have hs := stripB_size a b
  generalize stripB a b = p at hs ⊢
  obtain ⟨x, y⟩ := p
  simp only at hs ⊢
  have hj : ∀ e : Bool, e = decide (x.size = 0 ∨ y.size = 0) → Evt (fun k => impl_IsClash.j0 k e x y) (clashS x y) := by
    intro e he
    refine Evt.step ?_
    simp only [impl_IsClash.j0]
    unfold clashS
    by_cases hc : x.size = 0 ∨ y.size = 0
    · rw [if_pos hc]
      refine Evt.pos (by rw [he]; exact decide_eq_true hc) (Evt.pos (by omega) (Evt.bind (impl_onlyVariables_ev _ (by rw [size_append']; omega)) (Evt.const rfl)))
    · rw [if_neg hc]
      refine Evt.neg (by rw [he, decide_eq_false hc]; decide) (Evt.pos (by omega) (Evt.bindc (impl_isVariable_eq (bt0 _ _) (bt255 _ _)) ?_))
      by_cases hv : isVr (bt x 0) = true
      · exact Evt.pos hv (Evt.const (by simp [hv]))
      · exact Evt.neg hv (Evt.pos (by omega) (Evt.bindc (impl_isVariable_eq (bt0 _ _) (bt255 _ _)) (Evt.const (by simp [hv]))))
  by_cases h0 : x.size = 0
  · exact Evt.pos ((toList_nil_iff x).2 h0) (hj _ (by simp [h0]))
  · refine Evt.neg (fun e => h0 ((toList_nil_iff x).1 e)) (hj _ ?_)
    rw [Bool.eq_iff_iff]
    simp [h0, toList_nil_iff]
end Go.Proofs.Ytkefiajemifklaa.F
