/- What the functions of terms come to (variables, terms, counts), of the reference and of the program alike. Conditions: as in F02. Own work of this session (wip/tpl/F08.lean). -/
import Derived.Test.YtkefiajemifklaaF02
import Derived.Test.YtkefiajemifklaaAx11
import Derived.Test.YtkefiajemifklaaAx15
namespace Go.Proofs.Ytkefiajemifklaa.F
set_option linter.unusedVariables false
set_option linter.unusedSimpArgs false
open Go.RowKit Go.Proofs.YtkefiajemifklaaW.PrintWords Go.Proofs.Ytkefiajemifklaa.Pl Go.Proofs.Ytkefiajemifklaa.A Go.Proofs.Ytkefiajemifklaa.Ext

theorem impl_isVariable_eq {c : Int} (h0 : 0 ≤ c) (h1 : c ≤ 255) : impl_isVariable.f c = some (isVr c) := by
  obtain ⟨n, rfl⟩ := Int.eq_ofNat_of_zero_le h0
  simp only [impl_isVariable.f, strings_IndexByte.f, Option.bind_some]
  rw [Int.toNat_natCast, ← varI_isVar, ← ix_XYZ n (by omega)]
theorem spec_l8Var_eq (c : Int) : spec_l8Var.f c = some (isVr c) := by
  unfold spec_l8Var.f isVr
  by_cases h : c ≥ 88
  · rw [if_pos h]; simp [show 88 ≤ c from h]
  · rw [if_neg h]; simp [show ¬ 88 ≤ c from h]

def isT (c : Int) : Bool := decide (0 ≤ ltI c) || isVr c
/-- A term. -/
def isTm (s : ByteArray) : Bool := (bytesOf s).all isT && decide (s.size ≤ 12)
/-- How often a byte occurs. -/
def cntB (l : List Int) (c : Int) : Nat := l.count c
theorem spec_CountByte_ev (s : ByteArray) (c : Int) (hs : s.size ≤ 9223372036854775807) : Evt (fun k => spec_CountByte.f k s c) ((cntB (bytesOf s) c : Nat) : Int) := by
  have h : ∀ d i n : Nat, i + d = s.size → n ≤ i → Evt (fun k => spec_CountByte.l0 k s c (n : Int) (i : Int)) (((n + cntB ((bytesOf s).drop i) c : Nat)) : Int) := by
    intro d
    induction d with
    | zero =>
      intro i n hi hn
      refine Evt.step ?_
      simp only [spec_CountByte.l0]
      rw [List.drop_of_length_le (by rw [bytesOf_length]; omega)]
      exact Evt.neg (by omega) (Evt.const (by simp [cntB]))
    | succ d ih =>
      intro i n hi hn
      refine Evt.step ?_
      simp only [spec_CountByte.l0]
      have hl : i < (bytesOf s).length := by rw [bytesOf_length]; omega
      rw [List.drop_eq_getElem_cons hl, ← bt_get s i hl, w64s (i := i) (by omega), w64s (i := n) (by omega)]
      refine Evt.pos (by omega) (Evt.pos (by omega) ?_)
      by_cases hc : bt s i = c
      · exact Evt.pos hc ((ih (i + 1) (n + 1) (by omega) (by omega)).cast (by simp [cntB, hc]; omega))
      · exact Evt.neg hc ((ih (i + 1) n (by omega) (by omega)).cast (by simp [cntB, hc]))
  have := h s.size 0 0 (by omega) (by omega)
  simpa [spec_CountByte.f] using this
theorem cntB_pos (l : List Int) (c : Int) : ((cntB l c : Nat) : Int) > 0 ↔ c ∈ l := by
  unfold cntB
  rw [show (((l.count c : Nat) : Int) > 0) = (0 < l.count c) by apply propext; omega]
  exact List.count_pos_iff

/-- The variables for which p holds, from number i on. -/
def vr (p : Int → Bool) : Nat → Int → ByteArray → ByteArray
  | 0, _, acc => acc
  | n + 1, i, acc => vr p n (i + 1) (if p (bt (⟨#[88, 89, 90]⟩ : ByteArray) i) = true then acc ++ ((⟨#[88, 89, 90]⟩ : ByteArray).extract (i : Int).toNat ((i + 1) : Int).toNat) else acc)
def varsB (s : ByteArray) : ByteArray := vr (fun c => decide (c ∈ bytesOf s)) 3 0 (⟨#[]⟩ : ByteArray)
theorem ext_size (i : Int) (h0 : 0 ≤ i) (h : i < 3) : ((⟨#[88, 89, 90]⟩ : ByteArray).extract (i : Int).toNat ((i + 1) : Int).toNat).size = 1 := by
  have : i = 0 ∨ i = 1 ∨ i = 2 := by omega
  rcases this with rfl | rfl | rfl <;> rfl
theorem spec_VarsOf_ev (s : ByteArray) (hs : s.size ≤ 9223372036854775807) : Evt (fun k => spec_VarsOf.f k s) (varsB s) := by
  have h : ∀ (n : Nat) (i : Int) (acc : ByteArray), 0 ≤ i → i + n = 3 → acc.size + n ≤ 3 → Evt (fun k => spec_VarsOf.l0 k s acc i) (vr (fun c => decide (c ∈ bytesOf s)) n i acc) := by
    intro n
    induction n with
    | zero =>
      intro i acc h0 hi ha
      refine Evt.step ?_
      simp only [spec_VarsOf.l0]
      exact Evt.neg (by omega) (Evt.ret _)
    | succ n ih =>
      intro i acc h0 hi ha
      have hx := ext_size i h0 (by omega)
      have hw : wrap64 (i + 1) = i + 1 := w64 (by omega) (by omega)
      refine Evt.step ?_
      simp only [spec_VarsOf.l0, hw, hx]
      refine Evt.pos (by omega) (Evt.pos (by omega) (Evt.bind (spec_CountByte_ev s _ hs) ?_))
      unfold vr
      by_cases hc : bt (⟨#[88, 89, 90]⟩ : ByteArray) i ∈ bytesOf s
      · refine Evt.pos ((cntB_pos _ _).2 hc) (Evt.pos (by omega) (Evt.pos (by omega) (Evt.pos (by omega) ?_)))
        exact (ih (i + 1) _ (by omega) (by omega) (by rw [ByteArray.size_append, hx]; omega)).cast (by simp [hc])
      · exact Evt.neg (fun h => hc ((cntB_pos _ _).1 h)) ((ih (i + 1) acc (by omega) (by omega) (by omega)).cast (by simp [hc]))
  simpa [spec_VarsOf.f, varsB] using h 3 0 (⟨#[]⟩ : ByteArray) (by omega) (by omega) (by decide)
theorem ib_nonneg (s : ByteArray) {c : Int} (h0 : 0 ≤ c) (h1 : c ≤ 255) : Lib.indexByte s.data.toList c.toNat.toUInt8 ≥ 0 ↔ c ∈ bytesOf s := by
  obtain ⟨n, rfl⟩ := Int.eq_ofNat_of_zero_le h0
  rw [Int.toNat_natCast, ge_iff_le, indexByte_nonneg, mem_data s n (by omega)]
end Go.Proofs.Ytkefiajemifklaa.F
