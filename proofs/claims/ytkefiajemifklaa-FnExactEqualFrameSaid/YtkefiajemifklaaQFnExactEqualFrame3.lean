/- FnExactEqualFrame: what its proof needs, put together by this session's program wip/merge.py out of the texts that wip/xp.py printed and of this session's own. -/
import Derived.Test.YtkefiajemifklaaQFnExactEqualFrame2
import Derived.Test.YtkefiajemifklaaRows
import Derived.WalkKit
import Derived.ProofKit
import Derived.OpenShut
import Derived.ShutString
import Derived.ChangeOld
import Derived.Below
import Derived.SizedLaws
import Derived.Lib.SmallJoins
namespace Go.Proofs.Ytkefiajemifklaa.F
set_option linter.unusedVariables false
set_option linter.unusedSimpArgs false
open Go.RowKit Go.Proofs.YtkefiajemifklaaW.PrintWords Go.Proofs.Ytkefiajemifklaa.Pl Go.Proofs.Ytkefiajemifklaa.A

theorem rows_at (l : List (List Int)) (i : Nat) (h : i < l.length) : rd_L1 l (i : Int) = l[i] := by simp [rd_L1, h]
/-- A table that weighing lets through. -/
def RowsLe (l : List (List Int)) (b : Nat) : Prop := l.length ≤ b ∧ ∀ x ∈ l, x.length ≤ b
theorem szIntSS_ev (l : List (List Int)) (a : Int) (ha : 0 ≤ a) (ha' : a ≤ 1048576) (hl : l.length ≤ 9223372036854775807) (hw : ∀ x ∈ l, x.length ≤ 9223372036854775807) :
    ∃ t, Evt (fun k => laws_szIntSS.f k l a) t ∧ (t = -1 ∨ (0 ≤ t ∧ t ≤ a ∧ RowsLe l 1048576)) := by
  simp only [laws_szIntSS.f]
  rw [w64_sub (by omega) ha' hl]
  by_cases h1 : a - l.length < 0
  · exact ⟨-1, Evt.pos h1 (Evt.ret _), .inl rfl⟩
  have h : ∀ d i : Nat, i + d = l.length → ∀ b : Int, 0 ≤ b → b ≤ 1048576 → ∃ t, Evt (fun k => laws_szIntSS.l0 k l b (i : Int)) t ∧ (t = -1 ∨ (0 ≤ t ∧ t ≤ b ∧ ∀ x ∈ l.drop i, x.length ≤ 1048576)) := by
    intro d
    induction d with
    | zero =>
      intro i hi b hb hb'
      refine ⟨b, Evt.step ?_, .inr ⟨hb, Int.le_refl _, ?_⟩⟩
      · simp only [laws_szIntSS.l0]
        exact Evt.neg (by omega) (Evt.ret _)
      · rw [List.drop_of_length_le (by omega)]
        intro x hx
        cases hx
    | succ d ih =>
      intro i hi b hb hb'
      have hi' : i < l.length := by omega
      obtain ⟨t, ht, hc⟩ := szIntS_eq l[i] b (by omega) hb' (hw _ (List.getElem_mem hi'))
      by_cases h2 : t < 0
      · refine ⟨-1, Evt.step ?_, .inl rfl⟩
        simp only [laws_szIntSS.l0]
        rw [rows_at l i hi']
        exact Evt.pos (by omega) (Evt.pos (by omega) (Evt.bindc ht (Evt.pos h2 (Evt.ret _))))
      · have hc' : 0 ≤ t ∧ t = b - l[i].length := hc.elim (fun e => absurd (show t < 0 by omega) h2) id
        obtain ⟨t', ht', hc2⟩ := ih (i + 1) (by omega) t (by omega) (by omega)
        refine ⟨t', Evt.step ?_, ?_⟩
        · simp only [laws_szIntSS.l0]
          rw [rows_at l i hi', w64s (by omega)]
          exact Evt.pos (by omega) (Evt.pos (by omega) (Evt.bindc ht (Evt.neg h2 ht')))
        · rcases hc2 with h3 | ⟨h3, h4, h5⟩
          · exact .inl h3
          · refine .inr ⟨h3, by omega, ?_⟩
            rw [List.drop_eq_getElem_cons hi']
            intro x hx
            rcases List.mem_cons.1 hx with rfl | hx
            · omega
            · exact h5 x hx
  obtain ⟨t, ht, hc⟩ := h l.length 0 (by omega) (a - l.length) (by omega) (by omega)
  refine ⟨t, Evt.neg h1 ht, ?_⟩
  rcases hc with hc | ⟨h2, h3, h4⟩
  · exact .inl hc
  · exact .inr ⟨h2, by omega, by omega, by simpa using h4⟩
theorem set_nextR (l : List (List Int)) (i n : Nat) (hn : l.length = n) (hi : i < n) : (l.take i ++ List.replicate (n - i) []).set i l[i] = l.take (i + 1) ++ List.replicate (n - (i + 1)) [] := by
  have hl : (l.take i).length = i := by rw [List.length_take]; omega
  rw [List.set_append_right _ _ (by omega), hl, Nat.sub_self, show n - i = (n - (i + 1)) + 1 by omega, List.replicate_succ, List.set_cons_zero, List.take_succ_eq_append_getElem (by omega), List.append_assoc]
  rfl
theorem toIntSS_ev (l : List (List Int)) (hl : RowsLe l 1048576) : Evt (fun k => laws_toIntSS.f k l) l := by
  have hn := hl.1
  simp only [laws_toIntSS.f]
  refine Evt.pos (by omega) (Evt.pos (by omega) ?_)
  rw [Int.toNat_natCast]
  have h : ∀ d i : Nat, i + d = l.length → Evt (fun k => laws_toIntSS.l0 k l (l.take i ++ List.replicate (l.length - i) []) (i : Int)) l := by
    intro d
    induction d with
    | zero =>
      intro i hi
      refine Evt.step ?_
      simp only [laws_toIntSS.l0]
      refine Evt.neg (by omega) (Evt.const ?_)
      obtain rfl : i = l.length := by omega
      simp
    | succ d ih =>
      intro i hi
      have hi' : i < l.length := by omega
      have hx := hl.2 _ (List.getElem_mem hi')
      refine Evt.step ?_
      simp only [laws_toIntSS.l0]
      rw [rows_at l i hi']
      refine Evt.pos (by omega) (Evt.pos (by omega) (Evt.bind (toIntS_ev _ (by omega)) (Evt.pos (by simp; omega) ?_)))
      rw [Int.toNat_natCast, set_nextR l i l.length rfl hi', w64s (by omega)]
      exact ih (i + 1) (by omega)
  simpa using h l.length 0 (by omega)
theorem eqIntSS_ev (l l' : List (List Int)) (hl : l.length ≤ 9223372036854775807) (hw : ∀ x ∈ l, x.length ≤ 9223372036854775807) : Evt (fun k => laws_eqIntSS.f k l l') (decide (l = l')) := by
  simp only [laws_eqIntSS.f]
  by_cases he : l.length = l'.length
  · refine Evt.pos (by omega) ?_
    have h := Evt.up (fun k i => laws_eqIntSS.l0 k l l' i) l.length (fun i => decide (l.drop i = l'.drop i)) ?_ ?_
    · simpa using h
    · refine Evt.step ?_
      simp only [laws_eqIntSS.l0]
      refine Evt.neg (by omega) (Evt.const ?_)
      rw [List.drop_of_length_le (Nat.le_refl _), List.drop_of_length_le (by omega)]
      rfl
    · intro i hi h
      refine Evt.step ?_
      simp only [laws_eqIntSS.l0]
      have hi' : i < l'.length := by omega
      rw [rows_at l i hi, rows_at l' i hi']
      refine Evt.pos (by omega) (Evt.pos (by omega) (Evt.pos (by omega) (Evt.bind (eqIntS_ev _ _ (hw _ (List.getElem_mem hi))) ?_)))
      rw [List.drop_eq_getElem_cons hi, List.drop_eq_getElem_cons hi', w64s (by omega)]
      by_cases hc : l[i] = l'[i]
      · exact Evt.pos (by simp [hc]) (h.cast (by rw [hc]; simp only [List.cons.injEq, true_and]))
      · exact Evt.neg (by simp [hc]) (Evt.const (by rw [decide_eq_false (fun e => hc (List.cons.inj e).1)]))
  · refine Evt.neg (by omega) (Evt.const ?_)
    have : l ≠ l' := fun e => he (by rw [e])
    simp [this]

end Go.Proofs.Ytkefiajemifklaa.F


namespace Go.Proofs.Ytkefiajemifklaa.F
set_option linter.unusedVariables false
set_option linter.unusedSimpArgs false
open Go.RowKit Go.Proofs.YtkefiajemifklaaW.PrintWords Go.Proofs.Ytkefiajemifklaa.Pl Go.Proofs.Ytkefiajemifklaa.A

theorem l13Lists_ev (l l' : List (List Int)) (hl : l.length ≤ 9223372036854775807) (hw : ∀ x ∈ l, x.length ≤ 9223372036854775807) : Evt (fun k => spec_l13Lists.f k l l') (decide (l = l')) := by
  simp only [spec_l13Lists.f]
  by_cases he : l.length = l'.length
  · refine Evt.pos (by omega) ?_
    have h := Evt.up (fun k i => spec_l13Lists.l0 k l l' i) l.length (fun i => decide (l.drop i = l'.drop i)) ?_ ?_
    · simpa using h
    · refine Evt.step ?_
      simp only [spec_l13Lists.l0]
      refine Evt.neg (by omega) (Evt.const ?_)
      rw [List.drop_of_length_le (Nat.le_refl _), List.drop_of_length_le (by omega)]
      rfl
    · intro i hi h
      refine Evt.step ?_
      simp only [spec_l13Lists.l0]
      have hi' : i < l'.length := by omega
      rw [rows_at l i hi, rows_at l' i hi']
      refine Evt.pos (by omega) (Evt.pos (by omega) (Evt.pos (by omega) (Evt.bind (l5Ints_ev _ _ (hw _ (List.getElem_mem hi))) ?_)))
      rw [List.drop_eq_getElem_cons hi, List.drop_eq_getElem_cons hi', w64s (by omega)]
      by_cases hc : l[i] = l'[i]
      · exact Evt.pos (by simp [hc]) (h.cast (by rw [hc]; simp only [List.cons.injEq, true_and]))
      · exact Evt.neg (by simp [hc]) (Evt.const (by rw [decide_eq_false (fun e => hc (List.cons.inj e).1)]))
  · refine Evt.neg (by omega) (Evt.const ?_)
    have : l ≠ l' := fun e => he (by rw [e])
    simp [this]

end Go.Proofs.Ytkefiajemifklaa.F


namespace Go.Proofs.Ytkefiajemifklaa.F
set_option linter.unusedVariables false
set_option linter.unusedSimpArgs false
open Go.RowKit Go.Proofs.YtkefiajemifklaaW.PrintWords Go.Proofs.Ytkefiajemifklaa.Pl Go.Proofs.Ytkefiajemifklaa.A Go.Proofs.Ytkefiajemifklaa.Ext

/-- Lengths that a machine can hold. -/
def RowsWf (l : List (List Int)) : Prop := l.length ≤ 9223372036854775807 ∧ ∀ x ∈ l, x.length ≤ 9223372036854775807
theorem RowsLe.wf {l : List (List Int)} (h : RowsLe l 1048576) : RowsWf l := ⟨by have := h.1; omega, fun x hx => by have := h.2 x hx; omega⟩
theorem szMonoid_ev (x : List (List Int)) (y : List Int) (z : List (List Int)) (a : Int) (ha : 0 ≤ a) (ha' : a ≤ 1048576) (hx : RowsWf x) (hy : y.length ≤ 9223372036854775807) (hz : RowsWf z) :
    ∃ t, Evt (fun k => laws_szMonoid.f k x y z a) t ∧ (t = -1 ∨ (0 ≤ t ∧ t ≤ a ∧ RowsLe x 1048576 ∧ y.length ≤ 1048576 ∧ RowsLe z 1048576)) := by
  simp only [laws_szMonoid.f]
  obtain ⟨t, ht, hc⟩ := szIntSS_ev x a ha ha' hx.1 hx.2
  rcases hc with rfl | ⟨h0, h1, h2⟩
  · exact ⟨-1, Evt.bind ht (Evt.pos (by decide) (Evt.ret _)), .inl rfl⟩
  obtain ⟨u, hu, hc⟩ := szIntS_eq y t (by omega) (by omega) hy
  rcases hc with rfl | ⟨g0, g1⟩
  · exact ⟨-1, Evt.bind ht (Evt.neg (by omega) (Evt.bindc hu (Evt.pos (by decide) (Evt.ret _)))), .inl rfl⟩
  obtain ⟨v, hv, hc⟩ := szIntSS_ev z u (by omega) (by omega) hz.1 hz.2
  rcases hc with rfl | ⟨k0, k1, k2⟩
  · exact ⟨-1, Evt.bind ht (Evt.neg (by omega) (Evt.bindc hu (Evt.neg (by omega) (Evt.bind hv (Evt.pos (by decide) (Evt.ret _)))))), .inl rfl⟩
  · exact ⟨v, Evt.bind ht (Evt.neg (by omega) (Evt.bindc hu (Evt.neg (by omega) (Evt.bind hv (Evt.neg (by omega) (Evt.ret _)))))), .inr ⟨k0, by omega, h2, by omega, k2⟩⟩
theorem toMonoid_ev (x : List (List Int)) (y : List Int) (z : List (List Int)) (hx : RowsLe x 1048576) (hy : y.length ≤ 1048576) (hz : RowsLe z 1048576) : Evt (fun k => laws_toMonoid.f k x y z) (x, y, z) := by
  simp only [laws_toMonoid.f]
  exact Evt.bind (toIntSS_ev x hx) (Evt.bind (toIntS_ev y (by omega)) (Evt.bind (toIntSS_ev z hz) (Evt.ret _)))
theorem eqMonoid_ev (x : List (List Int)) (y : List Int) (z : List (List Int)) (hx : RowsWf x) (hy : y.length ≤ 9223372036854775807) (hz : RowsWf z) : Evt (fun k => laws_eqMonoid.f k x y z x y z) true := by
  simp only [laws_eqMonoid.f]
  exact Evt.bind (eqIntSS_ev x x hx.1 hx.2) (Evt.pos (by simp) (Evt.bind (eqIntS_ev y y hy) (Evt.pos (by simp) (Evt.bind (eqIntSS_ev z z hz.1 hz.2) (Evt.pos (by simp) (Evt.ret _))))))
/-- The reference and the library answer the same. -/
theorem equalMonoid_ev (x : List (List Int)) (y : List Int) (z : List (List Int)) (x' : List (List Int)) (y' : List Int) (z' : List (List Int)) (hx : RowsWf x) (hy : y.length ≤ 9223372036854775807) (hz : RowsWf z) :
    ∃ q, Evt (fun k => spec_EqualMonoid.f k x y z x' y' z') q ∧ Evt (fun k => impl_EqualMonoid.f k x y z x' y' z') q := by
  simp only [spec_EqualMonoid.f, impl_EqualMonoid.f]
  have h1 := l13Lists_ev x x' hx.1 hx.2
  have h2 := l5Ints_ev y y' hy
  have h2' := slEq_ev y y' hy
  have h3 := l13Lists_ev z z' hz.1 hz.2
  by_cases c1 : x = x'
  · by_cases c2 : y = y'
    · exact ⟨_, Evt.bind h1 (Evt.pos (by simp [c1]) (Evt.bind h2 (Evt.pos (by simp [c2]) (Evt.bind h3 (Evt.ret _))))), Evt.bindc rfl (Evt.pos (by simp [c1]) (Evt.bind h2' (Evt.pos (by simp [c2]) (Evt.bindc rfl (Evt.ret _)))))⟩
    · exact ⟨_, Evt.bind h1 (Evt.pos (by simp [c1]) (Evt.bind h2 (Evt.neg (by simp [c2]) (Evt.ret _)))), Evt.bindc rfl (Evt.pos (by simp [c1]) (Evt.bind h2' (Evt.neg (by simp [c2]) (Evt.ret _))))⟩
  · exact ⟨_, Evt.bind h1 (Evt.neg (by simp [c1]) (Evt.ret _)), Evt.bindc rfl (Evt.neg (by simp [c1]) (Evt.ret _))⟩

end Go.Proofs.Ytkefiajemifklaa.F


namespace Go.Proofs.Ytkefiajemifklaa.F
set_option linter.unusedVariables false
set_option linter.unusedSimpArgs false
open Go.RowKit Go.Proofs.YtkefiajemifklaaW.PrintWords Go.Proofs.Ytkefiajemifklaa.Pl Go.Proofs.Ytkefiajemifklaa.A

theorem szEquation_at (a b : ByteArray) (x : Int) (hx : 0 ≤ x) (hx' : x ≤ 1048576) (ha : a.size ≤ 9223372036854775807) (hb : b.size ≤ 9223372036854775807) :
    ∃ t, laws_szEquation.f a b x = some t ∧ (t = -1 ∨ (0 ≤ t ∧ t = x - a.size - b.size)) := by
  unfold laws_szEquation.f
  rw [w64_sub (by omega) (by omega) ha]
  by_cases h1 : x - a.size < 0
  · exact ⟨-1, by rw [if_pos h1], .inl rfl⟩
  rw [if_neg h1, w64_sub (by omega) (by omega) hb]
  by_cases h2 : x - a.size - b.size < 0
  · exact ⟨-1, by rw [if_pos h2], .inl rfl⟩
  rw [if_neg h2]
  exact ⟨_, rfl, .inr ⟨by omega, rfl⟩⟩

end Go.Proofs.Ytkefiajemifklaa.F


namespace Go.Proofs.Ytkefiajemifklaa.F
set_option linter.unusedVariables false
set_option linter.unusedSimpArgs false
open Go.RowKit Go.Proofs.YtkefiajemifklaaW.PrintWords Go.Proofs.Ytkefiajemifklaa.Pl Go.Proofs.Ytkefiajemifklaa.A Go.Proofs.Ytkefiajemifklaa.Ext

theorem szFrame_ev (a b : ByteArray) (x : List (List Int)) (y : List Int) (z u : List (List Int)) (v : Int) (hv : 0 ≤ v) (hv' : v ≤ 1048576) (ha : a.size ≤ 9223372036854775807) (hb : b.size ≤ 9223372036854775807) (hx : RowsWf x) (hy : y.length ≤ 9223372036854775807) (hz : RowsWf z) (hu : RowsWf u) :
    ∃ t, Evt (fun k => laws_szFrame.f k a b x y z u v) t ∧ (t = -1 ∨ (0 ≤ t ∧ t ≤ v ∧ RowsLe x 1048576 ∧ y.length ≤ 1048576 ∧ RowsLe z 1048576 ∧ RowsLe u 1048576)) := by
  simp only [laws_szFrame.f]
  obtain ⟨t, ht, hc⟩ := szEquation_at a b v hv hv' ha hb
  rcases hc with rfl | ⟨h0, h1⟩
  · exact ⟨-1, Evt.bindc ht (Evt.pos (by decide) (Evt.ret _)), .inl rfl⟩
  obtain ⟨s, hs, hc⟩ := szMonoid_ev x y z t h0 (by omega) hx hy hz
  rcases hc with rfl | ⟨g0, g1, g2, g3, g4⟩
  · exact ⟨-1, Evt.bindc ht (Evt.neg (by omega) (Evt.bind hs (Evt.pos (by decide) (Evt.ret _)))), .inl rfl⟩
  obtain ⟨r, hr, hc⟩ := szIntSS_ev u s g0 (by omega) hu.1 hu.2
  rcases hc with rfl | ⟨k0, k1, k2⟩
  · exact ⟨-1, Evt.bindc ht (Evt.neg (by omega) (Evt.bind hs (Evt.neg (by omega) (Evt.bind hr (Evt.pos (by decide) (Evt.ret _)))))), .inl rfl⟩
  · exact ⟨r, Evt.bindc ht (Evt.neg (by omega) (Evt.bind hs (Evt.neg (by omega) (Evt.bind hr (Evt.neg (by omega) (Evt.ret _)))))), .inr ⟨k0, by omega, g2, g3, g4, k2⟩⟩
theorem toFrame_ev (a b : ByteArray) (x : List (List Int)) (y : List Int) (z u : List (List Int)) (hx : RowsLe x 1048576) (hy : y.length ≤ 1048576) (hz : RowsLe z 1048576) (hu : RowsLe u 1048576) : Evt (fun k => laws_toFrame.f k a b x y z u) (a, b, x, y, z, u) := by
  simp only [laws_toFrame.f]
  exact Evt.bindc rfl (Evt.bind (toMonoid_ev x y z hx hy hz) (Evt.bind (toIntSS_ev u hu) (Evt.ret _)))
theorem eqFrame_ev (a b : ByteArray) (x : List (List Int)) (y : List Int) (z u : List (List Int)) (hx : RowsWf x) (hy : y.length ≤ 9223372036854775807) (hz : RowsWf z) (hu : RowsWf u) : Evt (fun k => laws_eqFrame.f k a b x y z u a b x y z u) true := by
  simp only [laws_eqFrame.f]
  have h : laws_eqEquation.f a b a b = some true := by simp [laws_eqEquation.f]
  exact Evt.bindc h (Evt.pos rfl (Evt.bind (eqMonoid_ev x y z hx hy hz) (Evt.pos rfl (Evt.bind (eqIntSS_ev u u hu.1 hu.2) (Evt.pos (by simp) (Evt.ret _))))))
theorem equalFrame_ev (a b : ByteArray) (x : List (List Int)) (y : List Int) (z u : List (List Int)) (a' b' : ByteArray) (x' : List (List Int)) (y' : List Int) (z' u' : List (List Int)) (hx : RowsWf x) (hy : y.length ≤ 9223372036854775807) (hz : RowsWf z) (hu : RowsWf u) :
    ∃ q, Evt (fun k => spec_EqualFrame.f k a b x y z u a' b' x' y' z' u') q ∧ Evt (fun k => impl_EqualFrame.f k a b x y z u a' b' x' y' z' u') q := by
  simp only [spec_EqualFrame.f, impl_EqualFrame.f]
  obtain ⟨q, h1, h2⟩ := equalMonoid_ev x y z x' y' z' hx hy hz
  have h3 := l13Lists_ev u u' hu.1 hu.2
  by_cases c : (a.toList == a'.toList && (b.toList == b'.toList)) = true
  · cases q with
    | true => exact ⟨_, Evt.pos c (Evt.bind h1 (Evt.pos rfl (Evt.bind h3 (Evt.ret _)))), Evt.pos c (Evt.bind h2 (Evt.pos rfl (Evt.bindc rfl (Evt.ret _))))⟩
    | false => exact ⟨_, Evt.pos c (Evt.bind h1 (Evt.neg (by decide) (Evt.ret _))), Evt.pos c (Evt.bind h2 (Evt.neg (by decide) (Evt.ret _)))⟩
  · exact ⟨_, Evt.neg c (Evt.ret _), Evt.neg c (Evt.ret _)⟩

end Go.Proofs.Ytkefiajemifklaa.F


namespace Go.Proofs.Ytkefiajemifklaa.Pure
set_option linter.unusedVariables false
set_option linter.unusedSimpArgs false
open Go Go.RowKit Go.Proofs.YtkefiajemifklaaW.PrintWords Go.Proofs.Ytkefiajemifklaa.Pl Go.Proofs.Ytkefiajemifklaa.F Go.Proofs.Ytkefiajemifklaa.A Go.Proofs.Ytkefiajemifklaa.Ext

theorem FnExactEqualFrame : FnExactEqualFrame.Pure := by
  intro a b x y z u a' b' x' y' z' u' ha hb hx hy hz hu ha' hb' hx' hy' hz' hu'
  have X : RowsWf x := ⟨hx.1, fun a h => (hx.2 a h).1⟩
  have Z : RowsWf z := ⟨hz.1, fun a h => (hz.2 a h).1⟩
  have U : RowsWf u := ⟨hu.1, fun a h => (hu.2 a h).1⟩
  have X' : RowsWf x' := ⟨hx'.1, fun a h => (hx'.2 a h).1⟩
  have Z' : RowsWf z' := ⟨hz'.1, fun a h => (hz'.2 a h).1⟩
  have U' : RowsWf u' := ⟨hu'.1, fun a h => (hu'.2 a h).1⟩
  refine Evt.get (g := fun k => laws_FnExactEqualFrame.f k a b x y z u a' b' x' y' z' u') ?_
  simp only [laws_FnExactEqualFrame.f]
  obtain ⟨t, ht, hs⟩ := szFrame_ev a b x y z u 1048576 (by omega) (by omega) ha hb X hy.1 Z U
  rcases hs with rfl | ⟨h0, h1, h2, h3, h4, h5⟩
  · exact Evt.bind ht (Evt.pos (by decide) (Evt.ret _))
  obtain ⟨t', ht', hs'⟩ := szFrame_ev a' b' x' y' z' u' t (by omega) (by omega) ha' hb' X' hy'.1 Z' U'
  rcases hs' with rfl | ⟨h0', h1', h2', h3', h4', h5'⟩
  · exact Evt.bind ht (Evt.neg (by omega) (Evt.bind ht' (Evt.pos (by decide) (Evt.ret _))))
  obtain ⟨q, e1, e2⟩ := equalFrame_ev a b x y z u a' b' x' y' z' u' X hy.1 Z U
  have q1 := toFrame_ev a b x y z u h2 h3 h4 h5
  have q2 := toFrame_ev a' b' x' y' z' u' h2' h3' h4' h5'
  refine Evt.bind ht (Evt.neg (by omega) (Evt.bind ht' (Evt.neg (by omega) (Evt.bind q1 (Evt.bind q2 (Evt.bind e1 (Evt.bind q1 (Evt.bind q2 (Evt.bind e2 (Evt.neg (by simp) ?_))))))))))
  exact Evt.bind q1 (Evt.bind (eqFrame_ev a b x y z u X hy.1 Z U) (Evt.pos rfl (Evt.bind q2 (Evt.bind (eqFrame_ev a' b' x' y' z' u' X' hy'.1 Z' U') (Evt.pos rfl (Evt.ret _))))))


end Go.Proofs.Ytkefiajemifklaa.Pure


namespace Go.Proofs.Ytkefiajemifklaa.fnExactEqualFrame
open Go.ChangeShapes Go.WideShapes Go.ChangeAt Go.RowKit Go.Proofs.Ytkefiajemifklaa.Br Go.Proofs.YtkefiajemifklaaW.PrintWords Go.Proofs.Ytkefiajemifklaa.A
open Go.ChangeMaps (open_string shut_string)
set_option linter.unusedVariables false
theorem own : ownKnob Try.prog.godebug = none := by kernel_rfl
theorem laidOut : laidOutB Try.prog = true := by kernel_rfl
set_option maxHeartbeats 2000000 in
set_option maxRecDepth 100000 in
theorem lifted (os : Os) (started : os.Started) (H : Type) (enc : TypeId × Value → H) :
    ReturnsInHanded {} Try.checked os 14 .any (Rows.fnExactEqualFrameSpec.pre6 enc Try.prog Try.f14 Rows.fnExactEqualFrameRow.domain false) (Rows.fnExactEqualFrameSpec.post enc Try.prog Try.f14 false true false false) := by
  refine returnsInHanded_of_change_sized (C := Try.checked) own started (by kernel_rfl) Try.func14
    (ChangeSpec.witness6 (enc := enc) (C := Try.checked) false ⟨#[], #[.agg #[.string ByteArray.empty, .string ByteArray.empty, .slice none 0 0, .slice none 0 0, .slice none 0 0, .slice none 0 0], .agg #[.string ByteArray.empty, .string ByteArray.empty, .slice none 0 0, .slice none 0 0, .slice none 0 0, .slice none 0 0]], []⟩ 8 (by kernel_rfl) (by kernel_rfl) (by kernel_rfl) (by kernel_rfl)) ?_
  intro W base args ds gs before hval0 hW hcnd hsz0 _
  have hval : ∀ (j : Nat) t v, Try.f14.params[j]? = some t → args[j]? = some v → Value.okWide Try.prog W .any base t v := hval0
  have hW' := hW
  obtain ⟨p, q, hA0, hV, rfl, hfz, hnd⟩ := hW
  have hA : DataW.TrodAll enc Try.prog W 0 (fun _ => true) true Try.f14.params.toList args.toList ds p := hA0
  rw [Try.params14] at hA hval
  obtain ⟨v0, vs0, d0, ds0, p0, q0, hargs, rfl, rfl, h0, r0⟩ := trodAll_cons hA
  obtain ⟨v1, vs1, d1, ds1, p1, q1, rfl, rfl, rfl, h1, r1⟩ := trodAll_cons r0
  obtain ⟨rfl, rfl, rfl⟩ := trodAll_nil r1
  obtain rfl : args = #[v0, v1] := by cases args; simp_all
  obtain ⟨rfl, rfl⟩ := trodVars_none hV
  have k0 := h0
  have lt0 : ∀ x ∈ p0, x.block < W.heap.size := by obtain ⟨m, hm⟩ := k0; exact DataW.trod_lt m _ _ _ hm
  obtain ⟨arr0, rfl, _, _⟩ : ∃ cs, v0 = .agg cs ∧ cs.size = Try.prog.cellsOf 103 ∧ Row.okWide Try.prog W .any base 103 cs := by have z := (hval 0 103 v0 rfl rfl); unfold Value.okWide at z; rw [Try.underlying103] at z; exact z
  obtain ⟨fuel0, hf0⟩ := h0
  obtain ⟨x0, hK0, hw0⟩ := (show ∀ n, BrN Try.prog n 103 _ _ from fun n => (br_struct' Try.underlying103 (show Try.prog.cellsOf 103 = 6 by kernel_rfl) (fun n => (bf_cons rfl (show Try.prog.cellsOf 54 = 2 by kernel_rfl) (br_struct' Try.underlying54 (show Try.prog.cellsOf 54 = 2 by kernel_rfl) (fun n => (bf_cons rfl (show Try.prog.cellsOf 9 = 1 by kernel_rfl) (br_string Try.underlying9 n) (bf_one rfl (show Try.prog.cellsOf 9 = 1 by kernel_rfl) (br_string Try.underlying9 n)) (of_decide_eq_true (by kernel_rfl)))) n) (bf_cons rfl (show Try.prog.cellsOf 76 = 3 by kernel_rfl) (br_struct' Try.underlying76 (show Try.prog.cellsOf 76 = 3 by kernel_rfl) (fun n => (bf_cons rfl (show Try.prog.cellsOf 25 = 1 by kernel_rfl) (br_slice' Try.underlying25 (show Try.prog.cellsOf 29 = 1 by kernel_rfl) (fun n => (br_slice' Try.underlying29 (show Try.prog.cellsOf 3 = 1 by kernel_rfl) (fun n => (br_int Try.underlying3 n)) n)) n) (bf_cons rfl (show Try.prog.cellsOf 29 = 1 by kernel_rfl) (br_slice' Try.underlying29 (show Try.prog.cellsOf 3 = 1 by kernel_rfl) (fun n => (br_int Try.underlying3 n)) n) (bf_one rfl (show Try.prog.cellsOf 25 = 1 by kernel_rfl) (br_slice' Try.underlying25 (show Try.prog.cellsOf 29 = 1 by kernel_rfl) (fun n => (br_slice' Try.underlying29 (show Try.prog.cellsOf 3 = 1 by kernel_rfl) (fun n => (br_int Try.underlying3 n)) n)) n)) (of_decide_eq_true (by kernel_rfl))) (of_decide_eq_true (by kernel_rfl)))) n) (bf_one rfl (show Try.prog.cellsOf 25 = 1 by kernel_rfl) (br_slice' Try.underlying25 (show Try.prog.cellsOf 29 = 1 by kernel_rfl) (fun n => (br_slice' Try.underlying29 (show Try.prog.cellsOf 3 = 1 by kernel_rfl) (fun n => (br_int Try.underlying3 n)) n)) n)) (of_decide_eq_true (by kernel_rfl))) (of_decide_eq_true (by kernel_rfl)))) n)) fuel0 H enc W 0 (fun _ => true) true fuel0 _ _ (Nat.le_refl _) hf0
  obtain ⟨⟨a0_0, a0_1⟩, ⟨⟨l0_2, ⟨l0_3, l0_4⟩⟩, l0_5⟩⟩ := x0
  replace hw0 := hw0
  obtain ⟨⟨w0_0, w0_1⟩, ⟨⟨w0_2, ⟨w0_3, w0_4⟩⟩, w0_5⟩⟩ := hw0
  obtain ⟨cs0, hcs0, hK0⟩ : ∃ cs, (Value.agg arr0).cells.toList = cs ∧ _ := ⟨_, rfl, hK0⟩
  obtain ⟨_, _, rfl, ⟨_, _, rfl, rfl, rfl⟩, ⟨_, _, rfl, ⟨_, _, rfl, ⟨A0_2, c0_2, rfl, hc0_2, hr0_2⟩, ⟨_, _, rfl, ⟨A0_3, c0_3, rfl, hc0_3, hr0_3⟩, ⟨A0_4, c0_4, rfl, hc0_4, hr0_4⟩⟩⟩, ⟨A0_5, c0_5, rfl, hc0_5, hr0_5⟩⟩⟩ := hK0
  obtain rfl : arr0 = #[.string a0_0, .string a0_1, .slice A0_2 l0_2.length c0_2, .slice A0_3 l0_3.length c0_3, .slice A0_4 l0_4.length c0_4, .slice A0_5 l0_5.length c0_5] := arr_of hcs0
  have k1 := h1
  have lt1 : ∀ x ∈ p1, x.block < W.heap.size := by obtain ⟨m, hm⟩ := k1; exact DataW.trod_lt m _ _ _ hm
  obtain ⟨arr1, rfl, _, _⟩ : ∃ cs, v1 = .agg cs ∧ cs.size = Try.prog.cellsOf 103 ∧ Row.okWide Try.prog W .any base 103 cs := by have z := (hval 1 103 v1 rfl rfl); unfold Value.okWide at z; rw [Try.underlying103] at z; exact z
  obtain ⟨fuel1, hf1⟩ := h1
  obtain ⟨x1, hK1, hw1⟩ := (show ∀ n, BrN Try.prog n 103 _ _ from fun n => (br_struct' Try.underlying103 (show Try.prog.cellsOf 103 = 6 by kernel_rfl) (fun n => (bf_cons rfl (show Try.prog.cellsOf 54 = 2 by kernel_rfl) (br_struct' Try.underlying54 (show Try.prog.cellsOf 54 = 2 by kernel_rfl) (fun n => (bf_cons rfl (show Try.prog.cellsOf 9 = 1 by kernel_rfl) (br_string Try.underlying9 n) (bf_one rfl (show Try.prog.cellsOf 9 = 1 by kernel_rfl) (br_string Try.underlying9 n)) (of_decide_eq_true (by kernel_rfl)))) n) (bf_cons rfl (show Try.prog.cellsOf 76 = 3 by kernel_rfl) (br_struct' Try.underlying76 (show Try.prog.cellsOf 76 = 3 by kernel_rfl) (fun n => (bf_cons rfl (show Try.prog.cellsOf 25 = 1 by kernel_rfl) (br_slice' Try.underlying25 (show Try.prog.cellsOf 29 = 1 by kernel_rfl) (fun n => (br_slice' Try.underlying29 (show Try.prog.cellsOf 3 = 1 by kernel_rfl) (fun n => (br_int Try.underlying3 n)) n)) n) (bf_cons rfl (show Try.prog.cellsOf 29 = 1 by kernel_rfl) (br_slice' Try.underlying29 (show Try.prog.cellsOf 3 = 1 by kernel_rfl) (fun n => (br_int Try.underlying3 n)) n) (bf_one rfl (show Try.prog.cellsOf 25 = 1 by kernel_rfl) (br_slice' Try.underlying25 (show Try.prog.cellsOf 29 = 1 by kernel_rfl) (fun n => (br_slice' Try.underlying29 (show Try.prog.cellsOf 3 = 1 by kernel_rfl) (fun n => (br_int Try.underlying3 n)) n)) n)) (of_decide_eq_true (by kernel_rfl))) (of_decide_eq_true (by kernel_rfl)))) n) (bf_one rfl (show Try.prog.cellsOf 25 = 1 by kernel_rfl) (br_slice' Try.underlying25 (show Try.prog.cellsOf 29 = 1 by kernel_rfl) (fun n => (br_slice' Try.underlying29 (show Try.prog.cellsOf 3 = 1 by kernel_rfl) (fun n => (br_int Try.underlying3 n)) n)) n)) (of_decide_eq_true (by kernel_rfl))) (of_decide_eq_true (by kernel_rfl)))) n)) fuel1 H enc W 0 (fun _ => true) true fuel1 _ _ (Nat.le_refl _) hf1
  obtain ⟨⟨a1_0, a1_1⟩, ⟨⟨l1_2, ⟨l1_3, l1_4⟩⟩, l1_5⟩⟩ := x1
  replace hw1 := hw1
  obtain ⟨⟨w1_0, w1_1⟩, ⟨⟨w1_2, ⟨w1_3, w1_4⟩⟩, w1_5⟩⟩ := hw1
  obtain ⟨cs1, hcs1, hK1⟩ : ∃ cs, (Value.agg arr1).cells.toList = cs ∧ _ := ⟨_, rfl, hK1⟩
  obtain ⟨_, _, rfl, ⟨_, _, rfl, rfl, rfl⟩, ⟨_, _, rfl, ⟨_, _, rfl, ⟨A1_2, c1_2, rfl, hc1_2, hr1_2⟩, ⟨_, _, rfl, ⟨A1_3, c1_3, rfl, hc1_3, hr1_3⟩, ⟨A1_4, c1_4, rfl, hc1_4, hr1_4⟩⟩⟩, ⟨A1_5, c1_5, rfl, hc1_5, hr1_5⟩⟩⟩ := hK1
  obtain rfl : arr1 = #[.string a1_0, .string a1_1, .slice A1_2 l1_2.length c1_2, .slice A1_3 l1_3.length c1_3, .slice A1_4 l1_4.length c1_4, .slice A1_5 l1_5.length c1_5] := arr_of hcs1
  clear hA0 hval0 hsz0
  obtain ⟨k, hp⟩ := Pure.FnExactEqualFrame a0_0 a0_1 l0_2 l0_3 l0_4 l0_5 a1_0 a1_1 l1_2 l1_3 l1_4 l1_5 w0_0 w0_1 w0_2 w0_3 w0_4 w0_5 w1_0 w1_1 w1_2 w1_3 w1_4 w1_5
  refine (laws_FnExactEqualFrame.calls k a0_0 a0_1 _ _ l0_2 _ _ l0_3 _ _ l0_4 _ _ l0_5 a1_0 a1_1 _ _ l1_2 _ _ l1_3 _ _ l1_4 _ _ l1_5 true W hr0_2 hc0_2 hr0_3 hc0_3 hr0_4 hc0_4 hr0_5 hc0_5 hr1_2 hc1_2 hr1_3 hc1_3 hr1_4 hc1_4 hr1_5 hc1_5 hp rfl).mono fun e W' ⟨he, bel0⟩ => ?_
  subst he
  have bel : Below W.heap.size W W' := bel0
  exact ⟨_, rfl, _, _, _, [], _, [], hW', trodAll_mk1 (shut_bool Try.underlying4 _), (trodAll_cons_mk (Below.trod laidOut (by kernel_rfl) (of_decide_eq_true (by kernel_rfl)) k0 bel lt0) (trodAll_cons_mk (Below.trod laidOut (by kernel_rfl) (of_decide_eq_true (by kernel_rfl)) k1 bel lt1) trodAll_mk0)), rfl, bel.frame _, fun h => by cases h⟩
theorem over : Rows.fnExactEqualFrameRow.holds Try.pinned (OpenSpec.ofChange Rows.fnExactEqualFrameSpec) :=
  OpenClaim.holds_of_wide 14 Try.f14 rfl rfl rfl rfl rfl rfl rfl ⟨rfl, rfl, rfl, rfl, rfl⟩ rfl rfl rfl rfl rfl (by kernel_rfl) Try.func14 (by kernel_rfl)
    (of_decide_eq_true (by kernel_rfl)) (by unfold Func.isWrapper; first | (rw [if_pos (by decide +kernel)]; kernel_rfl) | (rw [if_neg (by decide +kernel)]; exact ⟨rfl, rfl⟩))
    (fun os started H enc _ => lifted os started H enc)
theorem proved : Rows.FnExactEqualFrameSaid := over
#print axioms proved
end Go.Proofs.Ytkefiajemifklaa.fnExactEqualFrame
namespace Go.Proofs.Ytkefiajemifklaa
/-- The row, under a short name, for the claim. -/
theorem fnExactEqualFrame_holds : Rows.FnExactEqualFrameSaid := fnExactEqualFrame.proved
end Go.Proofs.Ytkefiajemifklaa
