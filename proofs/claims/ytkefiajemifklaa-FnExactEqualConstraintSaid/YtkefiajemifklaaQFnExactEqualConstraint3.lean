/- FnExactEqualConstraint: what its proof needs, put together by this session's program wip/merge.py out of the texts that wip/xp.py printed and of this session's own. -/
import Derived.Test.YtkefiajemifklaaQFnExactEqualConstraint2
import Derived.Test.YtkefiajemifklaaRows
import Derived.WalkKit
import Derived.ProofKit
import Derived.OpenShut
import Derived.ShutString
import Derived.ChangeOld
import Derived.Below
import Derived.SizedLaws
import Derived.Lib.SmallJoins
namespace Go.Proofs.Ytkefiajemifklaa.F
set_option linter.unusedVariables false
set_option linter.unusedSimpArgs false
open Go.RowKit Go.Proofs.YtkefiajemifklaaW.PrintWords Go.Proofs.Ytkefiajemifklaa.Pl Go.Proofs.Ytkefiajemifklaa.A Go.Proofs.Ytkefiajemifklaa.Ext

/-- A copy of a constraint: of its expression, that is. -/
def CpC (a : Int) (b c : ByteArray) (d : Int) (e : ByteArray) (l : List S90) (m : List Int) (n : Int) (y : List S97) : Prop :=
  Sm ⟨d, e, y⟩ ∧ m.length ≤ 1048576 ∧ Evt (fun k => laws_toConstraint.f k a b c d e l m n) (a, b, c, d, e, y, m, n)
theorem szConstraint_ev (a : Int) (b c : ByteArray) (d : Int) (e : ByteArray) (l : List S90) (m : List Int) (n : Int) (N : Nat) (v : Int) (hv : 0 ≤ v) (hv' : v ≤ 1048576) (hb : b.size ≤ 9223372036854775807) (hc : c.size ≤ 9223372036854775807) (hr : RxOk N ⟨d, e, l⟩) (hm : m.length ≤ 9223372036854775807) :
    ∃ t, Evt (fun k => laws_szConstraint.f k a b c d e l m n v) t ∧ (t = -1 ∨ (0 ≤ t ∧ t ≤ v ∧ ∃ y, CpC a b c d e l m n y)) := by
  simp only [laws_szConstraint.f]
  rw [w64_sub (by omega) (by omega) hb]
  by_cases c1 : v - b.size < 0
  · exact ⟨-1, Evt.pos c1 (Evt.ret _), .inl rfl⟩
  rw [w64_sub (by omega) (by omega) hc]
  by_cases c2 : v - b.size - c.size < 0
  · exact ⟨-1, Evt.neg c1 (Evt.pos c2 (Evt.ret _)), .inl rfl⟩
  obtain ⟨t, ht, h1⟩ := szRegex_ev N ⟨d, e, l⟩ hr (v - b.size - c.size) (by omega) (by omega)
  simp only at ht
  rcases h1 with rfl | ⟨h1, h2, h3⟩
  · exact ⟨-1, Evt.neg c1 (Evt.neg c2 (Evt.bind ht (Evt.pos (by decide) (Evt.ret _)))), .inl rfl⟩
  obtain ⟨u, hu, h4⟩ := szIntS_eq m t (by omega) (by omega) hm
  rcases h4 with rfl | ⟨h4, h5⟩
  · exact ⟨-1, Evt.neg c1 (Evt.neg c2 (Evt.bind ht (Evt.neg (by omega) (Evt.bindc hu (Evt.pos (by decide) (Evt.ret _)))))), .inl rfl⟩
  refine ⟨u, Evt.neg c1 (Evt.neg c2 (Evt.bind ht (Evt.neg (by omega) (Evt.bindc hu (Evt.neg (by omega) (Evt.ret _)))))), .inr ⟨h4, by omega, ?_⟩⟩
  obtain ⟨⟨d', e', y⟩, hs, he⟩ := h3
  simp only at he
  have hde : d' = d ∧ e' = e := by
    obtain ⟨K, hK⟩ := he
    have h6 := hK (K + 1) (by omega)
    simp only [laws_toRegex.f, laws_toRegexG.f] at h6
    obtain ⟨z, _, h7⟩ := Option.bind_eq_some_iff.mp h6
    simp only [Option.some.injEq, Prod.mk.injEq] at h7
    exact ⟨h7.1.symm, h7.2.1.symm⟩
  obtain ⟨rfl, rfl⟩ := hde
  refine ⟨y, hs, by omega, ?_⟩
  simp only [laws_toConstraint.f]
  exact Evt.bind he (Evt.bind (toIntS_ev m (by omega)) (Evt.ret _))
theorem eqConstraint_ev (a : Int) (b c : ByteArray) (d : Int) (e : ByteArray) (y : List S97) (m : List Int) (n : Int) (hy : Sm ⟨d, e, y⟩) (hm : m.length ≤ 1048576) : Evt (fun k => laws_eqConstraint.f k a b c d e y m n a b c d e y m n) true := by
  simp only [laws_eqConstraint.f]
  exact Evt.pos trivial (Evt.pos trivial (Evt.pos trivial (Evt.bind (eqRegex_ev _ hy) (Evt.pos rfl (Evt.bind (eqIntS_ev m m (by omega)) (Evt.pos (by simp) (Evt.pos trivial (Evt.ret _))))))))
theorem equalConstraint_ev (a : Int) (b c : ByteArray) (d : Int) (e : ByteArray) (y : List S97) (m : List Int) (n : Int) (a' : Int) (b' c' : ByteArray) (d' : Int) (e' : ByteArray) (y' : List S97) (m' : List Int) (n' : Int) (hy : Sm ⟨d, e, y⟩) (hm : m.length ≤ 1048576) :
    ∃ q, Evt (fun k => spec_EqualConstraint.f k a b c d e y m n a' b' c' d' e' y' m' n') q ∧ Evt (fun k => impl_EqualConstraint.f k a b c d e y m n a' b' c' d' e' y' m' n') q := by
  simp only [spec_EqualConstraint.f, impl_EqualConstraint.f]
  obtain ⟨q, q1, q2⟩ := equalRegex_ev ⟨d, e, y⟩ hy ⟨d', e', y'⟩
  have h1 := l5Ints_ev m m' (by omega)
  have h2 := slEq_ev m m' (by omega)
  by_cases c1 : a = a'
  · by_cases c2 : b.toList = b'.toList
    · by_cases c3 : c.toList = c'.toList
      · cases q with
        | true =>
          by_cases c4 : m = m'
          · exact ⟨_, Evt.pos c1 (Evt.pos c2 (Evt.pos c3 (Evt.bind q1 (Evt.pos rfl (Evt.bind h1 (Evt.pos (by simp [c4]) (Evt.ret _))))))), Evt.pos c1 (Evt.pos c2 (Evt.pos c3 (Evt.bind q2 (Evt.pos rfl (Evt.bind h2 (Evt.pos (by simp [c4]) (Evt.ret _)))))))⟩
          · exact ⟨_, Evt.pos c1 (Evt.pos c2 (Evt.pos c3 (Evt.bind q1 (Evt.pos rfl (Evt.bind h1 (Evt.neg (by simp [c4]) (Evt.ret _))))))), Evt.pos c1 (Evt.pos c2 (Evt.pos c3 (Evt.bind q2 (Evt.pos rfl (Evt.bind h2 (Evt.neg (by simp [c4]) (Evt.ret _)))))))⟩
        | false => exact ⟨_, Evt.pos c1 (Evt.pos c2 (Evt.pos c3 (Evt.bind q1 (Evt.neg (by decide) (Evt.ret _))))), Evt.pos c1 (Evt.pos c2 (Evt.pos c3 (Evt.bind q2 (Evt.neg (by decide) (Evt.ret _)))))⟩
      · exact ⟨_, Evt.pos c1 (Evt.pos c2 (Evt.neg c3 (Evt.ret _))), Evt.pos c1 (Evt.pos c2 (Evt.neg c3 (Evt.ret _)))⟩
    · exact ⟨_, Evt.pos c1 (Evt.neg c2 (Evt.ret _)), Evt.pos c1 (Evt.neg c2 (Evt.ret _))⟩
  · exact ⟨_, Evt.neg c1 (Evt.ret _), Evt.neg c1 (Evt.ret _)⟩

end Go.Proofs.Ytkefiajemifklaa.F


namespace Go.Proofs.Ytkefiajemifklaa.Pure
set_option linter.unusedVariables false
set_option linter.unusedSimpArgs false
open Go Go.RowKit Go.Proofs.YtkefiajemifklaaW.PrintWords Go.Proofs.Ytkefiajemifklaa.Pl Go.Proofs.Ytkefiajemifklaa.F Go.Proofs.Ytkefiajemifklaa.A Go.Proofs.Ytkefiajemifklaa.Ext Go.Proofs.Ytkefiajemifklaa.BtFnExactEqualConstraint

theorem rxOk_of (n : Nat) : ∀ x : S90, wf90N n x → RxOk n x := by
  induction n with
  | zero => intro x h; exact h.elim
  | succ n ih => intro x h; exact ⟨h.2.1, h.2.2.1, fun a ha => ih a (h.2.2.2 a ha)⟩
theorem rxOk_mono : ∀ n (x : S90), RxOk n x → RxOk (n + 1) x := by
  intro n
  induction n with
  | zero => intro x h; exact h.elim
  | succ n ih => intro x h; exact ⟨h.1, h.2.1, fun a ha => ih a (h.2.2 a ha)⟩
theorem rxOk_le {n m : Nat} (h : n ≤ m) (x : S90) (hx : RxOk n x) : RxOk m x := by
  induction h with
  | refl => exact hx
  | step _ ih => exact rxOk_mono _ _ ih
theorem rxOk_top (d : Int) (e : ByteArray) (l : List S90) (he : e.size ≤ 9223372036854775807) (hl : l.length ≤ 9223372036854775807 ∧ ∀ a ∈ l, wf90 a) : ∃ n, RxOk n ⟨d, e, l⟩ := by
  obtain ⟨h1, h2⟩ := hl
  have h3 : ∃ n, ∀ a ∈ l, RxOk n a := by
    clear h1
    induction l with
    | nil => exact ⟨0, fun a ha => by cases ha⟩
    | cons x l ih =>
      obtain ⟨n, hn⟩ := ih (fun a ha => h2 a (List.mem_cons_of_mem _ ha))
      obtain ⟨m, hm⟩ := h2 x (List.mem_cons_self ..)
      refine ⟨max n m, fun a ha => ?_⟩
      rcases List.mem_cons.1 ha with rfl | ha
      · exact rxOk_le (by omega) _ (rxOk_of m _ hm)
      · exact rxOk_le (by omega) _ (hn a ha)
  obtain ⟨n, hn⟩ := h3
  exact ⟨n + 1, he, h1, hn⟩
theorem FnExactEqualConstraint : FnExactEqualConstraint.Pure := by
  intro a b c d e l m n a' b' c' d' e' l' m' n' _ hb hc _ he hl hm _ _ hb' hc' _ he' hl' hm' _
  obtain ⟨N, hN⟩ := rxOk_top d e l he hl
  obtain ⟨N', hN'⟩ := rxOk_top d' e' l' he' hl'
  refine Evt.get (g := fun k => laws_FnExactEqualConstraint.f k a b c d e l m n a' b' c' d' e' l' m' n') ?_
  simp only [laws_FnExactEqualConstraint.f]
  obtain ⟨t, ht, hs⟩ := szConstraint_ev a b c d e l m n N 1048576 (by omega) (by omega) hb hc hN hm.1
  rcases hs with rfl | ⟨h0, h1, y, y1, y2, q1⟩
  · exact Evt.bind ht (Evt.pos (by decide) (Evt.ret _))
  obtain ⟨t', ht', hs'⟩ := szConstraint_ev a' b' c' d' e' l' m' n' N' t (by omega) (by omega) hb' hc' hN' hm'.1
  rcases hs' with rfl | ⟨h0', h1', y', y1', y2', q2⟩
  · exact Evt.bind ht (Evt.neg (by omega) (Evt.bind ht' (Evt.pos (by decide) (Evt.ret _))))
  obtain ⟨q, e1, e2⟩ := equalConstraint_ev a b c d e y m n a' b' c' d' e' y' m' n' y1 y2
  refine Evt.bind ht (Evt.neg (by omega) (Evt.bind ht' (Evt.neg (by omega) (Evt.bind q1 (Evt.bind q2 (Evt.bind e1 (Evt.bind q1 (Evt.bind q2 (Evt.bind e2 (Evt.neg (by simp) ?_))))))))))
  exact Evt.bind q1 (Evt.bind (eqConstraint_ev a b c d e y m n y1 y2) (Evt.pos rfl (Evt.bind q2 (Evt.bind (eqConstraint_ev a' b' c' d' e' y' m' n' y1' y2') (Evt.pos rfl (Evt.ret _))))))


end Go.Proofs.Ytkefiajemifklaa.Pure


namespace Go.Proofs.Ytkefiajemifklaa.fnExactEqualConstraint
open Go.ChangeShapes Go.WideShapes Go.ChangeAt Go.RowKit Go.Proofs.Ytkefiajemifklaa.Br Go.Proofs.YtkefiajemifklaaW.PrintWords Go.Proofs.Ytkefiajemifklaa.A Go.Proofs.Ytkefiajemifklaa.BtFnExactEqualConstraint
open Go.ChangeMaps (open_string shut_string)
set_option linter.unusedVariables false
theorem own : ownKnob Try.prog.godebug = none := by kernel_rfl
theorem laidOut : laidOutB Try.prog = true := by kernel_rfl
set_option maxHeartbeats 2000000 in
set_option maxRecDepth 100000 in
theorem lifted (os : Os) (started : os.Started) (H : Type) (enc : TypeId × Value → H) :
    ReturnsInHanded {} Try.checked os 13 .any (Rows.fnExactEqualConstraintSpec.pre6 enc Try.prog Try.f13 Rows.fnExactEqualConstraintRow.domain false) (Rows.fnExactEqualConstraintSpec.post enc Try.prog Try.f13 false true false false) := by
  refine returnsInHanded_of_change_sized (C := Try.checked) own started (by kernel_rfl) Try.func13
    (ChangeSpec.witness6 (enc := enc) (C := Try.checked) false ⟨#[], #[.agg #[.int .i64 0, .string ByteArray.empty, .string ByteArray.empty, .int .i64 0, .string ByteArray.empty, .slice none 0 0, .slice none 0 0, .int .i64 0], .agg #[.int .i64 0, .string ByteArray.empty, .string ByteArray.empty, .int .i64 0, .string ByteArray.empty, .slice none 0 0, .slice none 0 0, .int .i64 0]], []⟩ 8 (by kernel_rfl) (by kernel_rfl) (by kernel_rfl) (by kernel_rfl)) ?_
  intro W base args ds gs before hval0 hW hcnd hsz0 _
  have hval : ∀ (j : Nat) t v, Try.f13.params[j]? = some t → args[j]? = some v → Value.okWide Try.prog W .any base t v := hval0
  have hW' := hW
  obtain ⟨p, q, hA0, hV, rfl, hfz, hnd⟩ := hW
  have hA : DataW.TrodAll enc Try.prog W 0 (fun _ => true) true Try.f13.params.toList args.toList ds p := hA0
  rw [Try.params13] at hA hval
  obtain ⟨v0, vs0, d0, ds0, p0, q0, hargs, rfl, rfl, h0, r0⟩ := trodAll_cons hA
  obtain ⟨v1, vs1, d1, ds1, p1, q1, rfl, rfl, rfl, h1, r1⟩ := trodAll_cons r0
  obtain ⟨rfl, rfl, rfl⟩ := trodAll_nil r1
  obtain rfl : args = #[v0, v1] := by cases args; simp_all
  obtain ⟨rfl, rfl⟩ := trodVars_none hV
  have k0 := h0
  have lt0 : ∀ x ∈ p0, x.block < W.heap.size := by obtain ⟨m, hm⟩ := k0; exact DataW.trod_lt m _ _ _ hm
  obtain ⟨arr0, rfl, _, _⟩ : ∃ cs, v0 = .agg cs ∧ cs.size = Try.prog.cellsOf 92 ∧ Row.okWide Try.prog W .any base 92 cs := by have z := (hval 0 92 v0 rfl rfl); unfold Value.okWide at z; rw [Try.underlying92] at z; exact z
  obtain ⟨fuel0, hf0⟩ := h0
  obtain ⟨x0, hK0, hw0⟩ := (show ∀ n, BrN Try.prog n 92 _ _ from fun n => (br_struct' Try.underlying92 (show Try.prog.cellsOf 92 = 8 by kernel_rfl) (fun n => (bf_cons rfl (show Try.prog.cellsOf 3 = 1 by kernel_rfl) (br_int Try.underlying3 n) (bf_cons rfl (show Try.prog.cellsOf 9 = 1 by kernel_rfl) (br_string Try.underlying9 n) (bf_cons rfl (show Try.prog.cellsOf 9 = 1 by kernel_rfl) (br_string Try.underlying9 n) (bf_cons rfl (show Try.prog.cellsOf 90 = 3 by kernel_rfl) (br_struct' Try.underlying90 (show Try.prog.cellsOf 90 = 3 by kernel_rfl) (fun n => (bf_cons rfl (show Try.prog.cellsOf 3 = 1 by kernel_rfl) (br_int Try.underlying3 n) (bf_cons rfl (show Try.prog.cellsOf 9 = 1 by kernel_rfl) (br_string Try.underlying9 n) (bf_one rfl (show Try.prog.cellsOf 88 = 1 by kernel_rfl) (br_slice' Try.underlying88 (show Try.prog.cellsOf 90 = 3 by kernel_rfl) (fun n => (br90 n)) n)) (of_decide_eq_true (by kernel_rfl))) (of_decide_eq_true (by kernel_rfl)))) n) (bf_cons rfl (show Try.prog.cellsOf 29 = 1 by kernel_rfl) (br_slice' Try.underlying29 (show Try.prog.cellsOf 3 = 1 by kernel_rfl) (fun n => (br_int Try.underlying3 n)) n) (bf_one rfl (show Try.prog.cellsOf 3 = 1 by kernel_rfl) (br_int Try.underlying3 n)) (of_decide_eq_true (by kernel_rfl))) (of_decide_eq_true (by kernel_rfl))) (of_decide_eq_true (by kernel_rfl))) (of_decide_eq_true (by kernel_rfl))) (of_decide_eq_true (by kernel_rfl)))) n)) fuel0 H enc W 0 (fun _ => true) true fuel0 _ _ (Nat.le_refl _) hf0
  obtain ⟨a0_0, ⟨a0_1, ⟨a0_2, ⟨⟨a0_3, ⟨a0_4, l0_5⟩⟩, ⟨l0_6, a0_7⟩⟩⟩⟩⟩ := x0
  replace hw0 := hw0
  obtain ⟨w0_0, ⟨w0_1, ⟨w0_2, ⟨⟨w0_3, ⟨w0_4, w0_5⟩⟩, ⟨w0_6, w0_7⟩⟩⟩⟩⟩ := hw0
  obtain ⟨cs0, hcs0, hK0⟩ : ∃ cs, (Value.agg arr0).cells.toList = cs ∧ _ := ⟨_, rfl, hK0⟩
  obtain ⟨_, _, rfl, rfl, ⟨_, _, rfl, rfl, ⟨_, _, rfl, rfl, ⟨_, _, rfl, ⟨_, _, rfl, rfl, ⟨_, _, rfl, rfl, ⟨A0_5, c0_5, rfl, hc0_5, hr0_5⟩⟩⟩, ⟨_, _, rfl, ⟨A0_6, c0_6, rfl, hc0_6, hr0_6⟩, rfl⟩⟩⟩⟩⟩ := hK0
  obtain rfl : arr0 = #[.int .i64 a0_0, .string a0_1, .string a0_2, .int .i64 a0_3, .string a0_4, .slice A0_5 l0_5.length c0_5, .slice A0_6 l0_6.length c0_6, .int .i64 a0_7] := arr_of hcs0
  have k1 := h1
  have lt1 : ∀ x ∈ p1, x.block < W.heap.size := by obtain ⟨m, hm⟩ := k1; exact DataW.trod_lt m _ _ _ hm
  obtain ⟨arr1, rfl, _, _⟩ : ∃ cs, v1 = .agg cs ∧ cs.size = Try.prog.cellsOf 92 ∧ Row.okWide Try.prog W .any base 92 cs := by have z := (hval 1 92 v1 rfl rfl); unfold Value.okWide at z; rw [Try.underlying92] at z; exact z
  obtain ⟨fuel1, hf1⟩ := h1
  obtain ⟨x1, hK1, hw1⟩ := (show ∀ n, BrN Try.prog n 92 _ _ from fun n => (br_struct' Try.underlying92 (show Try.prog.cellsOf 92 = 8 by kernel_rfl) (fun n => (bf_cons rfl (show Try.prog.cellsOf 3 = 1 by kernel_rfl) (br_int Try.underlying3 n) (bf_cons rfl (show Try.prog.cellsOf 9 = 1 by kernel_rfl) (br_string Try.underlying9 n) (bf_cons rfl (show Try.prog.cellsOf 9 = 1 by kernel_rfl) (br_string Try.underlying9 n) (bf_cons rfl (show Try.prog.cellsOf 90 = 3 by kernel_rfl) (br_struct' Try.underlying90 (show Try.prog.cellsOf 90 = 3 by kernel_rfl) (fun n => (bf_cons rfl (show Try.prog.cellsOf 3 = 1 by kernel_rfl) (br_int Try.underlying3 n) (bf_cons rfl (show Try.prog.cellsOf 9 = 1 by kernel_rfl) (br_string Try.underlying9 n) (bf_one rfl (show Try.prog.cellsOf 88 = 1 by kernel_rfl) (br_slice' Try.underlying88 (show Try.prog.cellsOf 90 = 3 by kernel_rfl) (fun n => (br90 n)) n)) (of_decide_eq_true (by kernel_rfl))) (of_decide_eq_true (by kernel_rfl)))) n) (bf_cons rfl (show Try.prog.cellsOf 29 = 1 by kernel_rfl) (br_slice' Try.underlying29 (show Try.prog.cellsOf 3 = 1 by kernel_rfl) (fun n => (br_int Try.underlying3 n)) n) (bf_one rfl (show Try.prog.cellsOf 3 = 1 by kernel_rfl) (br_int Try.underlying3 n)) (of_decide_eq_true (by kernel_rfl))) (of_decide_eq_true (by kernel_rfl))) (of_decide_eq_true (by kernel_rfl))) (of_decide_eq_true (by kernel_rfl))) (of_decide_eq_true (by kernel_rfl)))) n)) fuel1 H enc W 0 (fun _ => true) true fuel1 _ _ (Nat.le_refl _) hf1
  obtain ⟨a1_0, ⟨a1_1, ⟨a1_2, ⟨⟨a1_3, ⟨a1_4, l1_5⟩⟩, ⟨l1_6, a1_7⟩⟩⟩⟩⟩ := x1
  replace hw1 := hw1
  obtain ⟨w1_0, ⟨w1_1, ⟨w1_2, ⟨⟨w1_3, ⟨w1_4, w1_5⟩⟩, ⟨w1_6, w1_7⟩⟩⟩⟩⟩ := hw1
  obtain ⟨cs1, hcs1, hK1⟩ : ∃ cs, (Value.agg arr1).cells.toList = cs ∧ _ := ⟨_, rfl, hK1⟩
  obtain ⟨_, _, rfl, rfl, ⟨_, _, rfl, rfl, ⟨_, _, rfl, rfl, ⟨_, _, rfl, ⟨_, _, rfl, rfl, ⟨_, _, rfl, rfl, ⟨A1_5, c1_5, rfl, hc1_5, hr1_5⟩⟩⟩, ⟨_, _, rfl, ⟨A1_6, c1_6, rfl, hc1_6, hr1_6⟩, rfl⟩⟩⟩⟩⟩ := hK1
  obtain rfl : arr1 = #[.int .i64 a1_0, .string a1_1, .string a1_2, .int .i64 a1_3, .string a1_4, .slice A1_5 l1_5.length c1_5, .slice A1_6 l1_6.length c1_6, .int .i64 a1_7] := arr_of hcs1
  clear hA0 hval0 hsz0
  obtain ⟨k, hp⟩ := Pure.FnExactEqualConstraint a0_0 a0_1 a0_2 a0_3 a0_4 l0_5 l0_6 a0_7 a1_0 a1_1 a1_2 a1_3 a1_4 l1_5 l1_6 a1_7 w0_0 w0_1 w0_2 w0_3 w0_4 w0_5 w0_6 w0_7 w1_0 w1_1 w1_2 w1_3 w1_4 w1_5 w1_6 w1_7
  refine (laws_FnExactEqualConstraint.calls k a0_0 a0_1 a0_2 a0_3 a0_4 _ _ l0_5 _ _ l0_6 a0_7 a1_0 a1_1 a1_2 a1_3 a1_4 _ _ l1_5 _ _ l1_6 a1_7 true W hr0_5 hc0_5 hr0_6 hc0_6 hr1_5 hc1_5 hr1_6 hc1_6 hp rfl).mono fun e W' ⟨he, bel0⟩ => ?_
  subst he
  have bel : Below W.heap.size W W' := bel0
  exact ⟨_, rfl, _, _, _, [], _, [], hW', trodAll_mk1 (shut_bool Try.underlying4 _), (trodAll_cons_mk (Below.trod laidOut (by kernel_rfl) (of_decide_eq_true (by kernel_rfl)) k0 bel lt0) (trodAll_cons_mk (Below.trod laidOut (by kernel_rfl) (of_decide_eq_true (by kernel_rfl)) k1 bel lt1) trodAll_mk0)), rfl, bel.frame _, fun h => by cases h⟩
theorem over : Rows.fnExactEqualConstraintRow.holds Try.pinned (OpenSpec.ofChange Rows.fnExactEqualConstraintSpec) :=
  OpenClaim.holds_of_wide 13 Try.f13 rfl rfl rfl rfl rfl rfl rfl ⟨rfl, rfl, rfl, rfl, rfl⟩ rfl rfl rfl rfl rfl (by kernel_rfl) Try.func13 (by kernel_rfl)
    (of_decide_eq_true (by kernel_rfl)) (by unfold Func.isWrapper; first | (rw [if_pos (by decide +kernel)]; kernel_rfl) | (rw [if_neg (by decide +kernel)]; exact ⟨rfl, rfl⟩))
    (fun os started H enc _ => lifted os started H enc)
theorem proved : Rows.FnExactEqualConstraintSaid := over
#print axioms proved
end Go.Proofs.Ytkefiajemifklaa.fnExactEqualConstraint
namespace Go.Proofs.Ytkefiajemifklaa
/-- The row, under a short name, for the claim. -/
theorem fnExactEqualConstraint_holds : Rows.FnExactEqualConstraintSaid := fnExactEqualConstraint.proved
end Go.Proofs.Ytkefiajemifklaa
