/- FnExactStartStates: what its proof needs, put together by this session's program wip/merge.py out of the texts that wip/xp.py printed and of this session's own. -/
import Derived.Test.YtjmfpaalglbbhaaQFnExactStartStates5
import Derived.Test.YtjmfpaalglbbhaaRows
import Derived.WalkKit
import Derived.ProofKit
import Derived.OpenShut
import Derived.ShutString
import Derived.ChangeOld
import Derived.Below
import Derived.SizedLaws
import Derived.Lib.SmallJoins
set_option linter.unusedVariables false
set_option linter.unusedSimpArgs false
set_option maxHeartbeats 8000000
set_option maxRecDepth 100000
namespace Go.Proofs.Ytjmfpaalglbbhaa.Pure
open Go Go.RowKit Go.Proofs.YtjmfpaalglbbhaaW.PrintWords Go.Proofs.Ytjmfpaalglbbhaa.Pl Go.Proofs.Ytjmfpaalglbbhaa.F Go.Proofs.Ytjmfpaalglbbhaa.A Go.Proofs.Ytjmfpaalglbbhaa.Ext
theorem eqStateS_ev (l : List St) (hl : l.length ≤ 400) (h3 : ∀ s ∈ l, s.f2.length = 3) : Evt (fun k => laws_eqStateS.f k l l) true := by
 simp only [laws_eqStateS.f]
 refine Evt.pos trivial ?_
 have hh : ∀ d i : Nat, i + d = l.length → Evt (fun k => laws_eqStateS.l0 k l l (i : Int)) true := by
  intro d
  induction d with
  | zero =>
   intro i hi
   refine Evt.step ?_
   simp only [laws_eqStateS.l0]
   exact Evt.neg (by omega) (Evt.ret _)
  | succ d ih =>
   intro i hi
   refine Evt.step ?_
   simp only [laws_eqStateS.l0]
   refine Evt.pos (by omega) (Evt.pos (by omega) (Evt.pos (by omega) ?_))
   have hm : (rd_T89 l (i : Int)) ∈ l := by
    unfold rd_T89
    rw [Int.toNat_natCast, List.getD_eq_getElem?_getD, List.getElem?_eq_getElem (by omega)]
    exact List.getElem_mem _
   refine Evt.bind (eqState_ev _ _ _ (by rw [h3 _ hm]; omega)) (Evt.pos rfl ?_)
   rw [w64s (by omega)]
   exact ih (i + 1) (by omega)
 exact hh l.length 0 (by omega)
theorem markFrame_ok (a b : ByteArray) (x : List (List Int)) (y : List Int) (z u : List (List Int)) (hx : RowsLe x 1048576) (hy : y.length ≤ 1048576) (hz : RowsLe z 1048576) (hu : RowsLe u 1048576) : ∃ m, Evt (fun k => laws_markFrame.f k a b x y z u 1) m ∧ 0 ≤ m.1 := by
 have t1 := totN_le x 1048576 hx.2
 have t2 := totN_le z 1048576 hz.2
 have t3 := totN_le u 1048576 hu.2
 have l1 := hx.1
 have l2 := hz.1
 have l3 := hu.1
 have q1 : x.length * 1048576 ≤ 1048576 * 1048576 := Nat.mul_le_mul_right _ l1
 have q2 : z.length * 1048576 ≤ 1048576 * 1048576 := Nat.mul_le_mul_right _ l2
 have q3 : u.length * 1048576 ≤ 1048576 * 1048576 := Nat.mul_le_mul_right _ l3
 simp only [laws_markFrame.f, laws_markMonoid.f]
 refine ⟨_, Evt.bind (Evt.bind (markII_ev x 1 (by omega) (by omega)) (Evt.bind (markI_ev y _ (by omega) (by omega)) (Evt.bind (markII_ev z _ (by omega) (by omega)) (Evt.ret _)))) (Evt.bind (markII_ev u _ (by dsimp only; omega) (by dsimp only; omega)) (Evt.ret _)), ?_⟩
 dsimp only
 omega
theorem szFrame_all (a b : ByteArray) (x : List (List Int)) (y : List Int) (z u : List (List Int)) (v : Int) (hv : 0 ≤ v) (hv' : v ≤ 1048576) (ha : a.size ≤ 9223372036854775807) (hb : b.size ≤ 9223372036854775807) (hx : RowsWf x) (hy : y.length ≤ 9223372036854775807) (hz : RowsWf z) (hu : RowsWf u) :
  ∃ t, Evt (fun k => laws_szFrame.f k a b x y z u v) t ∧ (t = -1 ∨ (0 ≤ t ∧ a.size + b.size ≤ 1048576 ∧ RowsLe x 1048576 ∧ y.length ≤ 1048576 ∧ RowsLe z 1048576 ∧ RowsLe u 1048576)) := by
 simp only [laws_szFrame.f]
 obtain ⟨t, ht, hc⟩ := szEquation_at a b v hv hv' ha hb
 rcases hc with rfl | ⟨h0, h1⟩
 ·exact ⟨-1, Evt.bindc ht (Evt.pos (by decide) (Evt.ret _)), .inl rfl⟩
 obtain ⟨s, hs, hc⟩ := szMonoid_ev x y z t h0 (by omega) hx hy hz
 rcases hc with rfl | ⟨g0, g1, g2, g3, g4⟩
 ·exact ⟨-1, Evt.bindc ht (Evt.neg (by omega) (Evt.bind hs (Evt.pos (by decide) (Evt.ret _)))), .inl rfl⟩
 obtain ⟨r, hr, hc⟩ := szIntSS_ev u s g0 (by omega) hu.1 hu.2
 rcases hc with rfl | ⟨k0, k1, k2⟩
 ·exact ⟨-1, Evt.bindc ht (Evt.neg (by omega) (Evt.bind hs (Evt.neg (by omega) (Evt.bind hr (Evt.pos (by decide) (Evt.ret _)))))), .inl rfl⟩
 ·exact ⟨r, Evt.bindc ht (Evt.neg (by omega) (Evt.bind hs (Evt.neg (by omega) (Evt.bind hr (Evt.neg (by omega) (Evt.ret _)))))), .inr ⟨k0, by omega, g2, g3, g4, k2⟩⟩
theorem FnExactStartStates : FnExactStartStates.Pure := by
 intro a b x y z u ha hb hx hy hz hu
 refine Evt.get (g := fun k => laws_FnExactStartStates.f k a b x y z u) ?_
 simp only [laws_FnExactStartStates.f]
 obtain ⟨t, ht, hc⟩ := szFrame_all a b x y z u 1048576 (by omega) (by omega) ha hb ⟨hx.1, fun r hr => (hx.2 r hr).1⟩ hy.1 ⟨hz.1, fun r hr => (hz.2 r hr).1⟩ ⟨hu.1, fun r hr => (hu.2 r hr).1⟩
 refine Evt.bind ht ?_
 rcases hc with rfl | ⟨h0, hs, hx, hy, hz, hu⟩
 ·exact Evt.pos (by decide) (Evt.ret _)
 obtain ⟨hl, h3⟩ := startB_ok a b u
 obtain ⟨m, l', e1, e2, hm⟩ := markSt_ok (startB a b u) hl (fun s hs => by rw [h3 s hs]; omega)
 obtain ⟨q, e3, hq⟩ := markFrame_ok a b x y z u hx hy hz hu
 refine Evt.neg (by omega) (Evt.bind (toFrame_ev a b x y z u hx hy hz hu) (Evt.bind (spec_StartStates_ev a b x y z u hs hu) (Evt.bind (impl_StartStates_ev a b x y z u hs hu) (Evt.bind (eqStateS_ev _ hl h3) (Evt.bind (eqFrame_ev a b x y z u hx.wf (by omega) hz.wf hu.wf) (Evt.bind e3 (Evt.bind e1 (Evt.bind e2 ?_))))))))
 exact Evt.pos ⟨rfl, rfl, hq, hm, rfl⟩ (Evt.ret _)
end Go.Proofs.Ytjmfpaalglbbhaa.Pure
namespace Go.Proofs.Ytjmfpaalglbbhaa.fnExactStartStates
open Go.ChangeShapes Go.WideShapes Go.ChangeAt Go.RowKit Go.Proofs.Ytjmfpaalglbbhaa.Br Go.Proofs.YtjmfpaalglbbhaaW.PrintWords Go.Proofs.Ytjmfpaalglbbhaa.A Go.Proofs.Ytjmfpaalglbbhaa.Ext
open Go.ChangeMaps (open_string shut_string)
theorem own : ownKnob Try.prog.godebug = none := by kernel_rfl
theorem laidOut : laidOutB Try.prog = true := by kernel_rfl
set_option maxHeartbeats 2000000 in
theorem lifted (os : Os) (started : os.Started) (H : Type) (enc : TypeId × Value → H) :
  ReturnsInHanded {} Try.checked os 3 .any (Rows.fnExactStartStatesSpec.pre6 enc Try.prog Try.f3 Rows.fnExactStartStatesRow.domain false) (Rows.fnExactStartStatesSpec.post enc Try.prog Try.f3 false true false false) := by
 refine returnsInHanded_of_change_sized (C := Try.checked) own started (by kernel_rfl) Try.func3
  (ChangeSpec.witness6 (enc := enc) (C := Try.checked) false ⟨#[], #[.agg #[.string ByteArray.empty, .string ByteArray.empty, .slice none 0 0, .slice none 0 0, .slice none 0 0, .slice none 0 0]], []⟩ 8 (by kernel_rfl) (by kernel_rfl) (by kernel_rfl) (by kernel_rfl)) ?_
 intro W base args ds gs before hval0 hW hcnd hsz0 _
 have hval : ∀ (j : Nat) t v, Try.f3.params[j]? = some t → args[j]? = some v → Value.okWide Try.prog W .any base t v := hval0
 have hW' := hW
 obtain ⟨p, q, hA0, hV, rfl, hfz, hnd⟩ := hW
 have hA : DataW.TrodAll enc Try.prog W 0 (fun _ => true) true Try.f3.params.toList args.toList ds p := hA0
 rw [Try.params3] at hA hval
 obtain ⟨v0, vs0, d0, ds0, p0, q0, hargs, rfl, rfl, h0, r0⟩ := trodAll_cons hA
 obtain ⟨rfl, rfl, rfl⟩ := trodAll_nil r0
 obtain rfl : args = #[v0] := by cases args; simp_all
 obtain ⟨rfl, rfl⟩ := trodVars_none hV
 have k0 := h0
 have lt0 : ∀ x ∈ p0, x.block < W.heap.size := by obtain ⟨m, hm⟩ := k0; exact DataW.trod_lt m _ _ _ hm
 obtain ⟨arr0, rfl, _, _⟩ : ∃ cs, v0 = .agg cs ∧ cs.size = Try.prog.cellsOf 29 ∧ Row.okWide Try.prog W .any base 29 cs := by have z := (hval 0 29 v0 rfl rfl); unfold Value.okWide at z; rw [Try.underlying29] at z; exact z
 obtain ⟨fuel0, hf0⟩ := h0
 obtain ⟨x0, hK0, hw0⟩ := (show ∀ n, BrN Try.prog n 29 _ _ from fun n => (br_struct' Try.underlying29 (show Try.prog.cellsOf 29 = 6 by kernel_rfl) (fun n => (bf_cons rfl (show Try.prog.cellsOf 23 = 2 by kernel_rfl) (br_struct' Try.underlying23 (show Try.prog.cellsOf 23 = 2 by kernel_rfl) (fun n => (bf_cons rfl (show Try.prog.cellsOf 9 = 1 by kernel_rfl) (br_string Try.underlying9 n) (bf_one rfl (show Try.prog.cellsOf 9 = 1 by kernel_rfl) (br_string Try.underlying9 n)) (of_decide_eq_true (by kernel_rfl)))) n) (bf_cons rfl (show Try.prog.cellsOf 27 = 3 by kernel_rfl) (br_struct' Try.underlying27 (show Try.prog.cellsOf 27 = 3 by kernel_rfl) (fun n => (bf_cons rfl (show Try.prog.cellsOf 24 = 1 by kernel_rfl) (br_slice' Try.underlying24 (show Try.prog.cellsOf 25 = 1 by kernel_rfl) (fun n => (br_slice' Try.underlying25 (show Try.prog.cellsOf 3 = 1 by kernel_rfl) (fun n => (br_int Try.underlying3 n)) n)) n) (bf_cons rfl (show Try.prog.cellsOf 25 = 1 by kernel_rfl) (br_slice' Try.underlying25 (show Try.prog.cellsOf 3 = 1 by kernel_rfl) (fun n => (br_int Try.underlying3 n)) n) (bf_one rfl (show Try.prog.cellsOf 24 = 1 by kernel_rfl) (br_slice' Try.underlying24 (show Try.prog.cellsOf 25 = 1 by kernel_rfl) (fun n => (br_slice' Try.underlying25 (show Try.prog.cellsOf 3 = 1 by kernel_rfl) (fun n => (br_int Try.underlying3 n)) n)) n)) (of_decide_eq_true (by kernel_rfl))) (of_decide_eq_true (by kernel_rfl)))) n) (bf_one rfl (show Try.prog.cellsOf 24 = 1 by kernel_rfl) (br_slice' Try.underlying24 (show Try.prog.cellsOf 25 = 1 by kernel_rfl) (fun n => (br_slice' Try.underlying25 (show Try.prog.cellsOf 3 = 1 by kernel_rfl) (fun n => (br_int Try.underlying3 n)) n)) n)) (of_decide_eq_true (by kernel_rfl))) (of_decide_eq_true (by kernel_rfl)))) n)) fuel0 H enc W 0 (fun _ => true) true fuel0 _ _ (Nat.le_refl _) hf0
 obtain ⟨⟨a0_0, a0_1⟩, ⟨⟨l0_2, ⟨l0_3, l0_4⟩⟩, l0_5⟩⟩ := x0
 replace hw0 := hw0
 obtain ⟨⟨w0_0, w0_1⟩, ⟨⟨w0_2, ⟨w0_3, w0_4⟩⟩, w0_5⟩⟩ := hw0
 obtain ⟨cs0, hcs0, hK0⟩ : ∃ cs, (Value.agg arr0).cells.toList = cs ∧ _ := ⟨_, rfl, hK0⟩
 obtain ⟨_, _, rfl, ⟨_, _, rfl, rfl, rfl⟩, ⟨_, _, rfl, ⟨_, _, rfl, ⟨A0_2, c0_2, rfl, hc0_2, hr0_2⟩, ⟨_, _, rfl, ⟨A0_3, c0_3, rfl, hc0_3, hr0_3⟩, ⟨A0_4, c0_4, rfl, hc0_4, hr0_4⟩⟩⟩, ⟨A0_5, c0_5, rfl, hc0_5, hr0_5⟩⟩⟩ := hK0
 obtain rfl : arr0 = #[.string a0_0, .string a0_1, .slice A0_2 l0_2.length c0_2, .slice A0_3 l0_3.length c0_3, .slice A0_4 l0_4.length c0_4, .slice A0_5 l0_5.length c0_5] := arr_of hcs0
 clear hA0 hval0 hsz0
 obtain ⟨k, hp⟩ := Pure.FnExactStartStates a0_0 a0_1 l0_2 l0_3 l0_4 l0_5 w0_0 w0_1 w0_2 w0_3 w0_4 w0_5
 refine (laws_FnExactStartStates.calls k a0_0 a0_1 _ _ l0_2 _ _ l0_3 _ _ l0_4 _ _ l0_5 true W hr0_2 hc0_2 hr0_3 hc0_3 hr0_4 hc0_4 hr0_5 hc0_5 hp rfl).mono fun e W' ⟨he, bel0⟩ => ?_
 subst he
 have bel : Below W.heap.size W W' := bel0
 exact ⟨_, rfl, _, _, _, [], _, [], hW', trodAll_mk1 (shut_bool Try.underlying4 _), (trodAll_cons_mk (Below.trod laidOut (by kernel_rfl) (of_decide_eq_true (by kernel_rfl)) k0 bel lt0) trodAll_mk0), rfl, bel.frame _, fun h => by cases h⟩
theorem fact0 : (Rows.fnExactStartStatesRow.inPlace == Try.pinned.checked.prog.inPlace 3) = true := by kernel_rfl
theorem fact1 : (Rows.fnExactStartStatesRow.unfollowed == Try.pinned.checked.prog.unfollowed 3) = true := by kernel_rfl
theorem fact2 : (Rows.fnExactStartStatesRow.recurses == Try.pinned.checked.prog.recurses 3) = true := by kernel_rfl
theorem fact3 : (Rows.fnExactStartStatesRow.named == Try.pinned.checked.prog.varsNamed 3) = true := by kernel_rfl
theorem facts : joinedFacts Try.pinned.checked.prog 3 Try.f3 Rows.fnExactStartStatesSpec Rows.fnExactStartStatesRow = true := by
 unfold joinedFacts
 rw [fact0, fact1, fact2, fact3]
 kernel_rfl
theorem known : Try.pinned.checked.prog.funcNamed Rows.fnExactStartStatesRow.func = some 3 := by kernel_rfl
theorem inst : Try.f3.isInstance Try.pinned.checked.prog Rows.fnExactStartStatesRow.origin Rows.fnExactStartStatesRow.targs := of_decide_eq_true (by kernel_rfl)
theorem wrap : Try.f3.isWrapper Try.pinned.checked.prog Rows.fnExactStartStatesRow.wrapper Rows.fnExactStartStatesRow.mainSum := by unfold Func.isWrapper; first | (rw [if_pos (by decide +kernel)]; kernel_rfl) | (rw [if_neg (by decide +kernel)]; exact ⟨rfl, rfl⟩)
theorem over : Rows.fnExactStartStatesRow.holds Try.pinned (OpenSpec.ofChange Rows.fnExactStartStatesSpec) :=
 OpenClaim.holds_of_wide 3 Try.f3 rfl rfl rfl rfl rfl rfl rfl ⟨rfl, rfl, rfl, rfl, rfl⟩ rfl rfl rfl rfl rfl known Try.func3 facts inst wrap
  (fun os started H enc _ => lifted os started H enc)
theorem proved : Rows.FnExactStartStatesSaid := over
#print axioms proved
end Go.Proofs.Ytjmfpaalglbbhaa.fnExactStartStates
namespace Go.Proofs.Ytjmfpaalglbbhaa
theorem fnExactStartStates_holds : Rows.FnExactStartStatesSaid := fnExactStartStates.proved
end Go.Proofs.Ytjmfpaalglbbhaa
