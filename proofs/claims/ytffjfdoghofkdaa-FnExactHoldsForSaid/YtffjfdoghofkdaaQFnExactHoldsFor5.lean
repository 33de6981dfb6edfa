/- FnExactHoldsFor: what its proof needs, put together by this session's program wip/merge.py out of the texts that wip/xp.py printed and of this session's own. -/
import Derived.Test.YtffjfdoghofkdaaQFnExactHoldsFor4
import Derived.ChangeArms
import Derived.ChangeReads
import Derived.DataReads
import Derived.DataElems
import Derived.Lib.Strings
import Derived.Lib.Bytealg
import Derived.Test.YtffjfdoghofkdaaRows
import Derived.WalkKit
import Derived.ProofKit
import Derived.OpenShut
import Derived.ShutString
import Derived.ChangeOld
import Derived.Below
import Derived.SizedLaws
import Derived.Lib.SmallJoins
namespace Go.Proofs.Ytffjfdoghofkdaa.A
open Go.RowKit Go.Proofs.Ytffjfdoghofkdaa.Ext Go.Proofs.YtffjfdoghofkdaaW.PrintWords Go.Proofs.YtffjfdoghofkdaaW.PrintLast Go.Proofs.YtffjfdoghofkdaaW.PrintMore
attribute [local go_sem] max2_int min2_int max_two min_two max_three min_three max_four min_four   -- for this text's walks alone
set_option linter.unusedVariables false
set_option linter.unusedSimpArgs false

/-! ### laws_FnExactHoldsFor: function 3 -/
def laws_FnExactHoldsFor.f (k : Nat) (a0_0 : Int) (a0_1 : ByteArray) (a0_2 : ByteArray) (a0_3 : Int) (a0_4 : ByteArray) (l0_5 : List (S24)) (l0_6 : List Int) (a0_7 : Int) (a1_0 : ByteArray) (a1_1 : ByteArray) (a1_2 : ByteArray) : Option (Bool) := (laws_szConstraint.f k a0_0 a0_1 a0_2 a0_3 a0_4 l0_5 l0_6 a0_7 1048576).bind fun t3003 => (if t3003 < 0 then (some true) else ((laws_szValues.f a1_0 a1_1 a1_2 t3003).bind fun t3004 => (if t3004 < 0 then (some true) else ((laws_toConstraint.f k a0_0 a0_1 a0_2 a0_3 a0_4 l0_5 l0_6 a0_7).bind fun bt3005 => ((laws_toValues.f a1_0 a1_1 a1_2).bind fun bt3017 => ((spec_HoldsFor.f k bt3005.1 bt3005.2.1 bt3005.2.2.1 bt3005.2.2.2.1 bt3005.2.2.2.2.1 bt3005.2.2.2.2.2.1 bt3005.2.2.2.2.2.2.1 bt3005.2.2.2.2.2.2.2 bt3017.1 bt3017.2.1 bt3017.2.2).bind fun t3020 => ((laws_toConstraint.f k a0_0 a0_1 a0_2 a0_3 a0_4 l0_5 l0_6 a0_7).bind fun bt3021 => ((laws_toValues.f a1_0 a1_1 a1_2).bind fun bt3034 => ((impl_HoldsFor.f k bt3021.1 bt3021.2.1 bt3021.2.2.1 bt3021.2.2.2.1 bt3021.2.2.2.2.1 bt3021.2.2.2.2.2.1 bt3021.2.2.2.2.2.2.1 bt3021.2.2.2.2.2.2.2 bt3034.1 bt3034.2.1 bt3034.2.2).bind fun t3037 => (if (t3037 != t3020) = true then (some false) else ((laws_toConstraint.f k a0_0 a0_1 a0_2 a0_3 a0_4 l0_5 l0_6 a0_7).bind fun bt3038 => ((laws_eqConstraint.f k bt3021.1 bt3021.2.1 bt3021.2.2.1 bt3021.2.2.2.1 bt3021.2.2.2.2.1 bt3021.2.2.2.2.2.1 bt3021.2.2.2.2.2.2.1 bt3021.2.2.2.2.2.2.2 bt3038.1 bt3038.2.1 bt3038.2.2.1 bt3038.2.2.2.1 bt3038.2.2.2.2.1 bt3038.2.2.2.2.2.1 bt3038.2.2.2.2.2.2.1 bt3038.2.2.2.2.2.2.2).bind fun t3050 => (if t3050 = true then (some true) else (some false))))))))))))))
theorem laws_FnExactHoldsFor.mono : ∀ a0 a1 a2 a3 a4 a5 a6 a7 a8 a9 a10 k, LeO (laws_FnExactHoldsFor.f k a0 a1 a2 a3 a4 a5 a6 a7 a8 a9 a10) (laws_FnExactHoldsFor.f (k + 1) a0 a1 a2 a3 a4 a5 a6 a7 a8 a9 a10) := by
  intro a0 a1 a2 a3 a4 a5 a6 a7 a8 a9 a10 k
  unfold laws_FnExactHoldsFor.f
  repeat' first
      | with_reducible first | exact impl_HoldsFor.mono _ _ _ _ _ _ _ _ _ _ _ _ | exact laws_eqConstraint.mono _ _ _ _ _ _ _ _ _ _ _ _ _ _ _ _ _ | exact laws_szConstraint.mono _ _ _ _ _ _ _ _ _ _ | exact laws_toConstraint.mono _ _ _ _ _ _ _ _ _ | exact spec_HoldsFor.mono _ _ _ _ _ _ _ _ _ _ _ _ | exact LeO.refl _ | exact LeO.none _ | refine LeO.ite ?_ ?_ | refine LeO.bind ?_ (fun _ => ?_)
      | exact impl_HoldsFor.mono _ _ _ _ _ _ _ _ _ _ _ _ | exact laws_eqConstraint.mono _ _ _ _ _ _ _ _ _ _ _ _ _ _ _ _ _ | exact laws_szConstraint.mono _ _ _ _ _ _ _ _ _ _ | exact laws_toConstraint.mono _ _ _ _ _ _ _ _ _ | exact spec_HoldsFor.mono _ _ _ _ _ _ _ _ _ _ _ _ | exact LeO.none _ | refine LeO.ite ?_ ?_ | refine LeO.bind ?_ (fun _ => ?_)
set_option maxHeartbeats 8000000 in
set_option maxRecDepth 100000 in
theorem laws_FnExactHoldsFor.calls (k : Nat) (a0_0 : Int) (a0_1 : ByteArray) (a0_2 : ByteArray) (a0_3 : Int) (a0_4 : ByteArray) (A0_5 : Option Addr) (c0_5 : Nat) (l0_5 : List (S24)) (A0_6 : Option Addr) (c0_6 : Nat) (l0_6 : List Int) (a0_7 : Int) (a1_0 : ByteArray) (a1_1 : ByteArray) (a1_2 : ByteArray) (r : Bool) (w : World) (hr0_5 : Kd.C k24 w A0_5 l0_5.length l0_5) (hc0_5 : l0_5.length ≤ c0_5) (hr0_6 : Kd.C (Kd.int .i64) w A0_6 l0_6.length l0_6) (hc0_6 : l0_6.length ≤ c0_6) (h : laws_FnExactHoldsFor.f k a0_0 a0_1 a0_2 a0_3 a0_4 l0_5 l0_6 a0_7 a1_0 a1_1 a1_2 = some r) (hr_ : r = true) :
    Calls Try.prog 3 #[.agg #[.int .i64 a0_0, .string a0_1, .string a0_2, .int .i64 a0_3, .string a0_4, .slice A0_5 l0_5.length c0_5, .slice A0_6 l0_6.length c0_6, .int .i64 a0_7], .agg #[.string a1_0, .string a1_1, .string a1_2]] w fun e w' => e = .returned (.bool r) ∧ Below w.heap.size w w' := by
  have HRT_ := Aside0.mk hr_
  clear hr_
  have hu27 := Try.underlying27
  have hu29 := Try.underlying29
  have hu37 := Try.underlying37
  have HR0_5 := Aside0.mk hr0_5
  have HC0_5 := Aside0.mk hc0_5
  clear hr0_5 hc0_5
  have HR0_6 := Aside0.mk hr0_6
  have HC0_6 := Aside0.mk hc0_6
  clear hr0_6 hc0_6
  have HB := Aside0.mk (Below.refl w.heap.size w)
  have H : ((laws_szConstraint.f k a0_0 a0_1 a0_2 a0_3 a0_4 l0_5 l0_6 a0_7 1048576).bind fun t3003 => (if t3003 < 0 then (some true) else ((laws_szValues.f a1_0 a1_1 a1_2 t3003).bind fun t3004 => (if t3004 < 0 then (some true) else ((laws_toConstraint.f k a0_0 a0_1 a0_2 a0_3 a0_4 l0_5 l0_6 a0_7).bind fun bt3005 => ((laws_toValues.f a1_0 a1_1 a1_2).bind fun bt3017 => ((spec_HoldsFor.f k bt3005.1 bt3005.2.1 bt3005.2.2.1 bt3005.2.2.2.1 bt3005.2.2.2.2.1 bt3005.2.2.2.2.2.1 bt3005.2.2.2.2.2.2.1 bt3005.2.2.2.2.2.2.2 bt3017.1 bt3017.2.1 bt3017.2.2).bind fun t3020 => ((laws_toConstraint.f k a0_0 a0_1 a0_2 a0_3 a0_4 l0_5 l0_6 a0_7).bind fun bt3021 => ((laws_toValues.f a1_0 a1_1 a1_2).bind fun bt3034 => ((impl_HoldsFor.f k bt3021.1 bt3021.2.1 bt3021.2.2.1 bt3021.2.2.2.1 bt3021.2.2.2.2.1 bt3021.2.2.2.2.2.1 bt3021.2.2.2.2.2.2.1 bt3021.2.2.2.2.2.2.2 bt3034.1 bt3034.2.1 bt3034.2.2).bind fun t3037 => (if (t3037 != t3020) = true then (some false) else ((laws_toConstraint.f k a0_0 a0_1 a0_2 a0_3 a0_4 l0_5 l0_6 a0_7).bind fun bt3038 => ((laws_eqConstraint.f k bt3021.1 bt3021.2.1 bt3021.2.2.1 bt3021.2.2.2.1 bt3021.2.2.2.2.1 bt3021.2.2.2.2.2.1 bt3021.2.2.2.2.2.2.1 bt3021.2.2.2.2.2.2.2 bt3038.1 bt3038.2.1 bt3038.2.2.1 bt3038.2.2.2.1 bt3038.2.2.2.2.1 bt3038.2.2.2.2.2.1 bt3038.2.2.2.2.2.2.1 bt3038.2.2.2.2.2.2.2).bind fun t3050 => (if t3050 = true then (some true) else (some false))))))))))))))) = some r := h
  clear h
  replace H := Option.bind_eq_some_iff.mp H
  obtain ⟨t3003, A30, H⟩ := H
  replace H : (if t3003 < 0 then (some true) else ((laws_szValues.f a1_0 a1_1 a1_2 t3003).bind fun t3004 => (if t3004 < 0 then (some true) else ((laws_toConstraint.f k a0_0 a0_1 a0_2 a0_3 a0_4 l0_5 l0_6 a0_7).bind fun bt3005 => ((laws_toValues.f a1_0 a1_1 a1_2).bind fun bt3017 => ((spec_HoldsFor.f k bt3005.1 bt3005.2.1 bt3005.2.2.1 bt3005.2.2.2.1 bt3005.2.2.2.2.1 bt3005.2.2.2.2.2.1 bt3005.2.2.2.2.2.2.1 bt3005.2.2.2.2.2.2.2 bt3017.1 bt3017.2.1 bt3017.2.2).bind fun t3020 => ((laws_toConstraint.f k a0_0 a0_1 a0_2 a0_3 a0_4 l0_5 l0_6 a0_7).bind fun bt3021 => ((laws_toValues.f a1_0 a1_1 a1_2).bind fun bt3034 => ((impl_HoldsFor.f k bt3021.1 bt3021.2.1 bt3021.2.2.1 bt3021.2.2.2.1 bt3021.2.2.2.2.1 bt3021.2.2.2.2.2.1 bt3021.2.2.2.2.2.2.1 bt3021.2.2.2.2.2.2.2 bt3034.1 bt3034.2.1 bt3034.2.2).bind fun t3037 => (if (t3037 != t3020) = true then (some false) else ((laws_toConstraint.f k a0_0 a0_1 a0_2 a0_3 a0_4 l0_5 l0_6 a0_7).bind fun bt3038 => ((laws_eqConstraint.f k bt3021.1 bt3021.2.1 bt3021.2.2.1 bt3021.2.2.2.1 bt3021.2.2.2.2.1 bt3021.2.2.2.2.2.1 bt3021.2.2.2.2.2.2.1 bt3021.2.2.2.2.2.2.2 bt3038.1 bt3038.2.1 bt3038.2.2.1 bt3038.2.2.2.1 bt3038.2.2.2.2.1 bt3038.2.2.2.2.2.1 bt3038.2.2.2.2.2.2.1 bt3038.2.2.2.2.2.2.2).bind fun t3050 => (if t3050 = true then (some true) else (some false)))))))))))))) = some r := H
  have A3 := Aside0.mk A30
  clear A30
  by_cases c4 : t3003 < 0
  rw [if_pos c4] at H
  have c4b0 : decide (t3003 < 0) = true := decide_eq_true c4
  clear c4
  rotate_left
  rw [if_neg c4] at H
  have c4b0 : decide (t3003 < 0) = false := decide_eq_false c4
  clear c4
  replace H := Option.bind_eq_some_iff.mp H
  obtain ⟨t3004, A100, H⟩ := H
  replace H : (if t3004 < 0 then (some true) else ((laws_toConstraint.f k a0_0 a0_1 a0_2 a0_3 a0_4 l0_5 l0_6 a0_7).bind fun bt3005 => ((laws_toValues.f a1_0 a1_1 a1_2).bind fun bt3017 => ((spec_HoldsFor.f k bt3005.1 bt3005.2.1 bt3005.2.2.1 bt3005.2.2.2.1 bt3005.2.2.2.2.1 bt3005.2.2.2.2.2.1 bt3005.2.2.2.2.2.2.1 bt3005.2.2.2.2.2.2.2 bt3017.1 bt3017.2.1 bt3017.2.2).bind fun t3020 => ((laws_toConstraint.f k a0_0 a0_1 a0_2 a0_3 a0_4 l0_5 l0_6 a0_7).bind fun bt3021 => ((laws_toValues.f a1_0 a1_1 a1_2).bind fun bt3034 => ((impl_HoldsFor.f k bt3021.1 bt3021.2.1 bt3021.2.2.1 bt3021.2.2.2.1 bt3021.2.2.2.2.1 bt3021.2.2.2.2.2.1 bt3021.2.2.2.2.2.2.1 bt3021.2.2.2.2.2.2.2 bt3034.1 bt3034.2.1 bt3034.2.2).bind fun t3037 => (if (t3037 != t3020) = true then (some false) else ((laws_toConstraint.f k a0_0 a0_1 a0_2 a0_3 a0_4 l0_5 l0_6 a0_7).bind fun bt3038 => ((laws_eqConstraint.f k bt3021.1 bt3021.2.1 bt3021.2.2.1 bt3021.2.2.2.1 bt3021.2.2.2.2.1 bt3021.2.2.2.2.2.1 bt3021.2.2.2.2.2.2.1 bt3021.2.2.2.2.2.2.2 bt3038.1 bt3038.2.1 bt3038.2.2.1 bt3038.2.2.2.1 bt3038.2.2.2.2.1 bt3038.2.2.2.2.2.1 bt3038.2.2.2.2.2.2.1 bt3038.2.2.2.2.2.2.2).bind fun t3050 => (if t3050 = true then (some true) else (some false)))))))))))) = some r := H
  have A10 := Aside0.mk A100
  clear A100
  by_cases c11 : t3004 < 0
  rw [if_pos c11] at H
  have c11b0 : decide (t3004 < 0) = true := decide_eq_true c11
  clear c11
  rotate_left
  rw [if_neg c11] at H
  have c11b0 : decide (t3004 < 0) = false := decide_eq_false c11
  clear c11
  replace H := Option.bind_eq_some_iff.mp H
  obtain ⟨⟨t3005, t3006, t3007, t3008, t3009, t3010, t3013, t3016⟩, A190, H⟩ := H
  replace H : ((laws_toValues.f a1_0 a1_1 a1_2).bind fun bt3017 => ((spec_HoldsFor.f k t3005 t3006 t3007 t3008 t3009 t3010 t3013 t3016 bt3017.1 bt3017.2.1 bt3017.2.2).bind fun t3020 => ((laws_toConstraint.f k a0_0 a0_1 a0_2 a0_3 a0_4 l0_5 l0_6 a0_7).bind fun bt3021 => ((laws_toValues.f a1_0 a1_1 a1_2).bind fun bt3034 => ((impl_HoldsFor.f k bt3021.1 bt3021.2.1 bt3021.2.2.1 bt3021.2.2.2.1 bt3021.2.2.2.2.1 bt3021.2.2.2.2.2.1 bt3021.2.2.2.2.2.2.1 bt3021.2.2.2.2.2.2.2 bt3034.1 bt3034.2.1 bt3034.2.2).bind fun t3037 => (if (t3037 != t3020) = true then (some false) else ((laws_toConstraint.f k a0_0 a0_1 a0_2 a0_3 a0_4 l0_5 l0_6 a0_7).bind fun bt3038 => ((laws_eqConstraint.f k bt3021.1 bt3021.2.1 bt3021.2.2.1 bt3021.2.2.2.1 bt3021.2.2.2.2.1 bt3021.2.2.2.2.2.1 bt3021.2.2.2.2.2.2.1 bt3021.2.2.2.2.2.2.2 bt3038.1 bt3038.2.1 bt3038.2.2.1 bt3038.2.2.2.1 bt3038.2.2.2.2.1 bt3038.2.2.2.2.2.1 bt3038.2.2.2.2.2.2.1 bt3038.2.2.2.2.2.2.2).bind fun t3050 => (if t3050 = true then (some true) else (some false)))))))))) = some r := H
  have A19 := Aside0.mk A190
  clear A190
  replace H := Option.bind_eq_some_iff.mp H
  obtain ⟨⟨t3017, t3018, t3019⟩, A200, H⟩ := H
  replace H : ((spec_HoldsFor.f k t3005 t3006 t3007 t3008 t3009 t3010 t3013 t3016 t3017 t3018 t3019).bind fun t3020 => ((laws_toConstraint.f k a0_0 a0_1 a0_2 a0_3 a0_4 l0_5 l0_6 a0_7).bind fun bt3021 => ((laws_toValues.f a1_0 a1_1 a1_2).bind fun bt3034 => ((impl_HoldsFor.f k bt3021.1 bt3021.2.1 bt3021.2.2.1 bt3021.2.2.2.1 bt3021.2.2.2.2.1 bt3021.2.2.2.2.2.1 bt3021.2.2.2.2.2.2.1 bt3021.2.2.2.2.2.2.2 bt3034.1 bt3034.2.1 bt3034.2.2).bind fun t3037 => (if (t3037 != t3020) = true then (some false) else ((laws_toConstraint.f k a0_0 a0_1 a0_2 a0_3 a0_4 l0_5 l0_6 a0_7).bind fun bt3038 => ((laws_eqConstraint.f k bt3021.1 bt3021.2.1 bt3021.2.2.1 bt3021.2.2.2.1 bt3021.2.2.2.2.1 bt3021.2.2.2.2.2.1 bt3021.2.2.2.2.2.2.1 bt3021.2.2.2.2.2.2.2 bt3038.1 bt3038.2.1 bt3038.2.2.1 bt3038.2.2.2.1 bt3038.2.2.2.2.1 bt3038.2.2.2.2.2.1 bt3038.2.2.2.2.2.2.1 bt3038.2.2.2.2.2.2.2).bind fun t3050 => (if t3050 = true then (some true) else (some false))))))))) = some r := H
  have A20 := Aside0.mk A200
  clear A200
  replace H := Option.bind_eq_some_iff.mp H
  obtain ⟨t3020, A210, H⟩ := H
  replace H : ((laws_toConstraint.f k a0_0 a0_1 a0_2 a0_3 a0_4 l0_5 l0_6 a0_7).bind fun bt3021 => ((laws_toValues.f a1_0 a1_1 a1_2).bind fun bt3034 => ((impl_HoldsFor.f k bt3021.1 bt3021.2.1 bt3021.2.2.1 bt3021.2.2.2.1 bt3021.2.2.2.2.1 bt3021.2.2.2.2.2.1 bt3021.2.2.2.2.2.2.1 bt3021.2.2.2.2.2.2.2 bt3034.1 bt3034.2.1 bt3034.2.2).bind fun t3037 => (if (t3037 != t3020) = true then (some false) else ((laws_toConstraint.f k a0_0 a0_1 a0_2 a0_3 a0_4 l0_5 l0_6 a0_7).bind fun bt3038 => ((laws_eqConstraint.f k bt3021.1 bt3021.2.1 bt3021.2.2.1 bt3021.2.2.2.1 bt3021.2.2.2.2.1 bt3021.2.2.2.2.2.1 bt3021.2.2.2.2.2.2.1 bt3021.2.2.2.2.2.2.2 bt3038.1 bt3038.2.1 bt3038.2.2.1 bt3038.2.2.2.1 bt3038.2.2.2.2.1 bt3038.2.2.2.2.2.1 bt3038.2.2.2.2.2.2.1 bt3038.2.2.2.2.2.2.2).bind fun t3050 => (if t3050 = true then (some true) else (some false)))))))) = some r := H
  have A21 := Aside0.mk A210
  clear A210
  replace H := Option.bind_eq_some_iff.mp H
  obtain ⟨⟨t3021, t3022, t3023, t3024, t3025, t3026, t3029, t3032⟩, A220, H⟩ := H
  replace H : ((laws_toValues.f a1_0 a1_1 a1_2).bind fun bt3034 => ((impl_HoldsFor.f k t3021 t3022 t3023 t3024 t3025 t3026 t3029 t3032 bt3034.1 bt3034.2.1 bt3034.2.2).bind fun t3037 => (if (t3037 != t3020) = true then (some false) else ((laws_toConstraint.f k a0_0 a0_1 a0_2 a0_3 a0_4 l0_5 l0_6 a0_7).bind fun bt3038 => ((laws_eqConstraint.f k t3021 t3022 t3023 t3024 t3025 t3026 t3029 t3032 bt3038.1 bt3038.2.1 bt3038.2.2.1 bt3038.2.2.2.1 bt3038.2.2.2.2.1 bt3038.2.2.2.2.2.1 bt3038.2.2.2.2.2.2.1 bt3038.2.2.2.2.2.2.2).bind fun t3050 => (if t3050 = true then (some true) else (some false))))))) = some r := H
  have A22 := Aside0.mk A220
  clear A220
  replace H := Option.bind_eq_some_iff.mp H
  obtain ⟨⟨t3034, t3035, t3036⟩, A230, H⟩ := H
  replace H : ((impl_HoldsFor.f k t3021 t3022 t3023 t3024 t3025 t3026 t3029 t3032 t3034 t3035 t3036).bind fun t3037 => (if (t3037 != t3020) = true then (some false) else ((laws_toConstraint.f k a0_0 a0_1 a0_2 a0_3 a0_4 l0_5 l0_6 a0_7).bind fun bt3038 => ((laws_eqConstraint.f k t3021 t3022 t3023 t3024 t3025 t3026 t3029 t3032 bt3038.1 bt3038.2.1 bt3038.2.2.1 bt3038.2.2.2.1 bt3038.2.2.2.2.1 bt3038.2.2.2.2.2.1 bt3038.2.2.2.2.2.2.1 bt3038.2.2.2.2.2.2.2).bind fun t3050 => (if t3050 = true then (some true) else (some false)))))) = some r := H
  have A23 := Aside0.mk A230
  clear A230
  replace H := Option.bind_eq_some_iff.mp H
  obtain ⟨t3037, A240, H⟩ := H
  replace H : (if (t3037 != t3020) = true then (some false) else ((laws_toConstraint.f k a0_0 a0_1 a0_2 a0_3 a0_4 l0_5 l0_6 a0_7).bind fun bt3038 => ((laws_eqConstraint.f k t3021 t3022 t3023 t3024 t3025 t3026 t3029 t3032 bt3038.1 bt3038.2.1 bt3038.2.2.1 bt3038.2.2.2.1 bt3038.2.2.2.2.1 bt3038.2.2.2.2.2.1 bt3038.2.2.2.2.2.2.1 bt3038.2.2.2.2.2.2.2).bind fun t3050 => (if t3050 = true then (some true) else (some false))))) = some r := H
  have A24 := Aside0.mk A240
  clear A240
  by_cases c25 : (t3037 != t3020) = true
  · rw [if_pos c25] at H
    have c25b0 : (t3037 != t3020) = true := c25
    (try (have c25b1 : decide (t3037 = t3020) = false := by simpa using c25))
    (try (have c25b2 : (t3037 == t3020) = false := by simpa using c25))
    (try (have c25b3 : ¬ (t3037 = t3020) := by simpa using c25))
    clear c25
    exact absurd ((Option.some.inj H).trans HRT_.out) (by decide)
  rw [if_neg c25] at H
  have c25b0 : (t3037 != t3020) = false := by simpa using c25
  (try (have c25b1 : decide (t3037 = t3020) = true := by simpa using c25))
  (try (have c25b2 : (t3037 == t3020) = true := by simpa using c25))
  clear c25
  replace H := Option.bind_eq_some_iff.mp H
  obtain ⟨⟨t3038, t3039, t3040, t3041, t3042, t3043, t3046, t3049⟩, A510, H⟩ := H
  replace H : ((laws_eqConstraint.f k t3021 t3022 t3023 t3024 t3025 t3026 t3029 t3032 t3038 t3039 t3040 t3041 t3042 t3043 t3046 t3049).bind fun t3050 => (if t3050 = true then (some true) else (some false))) = some r := H
  have A51 := Aside0.mk A510
  clear A510
  replace H := Option.bind_eq_some_iff.mp H
  obtain ⟨t3050, A520, H⟩ := H
  replace H : (if t3050 = true then (some true) else (some false)) = some r := H
  have A52 := Aside0.mk A520
  clear A520
  by_cases c53 : t3050 = true
  · subst c53
    have H1 : (some true) = some r := by rw [if_pos rfl] at H; exact H
    clear H
    have H := H1
    clear H1
    obtain rfl := Option.some.inj H
    go_enter Try.func3, Try.ntmps3
    try go_wp2_with (first | ((with_reducible refine gate_dst (N := 2) rfl ?_); refine box_event ?hg (N := 2) ?hd (cs := #[.int .i64 a0_0, .string a0_1, .string a0_2, .int .i64 a0_3, .string a0_4, .slice A0_5 l0_5.length c0_5, .slice A0_6 l0_6.length c0_6, .int .i64 a0_7]) (t := 27) ?hr ?_; (case hd => rfl); (case hg => rfl); (case hr => first | (go_simp; done) | (go_simp; rfl)); intro gb3001 hg w54 hbox hb; have n0_ := Aside0.mk (below_step (by repeat (first | (with_reducible first | exact HB.out | apply below_alloc | apply pw_below_drewN | apply below_drew1 | refine below_set ?_ (Aside0.out (by assumption))) | exact HB.out)) hb); have n1_ := Aside0.mk (hbox); have n2_ := Aside0.mk ((by rw [hg]; exact (below_size (by repeat (first | (with_reducible first | exact HB.out | apply below_alloc | apply pw_below_drewN | apply below_drew1 | refine below_set ?_ (Aside0.out (by assumption))) | exact HB.out))) : w.heap.size ≤ gb3001)); have n3_ := Aside0.mk ((by rw [hg]; exact (below_size (by repeat (first | (with_reducible first | exact HB.out | apply below_alloc | apply pw_below_drewN | apply below_drew1 | refine below_set ?_ (Aside0.out (by assumption))) | exact HB.out))) : w.heap.size ≤ gb3001)); clear HB; have HB := n0_; have BK3001 := n1_; have GW3001 := n2_; have GE3001 := n3_; clear n0_ n1_ n2_ n3_; clear hb hbox hg) | ((with_reducible refine gate_dst (N := 3) rfl ?_); refine box_event ?hg (N := 3) ?hd (cs := #[.string a1_0, .string a1_1, .string a1_2]) (t := 29) ?hr ?_; (case hd => rfl); (case hg => rfl); (case hr => first | (go_simp; done) | (go_simp; rfl)); intro gb3002 hg w55 hbox hb; have n0_ := Aside0.mk (blk_below (g := gb3001) (o := .cells #[.int .i64 a0_0, .string a0_1, .string a0_2, .int .i64 a0_3, .string a0_4, .slice A0_5 l0_5.length c0_5, .slice A0_6 l0_6.length c0_6, .int .i64 a0_7] 27 (0, 0)) (by (with_reducible repeat (first | refine blk_drewN ?_ _ | refine blk_drew ?_ | refine blk_alloc ?_ _)); exact BK3001.out) hb); have n1_ := Aside0.mk (below_step (by repeat (first | (with_reducible first | exact HB.out | apply below_alloc | apply pw_below_drewN | apply below_drew1 | refine below_set ?_ (Aside0.out (by assumption))) | exact HB.out)) hb); have n2_ := Aside0.mk (hbox); have n3_ := Aside0.mk ((by rw [hg]; exact (below_size (by repeat (first | (with_reducible first | exact HB.out | apply below_alloc | apply pw_below_drewN | apply below_drew1 | refine below_set ?_ (Aside0.out (by assumption))) | exact HB.out))) : w.heap.size ≤ gb3002)); have n4_ := Aside0.mk ((by rw [hg]; exact (below_size (by repeat (first | (with_reducible first | exact HB.out | apply below_alloc | apply pw_below_drewN | apply below_drew1 | refine below_set ?_ (Aside0.out (by assumption))) | exact HB.out))) : w.heap.size ≤ gb3002)); have n5_ := Aside0.mk ((by rw [hg]; exact Nat.ne_of_lt (blk_lt (g := gb3001) (o := .cells #[.int .i64 a0_0, .string a0_1, .string a0_2, .int .i64 a0_3, .string a0_4, .slice A0_5 l0_5.length c0_5, .slice A0_6 l0_6.length c0_6, .int .i64 a0_7] 27 (0, 0)) (by (with_reducible repeat (first | refine blk_drewN ?_ _ | refine blk_drew ?_ | refine blk_alloc ?_ _)); exact BK3001.out)) : gb3001 ≠ gb3002)); have n6_ := Aside0.mk ((by rw [hg]; exact Nat.ne_of_gt (blk_lt (g := gb3001) (o := .cells #[.int .i64 a0_0, .string a0_1, .string a0_2, .int .i64 a0_3, .string a0_4, .slice A0_5 l0_5.length c0_5, .slice A0_6 l0_6.length c0_6, .int .i64 a0_7] 27 (0, 0)) (by (with_reducible repeat (first | refine blk_drewN ?_ _ | refine blk_drew ?_ | refine blk_alloc ?_ _)); exact BK3001.out)) : gb3002 ≠ gb3001)); clear BK3001; clear HB; have BK3001 := n0_; have HB := n1_; have BK3002 := n2_; have GW3002 := n3_; have GE3002 := n4_; have NB3001_3002 := n5_; have NB3002_3001 := n6_; clear n0_ n1_ n2_ n3_ n4_ n5_ n6_; clear hb hbox hg; have hnb56 := NB3001_3002.out; have hnc56 := NB3002_3001.out; obtain ⟨hcz57_0, hcz57_1, hcz57_2, hcz57_3, hcz57_4, hcz57_5, hcz57_6, hcz57_7, hfz57_0, hfz57_1, hfz57_2, hfz57_3, hfz57_4, hfz57_5, hfz57_6, hfz57_7⟩ := blk8 BK3001.out) | ((with_reducible refine gate_callee (f := 5) rfl ?_); refine goesL_ (some 11) rfl rfl Try.func5 (by kernel_rfl) rfl #[.agg #[.int .i64 a0_0, .string a0_1, .string a0_2, .int .i64 a0_3, .string a0_4, .slice A0_5 l0_5.length c0_5, .slice A0_6 l0_6.length c0_6, .int .i64 a0_7], .int .i64 1048576] rfl (by (try simp only [List.map_toArray, List.map_cons, List.map_nil]); first | done | rfl | (simp only [List.length_drop, List.length_take]; rfl)) ?_; (with_reducible refine (laws_szConstraint.calls k a0_0 a0_1 a0_2 a0_3 a0_4 _ _ l0_5 _ _ l0_6 a0_7 1048576 t3003 _ ?side1 ?side2 ?side3 ?side4 A3.out).mono ?_); (case side1 => repeat (first | exact (Kd.C_below HR0_5.out HB.out) | (with_reducible refine Kd.C_alloc ?_ _) | (with_reducible refine Kd.C_drewN ?_ _) | (with_reducible refine Kd.C_drew ?_))); (case side2 => exact HC0_5.out); (case side3 => repeat (first | exact (Kd.C_below HR0_6.out HB.out) | (with_reducible refine Kd.C_alloc ?_ _) | (with_reducible refine Kd.C_drewN ?_ _) | (with_reducible refine Kd.C_drew ?_))); (case side4 => exact HC0_6.out); rintro e w58 ⟨rfl, hb⟩; refine ⟨_, rfl, ?_⟩; have n0_ := Aside0.mk (blk_below (g := gb3001) (o := .cells #[.int .i64 a0_0, .string a0_1, .string a0_2, .int .i64 a0_3, .string a0_4, .slice A0_5 l0_5.length c0_5, .slice A0_6 l0_6.length c0_6, .int .i64 a0_7] 27 (0, 0)) (by (with_reducible repeat (first | refine blk_drewN ?_ _ | refine blk_drew ?_ | refine blk_alloc ?_ _)); exact BK3001.out) hb); have n1_ := Aside0.mk (blk_below (g := gb3002) (o := .cells #[.string a1_0, .string a1_1, .string a1_2] 29 (0, 0)) (by (with_reducible repeat (first | refine blk_drewN ?_ _ | refine blk_drew ?_ | refine blk_alloc ?_ _)); exact BK3002.out) hb); have n2_ := Aside0.mk (below_step (by repeat (first | (with_reducible first | exact HB.out | apply below_alloc | apply pw_below_drewN | apply below_drew1 | refine below_set ?_ (Aside0.out (by assumption))) | exact HB.out)) hb); clear BK3001; clear BK3002; clear HB; have BK3001 := n0_; have BK3002 := n1_; have HB := n2_; clear n0_ n1_ n2_; (try clear hb); (try clear hb2); (try clear hk); (try clear hi); obtain ⟨hcz59_0, hcz59_1, hcz59_2, hfz59_0, hfz59_1, hfz59_2⟩ := blk3 BK3002.out) | ((with_reducible refine gate_callee (f := 6) rfl ?_); refine goesL_ (some 16) rfl rfl Try.func6 (by kernel_rfl) rfl #[.agg #[.string a1_0, .string a1_1, .string a1_2], .int .i64 t3003] rfl (by (try simp only [List.map_toArray, List.map_cons, List.map_nil]); first | done | rfl | (simp only [List.length_drop, List.length_take]; rfl)) ?_; (with_reducible refine (laws_szValues.calls a1_0 a1_1 a1_2 t3003 t3004 _ A10.out).mono ?_); rintro e w60 ⟨rfl, hb⟩; refine ⟨_, rfl, ?_⟩; have n0_ := Aside0.mk (blk_below (g := gb3001) (o := .cells #[.int .i64 a0_0, .string a0_1, .string a0_2, .int .i64 a0_3, .string a0_4, .slice A0_5 l0_5.length c0_5, .slice A0_6 l0_6.length c0_6, .int .i64 a0_7] 27 (0, 0)) (by (with_reducible repeat (first | refine blk_drewN ?_ _ | refine blk_drew ?_ | refine blk_alloc ?_ _)); exact BK3001.out) hb); have n1_ := Aside0.mk (blk_below (g := gb3002) (o := .cells #[.string a1_0, .string a1_1, .string a1_2] 29 (0, 0)) (by (with_reducible repeat (first | refine blk_drewN ?_ _ | refine blk_drew ?_ | refine blk_alloc ?_ _)); exact BK3002.out) hb); have n2_ := Aside0.mk (below_step (by repeat (first | (with_reducible first | exact HB.out | apply below_alloc | apply pw_below_drewN | apply below_drew1 | refine below_set ?_ (Aside0.out (by assumption))) | exact HB.out)) hb); clear BK3001; clear BK3002; clear HB; have BK3001 := n0_; have BK3002 := n1_; have HB := n2_; clear n0_ n1_ n2_; (try clear hb); (try clear hb2); (try clear hk); (try clear hi)))
    have n0_ := Aside0.mk (blk_drew BK3001.out)
    have n1_ := Aside0.mk (blk_drew BK3002.out)
    have n2_ := Aside0.mk (below_drew1 HB.out)
    clear BK3001
    clear BK3002
    clear HB
    have BK3001 := n0_
    have BK3002 := n1_
    have HB := n2_
    clear n0_ n1_ n2_
    refine start_ (n := 6) (S := fun w' => w'.cell? ⟨gb3001, 0, none⟩ = some (.int .i64 a0_0) ∧ w'.cell? ⟨gb3001, 1, none⟩ = some (.string a0_1) ∧ w'.cell? ⟨gb3001, 2, none⟩ = some (.string a0_2) ∧ w'.cell? ⟨gb3001, 3, none⟩ = some (.int .i64 a0_3) ∧ w'.cell? ⟨gb3001, 4, none⟩ = some (.string a0_4) ∧ w'.cell? ⟨gb3001, 5, none⟩ = some (.slice A0_5 l0_5.length c0_5) ∧ w'.cell? ⟨gb3001, 6, none⟩ = some (.slice A0_6 l0_6.length c0_6) ∧ w'.cell? ⟨gb3001, 7, none⟩ = some (.int .i64 a0_7) ∧ w'.cell? ⟨gb3002, 0, none⟩ = some (.string a1_0) ∧ w'.cell? ⟨gb3002, 1, none⟩ = some (.string a1_1) ∧ w'.cell? ⟨gb3002, 2, none⟩ = some (.string a1_2)) (ds := []) #[false, false, false, false, false, false] (by kernel_rfl) rfl rfl ⟨(blk_cell BK3001.out 0).trans rfl, (blk_cell BK3001.out 1).trans rfl, (blk_cell BK3001.out 2).trans rfl, (blk_cell BK3001.out 3).trans rfl, (blk_cell BK3001.out 4).trans rfl, (blk_cell BK3001.out 5).trans rfl, (blk_cell BK3001.out 6).trans rfl, (blk_cell BK3001.out 7).trans rfl, (blk_cell BK3002.out 0).trans rfl, (blk_cell BK3002.out 1).trans rfl, (blk_cell BK3002.out 2).trans rfl⟩ (fun hHeld => ?_)
    generalize w60.drew = w61 at BK3001 BK3002 HB hHeld ⊢
    refine take_ (i := 0) (N := some 19) (v := ?_) (a' := ?_) #[true, false, false, false, false, false] rfl rfl (by kernel_rfl) (fun _ _ _ h => h) (Or.inl ⟨by rfl, ?_⟩) hHeld ?_ ?_
    rotate_left
    · rintro w' ⟨s0, s1, s2, s3, s4, s5, s6, s7, s8, s9, s10⟩
      go_simp
      first | with_reducible rfl | (rw [if_neg (by omega)]; done)
    rotate_left
    · simp only [Act.put, List.setIfInBounds_toArray, List.set_cons_zero, List.set_cons_succ, i64_w, i32_w]
      rfl
    refine take_ (i := 2) (N := some 21) (v := ?_) (a' := ?_) #[true, false, true, false, false, false] rfl rfl (by kernel_rfl) (fun _ _ _ h => h) (Or.inl ⟨by rfl, ?_⟩) hHeld ?_ ?_
    rotate_left
    · rintro w' ⟨s0, s1, s2, s3, s4, s5, s6, s7, s8, s9, s10⟩
      go_simp
      first | with_reducible rfl | (rw [if_neg (by omega)]; done)
    rotate_left
    · simp only [Act.put, List.setIfInBounds_toArray, List.set_cons_zero, List.set_cons_succ, i64_w, i32_w]
      rfl
    refine one_ (i := 1) (N := some 20) #[true, true, true, false, false, false] rfl rfl (by kernel_rfl) (by decide) (fun K hK => ?_)
    refine goes_ Try.func8 (by kernel_rfl) rfl #[.agg #[.int .i64 a0_0, .string a0_1, .string a0_2, .int .i64 a0_3, .string a0_4, .slice A0_5 l0_5.length c0_5, .slice A0_6 l0_6.length c0_6, .int .i64 a0_7]] (by rfl) rfl rfl (by (try simp only [List.map_toArray, List.map_cons, List.map_nil]); first | done | rfl | (simp only [List.length_drop, List.length_take]; rfl)) ?_
    with_reducible refine (laws_toConstraint.calls k a0_0 a0_1 a0_2 a0_3 a0_4 _ _ l0_5 _ _ l0_6 a0_7 t3005 t3006 t3007 t3008 t3009 t3010 t3013 t3016 _ ?side1 ?side2 ?side3 ?side4 A19.out).mono ?_
    (case side1 => repeat (first | exact (Kd.C_below HR0_5.out HB.out) | (with_reducible refine Kd.C_alloc ?_ _) | (with_reducible refine Kd.C_drewN ?_ _) | (with_reducible refine Kd.C_drew ?_)))
    (case side2 => exact HC0_5.out)
    (case side3 => repeat (first | exact (Kd.C_below HR0_6.out HB.out) | (with_reducible refine Kd.C_alloc ?_ _) | (with_reducible refine Kd.C_drewN ?_ _) | (with_reducible refine Kd.C_drew ?_)))
    (case side4 => exact HC0_6.out)
    rintro e w62 ⟨v3011, v3014, rfl, ho0, ho1, hb⟩
    refine ⟨_, rfl, ?_⟩
    have n0_ := Aside0.mk (Kd.R_lower ho0 (below_size (by repeat (first | (with_reducible first | exact HB.out | apply below_alloc | apply pw_below_drewN | apply below_drew1 | refine below_set ?_ (Aside0.out (by assumption))) | exact HB.out))))
    have n1_ := Aside0.mk (Kd.R_lower ho1 (below_size (by repeat (first | (with_reducible first | exact HB.out | apply below_alloc | apply pw_below_drewN | apply below_drew1 | refine below_set ?_ (Aside0.out (by assumption))) | exact HB.out))))
    have n2_ := Aside0.mk (blk_below (g := gb3001) (o := .cells #[.int .i64 a0_0, .string a0_1, .string a0_2, .int .i64 a0_3, .string a0_4, .slice A0_5 l0_5.length c0_5, .slice A0_6 l0_6.length c0_6, .int .i64 a0_7] 27 (0, 0)) (by (with_reducible repeat (first | refine blk_drewN ?_ _ | refine blk_drew ?_ | refine blk_alloc ?_ _)); exact BK3001.out) hb)
    have n3_ := Aside0.mk (blk_below (g := gb3002) (o := .cells #[.string a1_0, .string a1_1, .string a1_2] 29 (0, 0)) (by (with_reducible repeat (first | refine blk_drewN ?_ _ | refine blk_drew ?_ | refine blk_alloc ?_ _)); exact BK3002.out) hb)
    have n4_ := Aside0.mk (below_step (by repeat (first | (with_reducible first | exact HB.out | apply below_alloc | apply pw_below_drewN | apply below_drew1 | refine below_set ?_ (Aside0.out (by assumption))) | exact HB.out)) hb)
    clear BK3001
    clear BK3002
    clear HB
    have HO3012 := n0_
    have HO3015 := n1_
    have BK3001 := n2_
    have BK3002 := n3_
    have HB := n4_
    clear n0_ n1_ n2_ n3_ n4_
    (try clear hb)
    (try clear hb2)
    (try clear hk)
    (try clear hi)
    (try clear ho0)
    (try clear ho1)
    refine hK.out _ _ ⟨(blk_cell BK3001.out 0).trans rfl, (blk_cell BK3001.out 1).trans rfl, (blk_cell BK3001.out 2).trans rfl, (blk_cell BK3001.out 3).trans rfl, (blk_cell BK3001.out 4).trans rfl, (blk_cell BK3001.out 5).trans rfl, (blk_cell BK3001.out 6).trans rfl, (blk_cell BK3001.out 7).trans rfl, (blk_cell BK3002.out 0).trans rfl, (blk_cell BK3002.out 1).trans rfl, (blk_cell BK3002.out 2).trans rfl⟩ (fun hHeld => ?_)
    clear hK K
    refine norm_ (a' := ?_) ?_ ?_
    rotate_left
    · show Act.put _ (some 20) _ = _
      simp only [Act.put, List.setIfInBounds_toArray, List.set_cons_zero, List.set_cons_succ, i64_w, i32_w]
      rfl
    refine one_ (i := 3) (N := some 22) #[true, true, true, true, false, false] rfl rfl (by kernel_rfl) (by decide) (fun K hK => ?_)
    refine goes_ Try.func9 (by kernel_rfl) rfl #[.agg #[.string a1_0, .string a1_1, .string a1_2]] (by rfl) rfl rfl (by (try simp only [List.map_toArray, List.map_cons, List.map_nil]); first | done | rfl | (simp only [List.length_drop, List.length_take]; rfl)) ?_
    with_reducible refine (laws_toValues.calls a1_0 a1_1 a1_2 t3017 t3018 t3019 _ A20.out).mono ?_
    rintro e w63 ⟨rfl, hb⟩
    refine ⟨_, rfl, ?_⟩
    have n0_ := Aside0.mk (Kd.R_below (by (with_reducible repeat (first | apply Kd.R_alloc | apply Kd.R_drewN | apply Kd.R_drew)); exact HO3012.out) hb)
    have n1_ := Aside0.mk (Kd.R_below (by (with_reducible repeat (first | apply Kd.R_alloc | apply Kd.R_drewN | apply Kd.R_drew)); exact HO3015.out) hb)
    have n2_ := Aside0.mk (blk_below (g := gb3001) (o := .cells #[.int .i64 a0_0, .string a0_1, .string a0_2, .int .i64 a0_3, .string a0_4, .slice A0_5 l0_5.length c0_5, .slice A0_6 l0_6.length c0_6, .int .i64 a0_7] 27 (0, 0)) (by (with_reducible repeat (first | refine blk_drewN ?_ _ | refine blk_drew ?_ | refine blk_alloc ?_ _)); exact BK3001.out) hb)
    have n3_ := Aside0.mk (blk_below (g := gb3002) (o := .cells #[.string a1_0, .string a1_1, .string a1_2] 29 (0, 0)) (by (with_reducible repeat (first | refine blk_drewN ?_ _ | refine blk_drew ?_ | refine blk_alloc ?_ _)); exact BK3002.out) hb)
    have n4_ := Aside0.mk (below_step (by repeat (first | (with_reducible first | exact HB.out | apply below_alloc | apply pw_below_drewN | apply below_drew1 | refine below_set ?_ (Aside0.out (by assumption))) | exact HB.out)) hb)
    clear HO3012
    clear HO3015
    clear BK3001
    clear BK3002
    clear HB
    have HO3012 := n0_
    have HO3015 := n1_
    have BK3001 := n2_
    have BK3002 := n3_
    have HB := n4_
    clear n0_ n1_ n2_ n3_ n4_
    (try clear hb)
    (try clear hb2)
    (try clear hk)
    (try clear hi)
    obtain ⟨Ao64, co64, eo64⟩ := Kd.R_slice HO3012.out
    (first | subst eo64 | (injection eo64 with f1_ f2_ f3_; have f4_ := f1_.symm; have f5_ := f3_.symm; clear f1_ f2_ f3_; subst f4_; subst f5_))
    obtain ⟨Ao65, co65, eo65⟩ := Kd.R_slice HO3015.out
    (first | subst eo65 | (injection eo65 with f1_ f2_ f3_; have f4_ := f1_.symm; have f5_ := f3_.symm; clear f1_ f2_ f3_; subst f4_; subst f5_))
    refine hK.out _ _ ⟨(blk_cell BK3001.out 0).trans rfl, (blk_cell BK3001.out 1).trans rfl, (blk_cell BK3001.out 2).trans rfl, (blk_cell BK3001.out 3).trans rfl, (blk_cell BK3001.out 4).trans rfl, (blk_cell BK3001.out 5).trans rfl, (blk_cell BK3001.out 6).trans rfl, (blk_cell BK3001.out 7).trans rfl, (blk_cell BK3002.out 0).trans rfl, (blk_cell BK3002.out 1).trans rfl, (blk_cell BK3002.out 2).trans rfl⟩ (fun hHeld => ?_)
    clear hK K
    refine norm_ (a' := ?_) ?_ ?_
    rotate_left
    · show Act.put _ (some 22) _ = _
      simp only [Act.put, List.setIfInBounds_toArray, List.set_cons_zero, List.set_cons_succ, i64_w, i32_w]
      rfl
    refine one_ (i := 4) (N := some 23) #[true, true, true, true, true, false] rfl rfl (by kernel_rfl) (by decide) (fun K hK => ?_)
    refine goes_ Try.func7 (by kernel_rfl) rfl #[.agg #[.int .i64 t3005, .string t3006, .string t3007, .int .i64 t3008, .string t3009, .slice Ao64 t3010.length co64, .slice Ao65 t3013.length co65, .int .i64 t3016], .agg #[.string t3017, .string t3018, .string t3019]] (by rfl) rfl rfl (by (try simp only [List.map_toArray, List.map_cons, List.map_nil]); first | done | rfl | (simp only [List.length_drop, List.length_take]; rfl)) ?_
    with_reducible refine (spec_HoldsFor.calls k t3005 t3006 t3007 t3008 t3009 _ _ t3010 _ _ t3013 t3016 t3017 t3018 t3019 t3020 _ ?side1 ?side2 ?side3 ?side4 A21.out).mono ?_
    (case side1 => repeat (first | exact (Kd.R_reads' HO3012.out).2.2 | (with_reducible refine Kd.C_alloc ?_ _) | (with_reducible refine Kd.C_drewN ?_ _) | (with_reducible refine Kd.C_drew ?_)))
    (case side2 => exact (Kd.R_reads' HO3012.out).2.1)
    (case side3 => repeat (first | exact (Kd.R_reads' HO3015.out).2.2 | (with_reducible refine Kd.C_alloc ?_ _) | (with_reducible refine Kd.C_drewN ?_ _) | (with_reducible refine Kd.C_drew ?_)))
    (case side4 => exact (Kd.R_reads' HO3015.out).2.1)
    rintro e w66 ⟨rfl, hb⟩
    refine ⟨_, rfl, ?_⟩
    have n0_ := Aside0.mk (Kd.R_below (by (with_reducible repeat (first | apply Kd.R_alloc | apply Kd.R_drewN | apply Kd.R_drew)); exact HO3012.out) hb)
    have n1_ := Aside0.mk (Kd.R_below (by (with_reducible repeat (first | apply Kd.R_alloc | apply Kd.R_drewN | apply Kd.R_drew)); exact HO3015.out) hb)
    have n2_ := Aside0.mk (blk_below (g := gb3001) (o := .cells #[.int .i64 a0_0, .string a0_1, .string a0_2, .int .i64 a0_3, .string a0_4, .slice A0_5 l0_5.length c0_5, .slice A0_6 l0_6.length c0_6, .int .i64 a0_7] 27 (0, 0)) (by (with_reducible repeat (first | refine blk_drewN ?_ _ | refine blk_drew ?_ | refine blk_alloc ?_ _)); exact BK3001.out) hb)
    have n3_ := Aside0.mk (blk_below (g := gb3002) (o := .cells #[.string a1_0, .string a1_1, .string a1_2] 29 (0, 0)) (by (with_reducible repeat (first | refine blk_drewN ?_ _ | refine blk_drew ?_ | refine blk_alloc ?_ _)); exact BK3002.out) hb)
    have n4_ := Aside0.mk (below_step (by repeat (first | (with_reducible first | exact HB.out | apply below_alloc | apply pw_below_drewN | apply below_drew1 | refine below_set ?_ (Aside0.out (by assumption))) | exact HB.out)) hb)
    clear HO3012
    clear HO3015
    clear BK3001
    clear BK3002
    clear HB
    have HO3012 := n0_
    have HO3015 := n1_
    have BK3001 := n2_
    have BK3002 := n3_
    have HB := n4_
    clear n0_ n1_ n2_ n3_ n4_
    (try clear hb)
    (try clear hb2)
    (try clear hk)
    (try clear hi)
    refine hK.out _ _ ⟨(blk_cell BK3001.out 0).trans rfl, (blk_cell BK3001.out 1).trans rfl, (blk_cell BK3001.out 2).trans rfl, (blk_cell BK3001.out 3).trans rfl, (blk_cell BK3001.out 4).trans rfl, (blk_cell BK3001.out 5).trans rfl, (blk_cell BK3001.out 6).trans rfl, (blk_cell BK3001.out 7).trans rfl, (blk_cell BK3002.out 0).trans rfl, (blk_cell BK3002.out 1).trans rfl, (blk_cell BK3002.out 2).trans rfl⟩ (fun hHeld => ?_)
    clear hK K
    refine norm_ (a' := ?_) ?_ ?_
    rotate_left
    · show Act.put _ (some 23) _ = _
      simp only [Act.put, List.setIfInBounds_toArray, List.set_cons_zero, List.set_cons_succ, i64_w, i32_w]
      rfl
    refine pure_ (i := 5) (N := some 6) (v := ?_) (a' := ?_) #[true, true, true, true, true, true] rfl rfl (by kernel_rfl) (fun _ _ _ h => h) (Or.inl ⟨by rfl, ?_⟩) ?_ ?_
    rotate_left
    · intro w'
      go_simp
      first | with_reducible rfl | (rw [if_neg (by omega)]; done)
    rotate_left
    · simp only [Act.put, List.setIfInBounds_toArray, List.set_cons_zero, List.set_cons_succ, i64_w, i32_w]
      rfl
    refine done_ (by kernel_rfl) ?_
    obtain ⟨hcz67_0, hcz67_1, hcz67_2, hcz67_3, hcz67_4, hcz67_5, hcz67_6, hcz67_7, hfz67_0, hfz67_1, hfz67_2, hfz67_3, hfz67_4, hfz67_5, hfz67_6, hfz67_7⟩ := blk8 BK3001.out
    try go_wp2_with (first | ((with_reducible refine gate_callee (f := 8) rfl ?_); refine goesL_ (some 25) rfl rfl Try.func8 (by kernel_rfl) rfl #[.agg #[.int .i64 a0_0, .string a0_1, .string a0_2, .int .i64 a0_3, .string a0_4, .slice A0_5 l0_5.length c0_5, .slice A0_6 l0_6.length c0_6, .int .i64 a0_7]] rfl (by (try simp only [List.map_toArray, List.map_cons, List.map_nil]); first | done | rfl | (simp only [List.length_drop, List.length_take]; rfl)) ?_; (with_reducible refine (laws_toConstraint.calls k a0_0 a0_1 a0_2 a0_3 a0_4 _ _ l0_5 _ _ l0_6 a0_7 t3021 t3022 t3023 t3024 t3025 t3026 t3029 t3032 _ ?side1 ?side2 ?side3 ?side4 A22.out).mono ?_); (case side1 => repeat (first | exact (Kd.C_below HR0_5.out HB.out) | (with_reducible refine Kd.C_alloc ?_ _) | (with_reducible refine Kd.C_drewN ?_ _) | (with_reducible refine Kd.C_drew ?_))); (case side2 => exact HC0_5.out); (case side3 => repeat (first | exact (Kd.C_below HR0_6.out HB.out) | (with_reducible refine Kd.C_alloc ?_ _) | (with_reducible refine Kd.C_drewN ?_ _) | (with_reducible refine Kd.C_drew ?_))); (case side4 => exact HC0_6.out); rintro e w68 ⟨v3027, v3030, rfl, ho0, ho1, hb⟩; refine ⟨_, rfl, ?_⟩; have n0_ := Aside0.mk (Kd.R_elder' (by (with_reducible repeat (first | apply Kd.R_alloc | apply Kd.R_drewN | apply Kd.R_drew)); exact HO3012.out) (Kd.R_base ho0) hb); have n1_ := Aside0.mk (Kd.R_elder' (by (with_reducible repeat (first | apply Kd.R_alloc | apply Kd.R_drewN | apply Kd.R_drew)); exact HO3015.out) (Kd.R_base ho1) hb); have n2_ := Aside0.mk (Kd.R_lower (Kd.R_new' ho0 (Kd.R_lt (by (with_reducible repeat (first | apply Kd.R_alloc | apply Kd.R_drewN | apply Kd.R_drew)); exact HO3012.out))) (below_size (by repeat (first | (with_reducible first | exact HB.out | apply below_alloc | apply pw_below_drewN | apply below_drew1 | refine below_set ?_ (Aside0.out (by assumption))) | exact HB.out)))); have n3_ := Aside0.mk (Kd.R_lower (Kd.R_new' ho1 (Kd.R_lt (by (with_reducible repeat (first | apply Kd.R_alloc | apply Kd.R_drewN | apply Kd.R_drew)); exact HO3015.out))) (below_size (by repeat (first | (with_reducible first | exact HB.out | apply below_alloc | apply pw_below_drewN | apply below_drew1 | refine below_set ?_ (Aside0.out (by assumption))) | exact HB.out)))); have n4_ := Aside0.mk (blk_below (g := gb3001) (o := .cells #[.int .i64 a0_0, .string a0_1, .string a0_2, .int .i64 a0_3, .string a0_4, .slice A0_5 l0_5.length c0_5, .slice A0_6 l0_6.length c0_6, .int .i64 a0_7] 27 (0, 0)) (by (with_reducible repeat (first | refine blk_drewN ?_ _ | refine blk_drew ?_ | refine blk_alloc ?_ _)); exact BK3001.out) hb); have n5_ := Aside0.mk (blk_below (g := gb3002) (o := .cells #[.string a1_0, .string a1_1, .string a1_2] 29 (0, 0)) (by (with_reducible repeat (first | refine blk_drewN ?_ _ | refine blk_drew ?_ | refine blk_alloc ?_ _)); exact BK3002.out) hb); have n6_ := Aside0.mk (below_step (by repeat (first | (with_reducible first | exact HB.out | apply below_alloc | apply pw_below_drewN | apply below_drew1 | refine below_set ?_ (Aside0.out (by assumption))) | exact HB.out)) hb); clear HO3012; clear HO3015; clear BK3001; clear BK3002; clear HB; have HO3012 := n0_; have HO3015 := n1_; have HO3028 := n2_; have HO3031 := n3_; have BK3001 := n4_; have BK3002 := n5_; have HB := n6_; clear n0_ n1_ n2_ n3_ n4_ n5_ n6_; (try clear hb); (try clear hb2); (try clear hk); (try clear hi); (try clear ho0); (try clear ho1)) | ((with_reducible refine gate_dst (N := 7) rfl ?_); refine box_event ?hg (N := 7) ?hd (cs := #[.int .i64 0, .string (⟨#[]⟩ : ByteArray), .string (⟨#[]⟩ : ByteArray), .int .i64 0, .string (⟨#[]⟩ : ByteArray), .slice none 0 0, .slice none 0 0, .int .i64 0]) (t := 37) ?hr ?_; (case hd => rfl); (case hg => rfl); (case hr => first | (go_simp; done) | (go_simp; rfl)); intro gb3033 hg w69 hbox hb; have n0_ := Aside0.mk (Kd.R_below (by (with_reducible repeat (first | apply Kd.R_alloc | apply Kd.R_drewN | apply Kd.R_drew)); exact HO3012.out) hb); have n1_ := Aside0.mk (Kd.R_below (by (with_reducible repeat (first | apply Kd.R_alloc | apply Kd.R_drewN | apply Kd.R_drew)); exact HO3015.out) hb); have n2_ := Aside0.mk (Kd.R_below (by (with_reducible repeat (first | apply Kd.R_alloc | apply Kd.R_drewN | apply Kd.R_drew)); exact HO3028.out) hb); have n3_ := Aside0.mk (Kd.R_below (by (with_reducible repeat (first | apply Kd.R_alloc | apply Kd.R_drewN | apply Kd.R_drew)); exact HO3031.out) hb); have n4_ := Aside0.mk (blk_below (g := gb3001) (o := .cells #[.int .i64 a0_0, .string a0_1, .string a0_2, .int .i64 a0_3, .string a0_4, .slice A0_5 l0_5.length c0_5, .slice A0_6 l0_6.length c0_6, .int .i64 a0_7] 27 (0, 0)) (by (with_reducible repeat (first | refine blk_drewN ?_ _ | refine blk_drew ?_ | refine blk_alloc ?_ _)); exact BK3001.out) hb); have n5_ := Aside0.mk (blk_below (g := gb3002) (o := .cells #[.string a1_0, .string a1_1, .string a1_2] 29 (0, 0)) (by (with_reducible repeat (first | refine blk_drewN ?_ _ | refine blk_drew ?_ | refine blk_alloc ?_ _)); exact BK3002.out) hb); have n6_ := Aside0.mk (below_step (by repeat (first | (with_reducible first | exact HB.out | apply below_alloc | apply pw_below_drewN | apply below_drew1 | refine below_set ?_ (Aside0.out (by assumption))) | exact HB.out)) hb); have n7_ := Aside0.mk (hbox); have n8_ := Aside0.mk ((by rw [hg]; exact (below_size (by repeat (first | (with_reducible first | exact HB.out | apply below_alloc | apply pw_below_drewN | apply below_drew1 | refine below_set ?_ (Aside0.out (by assumption))) | exact HB.out))) : w.heap.size ≤ gb3033)); have n9_ := Aside0.mk ((by rw [hg]; exact (below_size (by repeat (first | (with_reducible first | exact HB.out | apply below_alloc | apply pw_below_drewN | apply below_drew1 | refine below_set ?_ (Aside0.out (by assumption))) | exact HB.out))) : w.heap.size ≤ gb3033)); have n10_ := Aside0.mk ((by rw [hg]; exact Nat.ne_of_lt (blk_lt (g := gb3001) (o := .cells #[.int .i64 a0_0, .string a0_1, .string a0_2, .int .i64 a0_3, .string a0_4, .slice A0_5 l0_5.length c0_5, .slice A0_6 l0_6.length c0_6, .int .i64 a0_7] 27 (0, 0)) (by (with_reducible repeat (first | refine blk_drewN ?_ _ | refine blk_drew ?_ | refine blk_alloc ?_ _)); exact BK3001.out)) : gb3001 ≠ gb3033)); have n11_ := Aside0.mk ((by rw [hg]; exact Nat.ne_of_gt (blk_lt (g := gb3001) (o := .cells #[.int .i64 a0_0, .string a0_1, .string a0_2, .int .i64 a0_3, .string a0_4, .slice A0_5 l0_5.length c0_5, .slice A0_6 l0_6.length c0_6, .int .i64 a0_7] 27 (0, 0)) (by (with_reducible repeat (first | refine blk_drewN ?_ _ | refine blk_drew ?_ | refine blk_alloc ?_ _)); exact BK3001.out)) : gb3033 ≠ gb3001)); have n12_ := Aside0.mk ((by rw [hg]; exact Nat.ne_of_lt (blk_lt (g := gb3002) (o := .cells #[.string a1_0, .string a1_1, .string a1_2] 29 (0, 0)) (by (with_reducible repeat (first | refine blk_drewN ?_ _ | refine blk_drew ?_ | refine blk_alloc ?_ _)); exact BK3002.out)) : gb3002 ≠ gb3033)); have n13_ := Aside0.mk ((by rw [hg]; exact Nat.ne_of_gt (blk_lt (g := gb3002) (o := .cells #[.string a1_0, .string a1_1, .string a1_2] 29 (0, 0)) (by (with_reducible repeat (first | refine blk_drewN ?_ _ | refine blk_drew ?_ | refine blk_alloc ?_ _)); exact BK3002.out)) : gb3033 ≠ gb3002)); clear HO3012; clear HO3015; clear HO3028; clear HO3031; clear BK3001; clear BK3002; clear HB; have HO3012 := n0_; have HO3015 := n1_; have HO3028 := n2_; have HO3031 := n3_; have BK3001 := n4_; have BK3002 := n5_; have HB := n6_; have BK3033 := n7_; have GW3033 := n8_; have GE3033 := n9_; have NB3001_3033 := n10_; have NB3033_3001 := n11_; have NB3002_3033 := n12_; have NB3033_3002 := n13_; clear n0_ n1_ n2_ n3_ n4_ n5_ n6_ n7_ n8_ n9_ n10_ n11_ n12_ n13_; clear hb hbox hg; have hnb70 := NB3033_3001.out; have hnc70 := NB3001_3033.out; have hnb71 := NB3033_3002.out; have hnc71 := NB3002_3033.out; obtain ⟨hcz72_0, hcz72_1, hcz72_2, hcz72_3, hcz72_4, hcz72_5, hcz72_6, hcz72_7, hfz72_0, hfz72_1, hfz72_2, hfz72_3, hfz72_4, hfz72_5, hfz72_6, hfz72_7⟩ := blk8 BK3033.out; obtain ⟨Ao73, co73, eo73⟩ := Kd.R_slice HO3028.out; subst eo73; obtain ⟨Ao74, co74, eo74⟩ := Kd.R_slice HO3031.out; subst eo74))
    have n0_ : Aside0 (Kd.R k35 35 ((((((((w69.setCell ⟨gb3033, 0, none⟩ (.int .i64 t3021)).setCell ⟨gb3033, 1, none⟩ (.string t3022)).setCell ⟨gb3033, 2, none⟩ (.string t3023)).setCell ⟨gb3033, 3, none⟩ (.int .i64 t3024)).setCell ⟨gb3033, 4, none⟩ (.string t3025)).setCell ⟨gb3033, 5, none⟩ (.slice Ao73 t3026.length co73)).setCell ⟨gb3033, 6, none⟩ (.slice Ao74 t3029.length co74)).setCell ⟨gb3033, 7, none⟩ (.int .i64 t3032)) w.heap.size (fun k_ => some k_ ≠ (.slice Ao73 t3026.length co73 : Value).ownBlock) (.slice Ao64 t3010.length co64) t3010) := ⟨by (with_reducible repeat (first | apply Kd.R_alloc | apply Kd.R_drewN | apply Kd.R_drew)); exact Kd.R_mono (Kd.R_far (p := ⟨gb3033, 7, none⟩) (Kd.R_far (p := ⟨gb3033, 6, none⟩) (Kd.R_far (p := ⟨gb3033, 5, none⟩) (Kd.R_far (p := ⟨gb3033, 4, none⟩) (Kd.R_far (p := ⟨gb3033, 3, none⟩) (Kd.R_far (p := ⟨gb3033, 2, none⟩) (Kd.R_far (p := ⟨gb3033, 1, none⟩) (Kd.R_far (p := ⟨gb3033, 0, none⟩) (Kd.R_types HO3012.out BK3033.out (by decide)) (fun _ hk => hk.2) (.int .i64 t3021)) (fun _ hk => hk.2) (.string t3022)) (fun _ hk => hk.2) (.string t3023)) (fun _ hk => hk.2) (.int .i64 t3024)) (fun _ hk => hk.2) (.string t3025)) (fun _ hk => hk.2) (.slice Ao73 t3026.length co73)) (fun _ hk => hk.2) (.slice Ao74 t3029.length co74)) (fun _ hk => hk.2) (.int .i64 t3032)) (fun _ hk => hk.1.2)⟩
    have n1_ : Aside0 (Kd.R (Kd.int .i64) 3 ((((((((w69.setCell ⟨gb3033, 0, none⟩ (.int .i64 t3021)).setCell ⟨gb3033, 1, none⟩ (.string t3022)).setCell ⟨gb3033, 2, none⟩ (.string t3023)).setCell ⟨gb3033, 3, none⟩ (.int .i64 t3024)).setCell ⟨gb3033, 4, none⟩ (.string t3025)).setCell ⟨gb3033, 5, none⟩ (.slice Ao73 t3026.length co73)).setCell ⟨gb3033, 6, none⟩ (.slice Ao74 t3029.length co74)).setCell ⟨gb3033, 7, none⟩ (.int .i64 t3032)) w.heap.size (fun k_ => some k_ ≠ (.slice Ao74 t3029.length co74 : Value).ownBlock) (.slice Ao65 t3013.length co65) t3013) := ⟨by (with_reducible repeat (first | apply Kd.R_alloc | apply Kd.R_drewN | apply Kd.R_drew)); exact Kd.R_mono (Kd.R_far (p := ⟨gb3033, 7, none⟩) (Kd.R_far (p := ⟨gb3033, 6, none⟩) (Kd.R_far (p := ⟨gb3033, 5, none⟩) (Kd.R_far (p := ⟨gb3033, 4, none⟩) (Kd.R_far (p := ⟨gb3033, 3, none⟩) (Kd.R_far (p := ⟨gb3033, 2, none⟩) (Kd.R_far (p := ⟨gb3033, 1, none⟩) (Kd.R_far (p := ⟨gb3033, 0, none⟩) (Kd.R_types HO3015.out BK3033.out (by decide)) (fun _ hk => hk.2) (.int .i64 t3021)) (fun _ hk => hk.2) (.string t3022)) (fun _ hk => hk.2) (.string t3023)) (fun _ hk => hk.2) (.int .i64 t3024)) (fun _ hk => hk.2) (.string t3025)) (fun _ hk => hk.2) (.slice Ao73 t3026.length co73)) (fun _ hk => hk.2) (.slice Ao74 t3029.length co74)) (fun _ hk => hk.2) (.int .i64 t3032)) (fun _ hk => hk.1.2)⟩
    have n2_ : Aside0 (Kd.R k35 35 ((((((((w69.setCell ⟨gb3033, 0, none⟩ (.int .i64 t3021)).setCell ⟨gb3033, 1, none⟩ (.string t3022)).setCell ⟨gb3033, 2, none⟩ (.string t3023)).setCell ⟨gb3033, 3, none⟩ (.int .i64 t3024)).setCell ⟨gb3033, 4, none⟩ (.string t3025)).setCell ⟨gb3033, 5, none⟩ (.slice Ao73 t3026.length co73)).setCell ⟨gb3033, 6, none⟩ (.slice Ao74 t3029.length co74)).setCell ⟨gb3033, 7, none⟩ (.int .i64 t3032)) w.heap.size (fun k_ => some k_ ≠ (.slice Ao64 t3010.length co64 : Value).ownBlock) (.slice Ao73 t3026.length co73) t3026) := ⟨by (with_reducible repeat (first | apply Kd.R_alloc | apply Kd.R_drewN | apply Kd.R_drew)); exact Kd.R_mono (Kd.R_far (p := ⟨gb3033, 7, none⟩) (Kd.R_far (p := ⟨gb3033, 6, none⟩) (Kd.R_far (p := ⟨gb3033, 5, none⟩) (Kd.R_far (p := ⟨gb3033, 4, none⟩) (Kd.R_far (p := ⟨gb3033, 3, none⟩) (Kd.R_far (p := ⟨gb3033, 2, none⟩) (Kd.R_far (p := ⟨gb3033, 1, none⟩) (Kd.R_far (p := ⟨gb3033, 0, none⟩) (Kd.R_types HO3028.out BK3033.out (by decide)) (fun _ hk => hk.2) (.int .i64 t3021)) (fun _ hk => hk.2) (.string t3022)) (fun _ hk => hk.2) (.string t3023)) (fun _ hk => hk.2) (.int .i64 t3024)) (fun _ hk => hk.2) (.string t3025)) (fun _ hk => hk.2) (.slice Ao73 t3026.length co73)) (fun _ hk => hk.2) (.slice Ao74 t3029.length co74)) (fun _ hk => hk.2) (.int .i64 t3032)) (fun _ hk => hk.1.2)⟩
    have n3_ : Aside0 (Kd.R (Kd.int .i64) 3 ((((((((w69.setCell ⟨gb3033, 0, none⟩ (.int .i64 t3021)).setCell ⟨gb3033, 1, none⟩ (.string t3022)).setCell ⟨gb3033, 2, none⟩ (.string t3023)).setCell ⟨gb3033, 3, none⟩ (.int .i64 t3024)).setCell ⟨gb3033, 4, none⟩ (.string t3025)).setCell ⟨gb3033, 5, none⟩ (.slice Ao73 t3026.length co73)).setCell ⟨gb3033, 6, none⟩ (.slice Ao74 t3029.length co74)).setCell ⟨gb3033, 7, none⟩ (.int .i64 t3032)) w.heap.size (fun k_ => some k_ ≠ (.slice Ao65 t3013.length co65 : Value).ownBlock) (.slice Ao74 t3029.length co74) t3029) := ⟨by (with_reducible repeat (first | apply Kd.R_alloc | apply Kd.R_drewN | apply Kd.R_drew)); exact Kd.R_mono (Kd.R_far (p := ⟨gb3033, 7, none⟩) (Kd.R_far (p := ⟨gb3033, 6, none⟩) (Kd.R_far (p := ⟨gb3033, 5, none⟩) (Kd.R_far (p := ⟨gb3033, 4, none⟩) (Kd.R_far (p := ⟨gb3033, 3, none⟩) (Kd.R_far (p := ⟨gb3033, 2, none⟩) (Kd.R_far (p := ⟨gb3033, 1, none⟩) (Kd.R_far (p := ⟨gb3033, 0, none⟩) (Kd.R_types HO3031.out BK3033.out (by decide)) (fun _ hk => hk.2) (.int .i64 t3021)) (fun _ hk => hk.2) (.string t3022)) (fun _ hk => hk.2) (.string t3023)) (fun _ hk => hk.2) (.int .i64 t3024)) (fun _ hk => hk.2) (.string t3025)) (fun _ hk => hk.2) (.slice Ao73 t3026.length co73)) (fun _ hk => hk.2) (.slice Ao74 t3029.length co74)) (fun _ hk => hk.2) (.int .i64 t3032)) (fun _ hk => hk.1.2)⟩
    have n4_ : Aside0 (((((((((w69.setCell ⟨gb3033, 0, none⟩ (.int .i64 t3021)).setCell ⟨gb3033, 1, none⟩ (.string t3022)).setCell ⟨gb3033, 2, none⟩ (.string t3023)).setCell ⟨gb3033, 3, none⟩ (.int .i64 t3024)).setCell ⟨gb3033, 4, none⟩ (.string t3025)).setCell ⟨gb3033, 5, none⟩ (.slice Ao73 t3026.length co73)).setCell ⟨gb3033, 6, none⟩ (.slice Ao74 t3029.length co74)).setCell ⟨gb3033, 7, none⟩ (.int .i64 t3032)).heap[gb3001]? = some (.cells #[.int .i64 a0_0, .string a0_1, .string a0_2, .int .i64 a0_3, .string a0_4, .slice A0_5 l0_5.length c0_5, .slice A0_6 l0_6.length c0_6, .int .i64 a0_7] 27 (0, 0))) := ⟨by (with_reducible repeat (first | refine blk_drewN ?_ _ | refine blk_drew ?_ | refine blk_alloc ?_ _)); refine blk_far ?_ NB3001_3033.out _; (with_reducible repeat (first | refine blk_drewN ?_ _ | refine blk_drew ?_ | refine blk_alloc ?_ _)); refine blk_far ?_ NB3001_3033.out _; (with_reducible repeat (first | refine blk_drewN ?_ _ | refine blk_drew ?_ | refine blk_alloc ?_ _)); refine blk_far ?_ NB3001_3033.out _; (with_reducible repeat (first | refine blk_drewN ?_ _ | refine blk_drew ?_ | refine blk_alloc ?_ _)); refine blk_far ?_ NB3001_3033.out _; (with_reducible repeat (first | refine blk_drewN ?_ _ | refine blk_drew ?_ | refine blk_alloc ?_ _)); refine blk_far ?_ NB3001_3033.out _; (with_reducible repeat (first | refine blk_drewN ?_ _ | refine blk_drew ?_ | refine blk_alloc ?_ _)); refine blk_far ?_ NB3001_3033.out _; (with_reducible repeat (first | refine blk_drewN ?_ _ | refine blk_drew ?_ | refine blk_alloc ?_ _)); refine blk_far ?_ NB3001_3033.out _; (with_reducible repeat (first | refine blk_drewN ?_ _ | refine blk_drew ?_ | refine blk_alloc ?_ _)); refine blk_far ?_ NB3001_3033.out _; (with_reducible repeat (first | refine blk_drewN ?_ _ | refine blk_drew ?_ | refine blk_alloc ?_ _)); exact BK3001.out⟩
    have n5_ : Aside0 (((((((((w69.setCell ⟨gb3033, 0, none⟩ (.int .i64 t3021)).setCell ⟨gb3033, 1, none⟩ (.string t3022)).setCell ⟨gb3033, 2, none⟩ (.string t3023)).setCell ⟨gb3033, 3, none⟩ (.int .i64 t3024)).setCell ⟨gb3033, 4, none⟩ (.string t3025)).setCell ⟨gb3033, 5, none⟩ (.slice Ao73 t3026.length co73)).setCell ⟨gb3033, 6, none⟩ (.slice Ao74 t3029.length co74)).setCell ⟨gb3033, 7, none⟩ (.int .i64 t3032)).heap[gb3002]? = some (.cells #[.string a1_0, .string a1_1, .string a1_2] 29 (0, 0))) := ⟨by (with_reducible repeat (first | refine blk_drewN ?_ _ | refine blk_drew ?_ | refine blk_alloc ?_ _)); refine blk_far ?_ NB3002_3033.out _; (with_reducible repeat (first | refine blk_drewN ?_ _ | refine blk_drew ?_ | refine blk_alloc ?_ _)); refine blk_far ?_ NB3002_3033.out _; (with_reducible repeat (first | refine blk_drewN ?_ _ | refine blk_drew ?_ | refine blk_alloc ?_ _)); refine blk_far ?_ NB3002_3033.out _; (with_reducible repeat (first | refine blk_drewN ?_ _ | refine blk_drew ?_ | refine blk_alloc ?_ _)); refine blk_far ?_ NB3002_3033.out _; (with_reducible repeat (first | refine blk_drewN ?_ _ | refine blk_drew ?_ | refine blk_alloc ?_ _)); refine blk_far ?_ NB3002_3033.out _; (with_reducible repeat (first | refine blk_drewN ?_ _ | refine blk_drew ?_ | refine blk_alloc ?_ _)); refine blk_far ?_ NB3002_3033.out _; (with_reducible repeat (first | refine blk_drewN ?_ _ | refine blk_drew ?_ | refine blk_alloc ?_ _)); refine blk_far ?_ NB3002_3033.out _; (with_reducible repeat (first | refine blk_drewN ?_ _ | refine blk_drew ?_ | refine blk_alloc ?_ _)); refine blk_far ?_ NB3002_3033.out _; (with_reducible repeat (first | refine blk_drewN ?_ _ | refine blk_drew ?_ | refine blk_alloc ?_ _)); exact BK3002.out⟩
    have n6_ : Aside0 (((((((((w69.setCell ⟨gb3033, 0, none⟩ (.int .i64 t3021)).setCell ⟨gb3033, 1, none⟩ (.string t3022)).setCell ⟨gb3033, 2, none⟩ (.string t3023)).setCell ⟨gb3033, 3, none⟩ (.int .i64 t3024)).setCell ⟨gb3033, 4, none⟩ (.string t3025)).setCell ⟨gb3033, 5, none⟩ (.slice Ao73 t3026.length co73)).setCell ⟨gb3033, 6, none⟩ (.slice Ao74 t3029.length co74)).setCell ⟨gb3033, 7, none⟩ (.int .i64 t3032)).heap[gb3033]? = some (.cells #[.int .i64 t3021, .string t3022, .string t3023, .int .i64 t3024, .string t3025, .slice Ao73 t3026.length co73, .slice Ao74 t3029.length co74, .int .i64 t3032] 37 (0, 0))) := ⟨by (with_reducible repeat (first | refine blk_drewN ?_ _ | refine blk_drew ?_ | refine blk_alloc ?_ _)); refine blk_put (cs := #[.int .i64 t3021, .string t3022, .string t3023, .int .i64 t3024, .string t3025, .slice Ao73 t3026.length co73, .slice Ao74 t3029.length co74, .int .i64 0]) ?_ 7 _ rfl; (with_reducible repeat (first | refine blk_drewN ?_ _ | refine blk_drew ?_ | refine blk_alloc ?_ _)); refine blk_put (cs := #[.int .i64 t3021, .string t3022, .string t3023, .int .i64 t3024, .string t3025, .slice Ao73 t3026.length co73, .slice none 0 0, .int .i64 0]) ?_ 6 _ rfl; (with_reducible repeat (first | refine blk_drewN ?_ _ | refine blk_drew ?_ | refine blk_alloc ?_ _)); refine blk_put (cs := #[.int .i64 t3021, .string t3022, .string t3023, .int .i64 t3024, .string t3025, .slice none 0 0, .slice none 0 0, .int .i64 0]) ?_ 5 _ rfl; (with_reducible repeat (first | refine blk_drewN ?_ _ | refine blk_drew ?_ | refine blk_alloc ?_ _)); refine blk_put (cs := #[.int .i64 t3021, .string t3022, .string t3023, .int .i64 t3024, .string (⟨#[]⟩ : ByteArray), .slice none 0 0, .slice none 0 0, .int .i64 0]) ?_ 4 _ rfl; (with_reducible repeat (first | refine blk_drewN ?_ _ | refine blk_drew ?_ | refine blk_alloc ?_ _)); refine blk_put (cs := #[.int .i64 t3021, .string t3022, .string t3023, .int .i64 0, .string (⟨#[]⟩ : ByteArray), .slice none 0 0, .slice none 0 0, .int .i64 0]) ?_ 3 _ rfl; (with_reducible repeat (first | refine blk_drewN ?_ _ | refine blk_drew ?_ | refine blk_alloc ?_ _)); refine blk_put (cs := #[.int .i64 t3021, .string t3022, .string (⟨#[]⟩ : ByteArray), .int .i64 0, .string (⟨#[]⟩ : ByteArray), .slice none 0 0, .slice none 0 0, .int .i64 0]) ?_ 2 _ rfl; (with_reducible repeat (first | refine blk_drewN ?_ _ | refine blk_drew ?_ | refine blk_alloc ?_ _)); refine blk_put (cs := #[.int .i64 t3021, .string (⟨#[]⟩ : ByteArray), .string (⟨#[]⟩ : ByteArray), .int .i64 0, .string (⟨#[]⟩ : ByteArray), .slice none 0 0, .slice none 0 0, .int .i64 0]) ?_ 1 _ rfl; (with_reducible repeat (first | refine blk_drewN ?_ _ | refine blk_drew ?_ | refine blk_alloc ?_ _)); refine blk_put (cs := #[.int .i64 0, .string (⟨#[]⟩ : ByteArray), .string (⟨#[]⟩ : ByteArray), .int .i64 0, .string (⟨#[]⟩ : ByteArray), .slice none 0 0, .slice none 0 0, .int .i64 0]) ?_ 0 _ rfl; (with_reducible repeat (first | refine blk_drewN ?_ _ | refine blk_drew ?_ | refine blk_alloc ?_ _)); exact BK3033.out⟩
    have n7_ : Aside0 (Below w.heap.size w ((((((((w69.setCell ⟨gb3033, 0, none⟩ (.int .i64 t3021)).setCell ⟨gb3033, 1, none⟩ (.string t3022)).setCell ⟨gb3033, 2, none⟩ (.string t3023)).setCell ⟨gb3033, 3, none⟩ (.int .i64 t3024)).setCell ⟨gb3033, 4, none⟩ (.string t3025)).setCell ⟨gb3033, 5, none⟩ (.slice Ao73 t3026.length co73)).setCell ⟨gb3033, 6, none⟩ (.slice Ao74 t3029.length co74)).setCell ⟨gb3033, 7, none⟩ (.int .i64 t3032))) := ⟨by repeat (first | (with_reducible first | exact HB.out | apply below_alloc | apply pw_below_drewN | apply below_drew1 | refine below_set ?_ (Aside0.out (by assumption))) | exact HB.out)⟩
    (try clear HO3012)
    (try clear HO3015)
    (try clear HO3028)
    (try clear HO3031)
    (try clear BK3001)
    (try clear BK3002)
    (try clear BK3033)
    (try clear HB)
    generalize ((((((((w69.setCell ⟨gb3033, 0, none⟩ (.int .i64 t3021)).setCell ⟨gb3033, 1, none⟩ (.string t3022)).setCell ⟨gb3033, 2, none⟩ (.string t3023)).setCell ⟨gb3033, 3, none⟩ (.int .i64 t3024)).setCell ⟨gb3033, 4, none⟩ (.string t3025)).setCell ⟨gb3033, 5, none⟩ (.slice Ao73 t3026.length co73)).setCell ⟨gb3033, 6, none⟩ (.slice Ao74 t3029.length co74)).setCell ⟨gb3033, 7, none⟩ (.int .i64 t3032)) = w75 at n0_ n1_ n2_ n3_ n4_ n5_ n6_ n7_ ⊢
    have HO3012 := n0_
    have HO3015 := n1_
    have HO3028 := n2_
    have HO3031 := n3_
    have BK3001 := n4_
    have BK3002 := n5_
    have BK3033 := n6_
    have HB := n7_
    clear n0_ n1_ n2_ n3_ n4_ n5_ n6_ n7_
    have n0_ := Aside0.mk (Kd.R_drew HO3012.out)
    have n1_ := Aside0.mk (Kd.R_drew HO3015.out)
    have n2_ := Aside0.mk (Kd.R_drew HO3028.out)
    have n3_ := Aside0.mk (Kd.R_drew HO3031.out)
    have n4_ := Aside0.mk (blk_drew BK3001.out)
    have n5_ := Aside0.mk (blk_drew BK3002.out)
    have n6_ := Aside0.mk (blk_drew BK3033.out)
    have n7_ := Aside0.mk (below_drew1 HB.out)
    clear HO3012
    clear HO3015
    clear HO3028
    clear HO3031
    clear BK3001
    clear BK3002
    clear BK3033
    clear HB
    have HO3012 := n0_
    have HO3015 := n1_
    have HO3028 := n2_
    have HO3031 := n3_
    have BK3001 := n4_
    have BK3002 := n5_
    have BK3033 := n6_
    have HB := n7_
    clear n0_ n1_ n2_ n3_ n4_ n5_ n6_ n7_
    refine start_ (n := 5) (S := fun w' => w'.cell? ⟨gb3033, 0, none⟩ = some (.int .i64 t3021) ∧ w'.cell? ⟨gb3033, 1, none⟩ = some (.string t3022) ∧ w'.cell? ⟨gb3033, 2, none⟩ = some (.string t3023) ∧ w'.cell? ⟨gb3033, 3, none⟩ = some (.int .i64 t3024) ∧ w'.cell? ⟨gb3033, 4, none⟩ = some (.string t3025) ∧ w'.cell? ⟨gb3033, 5, none⟩ = some (.slice Ao73 t3026.length co73) ∧ w'.cell? ⟨gb3033, 6, none⟩ = some (.slice Ao74 t3029.length co74) ∧ w'.cell? ⟨gb3033, 7, none⟩ = some (.int .i64 t3032) ∧ w'.cell? ⟨gb3002, 0, none⟩ = some (.string a1_0) ∧ w'.cell? ⟨gb3002, 1, none⟩ = some (.string a1_1) ∧ w'.cell? ⟨gb3002, 2, none⟩ = some (.string a1_2)) (ds := []) #[false, false, false, false, false] (by kernel_rfl) rfl rfl ⟨(blk_cell BK3033.out 0).trans rfl, (blk_cell BK3033.out 1).trans rfl, (blk_cell BK3033.out 2).trans rfl, (blk_cell BK3033.out 3).trans rfl, (blk_cell BK3033.out 4).trans rfl, (blk_cell BK3033.out 5).trans rfl, (blk_cell BK3033.out 6).trans rfl, (blk_cell BK3033.out 7).trans rfl, (blk_cell BK3002.out 0).trans rfl, (blk_cell BK3002.out 1).trans rfl, (blk_cell BK3002.out 2).trans rfl⟩ (fun hHeld => ?_)
    generalize w75.drew = w76 at HO3012 HO3015 HO3028 HO3031 BK3001 BK3002 BK3033 HB hHeld ⊢
    refine take_ (i := 0) (N := some 26) (v := ?_) (a' := ?_) #[true, false, false, false, false] rfl rfl (by kernel_rfl) (fun _ _ _ h => h) (Or.inl ⟨by rfl, ?_⟩) hHeld ?_ ?_
    rotate_left
    · rintro w' ⟨s0, s1, s2, s3, s4, s5, s6, s7, s8, s9, s10⟩
      go_simp
      first | with_reducible rfl | (rw [if_neg (by omega)]; done)
    rotate_left
    · simp only [Act.put, List.setIfInBounds_toArray, List.set_cons_zero, List.set_cons_succ, i64_w, i32_w]
      rfl
    refine take_ (i := 1) (N := some 27) (v := ?_) (a' := ?_) #[true, true, false, false, false] rfl rfl (by kernel_rfl) (fun _ _ _ h => h) (Or.inl ⟨by rfl, ?_⟩) hHeld ?_ ?_
    rotate_left
    · rintro w' ⟨s0, s1, s2, s3, s4, s5, s6, s7, s8, s9, s10⟩
      go_simp
      first | with_reducible rfl | (rw [if_neg (by omega)]; done)
    rotate_left
    · simp only [Act.put, List.setIfInBounds_toArray, List.set_cons_zero, List.set_cons_succ, i64_w, i32_w]
      rfl
    refine one_ (i := 2) (N := some 28) #[true, true, true, false, false] rfl rfl (by kernel_rfl) (by decide) (fun K hK => ?_)
    refine goes_ Try.func9 (by kernel_rfl) rfl #[.agg #[.string a1_0, .string a1_1, .string a1_2]] (by rfl) rfl rfl (by (try simp only [List.map_toArray, List.map_cons, List.map_nil]); first | done | rfl | (simp only [List.length_drop, List.length_take]; rfl)) ?_
    with_reducible refine (laws_toValues.calls a1_0 a1_1 a1_2 t3034 t3035 t3036 _ A23.out).mono ?_
    rintro e w77 ⟨rfl, hb⟩
    refine ⟨_, rfl, ?_⟩
    have n0_ := Aside0.mk (Kd.R_below (by (with_reducible repeat (first | apply Kd.R_alloc | apply Kd.R_drewN | apply Kd.R_drew)); exact HO3012.out) hb)
    have n1_ := Aside0.mk (Kd.R_below (by (with_reducible repeat (first | apply Kd.R_alloc | apply Kd.R_drewN | apply Kd.R_drew)); exact HO3015.out) hb)
    have n2_ := Aside0.mk (Kd.R_below (by (with_reducible repeat (first | apply Kd.R_alloc | apply Kd.R_drewN | apply Kd.R_drew)); exact HO3028.out) hb)
    have n3_ := Aside0.mk (Kd.R_below (by (with_reducible repeat (first | apply Kd.R_alloc | apply Kd.R_drewN | apply Kd.R_drew)); exact HO3031.out) hb)
    have n4_ := Aside0.mk (blk_below (g := gb3001) (o := .cells #[.int .i64 a0_0, .string a0_1, .string a0_2, .int .i64 a0_3, .string a0_4, .slice A0_5 l0_5.length c0_5, .slice A0_6 l0_6.length c0_6, .int .i64 a0_7] 27 (0, 0)) (by (with_reducible repeat (first | refine blk_drewN ?_ _ | refine blk_drew ?_ | refine blk_alloc ?_ _)); exact BK3001.out) hb)
    have n5_ := Aside0.mk (blk_below (g := gb3002) (o := .cells #[.string a1_0, .string a1_1, .string a1_2] 29 (0, 0)) (by (with_reducible repeat (first | refine blk_drewN ?_ _ | refine blk_drew ?_ | refine blk_alloc ?_ _)); exact BK3002.out) hb)
    have n6_ := Aside0.mk (blk_below (g := gb3033) (o := .cells #[.int .i64 t3021, .string t3022, .string t3023, .int .i64 t3024, .string t3025, .slice Ao73 t3026.length co73, .slice Ao74 t3029.length co74, .int .i64 t3032] 37 (0, 0)) (by (with_reducible repeat (first | refine blk_drewN ?_ _ | refine blk_drew ?_ | refine blk_alloc ?_ _)); exact BK3033.out) hb)
    have n7_ := Aside0.mk (below_step (by repeat (first | (with_reducible first | exact HB.out | apply below_alloc | apply pw_below_drewN | apply below_drew1 | refine below_set ?_ (Aside0.out (by assumption))) | exact HB.out)) hb)
    clear HO3012
    clear HO3015
    clear HO3028
    clear HO3031
    clear BK3001
    clear BK3002
    clear BK3033
    clear HB
    have HO3012 := n0_
    have HO3015 := n1_
    have HO3028 := n2_
    have HO3031 := n3_
    have BK3001 := n4_
    have BK3002 := n5_
    have BK3033 := n6_
    have HB := n7_
    clear n0_ n1_ n2_ n3_ n4_ n5_ n6_ n7_
    (try clear hb)
    (try clear hb2)
    (try clear hk)
    (try clear hi)
    refine hK.out _ _ ⟨(blk_cell BK3033.out 0).trans rfl, (blk_cell BK3033.out 1).trans rfl, (blk_cell BK3033.out 2).trans rfl, (blk_cell BK3033.out 3).trans rfl, (blk_cell BK3033.out 4).trans rfl, (blk_cell BK3033.out 5).trans rfl, (blk_cell BK3033.out 6).trans rfl, (blk_cell BK3033.out 7).trans rfl, (blk_cell BK3002.out 0).trans rfl, (blk_cell BK3002.out 1).trans rfl, (blk_cell BK3002.out 2).trans rfl⟩ (fun hHeld => ?_)
    clear hK K
    refine norm_ (a' := ?_) ?_ ?_
    rotate_left
    · show Act.put _ (some 28) _ = _
      simp only [Act.put, List.setIfInBounds_toArray, List.set_cons_zero, List.set_cons_succ, i64_w, i32_w]
      rfl
    refine one_ (i := 3) (N := some 29) #[true, true, true, true, false] rfl rfl (by kernel_rfl) (by decide) (fun K hK => ?_)
    refine goes_ Try.func10 (by kernel_rfl) rfl #[.agg #[.int .i64 t3021, .string t3022, .string t3023, .int .i64 t3024, .string t3025, .slice Ao73 t3026.length co73, .slice Ao74 t3029.length co74, .int .i64 t3032], .agg #[.string t3034, .string t3035, .string t3036]] (by rfl) rfl rfl (by (try simp only [List.map_toArray, List.map_cons, List.map_nil]); first | done | rfl | (simp only [List.length_drop, List.length_take]; rfl)) ?_
    with_reducible refine (impl_HoldsFor.calls k t3021 t3022 t3023 t3024 t3025 _ _ t3026 _ _ t3029 t3032 t3034 t3035 t3036 t3037 _ ?side1 ?side2 ?side3 ?side4 A24.out).mono ?_
    (case side1 => repeat (first | exact (Kd.R_reads' HO3028.out).2.2 | (with_reducible refine Kd.C_alloc ?_ _) | (with_reducible refine Kd.C_drewN ?_ _) | (with_reducible refine Kd.C_drew ?_)))
    (case side2 => exact (Kd.R_reads' HO3028.out).2.1)
    (case side3 => repeat (first | exact (Kd.R_reads' HO3031.out).2.2 | (with_reducible refine Kd.C_alloc ?_ _) | (with_reducible refine Kd.C_drewN ?_ _) | (with_reducible refine Kd.C_drew ?_)))
    (case side4 => exact (Kd.R_reads' HO3031.out).2.1)
    rintro e w78 ⟨rfl, hb⟩
    refine ⟨_, rfl, ?_⟩
    have n0_ := Aside0.mk (Kd.R_below (by (with_reducible repeat (first | apply Kd.R_alloc | apply Kd.R_drewN | apply Kd.R_drew)); exact HO3012.out) hb)
    have n1_ := Aside0.mk (Kd.R_below (by (with_reducible repeat (first | apply Kd.R_alloc | apply Kd.R_drewN | apply Kd.R_drew)); exact HO3015.out) hb)
    have n2_ := Aside0.mk (Kd.R_below (by (with_reducible repeat (first | apply Kd.R_alloc | apply Kd.R_drewN | apply Kd.R_drew)); exact HO3028.out) hb)
    have n3_ := Aside0.mk (Kd.R_below (by (with_reducible repeat (first | apply Kd.R_alloc | apply Kd.R_drewN | apply Kd.R_drew)); exact HO3031.out) hb)
    have n4_ := Aside0.mk (blk_below (g := gb3001) (o := .cells #[.int .i64 a0_0, .string a0_1, .string a0_2, .int .i64 a0_3, .string a0_4, .slice A0_5 l0_5.length c0_5, .slice A0_6 l0_6.length c0_6, .int .i64 a0_7] 27 (0, 0)) (by (with_reducible repeat (first | refine blk_drewN ?_ _ | refine blk_drew ?_ | refine blk_alloc ?_ _)); exact BK3001.out) hb)
    have n5_ := Aside0.mk (blk_below (g := gb3002) (o := .cells #[.string a1_0, .string a1_1, .string a1_2] 29 (0, 0)) (by (with_reducible repeat (first | refine blk_drewN ?_ _ | refine blk_drew ?_ | refine blk_alloc ?_ _)); exact BK3002.out) hb)
    have n6_ := Aside0.mk (blk_below (g := gb3033) (o := .cells #[.int .i64 t3021, .string t3022, .string t3023, .int .i64 t3024, .string t3025, .slice Ao73 t3026.length co73, .slice Ao74 t3029.length co74, .int .i64 t3032] 37 (0, 0)) (by (with_reducible repeat (first | refine blk_drewN ?_ _ | refine blk_drew ?_ | refine blk_alloc ?_ _)); exact BK3033.out) hb)
    have n7_ := Aside0.mk (below_step (by repeat (first | (with_reducible first | exact HB.out | apply below_alloc | apply pw_below_drewN | apply below_drew1 | refine below_set ?_ (Aside0.out (by assumption))) | exact HB.out)) hb)
    clear HO3012
    clear HO3015
    clear HO3028
    clear HO3031
    clear BK3001
    clear BK3002
    clear BK3033
    clear HB
    have HO3012 := n0_
    have HO3015 := n1_
    have HO3028 := n2_
    have HO3031 := n3_
    have BK3001 := n4_
    have BK3002 := n5_
    have BK3033 := n6_
    have HB := n7_
    clear n0_ n1_ n2_ n3_ n4_ n5_ n6_ n7_
    (try clear hb)
    (try clear hb2)
    (try clear hk)
    (try clear hi)
    refine hK.out _ _ ⟨(blk_cell BK3033.out 0).trans rfl, (blk_cell BK3033.out 1).trans rfl, (blk_cell BK3033.out 2).trans rfl, (blk_cell BK3033.out 3).trans rfl, (blk_cell BK3033.out 4).trans rfl, (blk_cell BK3033.out 5).trans rfl, (blk_cell BK3033.out 6).trans rfl, (blk_cell BK3033.out 7).trans rfl, (blk_cell BK3002.out 0).trans rfl, (blk_cell BK3002.out 1).trans rfl, (blk_cell BK3002.out 2).trans rfl⟩ (fun hHeld => ?_)
    clear hK K
    refine norm_ (a' := ?_) ?_ ?_
    rotate_left
    · show Act.put _ (some 29) _ = _
      simp only [Act.put, List.setIfInBounds_toArray, List.set_cons_zero, List.set_cons_succ, i64_w, i32_w]
      rfl
    refine pure_ (i := 4) (N := some 8) (v := ?_) (a' := ?_) #[true, true, true, true, true] rfl rfl (by kernel_rfl) (fun _ _ _ h => h) (Or.inl ⟨by rfl, ?_⟩) ?_ ?_
    rotate_left
    · intro w'
      go_simp
      first | with_reducible rfl | (rw [if_neg (by omega)]; done)
    rotate_left
    · simp only [Act.put, List.setIfInBounds_toArray, List.set_cons_zero, List.set_cons_succ, i64_w, i32_w]
      rfl
    refine done_ (by kernel_rfl) ?_
    try go_wp2
    have n0_ := Aside0.mk (Kd.R_drew HO3012.out)
    have n1_ := Aside0.mk (Kd.R_drew HO3015.out)
    have n2_ := Aside0.mk (Kd.R_drew HO3028.out)
    have n3_ := Aside0.mk (Kd.R_drew HO3031.out)
    have n4_ := Aside0.mk (blk_drew BK3001.out)
    have n5_ := Aside0.mk (blk_drew BK3002.out)
    have n6_ := Aside0.mk (blk_drew BK3033.out)
    have n7_ := Aside0.mk (below_drew1 HB.out)
    clear HO3012
    clear HO3015
    clear HO3028
    clear HO3031
    clear BK3001
    clear BK3002
    clear BK3033
    clear HB
    have HO3012 := n0_
    have HO3015 := n1_
    have HO3028 := n2_
    have HO3031 := n3_
    have BK3001 := n4_
    have BK3002 := n5_
    have BK3033 := n6_
    have HB := n7_
    clear n0_ n1_ n2_ n3_ n4_ n5_ n6_ n7_
    refine start_ (n := 5) (S := fun w' => w'.cell? ⟨gb3033, 0, none⟩ = some (.int .i64 t3021) ∧ w'.cell? ⟨gb3033, 1, none⟩ = some (.string t3022) ∧ w'.cell? ⟨gb3033, 2, none⟩ = some (.string t3023) ∧ w'.cell? ⟨gb3033, 3, none⟩ = some (.int .i64 t3024) ∧ w'.cell? ⟨gb3033, 4, none⟩ = some (.string t3025) ∧ w'.cell? ⟨gb3033, 5, none⟩ = some (.slice Ao73 t3026.length co73) ∧ w'.cell? ⟨gb3033, 6, none⟩ = some (.slice Ao74 t3029.length co74) ∧ w'.cell? ⟨gb3033, 7, none⟩ = some (.int .i64 t3032) ∧ w'.cell? ⟨gb3001, 0, none⟩ = some (.int .i64 a0_0) ∧ w'.cell? ⟨gb3001, 1, none⟩ = some (.string a0_1) ∧ w'.cell? ⟨gb3001, 2, none⟩ = some (.string a0_2) ∧ w'.cell? ⟨gb3001, 3, none⟩ = some (.int .i64 a0_3) ∧ w'.cell? ⟨gb3001, 4, none⟩ = some (.string a0_4) ∧ w'.cell? ⟨gb3001, 5, none⟩ = some (.slice A0_5 l0_5.length c0_5) ∧ w'.cell? ⟨gb3001, 6, none⟩ = some (.slice A0_6 l0_6.length c0_6) ∧ w'.cell? ⟨gb3001, 7, none⟩ = some (.int .i64 a0_7)) (ds := []) #[false, false, false, false, false] (by kernel_rfl) rfl rfl ⟨(blk_cell BK3033.out 0).trans rfl, (blk_cell BK3033.out 1).trans rfl, (blk_cell BK3033.out 2).trans rfl, (blk_cell BK3033.out 3).trans rfl, (blk_cell BK3033.out 4).trans rfl, (blk_cell BK3033.out 5).trans rfl, (blk_cell BK3033.out 6).trans rfl, (blk_cell BK3033.out 7).trans rfl, (blk_cell BK3001.out 0).trans rfl, (blk_cell BK3001.out 1).trans rfl, (blk_cell BK3001.out 2).trans rfl, (blk_cell BK3001.out 3).trans rfl, (blk_cell BK3001.out 4).trans rfl, (blk_cell BK3001.out 5).trans rfl, (blk_cell BK3001.out 6).trans rfl, (blk_cell BK3001.out 7).trans rfl⟩ (fun hHeld => ?_)
    generalize w78.drew = w79 at HO3012 HO3015 HO3028 HO3031 BK3001 BK3002 BK3033 HB hHeld ⊢
    refine take_ (i := 0) (N := some 33) (v := ?_) (a' := ?_) #[true, false, false, false, false] rfl rfl (by kernel_rfl) (fun _ _ _ h => h) (Or.inl ⟨by rfl, ?_⟩) hHeld ?_ ?_
    rotate_left
    · rintro w' ⟨s0, s1, s2, s3, s4, s5, s6, s7, s8, s9, s10, s11, s12, s13, s14, s15⟩
      go_simp
      first | with_reducible rfl | (rw [if_neg (by omega)]; done)
    rotate_left
    · simp only [Act.put, List.setIfInBounds_toArray, List.set_cons_zero, List.set_cons_succ, i64_w, i32_w]
      rfl
    refine take_ (i := 1) (N := some 34) (v := ?_) (a' := ?_) #[true, true, false, false, false] rfl rfl (by kernel_rfl) (fun _ _ _ h => h) (Or.inl ⟨by rfl, ?_⟩) hHeld ?_ ?_
    rotate_left
    · rintro w' ⟨s0, s1, s2, s3, s4, s5, s6, s7, s8, s9, s10, s11, s12, s13, s14, s15⟩
      go_simp
      first | with_reducible rfl | (rw [if_neg (by omega)]; done)
    rotate_left
    · simp only [Act.put, List.setIfInBounds_toArray, List.set_cons_zero, List.set_cons_succ, i64_w, i32_w]
      rfl
    refine one_ (i := 2) (N := some 35) #[true, true, true, false, false] rfl rfl (by kernel_rfl) (by decide) (fun K hK => ?_)
    refine goes_ Try.func8 (by kernel_rfl) rfl #[.agg #[.int .i64 a0_0, .string a0_1, .string a0_2, .int .i64 a0_3, .string a0_4, .slice A0_5 l0_5.length c0_5, .slice A0_6 l0_6.length c0_6, .int .i64 a0_7]] (by rfl) rfl rfl (by (try simp only [List.map_toArray, List.map_cons, List.map_nil]); first | done | rfl | (simp only [List.length_drop, List.length_take]; rfl)) ?_
    with_reducible refine (laws_toConstraint.calls k a0_0 a0_1 a0_2 a0_3 a0_4 _ _ l0_5 _ _ l0_6 a0_7 t3038 t3039 t3040 t3041 t3042 t3043 t3046 t3049 _ ?side1 ?side2 ?side3 ?side4 A51.out).mono ?_
    (case side1 => repeat (first | exact (Kd.C_below HR0_5.out HB.out) | (with_reducible refine Kd.C_alloc ?_ _) | (with_reducible refine Kd.C_drewN ?_ _) | (with_reducible refine Kd.C_drew ?_)))
    (case side2 => exact HC0_5.out)
    (case side3 => repeat (first | exact (Kd.C_below HR0_6.out HB.out) | (with_reducible refine Kd.C_alloc ?_ _) | (with_reducible refine Kd.C_drewN ?_ _) | (with_reducible refine Kd.C_drew ?_)))
    (case side4 => exact HC0_6.out)
    rintro e w80 ⟨v3044, v3047, rfl, ho0, ho1, hb⟩
    refine ⟨_, rfl, ?_⟩
    have n0_ := Aside0.mk (Kd.R_elder' (by (with_reducible repeat (first | apply Kd.R_alloc | apply Kd.R_drewN | apply Kd.R_drew)); exact HO3012.out) (Kd.R_base ho0) hb)
    have n1_ := Aside0.mk (Kd.R_elder' (by (with_reducible repeat (first | apply Kd.R_alloc | apply Kd.R_drewN | apply Kd.R_drew)); exact HO3015.out) (Kd.R_base ho1) hb)
    have n2_ := Aside0.mk (Kd.R_elder' (by (with_reducible repeat (first | apply Kd.R_alloc | apply Kd.R_drewN | apply Kd.R_drew)); exact HO3028.out) (Kd.R_base ho0) hb)
    have n3_ := Aside0.mk (Kd.R_elder' (by (with_reducible repeat (first | apply Kd.R_alloc | apply Kd.R_drewN | apply Kd.R_drew)); exact HO3031.out) (Kd.R_base ho1) hb)
    have n4_ := Aside0.mk (Kd.R_lower (Kd.R_new' (Kd.R_new' ho0 (Kd.R_lt (by (with_reducible repeat (first | apply Kd.R_alloc | apply Kd.R_drewN | apply Kd.R_drew)); exact HO3012.out))) (Kd.R_lt (by (with_reducible repeat (first | apply Kd.R_alloc | apply Kd.R_drewN | apply Kd.R_drew)); exact HO3028.out))) (below_size (by repeat (first | (with_reducible first | exact HB.out | apply below_alloc | apply pw_below_drewN | apply below_drew1 | refine below_set ?_ (Aside0.out (by assumption))) | exact HB.out))))
    have n5_ := Aside0.mk (Kd.R_lower (Kd.R_new' (Kd.R_new' ho1 (Kd.R_lt (by (with_reducible repeat (first | apply Kd.R_alloc | apply Kd.R_drewN | apply Kd.R_drew)); exact HO3015.out))) (Kd.R_lt (by (with_reducible repeat (first | apply Kd.R_alloc | apply Kd.R_drewN | apply Kd.R_drew)); exact HO3031.out))) (below_size (by repeat (first | (with_reducible first | exact HB.out | apply below_alloc | apply pw_below_drewN | apply below_drew1 | refine below_set ?_ (Aside0.out (by assumption))) | exact HB.out))))
    have n6_ := Aside0.mk (blk_below (g := gb3001) (o := .cells #[.int .i64 a0_0, .string a0_1, .string a0_2, .int .i64 a0_3, .string a0_4, .slice A0_5 l0_5.length c0_5, .slice A0_6 l0_6.length c0_6, .int .i64 a0_7] 27 (0, 0)) (by (with_reducible repeat (first | refine blk_drewN ?_ _ | refine blk_drew ?_ | refine blk_alloc ?_ _)); exact BK3001.out) hb)
    have n7_ := Aside0.mk (blk_below (g := gb3002) (o := .cells #[.string a1_0, .string a1_1, .string a1_2] 29 (0, 0)) (by (with_reducible repeat (first | refine blk_drewN ?_ _ | refine blk_drew ?_ | refine blk_alloc ?_ _)); exact BK3002.out) hb)
    have n8_ := Aside0.mk (blk_below (g := gb3033) (o := .cells #[.int .i64 t3021, .string t3022, .string t3023, .int .i64 t3024, .string t3025, .slice Ao73 t3026.length co73, .slice Ao74 t3029.length co74, .int .i64 t3032] 37 (0, 0)) (by (with_reducible repeat (first | refine blk_drewN ?_ _ | refine blk_drew ?_ | refine blk_alloc ?_ _)); exact BK3033.out) hb)
    have n9_ := Aside0.mk (below_step (by repeat (first | (with_reducible first | exact HB.out | apply below_alloc | apply pw_below_drewN | apply below_drew1 | refine below_set ?_ (Aside0.out (by assumption))) | exact HB.out)) hb)
    clear HO3012
    clear HO3015
    clear HO3028
    clear HO3031
    clear BK3001
    clear BK3002
    clear BK3033
    clear HB
    have HO3012 := n0_
    have HO3015 := n1_
    have HO3028 := n2_
    have HO3031 := n3_
    have HO3045 := n4_
    have HO3048 := n5_
    have BK3001 := n6_
    have BK3002 := n7_
    have BK3033 := n8_
    have HB := n9_
    clear n0_ n1_ n2_ n3_ n4_ n5_ n6_ n7_ n8_ n9_
    (try clear hb)
    (try clear hb2)
    (try clear hk)
    (try clear hi)
    (try clear ho0)
    (try clear ho1)
    obtain ⟨Ao81, co81, eo81⟩ := Kd.R_slice HO3045.out
    (first | subst eo81 | (injection eo81 with f1_ f2_ f3_; have f4_ := f1_.symm; have f5_ := f3_.symm; clear f1_ f2_ f3_; subst f4_; subst f5_))
    obtain ⟨Ao82, co82, eo82⟩ := Kd.R_slice HO3048.out
    (first | subst eo82 | (injection eo82 with f1_ f2_ f3_; have f4_ := f1_.symm; have f5_ := f3_.symm; clear f1_ f2_ f3_; subst f4_; subst f5_))
    refine hK.out _ _ ⟨(blk_cell BK3033.out 0).trans rfl, (blk_cell BK3033.out 1).trans rfl, (blk_cell BK3033.out 2).trans rfl, (blk_cell BK3033.out 3).trans rfl, (blk_cell BK3033.out 4).trans rfl, (blk_cell BK3033.out 5).trans rfl, (blk_cell BK3033.out 6).trans rfl, (blk_cell BK3033.out 7).trans rfl, (blk_cell BK3001.out 0).trans rfl, (blk_cell BK3001.out 1).trans rfl, (blk_cell BK3001.out 2).trans rfl, (blk_cell BK3001.out 3).trans rfl, (blk_cell BK3001.out 4).trans rfl, (blk_cell BK3001.out 5).trans rfl, (blk_cell BK3001.out 6).trans rfl, (blk_cell BK3001.out 7).trans rfl⟩ (fun hHeld => ?_)
    clear hK K
    refine norm_ (a' := ?_) ?_ ?_
    rotate_left
    · show Act.put _ (some 35) _ = _
      simp only [Act.put, List.setIfInBounds_toArray, List.set_cons_zero, List.set_cons_succ, i64_w, i32_w]
      rfl
    refine one_ (i := 3) (N := some 36) #[true, true, true, true, false] rfl rfl (by kernel_rfl) (by decide) (fun K hK => ?_)
    refine goes_ Try.func11 (by kernel_rfl) rfl #[.agg #[.int .i64 t3021, .string t3022, .string t3023, .int .i64 t3024, .string t3025, .slice Ao73 t3026.length co73, .slice Ao74 t3029.length co74, .int .i64 t3032], .agg #[.int .i64 t3038, .string t3039, .string t3040, .int .i64 t3041, .string t3042, .slice Ao81 t3043.length co81, .slice Ao82 t3046.length co82, .int .i64 t3049]] (by rfl) rfl rfl (by (try simp only [List.map_toArray, List.map_cons, List.map_nil]); first | done | rfl | (simp only [List.length_drop, List.length_take]; rfl)) ?_
    with_reducible refine (laws_eqConstraint.calls k t3021 t3022 t3023 t3024 t3025 _ _ t3026 _ _ t3029 t3032 t3038 t3039 t3040 t3041 t3042 _ _ t3043 _ _ t3046 t3049 _ _ ?side1 ?side2 ?side3 ?side4 ?side5 ?side6 ?side7 ?side8 A52.out).mono ?_
    (case side1 => repeat (first | exact (Kd.R_reads' HO3028.out).2.2 | (with_reducible refine Kd.C_alloc ?_ _) | (with_reducible refine Kd.C_drewN ?_ _) | (with_reducible refine Kd.C_drew ?_)))
    (case side2 => exact (Kd.R_reads' HO3028.out).2.1)
    (case side3 => repeat (first | exact (Kd.R_reads' HO3031.out).2.2 | (with_reducible refine Kd.C_alloc ?_ _) | (with_reducible refine Kd.C_drewN ?_ _) | (with_reducible refine Kd.C_drew ?_)))
    (case side4 => exact (Kd.R_reads' HO3031.out).2.1)
    (case side5 => repeat (first | exact (Kd.R_reads' HO3045.out).2.2 | (with_reducible refine Kd.C_alloc ?_ _) | (with_reducible refine Kd.C_drewN ?_ _) | (with_reducible refine Kd.C_drew ?_)))
    (case side6 => exact (Kd.R_reads' HO3045.out).2.1)
    (case side7 => repeat (first | exact (Kd.R_reads' HO3048.out).2.2 | (with_reducible refine Kd.C_alloc ?_ _) | (with_reducible refine Kd.C_drewN ?_ _) | (with_reducible refine Kd.C_drew ?_)))
    (case side8 => exact (Kd.R_reads' HO3048.out).2.1)
    rintro e w83 ⟨rfl, hb⟩
    refine ⟨_, rfl, ?_⟩
    have n0_ := Aside0.mk (Kd.R_below (by (with_reducible repeat (first | apply Kd.R_alloc | apply Kd.R_drewN | apply Kd.R_drew)); exact HO3012.out) hb)
    have n1_ := Aside0.mk (Kd.R_below (by (with_reducible repeat (first | apply Kd.R_alloc | apply Kd.R_drewN | apply Kd.R_drew)); exact HO3015.out) hb)
    have n2_ := Aside0.mk (Kd.R_below (by (with_reducible repeat (first | apply Kd.R_alloc | apply Kd.R_drewN | apply Kd.R_drew)); exact HO3028.out) hb)
    have n3_ := Aside0.mk (Kd.R_below (by (with_reducible repeat (first | apply Kd.R_alloc | apply Kd.R_drewN | apply Kd.R_drew)); exact HO3031.out) hb)
    have n4_ := Aside0.mk (Kd.R_below (by (with_reducible repeat (first | apply Kd.R_alloc | apply Kd.R_drewN | apply Kd.R_drew)); exact HO3045.out) hb)
    have n5_ := Aside0.mk (Kd.R_below (by (with_reducible repeat (first | apply Kd.R_alloc | apply Kd.R_drewN | apply Kd.R_drew)); exact HO3048.out) hb)
    have n6_ := Aside0.mk (blk_below (g := gb3001) (o := .cells #[.int .i64 a0_0, .string a0_1, .string a0_2, .int .i64 a0_3, .string a0_4, .slice A0_5 l0_5.length c0_5, .slice A0_6 l0_6.length c0_6, .int .i64 a0_7] 27 (0, 0)) (by (with_reducible repeat (first | refine blk_drewN ?_ _ | refine blk_drew ?_ | refine blk_alloc ?_ _)); exact BK3001.out) hb)
    have n7_ := Aside0.mk (blk_below (g := gb3002) (o := .cells #[.string a1_0, .string a1_1, .string a1_2] 29 (0, 0)) (by (with_reducible repeat (first | refine blk_drewN ?_ _ | refine blk_drew ?_ | refine blk_alloc ?_ _)); exact BK3002.out) hb)
    have n8_ := Aside0.mk (blk_below (g := gb3033) (o := .cells #[.int .i64 t3021, .string t3022, .string t3023, .int .i64 t3024, .string t3025, .slice Ao73 t3026.length co73, .slice Ao74 t3029.length co74, .int .i64 t3032] 37 (0, 0)) (by (with_reducible repeat (first | refine blk_drewN ?_ _ | refine blk_drew ?_ | refine blk_alloc ?_ _)); exact BK3033.out) hb)
    have n9_ := Aside0.mk (below_step (by repeat (first | (with_reducible first | exact HB.out | apply below_alloc | apply pw_below_drewN | apply below_drew1 | refine below_set ?_ (Aside0.out (by assumption))) | exact HB.out)) hb)
    clear HO3012
    clear HO3015
    clear HO3028
    clear HO3031
    clear HO3045
    clear HO3048
    clear BK3001
    clear BK3002
    clear BK3033
    clear HB
    have HO3012 := n0_
    have HO3015 := n1_
    have HO3028 := n2_
    have HO3031 := n3_
    have HO3045 := n4_
    have HO3048 := n5_
    have BK3001 := n6_
    have BK3002 := n7_
    have BK3033 := n8_
    have HB := n9_
    clear n0_ n1_ n2_ n3_ n4_ n5_ n6_ n7_ n8_ n9_
    (try clear hb)
    (try clear hb2)
    (try clear hk)
    (try clear hi)
    refine hK.out _ _ ⟨(blk_cell BK3033.out 0).trans rfl, (blk_cell BK3033.out 1).trans rfl, (blk_cell BK3033.out 2).trans rfl, (blk_cell BK3033.out 3).trans rfl, (blk_cell BK3033.out 4).trans rfl, (blk_cell BK3033.out 5).trans rfl, (blk_cell BK3033.out 6).trans rfl, (blk_cell BK3033.out 7).trans rfl, (blk_cell BK3001.out 0).trans rfl, (blk_cell BK3001.out 1).trans rfl, (blk_cell BK3001.out 2).trans rfl, (blk_cell BK3001.out 3).trans rfl, (blk_cell BK3001.out 4).trans rfl, (blk_cell BK3001.out 5).trans rfl, (blk_cell BK3001.out 6).trans rfl, (blk_cell BK3001.out 7).trans rfl⟩ (fun hHeld => ?_)
    clear hK K
    refine norm_ (a' := ?_) ?_ ?_
    rotate_left
    · show Act.put _ (some 36) _ = _
      simp only [Act.put, List.setIfInBounds_toArray, List.set_cons_zero, List.set_cons_succ, i64_w, i32_w]
      rfl
    refine pure_ (i := 4) (N := some 37) (v := ?_) (a' := ?_) #[true, true, true, true, true] rfl rfl (by kernel_rfl) (fun _ _ _ h => h) (Or.inl ⟨by rfl, ?_⟩) ?_ ?_
    rotate_left
    · intro w'
      go_simp
      first | with_reducible rfl | (rw [if_neg (by omega)]; done)
    rotate_left
    · simp only [Act.put, List.setIfInBounds_toArray, List.set_cons_zero, List.set_cons_succ, i64_w, i32_w]
      rfl
    refine done_ (by kernel_rfl) ?_
    try go_wp2
    go_ret
    exact ⟨by first | rfl | (simp [errW_none, errW_some] <;> rfl) | (simp [*, errW_none, errW_some] <;> rfl), by repeat (first | (with_reducible first | exact HB.out | apply below_alloc | apply pw_below_drewN | apply below_drew1 | refine below_set ?_ (Aside0.out (by assumption))) | exact HB.out)⟩
  · replace c53 := Bool.eq_false_iff.mpr c53
    subst c53
    have H1 : (some false) = some r := by rw [if_neg (show ¬ (false = true) by decide)] at H; exact H
    clear H
    have H := H1
    clear H1
    exact absurd ((Option.some.inj H).trans HRT_.out) (by decide)
  all_goals
   obtain rfl := Option.some.inj H
   go_enter Try.func3, Try.ntmps3
   go_wp2_with (first | ((with_reducible refine gate_dst (N := 2) rfl ?_); refine box_event ?hg (N := 2) ?hd (cs := #[.int .i64 a0_0, .string a0_1, .string a0_2, .int .i64 a0_3, .string a0_4, .slice A0_5 l0_5.length c0_5, .slice A0_6 l0_6.length c0_6, .int .i64 a0_7]) (t := 27) ?hr ?_; (case hd => rfl); (case hg => rfl); (case hr => first | (go_simp; done) | (go_simp; rfl)); intro gb3001 hg w12 hbox hb; have n0_ := Aside0.mk (below_step (by repeat (first | (with_reducible first | exact HB.out | apply below_alloc | apply pw_below_drewN | apply below_drew1 | refine below_set ?_ (Aside0.out (by assumption))) | exact HB.out)) hb); have n1_ := Aside0.mk (hbox); have n2_ := Aside0.mk ((by rw [hg]; exact (below_size (by repeat (first | (with_reducible first | exact HB.out | apply below_alloc | apply pw_below_drewN | apply below_drew1 | refine below_set ?_ (Aside0.out (by assumption))) | exact HB.out))) : w.heap.size ≤ gb3001)); have n3_ := Aside0.mk ((by rw [hg]; exact (below_size (by repeat (first | (with_reducible first | exact HB.out | apply below_alloc | apply pw_below_drewN | apply below_drew1 | refine below_set ?_ (Aside0.out (by assumption))) | exact HB.out))) : w.heap.size ≤ gb3001)); clear HB; have HB := n0_; have BK3001 := n1_; have GW3001 := n2_; have GE3001 := n3_; clear n0_ n1_ n2_ n3_; clear hb hbox hg) | ((with_reducible refine gate_dst (N := 3) rfl ?_); refine box_event ?hg (N := 3) ?hd (cs := #[.string a1_0, .string a1_1, .string a1_2]) (t := 29) ?hr ?_; (case hd => rfl); (case hg => rfl); (case hr => first | (go_simp; done) | (go_simp; rfl)); intro gb3002 hg w13 hbox hb; have n0_ := Aside0.mk (blk_below (g := gb3001) (o := .cells #[.int .i64 a0_0, .string a0_1, .string a0_2, .int .i64 a0_3, .string a0_4, .slice A0_5 l0_5.length c0_5, .slice A0_6 l0_6.length c0_6, .int .i64 a0_7] 27 (0, 0)) (by (with_reducible repeat (first | refine blk_drewN ?_ _ | refine blk_drew ?_ | refine blk_alloc ?_ _)); exact BK3001.out) hb); have n1_ := Aside0.mk (below_step (by repeat (first | (with_reducible first | exact HB.out | apply below_alloc | apply pw_below_drewN | apply below_drew1 | refine below_set ?_ (Aside0.out (by assumption))) | exact HB.out)) hb); have n2_ := Aside0.mk (hbox); have n3_ := Aside0.mk ((by rw [hg]; exact (below_size (by repeat (first | (with_reducible first | exact HB.out | apply below_alloc | apply pw_below_drewN | apply below_drew1 | refine below_set ?_ (Aside0.out (by assumption))) | exact HB.out))) : w.heap.size ≤ gb3002)); have n4_ := Aside0.mk ((by rw [hg]; exact (below_size (by repeat (first | (with_reducible first | exact HB.out | apply below_alloc | apply pw_below_drewN | apply below_drew1 | refine below_set ?_ (Aside0.out (by assumption))) | exact HB.out))) : w.heap.size ≤ gb3002)); have n5_ := Aside0.mk ((by rw [hg]; exact Nat.ne_of_lt (blk_lt (g := gb3001) (o := .cells #[.int .i64 a0_0, .string a0_1, .string a0_2, .int .i64 a0_3, .string a0_4, .slice A0_5 l0_5.length c0_5, .slice A0_6 l0_6.length c0_6, .int .i64 a0_7] 27 (0, 0)) (by (with_reducible repeat (first | refine blk_drewN ?_ _ | refine blk_drew ?_ | refine blk_alloc ?_ _)); exact BK3001.out)) : gb3001 ≠ gb3002)); have n6_ := Aside0.mk ((by rw [hg]; exact Nat.ne_of_gt (blk_lt (g := gb3001) (o := .cells #[.int .i64 a0_0, .string a0_1, .string a0_2, .int .i64 a0_3, .string a0_4, .slice A0_5 l0_5.length c0_5, .slice A0_6 l0_6.length c0_6, .int .i64 a0_7] 27 (0, 0)) (by (with_reducible repeat (first | refine blk_drewN ?_ _ | refine blk_drew ?_ | refine blk_alloc ?_ _)); exact BK3001.out)) : gb3002 ≠ gb3001)); clear BK3001; clear HB; have BK3001 := n0_; have HB := n1_; have BK3002 := n2_; have GW3002 := n3_; have GE3002 := n4_; have NB3001_3002 := n5_; have NB3002_3001 := n6_; clear n0_ n1_ n2_ n3_ n4_ n5_ n6_; clear hb hbox hg; have hnb14 := NB3001_3002.out; have hnc14 := NB3002_3001.out; obtain ⟨hcz15_0, hcz15_1, hcz15_2, hcz15_3, hcz15_4, hcz15_5, hcz15_6, hcz15_7, hfz15_0, hfz15_1, hfz15_2, hfz15_3, hfz15_4, hfz15_5, hfz15_6, hfz15_7⟩ := blk8 BK3001.out) | ((with_reducible refine gate_callee (f := 5) rfl ?_); refine goesL_ (some 11) rfl rfl Try.func5 (by kernel_rfl) rfl #[.agg #[.int .i64 a0_0, .string a0_1, .string a0_2, .int .i64 a0_3, .string a0_4, .slice A0_5 l0_5.length c0_5, .slice A0_6 l0_6.length c0_6, .int .i64 a0_7], .int .i64 1048576] rfl (by (try simp only [List.map_toArray, List.map_cons, List.map_nil]); first | done | rfl | (simp only [List.length_drop, List.length_take]; rfl)) ?_; (with_reducible refine (laws_szConstraint.calls k a0_0 a0_1 a0_2 a0_3 a0_4 _ _ l0_5 _ _ l0_6 a0_7 1048576 t3003 _ ?side1 ?side2 ?side3 ?side4 A3.out).mono ?_); (case side1 => repeat (first | exact (Kd.C_below HR0_5.out HB.out) | (with_reducible refine Kd.C_alloc ?_ _) | (with_reducible refine Kd.C_drewN ?_ _) | (with_reducible refine Kd.C_drew ?_))); (case side2 => exact HC0_5.out); (case side3 => repeat (first | exact (Kd.C_below HR0_6.out HB.out) | (with_reducible refine Kd.C_alloc ?_ _) | (with_reducible refine Kd.C_drewN ?_ _) | (with_reducible refine Kd.C_drew ?_))); (case side4 => exact HC0_6.out); rintro e w16 ⟨rfl, hb⟩; refine ⟨_, rfl, ?_⟩; have n0_ := Aside0.mk (blk_below (g := gb3001) (o := .cells #[.int .i64 a0_0, .string a0_1, .string a0_2, .int .i64 a0_3, .string a0_4, .slice A0_5 l0_5.length c0_5, .slice A0_6 l0_6.length c0_6, .int .i64 a0_7] 27 (0, 0)) (by (with_reducible repeat (first | refine blk_drewN ?_ _ | refine blk_drew ?_ | refine blk_alloc ?_ _)); exact BK3001.out) hb); have n1_ := Aside0.mk (blk_below (g := gb3002) (o := .cells #[.string a1_0, .string a1_1, .string a1_2] 29 (0, 0)) (by (with_reducible repeat (first | refine blk_drewN ?_ _ | refine blk_drew ?_ | refine blk_alloc ?_ _)); exact BK3002.out) hb); have n2_ := Aside0.mk (below_step (by repeat (first | (with_reducible first | exact HB.out | apply below_alloc | apply pw_below_drewN | apply below_drew1 | refine below_set ?_ (Aside0.out (by assumption))) | exact HB.out)) hb); clear BK3001; clear BK3002; clear HB; have BK3001 := n0_; have BK3002 := n1_; have HB := n2_; clear n0_ n1_ n2_; (try clear hb); (try clear hb2); (try clear hk); (try clear hi); obtain ⟨hcz17_0, hcz17_1, hcz17_2, hfz17_0, hfz17_1, hfz17_2⟩ := blk3 BK3002.out) | ((with_reducible refine gate_callee (f := 6) rfl ?_); refine goesL_ (some 16) rfl rfl Try.func6 (by kernel_rfl) rfl #[.agg #[.string a1_0, .string a1_1, .string a1_2], .int .i64 t3003] rfl (by (try simp only [List.map_toArray, List.map_cons, List.map_nil]); first | done | rfl | (simp only [List.length_drop, List.length_take]; rfl)) ?_; (with_reducible refine (laws_szValues.calls a1_0 a1_1 a1_2 t3003 t3004 _ A10.out).mono ?_); rintro e w18 ⟨rfl, hb⟩; refine ⟨_, rfl, ?_⟩; have n0_ := Aside0.mk (blk_below (g := gb3001) (o := .cells #[.int .i64 a0_0, .string a0_1, .string a0_2, .int .i64 a0_3, .string a0_4, .slice A0_5 l0_5.length c0_5, .slice A0_6 l0_6.length c0_6, .int .i64 a0_7] 27 (0, 0)) (by (with_reducible repeat (first | refine blk_drewN ?_ _ | refine blk_drew ?_ | refine blk_alloc ?_ _)); exact BK3001.out) hb); have n1_ := Aside0.mk (blk_below (g := gb3002) (o := .cells #[.string a1_0, .string a1_1, .string a1_2] 29 (0, 0)) (by (with_reducible repeat (first | refine blk_drewN ?_ _ | refine blk_drew ?_ | refine blk_alloc ?_ _)); exact BK3002.out) hb); have n2_ := Aside0.mk (below_step (by repeat (first | (with_reducible first | exact HB.out | apply below_alloc | apply pw_below_drewN | apply below_drew1 | refine below_set ?_ (Aside0.out (by assumption))) | exact HB.out)) hb); clear BK3001; clear BK3002; clear HB; have BK3001 := n0_; have BK3002 := n1_; have HB := n2_; clear n0_ n1_ n2_; (try clear hb); (try clear hb2); (try clear hk); (try clear hi)))
   go_ret
   exact ⟨by first | rfl | (simp [errW_none, errW_some] <;> rfl) | (simp [*, errW_none, errW_some] <;> rfl), by repeat (first | (with_reducible first | exact HB.out | apply below_alloc | apply pw_below_drewN | apply below_drew1 | refine below_set ?_ (Aside0.out (by assumption))) | exact HB.out)⟩

end Go.Proofs.Ytffjfdoghofkdaa.A


namespace Go.Proofs.Ytffjfdoghofkdaa.Br
set_option linter.unusedVariables false
set_option linter.unusedSimpArgs false
open Go Go.Proofs.YtffjfdoghofkdaaW.PrintWords

/-- Whatever reads at type t, with at most n of fuel, is of kind d and well formed. -/
def BrN (P : Program) (n : Nat) (t : TypeId) {α : Type} (d : Kd α) (wf : α → Prop) : Prop :=
  ∀ (H : Type) (enc : TypeId × Value → H) (w : World) (base : Nat) (spare : Nat → Bool) (held : Bool) (m : Nat) (cs : List Value) (x : DataW H × List MemPlace),
    m ≤ n → DataW.trod enc P w base spare held m t cs = some x → ∃ a, d.K w a cs ∧ wf a
def Br (P : Program) (t : TypeId) {α : Type} (d : Kd α) (wf : α → Prop) : Prop := ∀ n, BrN P n t d wf

/-- The same of the fields of a struct, from offset o on. -/
def BF (P : Program) (n : Nat) (fs : List Field) (o : Nat) {α : Type} (d : Kd α) (wf : α → Prop) : Prop :=
  ∀ (H : Type) (enc : TypeId × Value → H) (w : World) (base : Nat) (spare : Nat → Bool) (held : Bool) (m : Nat) (cs : List Value) (xs : List (DataW H × List MemPlace)),
    m ≤ n → cs.length = d.sz → xs.length = fs.length →
    (∀ (i : Nat) (f : Field), fs[i]? = some f → DataW.trod enc P w base spare held m f.type ((cs.drop (f.offset - o)).take (P.cellsOf f.type)) = xs[i]?) → ∃ a, d.K w a cs ∧ wf a

theorem BrN.mono {P : Program} {n m : Nat} {t : TypeId} {α : Type} {d : Kd α} {wf : α → Prop} (h : BrN P n t d wf) (hm : m ≤ n) : BrN P m t d wf :=
  fun H enc w base spare held k cs x hk => h H enc w base spare held k cs x (Nat.le_trans hk hm)
theorem BrN.imp {P : Program} {n : Nat} {t : TypeId} {α : Type} {d : Kd α} {wf wf' : α → Prop} (h : BrN P n t d wf) (hi : ∀ a, wf a → wf' a) : BrN P n t d wf' :=
  fun H enc w base spare held k cs x hk hx => by
    obtain ⟨a, h1, h2⟩ := h H enc w base spare held k cs x hk hx
    exact ⟨a, h1, hi a h2⟩
theorem BrN.zero (P : Program) (t : TypeId) {α : Type} (d : Kd α) (wf : α → Prop) : BrN P 0 t d wf := by
  intro H enc w base spare held m cs x hm hx
  obtain rfl : m = 0 := by omega
  simp [DataW.trod] at hx

theorem br_int {P : Program} {t : TypeId} {k : IntKind} (ht : P.underlying t = some (.int k)) (n : Nat) : BrN P n t (Kd.int k) (fun a => (Lit.int k a).wf = true) := by
  intro H enc w base spare held m cs x _ hx
  obtain ⟨a, rfl, _, hw⟩ := DataW.trod_int ht hx
  exact ⟨a, rfl, hw⟩
theorem br_string {P : Program} {t : TypeId} (ht : P.underlying t = some .string) (n : Nat) : BrN P n t Kd.string (fun s => s.size ≤ 9223372036854775807) := by
  intro H enc w base spare held m cs x _ hx
  obtain ⟨a, rfl, _, hw⟩ := DataW.trod_string ht hx
  exact ⟨a, rfl, by simpa [maxLen] using hw⟩

theorem list_of_all {α : Type} {Q : Nat → α → Prop} (n : Nat) (h : ∀ i, i < n → ∃ a, Q i a) : ∃ l : List α, l.length = n ∧ ∀ i a, l[i]? = some a → Q i a := by
  induction n with
  | zero => exact ⟨[], rfl, fun i a h => by simp at h⟩
  | succ n ih =>
    obtain ⟨l, hl, hq⟩ := ih (fun i hi => h i (by omega))
    obtain ⟨a, ha⟩ := h n (by omega)
    refine ⟨l ++ [a], by simp [hl], fun i b hb => ?_⟩
    rcases Nat.lt_or_ge i l.length with hi | hi
    · rw [List.getElem?_append_left hi] at hb
      exact hq i b hb
    · rw [List.getElem?_append_right hi] at hb
      obtain ⟨h0, rfl⟩ : i - l.length = 0 ∧ a = b := by
        rcases Nat.eq_zero_or_pos (i - l.length) with h0 | h0
        · rw [h0] at hb; exact ⟨h0, by simpa using hb⟩
        · rw [List.getElem?_eq_none (by simp; omega)] at hb; simp at hb
      obtain rfl : i = n := by omega
      exact ha

theorem cells_at {w : World} {base : Nat} {a : Addr} {n : Nat} {cs : List Value} (h : w.cells? base a n = some cs) : cs.length = n ∧ ∀ i u, cs[i]? = some u → w.cell? (a.add i) = some u := by
  unfold World.cells? at h
  split at h
  · have hl := mapM_some_length h
    refine ⟨by simpa using hl, fun i u hu => ?_⟩
    have hi : i < n := by
      have := (List.getElem?_eq_some_iff.1 hu).1
      simp at hl
      omega
    have := mapM_some_get h i i (by simp [hi])
    rw [this, hu]
  · simp at h

theorem br_slice {P : Program} {t e : TypeId} {α : Type} {d : Kd α} {wf : α → Prop} {n : Nat} (ht : P.underlying t = some (.slice e)) (hs : P.cellsOf e = d.sz) (h : BrN P n e d wf) :
    BrN P (n + 1) t (Kd.slice e d) (fun l => l.length ≤ 9223372036854775807 ∧ ∀ a ∈ l, wf a) := by
  intro H enc w base spare held m cs x hm hx
  rcases DataW.trod_slice ht hx with ⟨rfl, _⟩ | ⟨a, len, cap, elems, rest, k, rfl, rfl, _, _, hl, hc, he, hg, _, _⟩
  · exact ⟨[], ⟨none, 0, rfl, Nat.le_refl _, Kd.C_nil d w⟩, by simp, by simp⟩
  · have hq : ∀ i, i < len → ∃ b, (∃ c, c.length = d.sz ∧ d.K w b c ∧ ∀ j u, c[j]? = some u → w.cell? (a.add (i * d.sz + j)) = some u) ∧ wf b := by
      intro i hi
      have g := hg i hi
      rw [List.getElem?_eq_getElem (by omega)] at g
      obtain ⟨c, hc1, hc2⟩ := Option.bind_eq_some_iff.1 g
      obtain ⟨b, hb, hw⟩ := h H enc w base spare held k c _ (by omega) hc2
      obtain ⟨h1, h2⟩ := cells_at hc1
      refine ⟨b, ⟨c, by rw [h1, hs], hb, fun j u hu => ?_⟩, hw⟩
      have := h2 j u hu
      rw [Addr.add_add, hs] at this
      exact this
    obtain ⟨l, hl1, hl2⟩ := list_of_all len hq
    have hlen : len ≤ 9223372036854775807 := by simp only [maxLen] at hc; omega
    refine ⟨l, ⟨some a, cap, by rw [hl1], by omega, rfl, by omega, fun _ => ⟨a, rfl, fun j p hp => (hl2 j p hp).1⟩⟩, by omega, fun b hb => ?_⟩
    obtain ⟨i, hi, rfl⟩ := List.mem_iff_getElem.1 hb
    exact (hl2 i _ (List.getElem?_eq_getElem hi)).2
theorem br_slice' {P : Program} {t e : TypeId} {α : Type} {d : Kd α} {wf : α → Prop} (ht : P.underlying t = some (.slice e)) (hs : P.cellsOf e = d.sz) (h : ∀ n, BrN P n e d wf) (n : Nat) :
    BrN P n t (Kd.slice e d) (fun l => l.length ≤ 9223372036854775807 ∧ ∀ a ∈ l, wf a) := (br_slice ht hs (h n)).mono (Nat.le_succ n)

theorem bf_one {P : Program} {n o : Nat} {f : Field} {α : Type} {d : Kd α} {wf : α → Prop} (ho : f.offset = o) (hs : P.cellsOf f.type = d.sz) (h : BrN P n f.type d wf) : BF P n [f] o d wf := by
  intro H enc w base spare held m cs xs hm hl hx hf
  have g := hf 0 f rfl
  rw [ho, Nat.sub_self, List.drop_zero, hs, ← hl, List.take_length, List.getElem?_eq_getElem (by simp at hx; omega)] at g
  exact h H enc w base spare held m cs _ hm g
theorem bf_cons {P : Program} {n o : Nat} {f : Field} {fs : List Field} {α β : Type} {d : Kd α} {d' : Kd β} {wf : α → Prop} {wf' : β → Prop} (ho : f.offset = o) (hs : P.cellsOf f.type = d.sz) (h : BrN P n f.type d wf)
    (hfs : BF P n fs (o + d.sz) d' wf') (hle : ∀ g ∈ fs, o + d.sz ≤ g.offset) : BF P n (f :: fs) o (Kd.pair d d') (fun x => wf x.1 ∧ wf' x.2) := by
  intro H enc w base spare held m cs xs hm hl hx hf
  have hl' : cs.length = d.sz + d'.sz := hl
  have g := hf 0 f rfl
  rw [ho, Nat.sub_self, List.drop_zero, hs, List.getElem?_eq_getElem (by simp at hx; omega)] at g
  obtain ⟨a, ha, hwa⟩ := h H enc w base spare held m _ _ hm g
  cases xs with
  | nil => simp at hx
  | cons y ys =>
    obtain ⟨b, hb, hwb⟩ := hfs H enc w base spare held m (cs.drop d.sz) ys hm (by rw [List.length_drop]; omega) (by simpa using hx) (fun i q hq => by
      have g2 := hf (i + 1) q (by simpa using hq)
      have hm : q ∈ fs := List.mem_of_getElem? hq
      have := hle q hm
      rw [List.drop_drop, show d.sz + (q.offset - (o + d.sz)) = q.offset - o by omega]
      simpa using g2)
    exact ⟨(a, b), ⟨cs.take d.sz, cs.drop d.sz, (List.take_append_drop _ _).symm, ha, hb⟩, hwa, hwb⟩
theorem br_struct {P : Program} {t : TypeId} {fs : Array Field} {α : Type} {d : Kd α} {wf : α → Prop} {n : Nat} (ht : P.underlying t = some (.struct fs)) (hs : P.cellsOf t = d.sz) (h : BF P n fs.toList 0 d wf) : BrN P (n + 1) t d wf := by
  intro H enc w base spare held m cs x hm hx
  obtain ⟨xs, k, rfl, _, hl, hxs, hf⟩ := DataW.trod_struct ht hx
  exact h H enc w base spare held k cs xs (by omega) (by rw [hl, hs]) (by simpa using hxs) (fun i f hi => by simpa using hf i f (by simpa using hi))
theorem br_struct' {P : Program} {t : TypeId} {fs : Array Field} {α : Type} {d : Kd α} {wf : α → Prop} (ht : P.underlying t = some (.struct fs)) (hs : P.cellsOf t = d.sz) (h : ∀ n, BF P n fs.toList 0 d wf) (n : Nat) : BrN P n t d wf :=
  (br_struct ht hs (h n)).mono (Nat.le_succ n)
theorem br_iso {P : Program} {n : Nat} {t : TypeId} {α β : Type} {d : Kd α} {wf : α → Prop} {f : β → α} (g : α → β) (hg : ∀ y, f (g y) = y) (h : BrN P n t d wf) : BrN P n t (Kd.iso d f) (fun x => wf (f x)) := by
  intro H enc w base spare held m cs x hm hx
  obtain ⟨a, h1, h2⟩ := h H enc w base spare held m cs x hm hx
  exact ⟨g a, by show d.K w (f (g a)) cs; rw [hg]; exact h1, by show wf (f (g a)); rw [hg]; exact h2⟩
/-- A type nested in itself. -/
theorem br_fix {P : Program} {t : TypeId} {α : Type} {F : Kd α → Kd α} {sz : Nat} {E : List Nat} {hs : ∀ n, (Kd.upto F sz E n).sz = sz} {hE : ∀ n q, q ∈ (Kd.upto F sz E n).E → q ∈ E} {wf : Nat → α → Prop}
    (h : ∀ n, BrN P n t (Kd.upto F sz E n) (wf n)) (n : Nat) : BrN P n t (Kd.fix F sz E hs hE) (fun a => ∃ k, wf k a) := by
  intro H enc w base spare held m cs x hm hx
  obtain ⟨a, h1, h2⟩ := h n H enc w base spare held m cs x hm hx
  exact ⟨a, ⟨n, h1⟩, n, h2⟩
theorem arr_of {xs : Array Value} {l : List Value} (h : xs.toList = l) : xs = l.toArray := by rw [← h]

end Go.Proofs.Ytffjfdoghofkdaa.Br


namespace Go.Proofs.Ytffjfdoghofkdaa.BtFnExactHoldsFor
open Go Go.RowKit Go.Proofs.Ytffjfdoghofkdaa.A Go.Proofs.Ytffjfdoghofkdaa.Br Go.Proofs.YtffjfdoghofkdaaW.PrintWords
set_option linter.unusedVariables false
def wf24N : Nat → S24 → Prop
  | 0, _ => False
  | n + 1, x => ((Lit.int .i64 x.f0).wf = true) ∧ ((x.f1 : ByteArray).size ≤ 9223372036854775807) ∧ ((x.f2 : (List S24)).length ≤ 9223372036854775807 ∧ ∀ a ∈ x.f2, wf24N n a)
def wf24 (x : S24) : Prop := ∃ n, wf24N n x
theorem br24N : ∀ n, BrN Try.prog n 24 (Kd.upto F24 3 [24] n) (wf24N n)
  | 0 => BrN.zero _ _ _ _
  | n + 1 => by
    have ih := br24N n
    exact (br_iso (f := (fun x : S24 => (x.f0, x.f1, x.f2))) (fun y => ⟨y.1, y.2.1, y.2.2⟩) (fun _ => rfl) (br_struct Try.underlying24 (show Try.prog.cellsOf 24 = 3 by kernel_rfl) (bf_cons rfl (show Try.prog.cellsOf 3 = 1 by kernel_rfl) (br_int Try.underlying3 n) (bf_cons rfl (show Try.prog.cellsOf 9 = 1 by kernel_rfl) (br_string Try.underlying9 n) (bf_one rfl (show Try.prog.cellsOf 22 = 1 by kernel_rfl) ((br_slice Try.underlying22 (show Try.prog.cellsOf 24 = (Kd.upto F24 3 [24] n).sz by rw [sz24]; kernel_rfl) ih).mono (Nat.le_succ n))) (of_decide_eq_true (by kernel_rfl))) (of_decide_eq_true (by kernel_rfl))))).imp (fun _ h => h)
theorem br24 (n : Nat) : BrN Try.prog n 24 k24 wf24 := br_fix br24N n
end Go.Proofs.Ytffjfdoghofkdaa.BtFnExactHoldsFor

namespace Go.Proofs.Ytffjfdoghofkdaa.Pure
open Go Go.RowKit Go.Proofs.Ytffjfdoghofkdaa.Br Go.Proofs.YtffjfdoghofkdaaW.PrintWords Go.Proofs.YtffjfdoghofkdaaW.PrintLast Go.Proofs.Ytffjfdoghofkdaa.A Go.Proofs.Ytffjfdoghofkdaa.Ext Go.Proofs.Ytffjfdoghofkdaa.BtFnExactHoldsFor
set_option linter.unusedVariables false
def FnExactHoldsFor.Pure : Prop := ∀ (a0_0 : Int) (a0_1 : ByteArray) (a0_2 : ByteArray) (a0_3 : Int) (a0_4 : ByteArray) (l0_5 : (List S24)) (l0_6 : (List Int)) (a0_7 : Int) (a1_0 : ByteArray) (a1_1 : ByteArray) (a1_2 : ByteArray), ((Lit.int .i64 a0_0).wf = true) → ((a0_1 : ByteArray).size ≤ 9223372036854775807) → ((a0_2 : ByteArray).size ≤ 9223372036854775807) → ((Lit.int .i64 a0_3).wf = true) → ((a0_4 : ByteArray).size ≤ 9223372036854775807) → ((l0_5 : (List S24)).length ≤ 9223372036854775807 ∧ ∀ a ∈ l0_5, wf24 a) → ((l0_6 : (List Int)).length ≤ 9223372036854775807 ∧ ∀ a ∈ l0_6, (Lit.int .i64 a).wf = true) → ((Lit.int .i64 a0_7).wf = true) → ((a1_0 : ByteArray).size ≤ 9223372036854775807) → ((a1_1 : ByteArray).size ≤ 9223372036854775807) → ((a1_2 : ByteArray).size ≤ 9223372036854775807) → ∃ k, laws_FnExactHoldsFor.f k a0_0 a0_1 a0_2 a0_3 a0_4 l0_5 l0_6 a0_7 a1_0 a1_1 a1_2 = some true
end Go.Proofs.Ytffjfdoghofkdaa.Pure

namespace Go.Proofs.Ytffjfdoghofkdaa.Pl
set_option linter.unusedVariables false
set_option linter.unusedSimpArgs false
open Go.RowKit Go.Proofs.YtffjfdoghofkdaaW.PrintWords

/-- From some number of rounds on, it answers r. -/
def Evt {α : Type} (g : Nat → Option α) (r : α) : Prop := ∃ K, ∀ k, K ≤ k → g k = some r
section
variable {α β : Type}
theorem Evt.const {g : Option α} {r : α} (h : g = some r) : Evt (fun _ => g) r := ⟨0, fun _ _ => h⟩
theorem Evt.ret (r : α) : Evt (fun _ => some r) r := Evt.const rfl
theorem Evt.bind {g : Nat → Option α} {f : Nat → α → Option β} {a : α} {r : β} (hg : Evt g a) (hf : Evt (fun k => f k a) r) : Evt (fun k => (g k).bind (f k)) r := by
  obtain ⟨K, hK⟩ := hg
  obtain ⟨L, hL⟩ := hf
  exact ⟨max K L, fun k hk => by show (g k).bind (f k) = some r; rw [hK k (by omega)]; exact hL k (by omega)⟩
theorem Evt.bindc {g : Option α} {f : Nat → α → Option β} {a : α} {r : β} (hg : g = some a) (hf : Evt (fun k => f k a) r) : Evt (fun k => g.bind (f k)) r := Evt.bind (Evt.const hg) hf
theorem Evt.step {g : Nat → Option α} {r : α} (h : Evt (fun k => g (k + 1)) r) : Evt g r := by
  obtain ⟨K, hK⟩ := h
  exact ⟨K + 1, fun k hk => by
    obtain ⟨m, rfl⟩ : ∃ m, k = m + 1 := ⟨k - 1, by omega⟩
    exact hK m (by omega)⟩
theorem Evt.pos {c : Prop} [Decidable c] {t e : Nat → Option α} {r : α} (h : c) (ht : Evt t r) : Evt (fun k => if c then t k else e k) r := by
  obtain ⟨K, hK⟩ := ht
  exact ⟨K, fun k hk => (if_pos h).trans (hK k hk)⟩
theorem Evt.neg {c : Prop} [Decidable c] {t e : Nat → Option α} {r : α} (h : ¬ c) (ht : Evt e r) : Evt (fun k => if c then t k else e k) r := by
  obtain ⟨K, hK⟩ := ht
  exact ⟨K, fun k hk => (if_neg h).trans (hK k hk)⟩
theorem Evt.ite {c : Prop} [Decidable c] {t e : Nat → Option α} {x y : α} (ht : c → Evt t x) (he : ¬ c → Evt e y) : Evt (fun k => if c then t k else e k) (if c then x else y) := by
  by_cases h : c
  · rw [if_pos h]; exact Evt.pos h (ht h)
  · rw [if_neg h]; exact Evt.neg h (he h)
theorem Evt.get {g : Nat → Option α} {r : α} (h : Evt g r) : ∃ k, g k = some r := by
  obtain ⟨K, hK⟩ := h
  exact ⟨K, hK K (Nat.le_refl _)⟩
theorem Evt.of_eq {g g' : Nat → Option α} {r : α} (h : ∀ k, g k = g' k) (h' : Evt g' r) : Evt g r := by
  obtain ⟨K, hK⟩ := h'
  exact ⟨K, fun k hk => by rw [h]; exact hK k hk⟩
theorem Evt.cast {g : Nat → Option α} {r r' : α} (h : Evt g r) (e : r = r') : Evt g r' := e ▸ h
/-- A loop that counts up from 0 to n: what it answers at i is R i. -/
theorem Evt.up (l : Nat → Int → Option α) (n : Nat) (R : Nat → α) (hend : Evt (fun k => l k (n : Int)) (R n))
    (hstep : ∀ i : Nat, i < n → Evt (fun k => l k ((i + 1 : Nat) : Int)) (R (i + 1)) → Evt (fun k => l k (i : Int)) (R i)) : Evt (fun k => l k 0) (R 0) := by
  have h : ∀ d i : Nat, i + d = n → Evt (fun k => l k (i : Int)) (R i) := by
    intro d
    induction d with
    | zero =>
      intro i hi
      obtain rfl : i = n := by omega
      exact hend
    | succ d ih =>
      intro i hi
      exact hstep i (by omega) (ih (i + 1) (by omega))
  exact h n 0 (by omega)
end

theorem w64 {x : Int} (h : -9223372036854775808 ≤ x) (h' : x ≤ 9223372036854775807) : wrap64 x = x := by unfold wrap64; omega
/-- The counter's next value. -/
theorem w64s {i : Nat} (h : i < 9223372036854775807) : wrap64 ((i : Int) + 1) = ((i + 1 : Nat) : Int) := by
  rw [w64 (by omega) (by omega)]; omega

theorem bt0 (s : ByteArray) (i : Int) : 0 ≤ bt s i := (bt_range s i).1
theorem bt255 (s : ByteArray) (i : Int) : bt s i ≤ 255 := (bt_range s i).2
theorem bt_get (s : ByteArray) (i : Nat) (h : i < (bytesOf s).length) : bt s (i : Int) = (bytesOf s)[i] := by
  rw [← rd_bytesOf]
  simp [rd, h]
theorem bytesOf_inj {s t : ByteArray} (h : bytesOf s = bytesOf t) : s = t := by
  have h1 : s.data.toList = t.data.toList := by
    refine List.map_inj_right (f := fun b : UInt8 => (b.toNat : Int)) (fun x y hxy => ?_) |>.1 h
    exact UInt8.toNat_inj.1 (Int.ofNat_inj.1 hxy)
  cases s; cases t
  simp only [ByteArray.mk.injEq]
  exact Array.toList_inj.1 h1
theorem toList_eq_iff (s t : ByteArray) : s.toList = t.toList ↔ s = t := by
  rw [Lib.toList_data, Lib.toList_data]
  constructor
  · intro h
    cases s; cases t
    simp only [ByteArray.mk.injEq]
    exact Array.toList_inj.1 h
  · rintro rfl; rfl
theorem toList_nil_iff (s : ByteArray) : s.toList = ([] : List UInt8) ↔ s.size = 0 := by
  rw [Lib.toList_data, ← data_length, List.length_eq_zero_iff]
theorem mem_bytes (s : ByteArray) {c : Int} (h : c ∈ bytesOf s) : 0 ≤ c ∧ c ≤ 255 := by
  unfold bytesOf at h
  obtain ⟨b, _, rfl⟩ := List.mem_map.1 h
  have := b.toNat_lt
  omega
theorem bytesOf_append (s t : ByteArray) : bytesOf (s ++ t) = bytesOf s ++ bytesOf t := by
  simp [bytesOf, ByteArray.data_append]
theorem bytesOf_extract (s : ByteArray) (a b : Nat) : bytesOf (s.extract a b) = ((bytesOf s).drop a).take (b - a) := by
  have h := Lib.extract_toList s a b
  rw [Lib.toList_data] at h
  unfold bytesOf
  rw [h, List.map_take, List.map_drop]
theorem bytesOf_tail (s : ByteArray) (a : Nat) : bytesOf (s.extract a s.size) = (bytesOf s).drop a := by
  rw [bytesOf_extract, List.take_of_length_le]
  rw [List.length_drop, bytesOf_length]
  exact Nat.le_refl _

/-- A letter's number. -/
def ltI (c : Int) : Int := if 97 = c then 0 else if 98 = c then 1 else if 99 = c then 2 else -1
def varI (c : Int) : Int := if 88 = c then 0 else if 89 = c then 1 else if 90 = c then 2 else -1
def isVr (c : Int) : Bool := decide (88 ≤ c ∧ c ≤ 90)
theorem ix_abc : ∀ n : Nat, n < 256 → Lib.indexByte [97, 98, 99] n.toUInt8 = ltI (n : Int) := by decide +kernel
theorem ix_XYZ : ∀ n : Nat, n < 256 → Lib.indexByte [88, 89, 90] n.toUInt8 = varI (n : Int) := by decide +kernel
theorem varI_isVar (c : Int) : decide (varI c ≥ 0) = isVr c := by
  unfold varI isVr
  split
  · subst_vars; rfl
  · split
    · subst_vars; rfl
    · split
      · subst_vars; rfl
      · simp; omega
theorem ltI_nonneg (c : Int) : 0 ≤ ltI c ↔ (97 ≤ c ∧ c ≤ 99) := by
  unfold ltI
  split
  · subst_vars; simp
  · split
    · subst_vars; simp
    · split
      · subst_vars; simp
      · simp; omega
theorem ltI_le (c : Int) : ltI c ≤ 2 := by
  unfold ltI
  repeat' split
  all_goals omega
theorem ltI_ge (c : Int) : -1 ≤ ltI c := by
  unfold ltI
  repeat' split
  all_goals omega
theorem bt_abc0 : bt (⟨#[97, 98, 99]⟩ : ByteArray) 0 = 97 := by decide
theorem bt_abc1 : bt (⟨#[97, 98, 99]⟩ : ByteArray) 1 = 98 := by decide
theorem bt_abc2 : bt (⟨#[97, 98, 99]⟩ : ByteArray) 2 = 99 := by decide
theorem bt_XYZ0 : bt (⟨#[88, 89, 90]⟩ : ByteArray) 0 = 88 := by decide
theorem bt_XYZ1 : bt (⟨#[88, 89, 90]⟩ : ByteArray) 1 = 89 := by decide
theorem bt_XYZ2 : bt (⟨#[88, 89, 90]⟩ : ByteArray) 2 = 90 := by decide
theorem w64_a : wrap64 1 = 1 := by unfold wrap64; omega
theorem w64_b : wrap64 2 = 2 := by unfold wrap64; omega
theorem w64_c : wrap64 3 = 3 := by unfold wrap64; omega
theorem w64_1 : wrap64 (0 + 1) = 1 := by unfold wrap64; omega
theorem w64_2 : wrap64 (1 + 1) = 2 := by unfold wrap64; omega
theorem w64_3 : wrap64 (2 + 1) = 3 := by unfold wrap64; omega

theorem indexByte_nonneg (l : List UInt8) (c : UInt8) : 0 ≤ Lib.indexByte l c ↔ c ∈ l := by
  induction l with
  | nil => simp [Lib.indexByte]
  | cons b l ih =>
    unfold Lib.indexByte
    by_cases h : b = c
    · subst h; simp
    · have hb : (b == c) = false := by simpa using h
      rw [hb]
      have hge := Lib.indexByte_ge l c
      by_cases h2 : Lib.indexByte l c = -1
      · simp only [h2]
        simp
        refine ⟨fun e => h e.symm, fun hm => ?_⟩
        have := ih.2 hm
        omega
      · have h3 : (Lib.indexByte l c == -1) = false := by simpa using h2
        rw [h3]
        simp
        constructor
        · intro _; exact .inr (ih.1 (by omega))
        · rintro (e | hm)
          · exact absurd e.symm h
          · have := ih.2 hm; omega
theorem mem_data (s : ByteArray) (n : Nat) (hn : n < 256) : n.toUInt8 ∈ s.data.toList ↔ (n : Int) ∈ bytesOf s := by
  unfold bytesOf
  rw [List.mem_map]
  constructor
  · intro h
    exact ⟨_, h, by simp [Nat.mod_eq_of_lt hn]⟩
  · rintro ⟨b, hb, e⟩
    have e2 : b.toNat = n := by omega
    subst e2
    simpa using hb
theorem w64_sub {a : Int} {n : Nat} (ha : -1 ≤ a) (ha' : a ≤ 1048576) (hn : n ≤ 9223372036854775807) : wrap64 (a - (n : Int)) = a - (n : Int) := w64 (by omega) (by omega)
end Go.Proofs.Ytffjfdoghofkdaa.Pl

namespace Go.Proofs.Ytffjfdoghofkdaa.F
set_option linter.unusedVariables false
set_option linter.unusedSimpArgs false
open Go.RowKit Go.Proofs.YtffjfdoghofkdaaW.PrintWords Go.Proofs.Ytffjfdoghofkdaa.Pl Go.Proofs.Ytffjfdoghofkdaa.A Go.Proofs.Ytffjfdoghofkdaa.Ext

/-- From some numbers of rounds on, the depth's and the loop's. -/
def Evt2 {α : Type} (g : Nat → Nat → Option α) (r : α) : Prop := ∃ K, ∀ i j, K ≤ i → K ≤ j → g i j = some r
theorem Evt2.ret {α : Type} (r : α) : Evt2 (fun _ _ => some r) r := ⟨0, fun _ _ _ _ => rfl⟩
theorem Evt2.bind {α β : Type} {g : Nat → Option α} {f : Nat → Nat → α → Option β} {a : α} {r : β} (hg : Evt g a) (hf : Evt2 (fun i j => f i j a) r) : Evt2 (fun i j => (g i).bind (f i j)) r := by
  obtain ⟨K, hK⟩ := hg
  obtain ⟨L, hL⟩ := hf
  exact ⟨max K L, fun i j hi hj => by show (g i).bind (f i j) = some r; rw [hK i (by omega)]; exact hL i j (by omega) (by omega)⟩
theorem Evt2.bind2 {α β : Type} {g : Nat → Nat → Option α} {f : Nat → Nat → α → Option β} {a : α} {r : β} (hg : Evt2 g a) (hf : Evt2 (fun i j => f i j a) r) : Evt2 (fun i j => (g i j).bind (f i j)) r := by
  obtain ⟨K, hK⟩ := hg
  obtain ⟨L, hL⟩ := hf
  exact ⟨max K L, fun i j hi hj => by show (g i j).bind (f i j) = some r; rw [hK i j (by omega) (by omega)]; exact hL i j (by omega) (by omega)⟩
theorem Evt2.pos {α : Type} {c : Prop} [Decidable c] {t e : Nat → Nat → Option α} {r : α} (h : c) (ht : Evt2 t r) : Evt2 (fun i j => if c then t i j else e i j) r := by
  obtain ⟨K, hK⟩ := ht
  exact ⟨K, fun i j hi hj => by show (if c then t i j else e i j) = some r; rw [if_pos h]; exact hK i j hi hj⟩
theorem Evt2.neg {α : Type} {c : Prop} [Decidable c] {t e : Nat → Nat → Option α} {r : α} (h : ¬ c) (he : Evt2 e r) : Evt2 (fun i j => if c then t i j else e i j) r := by
  obtain ⟨K, hK⟩ := he
  exact ⟨K, fun i j hi hj => by show (if c then t i j else e i j) = some r; rw [if_neg h]; exact hK i j hi hj⟩
theorem Evt2.step {α : Type} {g : Nat → Nat → Option α} {r : α} (h : Evt2 (fun i j => g i (j + 1)) r) : Evt2 g r := by
  obtain ⟨K, hK⟩ := h
  refine ⟨K + 1, fun i j hi hj => ?_⟩
  obtain ⟨j, rfl⟩ : ∃ m, j = m + 1 := ⟨j - 1, by omega⟩
  exact hK i j (by omega) (by omega)
theorem Evt2.diag {α : Type} {g : Nat → Nat → Option α} {r : α} (h : Evt2 g r) : Evt (fun k => g k k) r := by
  obtain ⟨K, hK⟩ := h
  exact ⟨K, fun k hk => hK k k hk hk⟩
theorem Evt2.cast {α : Type} {g : Nat → Nat → Option α} {r r' : α} (h : Evt2 g r) (e : r = r') : Evt2 g r' := e ▸ h

/-- Lengths that a machine can hold, at every depth. -/
def RxOk : Nat → S24 → Prop
  | 0, _ => False
  | n + 1, x => x.f1.size ≤ 9223372036854775807 ∧ x.f2.length ≤ 9223372036854775807 ∧ ∀ a ∈ x.f2, RxOk n a
/-- A copy of what weighing lets through. -/
inductive Sm : S35 → Prop
  | mk (a : Int) (b : ByteArray) (l : List S35) (h : l.length ≤ 1048576) (hs : ∀ x ∈ l, Sm x) : Sm ⟨a, b, l⟩
theorem Sm.len {x : S35} (h : Sm x) : x.f2.length ≤ 1048576 := by cases h; assumption
theorem rxL_at (l : List S24) (i : Nat) (h : i < l.length) : rd_T24 l (i : Int) = l[i] := by simp [rd_T24, h]
theorem rxI_at (l : List S35) (i : Nat) (h : i < l.length) : rd_T35 l (i : Int) = l[i] := by simp [rd_T35, h]
theorem rx_eta (y : S35) : (⟨y.f0, y.f1, y.f2⟩ : S35) = y := by cases y; rfl
/-- Its copy. -/
def Cp (x : S24) (y : S35) : Prop := Sm y ∧ Evt (fun k => laws_toRegex.f k x.f0 x.f1 x.f2) (y.f0, y.f1, y.f2)
theorem copies (l : List S24) (h : ∀ x ∈ l, ∃ y, Cp x y) : ∃ ys : List S35, ys.length = l.length ∧ ∀ (i : Nat) (h : i < l.length) (h' : i < ys.length), Cp l[i] ys[i] := by
  induction l with
  | nil => exact ⟨[], rfl, fun i h => absurd h (by simp)⟩
  | cons x l ih =>
    obtain ⟨y, hy⟩ := h x (by simp)
    obtain ⟨ys, h1, h2⟩ := ih (fun z hz => h z (by simp [hz]))
    refine ⟨y :: ys, by simp [h1], fun i hi hi' => ?_⟩
    cases i with
    | zero => exact hy
    | succ i => exact h2 i (by simpa using hi) (by simpa using hi')
theorem toRegex_ev (a : Int) (b : ByteArray) (l : List S24) (hl : l.length ≤ 1048576) (h : ∀ x ∈ l, ∃ y, Cp x y) : ∃ y, Cp ⟨a, b, l⟩ y := by
  obtain ⟨ys, e, hc⟩ := copies l h
  refine ⟨⟨a, b, ys⟩, Sm.mk a b ys (by omega) (fun y hy => ?_), ?_⟩
  · obtain ⟨i, hi, rfl⟩ := List.mem_iff_getElem.1 hy
    exact (hc i (by omega) hi).1
  · refine Evt.step ?_
    simp only [laws_toRegex.f]
    refine Evt2.diag (g := fun i j => laws_toRegexG.f (fun _ => laws_toRegex.f i) j a b l) ?_
    simp only [laws_toRegexG.f, laws_toRegexSG.f]
    refine Evt2.bind2 (a := ys) (Evt2.pos (by omega) (Evt2.pos (by omega) ?_)) (Evt2.ret _)
    rw [Int.toNat_natCast]
    have hh : ∀ d i : Nat, i + d = l.length → Evt2 (fun p q => laws_toRegexSG.l0 (fun _ => laws_toRegex.f p) q l (ys.take i ++ List.replicate (l.length - i) z35) (i : Int)) ys := by
      intro d
      induction d with
      | zero =>
        intro i hi
        refine Evt2.step ?_
        simp only [laws_toRegexSG.l0]
        refine Evt2.neg (by omega) ((Evt2.ret _).cast ?_)
        rw [show l.length - i = 0 by omega, List.take_of_length_le (by omega)]
        simp
      | succ d ih =>
        intro i hi
        have hi' : i < l.length := by omega
        refine Evt2.step ?_
        simp only [laws_toRegexSG.l0]
        rw [rxL_at l i hi']
        refine Evt2.pos (by omega) (Evt2.pos (by omega) (Evt2.bind (hc i hi' (by omega)).2 (Evt2.pos (by simp; omega) ?_)))
        rw [Int.toNat_natCast, w64s (by omega)]
        have hx : (ys.take i).length = i := by rw [List.length_take]; omega
        have e2 : (ys.take i ++ List.replicate (l.length - i) z35).set i (ys[i]'(by omega)) = ys.take (i + 1) ++ List.replicate (l.length - (i + 1)) z35 := by
          rw [List.set_append_right _ _ (by omega), hx, Nat.sub_self, show l.length - i = (l.length - (i + 1)) + 1 by omega, List.replicate_succ, List.set_cons_zero, List.take_succ_eq_append_getElem (by omega), List.append_assoc]
          rfl
        simp only [rx_eta, e2]
        exact ih (i + 1) (by omega)
    simpa using hh l.length 0 (by omega)
theorem szRegex_ev : ∀ n (x : S24), RxOk n x → ∀ v : Int, 0 ≤ v → v ≤ 1048576 → ∃ t, Evt (fun k => laws_szRegex.f k x.f0 x.f1 x.f2 v) t ∧ (t = -1 ∨ (0 ≤ t ∧ t ≤ v ∧ ∃ y, Cp x y)) := by
  intro n
  induction n with
  | zero => intro x h; exact h.elim
  | succ n ih =>
    rintro ⟨a, b, l⟩ ⟨h1, h2, h3⟩ v hv hv'
    simp only at h1 h2 h3
    have hs : ∃ t, Evt2 (fun i j => laws_szRegexG.f (fun _ => laws_szRegex.f i) j a b l v) t ∧ (t = -1 ∨ (0 ≤ t ∧ t ≤ v ∧ ∃ y, Cp ⟨a, b, l⟩ y)) := by
      simp only [laws_szRegexG.f, laws_szRegexSG.f]
      rw [w64_sub (by omega) (by omega) h1]
      by_cases c1 : v - b.size < 0
      · exact ⟨-1, Evt2.pos c1 (Evt2.ret _), .inl rfl⟩
      rw [w64_sub (by omega) (by omega) h2]
      by_cases c2 : v - b.size - l.length < 0
      · exact ⟨-1, Evt2.neg c1 (Evt2.bind2 (Evt2.pos c2 (Evt2.ret _)) (Evt2.pos (by decide) (Evt2.ret _))), .inl rfl⟩
      have hh : ∀ d i : Nat, i + d = l.length → ∀ u : Int, 0 ≤ u → u ≤ 1048576 → ∃ t, Evt2 (fun p q => laws_szRegexSG.l0 (fun _ => laws_szRegex.f p) q l u (i : Int)) t ∧ (t = -1 ∨ (0 ≤ t ∧ t ≤ u ∧ ∀ x ∈ l.drop i, ∃ y, Cp x y)) := by
        intro d
        induction d with
        | zero =>
          intro i hi u hu hu'
          refine ⟨u, Evt2.step ?_, .inr ⟨hu, Int.le_refl _, ?_⟩⟩
          · simp only [laws_szRegexSG.l0]
            exact Evt2.neg (by omega) (Evt2.ret _)
          · rw [List.drop_of_length_le (by omega)]
            intro x hx
            cases hx
        | succ d ihd =>
          intro i hi u hu hu'
          have hi' : i < l.length := by omega
          obtain ⟨t, ht, hc⟩ := ih l[i] (h3 _ (List.getElem_mem hi')) u hu hu'
          by_cases c3 : t < 0
          · refine ⟨-1, Evt2.step ?_, .inl rfl⟩
            simp only [laws_szRegexSG.l0]
            rw [rxL_at l i hi']
            exact Evt2.pos (by omega) (Evt2.pos (by omega) (Evt2.bind ht (Evt2.pos c3 (Evt2.ret _))))
          · have hc' := hc.resolve_left (by omega)
            obtain ⟨t', ht', hc2⟩ := ihd (i + 1) (by omega) t (by omega) (by omega)
            refine ⟨t', Evt2.step ?_, ?_⟩
            · simp only [laws_szRegexSG.l0]
              rw [rxL_at l i hi', w64s (by omega)]
              exact Evt2.pos (by omega) (Evt2.pos (by omega) (Evt2.bind ht (Evt2.neg c3 ht')))
            · rcases hc2 with h4 | ⟨h4, h5, h6⟩
              · exact .inl h4
              · refine .inr ⟨h4, by omega, ?_⟩
                rw [List.drop_eq_getElem_cons hi']
                intro x hx
                rcases List.mem_cons.1 hx with rfl | hx
                · exact hc'.2.2
                · exact h6 x hx
      obtain ⟨t, ht, hc⟩ := hh l.length 0 (by omega) (v - b.size - l.length) (by omega) (by omega)
      by_cases c4 : t < 0
      · exact ⟨-1, Evt2.neg c1 (Evt2.bind2 (Evt2.neg c2 ht) (Evt2.pos c4 (Evt2.ret _))), .inl rfl⟩
      · have hc' := hc.resolve_left (by omega)
        refine ⟨t, Evt2.neg c1 (Evt2.bind2 (Evt2.neg c2 ht) (Evt2.neg c4 (Evt2.ret _))), .inr ⟨hc'.1, by omega, toRegex_ev a b l (by omega) (by simpa using hc'.2.2)⟩⟩
    obtain ⟨t, ht, hc⟩ := hs
    refine ⟨t, Evt.step ?_, hc⟩
    simp only [laws_szRegex.f]
    exact Evt2.diag ht

end Go.Proofs.Ytffjfdoghofkdaa.F


namespace Go.Proofs.Ytffjfdoghofkdaa.F
set_option linter.unusedVariables false
set_option linter.unusedSimpArgs false
open Go.RowKit Go.Proofs.YtffjfdoghofkdaaW.PrintWords Go.Proofs.Ytffjfdoghofkdaa.Pl Go.Proofs.Ytffjfdoghofkdaa.A Go.Proofs.Ytffjfdoghofkdaa.Ext

theorem spec_LetterIndex_ev (c : Int) : Evt (fun k => spec_LetterIndex.f k c) (ltI c) := by
  refine ⟨4, fun k hk => ?_⟩
  obtain ⟨m, rfl⟩ : ∃ m, k = m + 4 := ⟨k - 4, by omega⟩
  unfold ltI
  by_cases h0 : (97 : Int) = c
  · simp [spec_LetterIndex.f, spec_LetterIndex.l0, w64_a, w64_b, w64_c, bt_abc0, bt_abc1, bt_abc2, h0]
  · by_cases h1 : (98 : Int) = c
    · simp [spec_LetterIndex.f, spec_LetterIndex.l0, w64_a, w64_b, w64_c, bt_abc0, bt_abc1, bt_abc2, h0, h1]
    · by_cases h2 : (99 : Int) = c
      · simp [spec_LetterIndex.f, spec_LetterIndex.l0, w64_a, w64_b, w64_c, bt_abc0, bt_abc1, bt_abc2, h0, h1, h2]
      · simp [spec_LetterIndex.f, spec_LetterIndex.l0, w64_a, w64_b, w64_c, bt_abc0, bt_abc1, bt_abc2, h0, h1, h2]
theorem impl_LetterIndex_eq {c : Int} (h0 : 0 ≤ c) (h1 : c ≤ 255) : impl_LetterIndex.f c = some (ltI c) := by
  obtain ⟨n, rfl⟩ := Int.eq_ofNat_of_zero_le h0
  simp only [impl_LetterIndex.f, strings_IndexByte.f, Option.bind_some]
  rw [Int.toNat_natCast]
  exact congrArg some (ix_abc n (by omega))

def allL (l : List Int) : Bool := l.all fun c => decide (0 ≤ ltI c)
theorem impl_isLetters_ev (s : ByteArray) (hs : s.size ≤ 9223372036854775807) : Evt (fun k => impl_isLetters.f k s) (allL (bytesOf s)) := by
  have h := Evt.up (fun k i => impl_isLetters.l0 k s i) s.size (fun i => allL ((bytesOf s).drop i)) ?_ ?_
  · simpa [impl_isLetters.f] using h
  · refine Evt.step ?_
    simp only [impl_isLetters.l0]
    rw [List.drop_of_length_le (by rw [bytesOf_length]; omega)]
    exact Evt.neg (by omega) (Evt.ret _)
  · intro i hi h
    refine Evt.step ?_
    simp only [impl_isLetters.l0]
    refine Evt.pos (by omega) (Evt.pos (by omega) (Evt.bindc (impl_LetterIndex_eq (bt0 _ _) (bt255 _ _)) ?_))
    have hl : i < (bytesOf s).length := by rw [bytesOf_length]; exact hi
    rw [List.drop_eq_getElem_cons hl, ← bt_get s i hl]
    by_cases hc : ltI (bt s i) < 0
    · exact Evt.pos hc (Evt.const (by simp [allL, show ¬ (0 ≤ ltI (bt s i)) by omega]))
    · rw [w64s (by omega)]
      exact Evt.neg hc (h.cast (by simp [allL, show 0 ≤ ltI (bt s i) by omega]))
/-- A word. -/
def isW (s : ByteArray) : Bool := allL (bytesOf s) && decide (s.size ≤ 30)
theorem impl_IsWord_ev (s : ByteArray) (hs : s.size ≤ 9223372036854775807) : Evt (fun k => impl_IsWord.f k s) (isW s) := by
  unfold isW
  simp only [impl_IsWord.f]
  by_cases h : s.size ≤ 30
  · exact Evt.pos (by omega) (Evt.bind (impl_isLetters_ev s hs) (Evt.const (by simp [h])))
  · exact Evt.neg (by omega) (Evt.const (by simp [h]))
theorem spec_IsWord_ev (s : ByteArray) (hs : s.size ≤ 9223372036854775807) : Evt (fun k => spec_IsWord.f k s) (isW s) := by
  have h := Evt.up (fun k i => spec_IsWord.l0 k s i) s.size (fun i => allL ((bytesOf s).drop i) && decide (s.size ≤ 30)) ?_ ?_
  · simpa [spec_IsWord.f, isW] using h
  · refine Evt.step ?_
    simp only [spec_IsWord.l0]
    rw [List.drop_of_length_le (by rw [bytesOf_length]; omega)]
    refine Evt.neg (by omega) (Evt.const ?_)
    have e : ((s.size : Int) ≤ 30) = (s.size ≤ 30) := by apply propext; omega
    simp [allL, e]
  · intro i hi h
    refine Evt.step ?_
    simp only [spec_IsWord.l0]
    refine Evt.pos (by omega) (Evt.pos (by omega) (Evt.bind (spec_LetterIndex_ev _) ?_))
    have hl : i < (bytesOf s).length := by rw [bytesOf_length]; exact hi
    rw [List.drop_eq_getElem_cons hl, ← bt_get s i hl]
    by_cases hc : ltI (bt s i) < 0
    · exact Evt.pos hc (Evt.const (by simp [allL, show ¬ (0 ≤ ltI (bt s i)) by omega]))
    · rw [w64s (by omega)]
      exact Evt.neg hc (h.cast (by simp [allL, show 0 ≤ ltI (bt s i) by omega]))

end Go.Proofs.Ytffjfdoghofkdaa.F


namespace Go.Proofs.Ytffjfdoghofkdaa.F
set_option linter.unusedVariables false
set_option linter.unusedSimpArgs false
open Go.RowKit Go.Proofs.YtffjfdoghofkdaaW.PrintWords Go.Proofs.Ytffjfdoghofkdaa.Pl Go.Proofs.Ytffjfdoghofkdaa.A Go.Proofs.Ytffjfdoghofkdaa.Ext

/-- How many arguments a kind has. -/
def arN (a : Int) : Nat := if a = 5 ∨ a = 6 ∨ a = 7 then 2 else if a = 8 ∨ a = 9 then 1 else 0
theorem arN_le (a : Int) : arN a ≤ 2 := by
  unfold arN
  split
  · omega
  · split <;> omega
/-- The shape of one node. -/
def kOk (a : Int) (b : ByteArray) (n : Nat) : Bool :=
  if a = 3 then decide (b.size = 1) && isW b && decide (n = 0) else decide (1 ≤ a ∧ a ≤ 9) && decide (b.size = 0) && decide (n = arN a)
theorem kOk_len {a : Int} {b : ByteArray} {n : Nat} (h : kOk a b n = true) : n = arN a := by
  unfold kOk at h
  split at h
  · next e => subst e; simp at h; simp [h.2, arN]
  · simp at h; exact h.2
/-- The nodes of a valid expression of a depth of at most n; more than 16 are told as 17, and so is what is not valid. -/
def nds : Nat → S35 → Nat
  | 0, _ => 17
  | n + 1, x => if kOk x.f0 x.f1 x.f2.length = true then min (1 + (x.f2.map (nds n)).sum) 17 else 17
theorem nds_le (n : Nat) (x : S35) : nds n x ≤ 17 := by
  cases n with
  | zero => exact Nat.le_refl _
  | succ n => unfold nds; split <;> omega
/-- A tree of a height of at most n. -/
def Ht : Nat → S35 → Prop
  | 0, _ => False
  | n + 1, x => x.f2.length ≤ 1048576 ∧ ∀ a ∈ x.f2, Ht n a
theorem Ht_mono : ∀ n (x : S35), Ht n x → Ht (n + 1) x := by
  intro n
  induction n with
  | zero => intro x h; exact h.elim
  | succ n ih => intro x h; exact ⟨h.1, fun a ha => ih a (h.2 a ha)⟩
theorem Ht_le {n m : Nat} (h : n ≤ m) (x : S35) (hx : Ht n x) : Ht m x := by
  induction h with
  | refl => exact hx
  | step _ ih => exact Ht_mono _ _ ih
theorem Sm.ht {x : S35} (h : Sm x) : ∃ n, Ht n x := by
  induction h with
  | mk a b l hl hs ih =>
    have h3 : ∃ n, ∀ a ∈ l, Ht n a := by
      clear hl hs
      induction l with
      | nil => exact ⟨0, fun a ha => by cases ha⟩
      | cons x l ihl =>
        obtain ⟨n, hn⟩ := ihl (fun a ha => ih a (List.mem_cons_of_mem _ ha))
        obtain ⟨m, hm⟩ := ih x (List.mem_cons_self ..)
        refine ⟨max n m, fun a ha => ?_⟩
        rcases List.mem_cons.1 ha with rfl | ha
        · exact Ht_le (by omega) _ hm
        · exact Ht_le (by omega) _ (hn a ha)
    obtain ⟨n, hn⟩ := h3
    exact ⟨n + 1, hl, hn⟩
/-- All nodes, the depth, and whether each node has its shape. -/
def siz : Nat → S35 → Nat
  | 0, _ => 1
  | n + 1, x => 1 + (x.f2.map (siz n)).sum
def dep : Nat → S35 → Nat
  | 0, _ => 1
  | n + 1, x => (x.f2.map (dep n)).foldr max 0 + 1
def alls : Nat → S35 → Bool
  | 0, _ => true
  | n + 1, x => (x.f2.all (alls n)) && kOk x.f0 x.f1 x.f2.length
theorem siz_pos (n : Nat) (x : S35) : 1 ≤ siz n x := by cases n <;> simp [siz]
theorem dep_pos (n : Nat) (x : S35) : 1 ≤ dep n x := by cases n <;> simp [dep]
theorem dep_le_siz (n : Nat) : ∀ x : S35, dep n x ≤ siz n x := by
  induction n with
  | zero => intro x; simp [dep, siz]
  | succ n ih =>
    intro x
    simp only [dep, siz]
    generalize x.f2 = l
    induction l with
    | nil => simp
    | cons y l ihl => simp only [List.map_cons, List.foldr_cons, List.sum_cons]; have := ih y; omega
theorem nds_eq (n : Nat) : ∀ (x : S35) (e : Nat), Ht n x → nds e x = if alls n x = true ∧ dep n x ≤ e ∧ siz n x ≤ 16 then siz n x else 17 := by
  induction n with
  | zero => intro x e h; exact h.elim
  | succ n ih =>
    intro x e h
    cases e with
    | zero =>
      have := dep_pos (n + 1) x
      rw [if_neg (by omega)]
      rfl
    | succ e =>
      unfold nds
      by_cases hk : kOk x.f0 x.f1 x.f2.length = true
      · rw [if_pos hk]
        have hl := kOk_len hk
        have h2 := arN_le x.f0
        obtain ⟨_, hm⟩ := h
        simp only [alls, dep, siz, hk, Bool.and_true]
        generalize x.f2 = l at *
        match l with
        | [] => simp
        | [p] =>
          have ip := ih p e (hm p (by simp))
          have hp := siz_pos n p
          have hq := dep_pos n p
          simp only [List.map_cons, List.map_nil, List.sum_cons, List.sum_nil, List.foldr_cons, List.foldr_nil, List.all_cons, List.all_nil, Bool.and_true, ip]
          by_cases c1 : alls n p = true <;> by_cases c2 : dep n p ≤ e <;> by_cases c3 : siz n p ≤ 16 <;> simp only [c1, c2, c3, true_and, false_and, and_true, and_false, if_true, if_false, Bool.false_eq_true] <;> first | omega | (split <;> omega)
        | [p, q] =>
          have ip := ih p e (hm p (by simp))
          have iq := ih q e (hm q (by simp))
          have hp := siz_pos n p
          have hq := siz_pos n q
          have hp' := dep_pos n p
          have hq' := dep_pos n q
          simp only [List.map_cons, List.map_nil, List.sum_cons, List.sum_nil, List.foldr_cons, List.foldr_nil, List.all_cons, List.all_nil, Bool.and_true, ip, iq, Bool.and_eq_true]
          by_cases c1 : alls n p = true <;> by_cases c2 : dep n p ≤ e <;> by_cases c3 : siz n p ≤ 16 <;> by_cases c1' : alls n q = true <;> by_cases c2' : dep n q ≤ e <;> by_cases c3' : siz n q ≤ 16 <;> simp only [c1, c2, c3, c1', c2', c3', true_and, false_and, and_true, and_false, if_true, if_false, Bool.false_eq_true] <;> first | omega | (split <;> omega)
        | p :: q :: r :: l => simp at hl; omega
      · rw [if_neg hk, if_neg]
        simp [alls, hk]

end Go.Proofs.Ytffjfdoghofkdaa.F


namespace Go.Proofs.Ytffjfdoghofkdaa.F
set_option linter.unusedVariables false
set_option linter.unusedSimpArgs false
open Go.RowKit Go.Proofs.YtffjfdoghofkdaaW.PrintWords Go.Proofs.Ytffjfdoghofkdaa.Pl Go.Proofs.Ytffjfdoghofkdaa.A Go.Proofs.Ytffjfdoghofkdaa.Ext

theorem impl_isVariable_eq {c : Int} (h0 : 0 ≤ c) (h1 : c ≤ 255) : impl_isVariable.f c = some (isVr c) := by
  obtain ⟨n, rfl⟩ := Int.eq_ofNat_of_zero_le h0
  simp only [impl_isVariable.f, strings_IndexByte.f, Option.bind_some]
  rw [Int.toNat_natCast, ← varI_isVar, ← ix_XYZ n (by omega)]
theorem spec_l8Var_eq (c : Int) : spec_l8Var.f c = some (isVr c) := by
  unfold spec_l8Var.f isVr
  by_cases h : c ≥ 88
  · rw [if_pos h]; simp [show 88 ≤ c from h]
  · rw [if_neg h]; simp [show ¬ 88 ≤ c from h]

def isT (c : Int) : Bool := decide (0 ≤ ltI c) || isVr c
/-- A term. -/
def isTm (s : ByteArray) : Bool := (bytesOf s).all isT && decide (s.size ≤ 12)
theorem spec_IsTerm_ev (s : ByteArray) (hs : s.size ≤ 9223372036854775807) : Evt (fun k => spec_IsTerm.f k s) (isTm s) := by
  have h := Evt.up (fun k i => spec_IsTerm.l0 k s i) s.size (fun i => ((bytesOf s).drop i).all isT && decide (s.size ≤ 12)) ?_ ?_
  · simpa [spec_IsTerm.f, isTm] using h
  · refine Evt.step ?_
    simp only [spec_IsTerm.l0]
    rw [List.drop_of_length_le (by rw [bytesOf_length]; omega)]
    refine Evt.neg (by omega) (Evt.const ?_)
    have e : ((s.size : Int) ≤ 12) = (s.size ≤ 12) := by apply propext; omega
    simp [e]
  · intro i hi h
    refine Evt.step ?_
    simp only [spec_IsTerm.l0]
    refine Evt.pos (by omega) (Evt.pos (by omega) (Evt.bind (spec_LetterIndex_ev _) ?_))
    have hl : i < (bytesOf s).length := by rw [bytesOf_length]; exact hi
    rw [List.drop_eq_getElem_cons hl, ← bt_get s i hl, w64s (by omega)]
    by_cases hc : ltI (bt s i) < 0
    · refine Evt.pos hc (Evt.bindc (spec_l8Var_eq _) ?_)
      by_cases hv : isVr (bt s i) = true
      · exact Evt.pos hv (h.cast (by simp [isT, hv]))
      · exact Evt.neg hv (Evt.const (by simp [isT, hv, show ¬ (0 ≤ ltI (bt s i)) by omega]))
    · exact Evt.neg hc (h.cast (by simp [isT, show 0 ≤ ltI (bt s i) by omega]))
theorem impl_IsTerm_ev (s : ByteArray) : Evt (fun k => impl_IsTerm.f k s) (isTm s) := by
  simp only [impl_IsTerm.f]
  by_cases h12 : (s.size : Int) > 12
  · exact Evt.pos h12 (Evt.const (by simp [isTm, show ¬ s.size ≤ 12 by omega]))
  refine Evt.neg h12 ?_
  have h := Evt.up (fun k i => impl_IsTerm.l0 k s i) s.size (fun i => ((bytesOf s).drop i).all isT) ?_ ?_
  · exact h.cast (by simp [isTm, show s.size ≤ 12 by omega])
  · refine Evt.step ?_
    simp only [impl_IsTerm.l0]
    rw [List.drop_of_length_le (by rw [bytesOf_length]; omega)]
    exact Evt.neg (by omega) (Evt.ret _)
  · intro i hi h
    refine Evt.step ?_
    simp only [impl_IsTerm.l0]
    refine Evt.pos (by omega) (Evt.pos (by omega) (Evt.bindc (impl_LetterIndex_eq (bt0 _ _) (bt255 _ _)) ?_))
    have hl : i < (bytesOf s).length := by rw [bytesOf_length]; exact hi
    rw [List.drop_eq_getElem_cons hl, ← bt_get s i hl, w64s (by omega)]
    by_cases hc : ltI (bt s i) < 0
    · refine Evt.pos hc (Evt.bindc (impl_isVariable_eq (bt0 _ _) (bt255 _ _)) ?_)
      by_cases hv : isVr (bt s i) = true
      · exact Evt.pos hv (h.cast (by simp [isT, hv]))
      · exact Evt.neg hv (Evt.const (by simp [isT, hv, show ¬ (0 ≤ ltI (bt s i)) by omega]))
    · exact Evt.neg hc (h.cast (by simp [isT, show 0 ≤ ltI (bt s i) by omega]))


end Go.Proofs.Ytffjfdoghofkdaa.F


namespace Go.Proofs.Ytffjfdoghofkdaa.F
set_option linter.unusedVariables false
set_option linter.unusedSimpArgs false
open Go.RowKit Go.Proofs.YtffjfdoghofkdaaW.PrintWords Go.Proofs.Ytffjfdoghofkdaa.Pl Go.Proofs.Ytffjfdoghofkdaa.A Go.Proofs.Ytffjfdoghofkdaa.Ext

theorem impl_argsOf_ev (a : Int) : Evt (fun k => impl_argsOf.f k a) (if 1 ≤ a ∧ a ≤ 9 then (arN a : Int) else -1) := by
  refine ⟨3, fun k hk => ?_⟩
  obtain ⟨m, rfl⟩ : ∃ m, k = m + 3 := ⟨k - 3, by omega⟩
  have h : a = 1 ∨ a = 2 ∨ a = 3 ∨ a = 4 ∨ a = 5 ∨ a = 6 ∨ a = 7 ∨ a = 8 ∨ a = 9 ∨ ¬ (1 ≤ a ∧ a ≤ 9) := by omega
  rcases h with rfl | rfl | rfl | rfl | rfl | rfl | rfl | rfl | rfl | h
  all_goals first
    | simp [impl_argsOf.f, impl_argsOf.j0, impl_argsOf.j1, arN, -Int.reduceNeg]; done
    | skip
  rw [if_neg h]
  have e : ∀ c : Int, 1 ≤ c → c ≤ 9 → ¬ a = c := fun c h1 h2 h3 => h (by omega)
  have eb : ∀ c : Int, 1 ≤ c → c ≤ 9 → (a == c) = false := fun c h1 h2 => by simpa using e c h1 h2
  simp [impl_argsOf.f, impl_argsOf.j0, impl_argsOf.j1, e 1, e 2, e 3, e 4, e 5, e 6, e 7, e 8, e 9, eb 4, eb 9]
theorem impl_nodesOf_j0t (v a : Int) (b : ByteArray) (l : List S35) : Evt (fun k => impl_nodesOf.j0 k v true a b l) 17 := by
  refine Evt.step ?_
  simp only [impl_nodesOf.j0]
  exact Evt.pos trivial (Evt.ret _)
theorem impl_nodesOf_l0 (n : Nat) (hn : n ≤ 6) (l : List S35) (hl : l.length ≤ 2) (ih : ∀ x ∈ l, Evt (fun k => impl_nodesOf.f k x.f0 x.f1 x.f2 (n : Int)) ((nds n x : Nat) : Int)) :
    ∀ d i acc : Nat, i + d = l.length → acc ≤ 1 + 17 * i → Evt (fun k => impl_nodesOf.l0 k ((n + 1 : Nat) : Int) (acc : Int) l (l.length : Int) (i : Int)) ((min (acc + ((l.drop i).map (nds n)).sum) 17 : Nat) : Int) := by
  intro d
  induction d with
  | zero =>
    intro i acc hi ha
    refine Evt.step ?_
    simp only [impl_nodesOf.l0]
    refine Evt.neg (by omega) ((Evt.ret _).cast ?_)
    rw [List.drop_of_length_le (by omega)]
    simp only [mn, List.map_nil, List.sum_nil, Nat.add_zero]
    split <;> omega
  | succ d ihd =>
    intro i acc hi ha
    have hi' : i < l.length := by omega
    have hx := nds_le n l[i]
    refine Evt.step ?_
    simp only [impl_nodesOf.l0]
    rw [rxI_at l i hi', w64s (by omega), w64 (x := ((n + 1 : Nat) : Int) - 1) (by omega) (by omega), show ((n + 1 : Nat) : Int) - 1 = (n : Int) by omega]
    refine Evt.pos (by omega) (Evt.pos (by omega) (Evt.pos (by omega) (Evt.bind (ih _ (List.getElem_mem hi')) ?_)))
    rw [w64 (by omega) (by omega), show (acc : Int) + ((nds n l[i] : Nat) : Int) = ((acc + nds n l[i] : Nat) : Int) by omega]
    refine (ihd (i + 1) (acc + nds n l[i]) (by omega) (by omega)).cast ?_
    rw [List.drop_eq_getElem_cons hi', List.map_cons, List.sum_cons, Nat.add_assoc]
theorem impl_nodesOf_ev (n : Nat) : n ≤ 6 → ∀ x : S35, Evt (fun k => impl_nodesOf.f k x.f0 x.f1 x.f2 (n : Int)) ((nds n x : Nat) : Int) := by
  induction n with
  | zero =>
    intro _ x
    refine Evt.step ?_
    simp only [impl_nodesOf.f]
    exact Evt.pos (by omega) ((impl_nodesOf_j0t _ _ _ _).cast (by simp [nds]))
  | succ n ih =>
    intro hn x
    refine Evt.step ?_
    simp only [impl_nodesOf.f]
    refine Evt.neg (by omega) (Evt.bind (impl_argsOf_ev _) ?_)
    unfold nds
    by_cases hlen : (x.f2.length : Int) = (if 1 ≤ x.f0 ∧ x.f0 ≤ 9 then (arN x.f0 : Int) else -1)
    · have e : ((x.f2.length : Int) != (if 1 ≤ x.f0 ∧ x.f0 ≤ 9 then (arN x.f0 : Int) else -1)) = false := by simp [hlen]
      rw [e]
      have hr : 1 ≤ x.f0 ∧ x.f0 ≤ 9 := by
        by_cases hr : 1 ≤ x.f0 ∧ x.f0 ≤ 9
        · exact hr
        · rw [if_neg hr] at hlen; omega
      rw [if_pos hr] at hlen
      have ha := arN_le x.f0
      have hj1 : Evt (fun k => impl_nodesOf.j1 k ((n + 1 : Nat) : Int) x.f0 x.f1 x.f2) ((min (1 + (x.f2.map (nds n)).sum) 17 : Nat) : Int) := by
        refine Evt.step ?_
        simp only [impl_nodesOf.j1]
        have := impl_nodesOf_l0 n (by omega) x.f2 (by omega) (fun y _ => ih (by omega) y) x.f2.length 0 1 (by omega) (by omega)
        simpa using this
      refine Evt.step ?_
      simp only [impl_nodesOf.j0]
      refine Evt.neg (by decide) ?_
      by_cases h3 : x.f0 = 3
      · refine Evt.pos h3 ?_
        have h0 : x.f2.length = 0 := by rw [h3] at hlen; simp [arN] at hlen; simp [hlen]
        by_cases h1 : x.f1.size = 1
        · refine Evt.pos (by omega) (Evt.bind (impl_IsWord_ev _ (by omega)) ?_)
          cases hw : isW x.f1 with
          | true => exact Evt.pos rfl (hj1.cast (by simp [kOk, h3, h1, hw, h0]))
          | false => exact Evt.neg (by decide) ((Evt.ret _).cast (by simp [kOk, h3, h1, hw]))
        · exact Evt.neg (by omega) ((Evt.ret _).cast (by simp [kOk, h3, h1]))
      · refine Evt.neg h3 ?_
        by_cases h1 : x.f1.size = 0
        · have h4 : x.f2.length = arN x.f0 := by omega
          exact Evt.pos ((toList_nil_iff _).2 h1) (hj1.cast (by simp [kOk, h3, h1, hr, h4]))
        · exact Evt.neg (fun h => h1 ((toList_nil_iff _).1 h)) ((Evt.ret _).cast (by simp [kOk, h3, h1]))
    · have e : ((x.f2.length : Int) != (if 1 ≤ x.f0 ∧ x.f0 ≤ 9 then (arN x.f0 : Int) else -1)) = true := bne_iff_ne.mpr hlen
      rw [e]
      refine (impl_nodesOf_j0t _ _ _ _).cast ?_
      rw [if_neg]
      · rfl
      · intro hk
        have := kOk_len hk
        refine hlen ?_
        have hr : 1 ≤ x.f0 ∧ x.f0 ≤ 9 := by
          unfold kOk at hk
          split at hk
          · omega
          · simp at hk; exact hk.1.1
        rw [if_pos hr]; omega
theorem impl_IsValidRegex_ev (x : S35) : Evt (fun k => impl_IsValidRegex.f k x.f0 x.f1 x.f2) (decide (nds 6 x ≤ 16)) := by
  simp only [impl_IsValidRegex.f]
  refine Evt.bind (impl_nodesOf_ev 6 (Nat.le_refl _) x) ((Evt.ret _).cast ?_)
  have e : (((nds 6 x : Nat) : Int) ≤ 16) = (nds 6 x ≤ 16) := by apply propext; omega
  simp [e]

theorem spec_l3Left_ev (n : Nat) : ∀ x : S35, Ht n x → ∀ v : Int, 0 ≤ v → v ≤ 16 → ∃ r, Evt (fun k => spec_l3Left.f k x.f0 x.f1 x.f2 v) r ∧ r ≤ 16 ∧ (if (siz n x : Int) ≤ v then r = v - siz n x else r < 0) := by
  induction n with
  | zero => intro x h; exact h.elim
  | succ n ih =>
    rintro ⟨a, b, l⟩ ⟨hl, hm⟩ v h0 h1
    simp only at hl hm
    have hh : ∀ d i : Nat, i + d = l.length → ∀ u : Int, u ≤ 16 → ∃ r, Evt (fun k => spec_l3Left.l0 k u (i : Int) a b l) r ∧ r ≤ 16 ∧ (if ((((l.drop i).map (siz n)).sum : Nat) : Int) ≤ u then r = u - (((l.drop i).map (siz n)).sum : Nat) else r < 0) := by
      intro d
      induction d with
      | zero =>
        intro i hi u hu
        refine ⟨u, Evt.step ?_, hu, ?_⟩
        · simp only [spec_l3Left.l0]
          exact Evt.neg (by omega) (Evt.ret _)
        · rw [List.drop_of_length_le (by omega)]
          simp only [List.map_nil, List.sum_nil]
          split <;> omega
      | succ d ihd =>
        intro i hi u hu
        have hi' : i < l.length := by omega
        rw [List.drop_eq_getElem_cons hi', List.map_cons, List.sum_cons]
        by_cases hu0 : u ≥ 0
        · obtain ⟨r, hr, hr', hc⟩ := ih l[i] (hm _ (List.getElem_mem hi')) u hu0 hu
          obtain ⟨r2, hr2, hr2', hc2⟩ := ihd (i + 1) (by omega) r hr'
          refine ⟨r2, Evt.step ?_, hr2', ?_⟩
          · simp only [spec_l3Left.l0]
            rw [rxI_at l i hi', w64s (by omega)]
            exact Evt.pos (by omega) (Evt.pos hu0 (Evt.pos (by omega) (Evt.bind hr hr2)))
          · generalize (((l.drop (i + 1)).map (siz n)).sum) = s at *
            generalize siz n l[i] = t at *
            split at hc <;> split at hc2 <;> split <;> omega
        · refine ⟨u, Evt.step ?_, hu, ?_⟩
          · simp only [spec_l3Left.l0]
            exact Evt.pos (by omega) (Evt.neg hu0 (Evt.ret _))
          · rw [if_neg (by omega)]; omega
    obtain ⟨r, hr, hr', hc⟩ := hh l.length 0 (by omega) (v - 1) (by omega)
    refine ⟨r, Evt.step ?_, hr', ?_⟩
    · simp only [spec_l3Left.f]
      rw [w64 (by omega) (by omega)]
      exact hr
    · rw [List.drop_zero] at hc
      have e : siz (n + 1) (⟨a, b, l⟩ : S35) = 1 + (l.map (siz n)).sum := by simp [siz]
      by_cases hs : ((siz (n + 1) (⟨a, b, l⟩ : S35) : Nat) : Int) ≤ v
      · rw [if_pos hs]
        rw [if_pos (by omega)] at hc
        omega
      · rw [if_neg hs]
        rw [if_neg (by omega)] at hc
        exact hc
theorem mem_sum {n : Nat} (l : List S35) (y : S35) (h : y ∈ l) : siz n y ≤ (l.map (siz n)).sum := by
  induction l with
  | nil => cases h
  | cons x l ih =>
    rw [List.map_cons, List.sum_cons]
    rcases List.mem_cons.1 h with rfl | h
    · omega
    · have := ih h; omega
theorem spec_l3Depth_ev (n : Nat) : ∀ x : S35, Ht n x → siz n x ≤ 16 → Evt (fun k => spec_l3Depth.f k x.f0 x.f1 x.f2) (dep n x : Int) := by
  induction n with
  | zero => intro x h; exact h.elim
  | succ n ih =>
    rintro ⟨a, b, l⟩ ⟨hl, hm⟩ hs
    simp only at hl hm
    simp only [siz] at hs
    have hx : ∀ y ∈ l, siz n y ≤ 16 := by
      intro y hy
      have : siz n y ≤ (l.map (siz n)).sum := mem_sum l y hy
      omega
    have hh : ∀ d i : Nat, i + d = l.length → ∀ u : Nat, u ≤ 16 → Evt (fun k => spec_l3Depth.l0 k (u : Int) (i : Int) a b l) ((max u (((l.drop i).map (dep n)).foldr max 0) + 1 : Nat) : Int) := by
      intro d
      induction d with
      | zero =>
        intro i hi u hu
        refine Evt.step ?_
        simp only [spec_l3Depth.l0]
        rw [List.drop_of_length_le (by omega)]
        refine Evt.neg (by omega) ((Evt.ret _).cast ?_)
        rw [w64 (by omega) (by omega)]
        simp
      | succ d ihd =>
        intro i hi u hu
        have hi' : i < l.length := by omega
        have h1 := hx _ (List.getElem_mem hi')
        have h2 := dep_le_siz n l[i]
        refine Evt.step ?_
        simp only [spec_l3Depth.l0]
        rw [List.drop_eq_getElem_cons hi', List.map_cons, List.foldr_cons]
        rw [rxI_at l i hi', w64s (by omega)]
        refine Evt.pos (by omega) (Evt.pos (by omega) (Evt.bind (ih _ (hm _ (List.getElem_mem hi')) h1) (Evt.bindc (a := ((max u (dep n l[i]) : Nat) : Int)) ?_ ?_)))
        · simp only [spec_l1Max.f]
          split
          · congr 1; omega
          · congr 1; omega
        · refine (ihd (i + 1) (by omega) (max u (dep n l[i])) (by omega)).cast ?_
          congr 1
          generalize ((l.drop (i + 1)).map (dep n)).foldr max 0 = z
          omega
    refine Evt.step ?_
    simp only [spec_l3Depth.f]
    refine (hh l.length 0 (by omega) 0 (by omega)).cast ?_
    simp [dep]
theorem spec_l3Args_ev (a : Int) : Evt (fun k => spec_l3Args.f k a) (arN a : Int) := by
  refine ⟨1, fun k hk => ?_⟩
  obtain ⟨m, rfl⟩ : ∃ m, k = m + 1 := ⟨k - 1, by omega⟩
  have h : a = 5 ∨ a = 6 ∨ a = 7 ∨ a = 8 ∨ a = 9 ∨ (a ≠ 5 ∧ a ≠ 6 ∧ a ≠ 7 ∧ a ≠ 8 ∧ a ≠ 9) := by omega
  rcases h with rfl | rfl | rfl | rfl | rfl | ⟨h1, h2, h3, h4, h5⟩
  all_goals simp [spec_l3Args.f, spec_l3Args.j0, arN, *]
theorem spec_l3All_ev (n : Nat) : ∀ x : S35, Ht n x → Evt (fun k => spec_l3All.f k x.f0 x.f1 x.f2) (alls n x) := by
  induction n with
  | zero => intro x h; exact h.elim
  | succ n ih =>
    rintro ⟨a, b, l⟩ ⟨hl, hm⟩
    simp only at hl hm
    refine Evt.step ?_
    simp only [spec_l3All.f, alls]
    have hh := Evt.up (fun k i => spec_l3All.l0 k i a b l) l.length (fun i => (l.drop i).all (alls n) && kOk a b l.length) ?_ ?_
    · simpa using hh
    · refine Evt.step ?_
      simp only [spec_l3All.l0]
      rw [List.drop_of_length_le (by omega)]
      refine Evt.neg (by omega) ?_
      simp only [List.all_nil, Bool.true_and]
      unfold kOk
      by_cases h3 : a = 3
      · rw [if_pos h3]
        refine Evt.pos h3 ?_
        by_cases h1 : b.size = 1
        · refine Evt.pos (by omega) (Evt.bind (spec_IsWord_ev _ (by omega)) ?_)
          cases hw : isW b with
          | true =>
            refine Evt.pos rfl ((Evt.ret _).cast ?_)
            have e : ((l.length : Int) == 0) = decide (l.length = 0) := by rw [show ((l.length : Int) == 0) = decide ((l.length : Int) = 0) from rfl]; congr 1; apply propext; omega
            simp [h1, e]
          | false => exact Evt.neg (by decide) ((Evt.ret _).cast (by simp))
        · exact Evt.neg (by omega) ((Evt.ret _).cast (by simp [h1]))
      · rw [if_neg h3]
        refine Evt.neg h3 ?_
        by_cases hr : 1 ≤ a ∧ a ≤ 9
        · refine Evt.bindc (a := true) (by simp [spec_l1In.f, hr.1, hr.2]) (Evt.pos rfl ?_)
          by_cases h1 : b.size = 0
          · refine Evt.pos ((toList_nil_iff _).2 h1) (Evt.bind (spec_l3Args_ev _) ((Evt.ret _).cast ?_))
            have e : ((l.length : Int) == (arN a : Int)) = decide (l.length = arN a) := by rw [show ((l.length : Int) == (arN a : Int)) = decide ((l.length : Int) = (arN a : Int)) from rfl]; congr 1; apply propext; omega
            simp [h1, hr.1, hr.2, e]
          · exact Evt.neg (fun h => h1 ((toList_nil_iff _).1 h)) ((Evt.ret _).cast (by simp [h1]))
        · refine Evt.bindc (a := false) ?_ (Evt.neg (by decide) ((Evt.ret _).cast (by simp [hr])))
          simp only [spec_l1In.f]
          by_cases hr1 : a ≥ 1
          · rw [if_pos hr1]; congr 1; simp; omega
          · rw [if_neg hr1]
    · intro i hi h
      refine Evt.step ?_
      simp only [spec_l3All.l0]
      rw [rxI_at l i hi, w64s (by omega), List.drop_eq_getElem_cons hi]
      refine Evt.pos (by omega) (Evt.pos (by omega) (Evt.bind (ih _ (hm _ (List.getElem_mem hi))) ?_))
      rw [List.all_cons]
      cases alls n l[i] with
      | true => exact Evt.pos rfl (h.cast (by simp))
      | false => exact Evt.neg (by decide) ((Evt.ret _).cast (by simp))
theorem spec_IsValidRegex_ev (x : S35) (h : Sm x) : Evt (fun k => spec_IsValidRegex.f k x.f0 x.f1 x.f2) (decide (nds 6 x ≤ 16)) := by
  obtain ⟨n, hn⟩ := h.ht
  rw [nds_eq n x 6 hn]
  simp only [spec_IsValidRegex.f]
  obtain ⟨r, hr, _, hc⟩ := spec_l3Left_ev n x hn 16 (by omega) (by omega)
  refine Evt.bind hr ?_
  by_cases h1 : siz n x ≤ 16
  · rw [if_pos (by omega)] at hc
    refine Evt.pos (by omega) (Evt.bind (spec_l3Depth_ev n x hn h1) ?_)
    by_cases h2 : dep n x ≤ 6
    · refine Evt.pos (by omega) (Evt.bind (spec_l3All_ev n x hn) ((Evt.ret _).cast ?_))
      cases ha : alls n x <;> simp [h1, h2]
    · exact Evt.neg (by omega) ((Evt.ret _).cast (by simp [h2]))
  · rw [if_neg (by omega)] at hc
    exact Evt.neg (by omega) ((Evt.ret _).cast (by simp [h1]))

end Go.Proofs.Ytffjfdoghofkdaa.F


namespace Go.Proofs.Ytffjfdoghofkdaa.F
set_option linter.unusedVariables false
set_option linter.unusedSimpArgs false
open Go.RowKit Go.Proofs.YtffjfdoghofkdaaW.PrintWords Go.Proofs.Ytffjfdoghofkdaa.Pl Go.Proofs.Ytffjfdoghofkdaa.A Go.Proofs.Ytffjfdoghofkdaa.Ext

theorem eqRegex_ev (x : S35) (h : Sm x) : Evt (fun k => laws_eqRegex.f k x.f0 x.f1 x.f2 x.f0 x.f1 x.f2) true := by
  induction h with
  | mk a b l hl hs ih =>
    refine Evt.step ?_
    simp only [laws_eqRegex.f]
    refine Evt2.diag (g := fun i j => laws_eqRegexG.f (fun _ => laws_eqRegex.f i) j a b l a b l) ?_
    simp only [laws_eqRegexG.f, laws_eqRegexSG.f]
    refine Evt2.pos trivial (Evt2.pos trivial (Evt2.bind2 (a := true) (Evt2.pos trivial ?_) (Evt2.pos rfl (Evt2.ret _))))
    have hh : ∀ d i : Nat, i + d = l.length → Evt2 (fun p q => laws_eqRegexSG.l0 (fun _ => laws_eqRegex.f p) q l l (i : Int)) true := by
      intro d
      induction d with
      | zero =>
        intro i hi
        refine Evt2.step ?_
        simp only [laws_eqRegexSG.l0]
        exact Evt2.neg (by omega) (Evt2.ret _)
      | succ d ihd =>
        intro i hi
        have hi' : i < l.length := by omega
        refine Evt2.step ?_
        simp only [laws_eqRegexSG.l0]
        rw [rxI_at l i hi', w64s (by omega)]
        exact Evt2.pos (by omega) (Evt2.pos (by omega) (Evt2.pos (by omega) (Evt2.bind (ih _ (List.getElem_mem hi')) (Evt2.pos rfl (ihd (i + 1) (by omega))))))
    exact hh l.length 0 (by omega)

end Go.Proofs.Ytffjfdoghofkdaa.F


namespace Go.Proofs.Ytffjfdoghofkdaa.F
set_option linter.unusedVariables false
set_option linter.unusedSimpArgs false
open Go.RowKit Go.Proofs.YtffjfdoghofkdaaW.PrintWords Go.Proofs.Ytffjfdoghofkdaa.Pl Go.Proofs.Ytffjfdoghofkdaa.A

theorem szIntS_eq (l : List Int) (a : Int) (ha : -1 ≤ a) (ha' : a ≤ 1048576) (hl : l.length ≤ 9223372036854775807) :
    ∃ t, laws_szIntS.f l a = some t ∧ (t = -1 ∨ (0 ≤ t ∧ t = a - l.length)) := by
  unfold laws_szIntS.f
  rw [w64_sub ha ha' hl]
  by_cases h1 : a - l.length < 0
  · exact ⟨-1, by rw [if_pos h1], .inl rfl⟩
  · rw [if_neg h1]; exact ⟨_, rfl, .inr ⟨by omega, rfl⟩⟩
theorem set_next (l : List Int) (i n : Nat) (hn : l.length = n) (hi : i < n) : (l.take i ++ List.replicate (n - i) 0).set i (rd l (i : Int)) = l.take (i + 1) ++ List.replicate (n - (i + 1)) 0 := by
  have hl : (l.take i).length = i := by rw [List.length_take]; omega
  have e : rd l (i : Int) = l[i] := by simp [rd, show i < l.length by omega]
  rw [List.set_append_right _ _ (by omega), hl, Nat.sub_self, show n - i = (n - (i + 1)) + 1 by omega, List.replicate_succ, List.set_cons_zero, List.take_succ_eq_append_getElem (by omega), e, List.append_assoc]
  rfl
theorem toIntS_ev (l : List Int) (hl : l.length ≤ 35184372088832) : Evt (fun k => laws_toIntS.f k l) l := by
  simp only [laws_toIntS.f]
  refine Evt.pos (by omega) (Evt.pos (by omega) ?_)
  rw [Int.toNat_natCast]
  have h : ∀ d i : Nat, i + d = l.length → Evt (fun k => laws_toIntS.l0 k l (l.take i ++ List.replicate (l.length - i) 0) (i : Int)) l := by
    intro d
    induction d with
    | zero =>
      intro i hi
      refine Evt.step ?_
      simp only [laws_toIntS.l0]
      refine Evt.neg (by omega) (Evt.const ?_)
      obtain rfl : i = l.length := by omega
      simp
    | succ d ih =>
      intro i hi
      refine Evt.step ?_
      simp only [laws_toIntS.l0]
      rw [w64s (by omega), Int.toNat_natCast, set_next l i l.length rfl (by omega)]
      exact Evt.pos (by omega) (Evt.pos (by omega) (Evt.pos (by simp; omega) (ih (i + 1) (by omega))))
  simpa using h l.length 0 (by omega)
theorem eqIntS_ev (l l' : List Int) (hl : l.length ≤ 9223372036854775807) : Evt (fun k => laws_eqIntS.f k l l') (decide (l = l')) := by
  simp only [laws_eqIntS.f]
  by_cases he : l.length = l'.length
  · refine Evt.pos (by omega) ?_
    have h := Evt.up (fun k i => laws_eqIntS.l0 k l l' i) l.length (fun i => decide (l.drop i = l'.drop i)) ?_ ?_
    · simpa using h
    · refine Evt.step ?_
      simp only [laws_eqIntS.l0]
      refine Evt.neg (by omega) (Evt.const ?_)
      rw [List.drop_of_length_le (Nat.le_refl _), List.drop_of_length_le (by omega)]
      rfl
    · intro i hi h
      refine Evt.step ?_
      simp only [laws_eqIntS.l0]
      have hi' : i < l'.length := by omega
      refine Evt.pos (by omega) (Evt.pos (by omega) (Evt.pos (by omega) ?_))
      rw [List.drop_eq_getElem_cons hi, List.drop_eq_getElem_cons hi', w64s (by omega)]
      have e1 : rd l (i : Int) = l[i] := by simp [rd, hi]
      have e2 : rd l' (i : Int) = l'[i] := by simp [rd, hi']
      rw [e1, e2]
      by_cases hc : l[i] = l'[i]
      · exact Evt.pos hc (h.cast (by rw [hc]; simp only [List.cons.injEq, true_and]))
      · exact Evt.neg hc (Evt.const (by rw [decide_eq_false (fun e => hc (List.cons.inj e).1)]))
  · refine Evt.neg (by omega) (Evt.const ?_)
    have : l ≠ l' := fun e => he (by rw [e])
    simp [this]

end Go.Proofs.Ytffjfdoghofkdaa.F


namespace Go.Proofs.Ytffjfdoghofkdaa.F
set_option linter.unusedVariables false
set_option linter.unusedSimpArgs false
open Go.RowKit Go.Proofs.YtffjfdoghofkdaaW.PrintWords Go.Proofs.Ytffjfdoghofkdaa.Pl Go.Proofs.Ytffjfdoghofkdaa.A Go.Proofs.Ytffjfdoghofkdaa.Ext

/-- A copy of a constraint: of its expression, that is. -/
def CpC (a : Int) (b c : ByteArray) (d : Int) (e : ByteArray) (l : List S24) (m : List Int) (n : Int) (y : List S35) : Prop :=
  Sm ⟨d, e, y⟩ ∧ m.length ≤ 1048576 ∧ Evt (fun k => laws_toConstraint.f k a b c d e l m n) (a, b, c, d, e, y, m, n)
theorem szConstraint_ev (a : Int) (b c : ByteArray) (d : Int) (e : ByteArray) (l : List S24) (m : List Int) (n : Int) (N : Nat) (v : Int) (hv : 0 ≤ v) (hv' : v ≤ 1048576) (hb : b.size ≤ 9223372036854775807) (hc : c.size ≤ 9223372036854775807) (hr : RxOk N ⟨d, e, l⟩) (hm : m.length ≤ 9223372036854775807) :
    ∃ t, Evt (fun k => laws_szConstraint.f k a b c d e l m n v) t ∧ (t = -1 ∨ (0 ≤ t ∧ t ≤ v ∧ ∃ y, CpC a b c d e l m n y)) := by
  simp only [laws_szConstraint.f]
  rw [w64_sub (by omega) (by omega) hb]
  by_cases c1 : v - b.size < 0
  · exact ⟨-1, Evt.pos c1 (Evt.ret _), .inl rfl⟩
  rw [w64_sub (by omega) (by omega) hc]
  by_cases c2 : v - b.size - c.size < 0
  · exact ⟨-1, Evt.neg c1 (Evt.pos c2 (Evt.ret _)), .inl rfl⟩
  obtain ⟨t, ht, h1⟩ := szRegex_ev N ⟨d, e, l⟩ hr (v - b.size - c.size) (by omega) (by omega)
  simp only at ht
  rcases h1 with rfl | ⟨h1, h2, h3⟩
  · exact ⟨-1, Evt.neg c1 (Evt.neg c2 (Evt.bind ht (Evt.pos (by decide) (Evt.ret _)))), .inl rfl⟩
  obtain ⟨u, hu, h4⟩ := szIntS_eq m t (by omega) (by omega) hm
  rcases h4 with rfl | ⟨h4, h5⟩
  · exact ⟨-1, Evt.neg c1 (Evt.neg c2 (Evt.bind ht (Evt.neg (by omega) (Evt.bindc hu (Evt.pos (by decide) (Evt.ret _)))))), .inl rfl⟩
  refine ⟨u, Evt.neg c1 (Evt.neg c2 (Evt.bind ht (Evt.neg (by omega) (Evt.bindc hu (Evt.neg (by omega) (Evt.ret _)))))), .inr ⟨h4, by omega, ?_⟩⟩
  obtain ⟨⟨d', e', y⟩, hs, he⟩ := h3
  simp only at he
  have hde : d' = d ∧ e' = e := by
    obtain ⟨K, hK⟩ := he
    have h6 := hK (K + 1) (by omega)
    simp only [laws_toRegex.f, laws_toRegexG.f] at h6
    obtain ⟨z, _, h7⟩ := Option.bind_eq_some_iff.mp h6
    simp only [Option.some.injEq, Prod.mk.injEq] at h7
    exact ⟨h7.1.symm, h7.2.1.symm⟩
  obtain ⟨rfl, rfl⟩ := hde
  refine ⟨y, hs, by omega, ?_⟩
  simp only [laws_toConstraint.f]
  exact Evt.bind he (Evt.bind (toIntS_ev m (by omega)) (Evt.ret _))
theorem eqConstraint_ev (a : Int) (b c : ByteArray) (d : Int) (e : ByteArray) (y : List S35) (m : List Int) (n : Int) (hy : Sm ⟨d, e, y⟩) (hm : m.length ≤ 1048576) : Evt (fun k => laws_eqConstraint.f k a b c d e y m n a b c d e y m n) true := by
  simp only [laws_eqConstraint.f]
  exact Evt.pos trivial (Evt.pos trivial (Evt.pos trivial (Evt.bind (eqRegex_ev _ hy) (Evt.pos rfl (Evt.bind (eqIntS_ev m m (by omega)) (Evt.pos (by simp) (Evt.pos trivial (Evt.ret _))))))))

end Go.Proofs.Ytffjfdoghofkdaa.F


namespace Go.Proofs.Ytffjfdoghofkdaa.F
set_option linter.unusedVariables false
set_option linter.unusedSimpArgs false
open Go.RowKit Go.Proofs.YtffjfdoghofkdaaW.PrintWords Go.Proofs.Ytffjfdoghofkdaa.Pl Go.Proofs.Ytffjfdoghofkdaa.A Go.Proofs.Ytffjfdoghofkdaa.Ext

def zR (d : Int) (e : ByteArray) (l : List S35) : Bool := decide (d = 0) && decide (e.size = 0) && ((l.length : Int) == 0)
theorem spec_l9Zero_eq (d : Int) (e : ByteArray) (l : List S35) : spec_l9Zero.f d e l = some (zR d e l) := by
  unfold spec_l9Zero.f zR
  by_cases h1 : d = 0
  · by_cases h2 : e.size = 0
    · rw [if_pos h1, if_pos ((toList_nil_iff _).2 h2)]; simp [h1, h2]
    · rw [if_pos h1, if_neg (fun h => h2 ((toList_nil_iff _).1 h))]; simp [h2]
  · rw [if_neg h1]; simp [h1]
theorem impl_isZeroRegex_eq (d : Int) (e : ByteArray) (l : List S35) : impl_isZeroRegex.f d e l = some (zR d e l) := by
  unfold impl_isZeroRegex.f zR
  by_cases h1 : d = 0
  · by_cases h2 : e.size = 0
    · rw [if_pos h1, if_pos ((toList_nil_iff _).2 h2)]; simp [h1, h2]
    · rw [if_pos h1, if_neg (fun h => h2 ((toList_nil_iff _).1 h))]; simp [h2]
  · rw [if_neg h1]; simp [h1]
def inR (a lo hi : Int) : Bool := decide (lo ≤ a ∧ a ≤ hi)
theorem spec_l1In_eq (a lo hi : Int) : spec_l1In.f a lo hi = some (inR a lo hi) := by
  unfold spec_l1In.f inR
  by_cases h : a ≥ lo
  · rw [if_pos h]; congr 1; simp [show lo ≤ a from h]
  · rw [if_neg h]; congr 1; simp; omega
theorem impl_within_eq (a lo hi : Int) : impl_within.f a lo hi = some (inR a lo hi) := by
  unfold impl_within.f inR
  by_cases h : a ≥ lo
  · rw [if_pos h]; congr 1; simp [show lo ≤ a from h]
  · rw [if_neg h]; congr 1; simp; omega
def cfs (m : List Int) : Bool := m.all fun c => inR c (-9) 9
theorem rdI_at (m : List Int) (i : Nat) (h : i < m.length) : rd m (i : Int) = m[i] := by simp [rd, h]
theorem spec_l9Coeffs_ev (m : List Int) (hm : m.length ≤ 1048576) : Evt (fun k => spec_l9Coeffs.f k m) (cfs m && ((m.length : Int) == 3)) := by
  have h := Evt.up (fun k i => spec_l9Coeffs.l0 k m i) m.length (fun i => cfs (m.drop i) && ((m.length : Int) == 3)) ?_ ?_
  · simpa [spec_l9Coeffs.f] using h
  · refine Evt.step ?_
    simp only [spec_l9Coeffs.l0]
    rw [List.drop_of_length_le (by omega)]
    exact Evt.neg (by omega) ((Evt.ret _).cast (by simp [cfs]))
  · intro i hi h
    refine Evt.step ?_
    simp only [spec_l9Coeffs.l0]
    rw [rdI_at m i hi, w64s (by omega), List.drop_eq_getElem_cons hi]
    refine Evt.pos (by omega) (Evt.pos (by omega) (Evt.bindc (spec_l1In_eq _ _ _) ?_))
    have e : cfs (m[i] :: m.drop (i + 1)) = (inR m[i] (-9) 9 && cfs (m.drop (i + 1))) := rfl
    rw [e]
    cases inR m[i] (-9) 9 with
    | true => exact Evt.pos rfl (h.cast (by simp))
    | false => exact Evt.neg (by decide) ((Evt.ret _).cast (by simp))
theorem impl_coeffs_ev (m : List Int) (hm : m.length ≤ 1048576) : Evt (fun k => slices_ContainsFunc_int_int.f k m) (!cfs m) := by
  simp only [slices_ContainsFunc_int_int.f, slices_IndexFunc_int_int.f]
  have h : ∀ d i : Nat, i + d = m.length → ∃ r, Evt (fun k => slices_IndexFunc_int_int.l0 k m (m.length : Int) (i : Int)) r ∧ decide (r ≥ 0) = !cfs (m.drop i) := by
    intro d
    induction d with
    | zero =>
      intro i hi
      refine ⟨-1, Evt.step ?_, ?_⟩
      · simp only [slices_IndexFunc_int_int.l0]
        exact Evt.neg (by omega) (Evt.ret _)
      · rw [List.drop_of_length_le (by omega)]; rfl
    | succ d ih =>
      intro i hi
      have hi' : i < m.length := by omega
      have e : cfs (m[i] :: m.drop (i + 1)) = (inR m[i] (-9) 9 && cfs (m.drop (i + 1))) := rfl
      rw [List.drop_eq_getElem_cons hi', e]
      obtain ⟨r, hr, hc⟩ := ih (i + 1) (by omega)
      cases hq : inR m[i] (-9) 9 with
      | true =>
        refine ⟨r, Evt.step ?_, by simpa using hc⟩
        simp only [slices_IndexFunc_int_int.l0, impl_IsValidConstraint_1.f]
        rw [rdI_at m i hi', w64s (by omega)]
        exact Evt.pos (by omega) (Evt.pos (by omega) (Evt.pos (by omega) (Evt.bind (Evt.bindc (impl_within_eq _ _ _) (Evt.ret _)) (Evt.neg (by simp [hq]) hr))))
      | false =>
        refine ⟨(i : Int), Evt.step ?_, by simp⟩
        simp only [slices_IndexFunc_int_int.l0, impl_IsValidConstraint_1.f]
        rw [rdI_at m i hi']
        exact Evt.pos (by omega) (Evt.pos (by omega) (Evt.pos (by omega) (Evt.bind (Evt.bindc (impl_within_eq _ _ _) (Evt.ret _)) (Evt.pos (by simp [hq]) (Evt.ret _)))))
  obtain ⟨r, hr, hc⟩ := h m.length 0 (by omega)
  exact Evt.bind hr ((Evt.ret _).cast (by rw [hc]; rfl))
/-- Whether a constraint is valid, but for its numbers (x: it has none). -/
def valX (x : Bool) (a : Int) (b c : ByteArray) (d : Int) (e : ByteArray) (l : List S35) (m : List Int) (n : Int) : Bool :=
  if a = 1 ∨ a = 2 then isTm b && (isTm c && (zR d e l && x))
  else if a = 3 ∨ a = 4 then isTm b && (decide (c.size = 0) && (decide (nds 6 ⟨d, e, l⟩ ≤ 16) && x))
  else if a = 5 then decide (b.size = 0) && (decide (c.size = 0) && (zR d e l && ((cfs m && ((m.length : Int) == 3)) && inR n (-99) 99)))
  else false
def valC (a : Int) (b c : ByteArray) (d : Int) (e : ByteArray) (l : List S35) (m : List Int) (n : Int) : Bool :=
  valX (decide (m.length = 0) && (n == 0)) a b c d e l m n
section
variable {a : Int} {b c : ByteArray} {d : Int} {e : ByteArray} {l : List S35} {m : List Int} {n : Int}
theorem and_ev {g h : Nat → Option Bool} {p q : Bool} (hg : Evt g p) (hh : p = true → Evt h q) : Evt (fun k => (g k).bind fun t => if t = true then h k else some false) (p && q) := by
  refine Evt.bind hg ?_
  cases p with
  | true => exact Evt.pos rfl ((hh rfl).cast (by simp))
  | false => exact Evt.neg (by decide) ((Evt.ret _).cast (by simp))
theorem nil_ev {s : ByteArray} {h : Nat → Option Bool} {q : Bool} (hh : s.size = 0 → Evt h q) : Evt (fun k => if s.toList = ([] : List UInt8) then h k else some false) (decide (s.size = 0) && q) := by
  by_cases hs : s.size = 0
  · exact Evt.pos ((toList_nil_iff _).2 hs) ((hh hs).cast (by simp [hs]))
  · exact Evt.neg (fun h => hs ((toList_nil_iff _).1 h)) ((Evt.ret _).cast (by simp [hs]))
theorem last_ev {g : Nat → Option Bool} {p : Bool} (hg : Evt g p) : Evt (fun k => (g k).bind fun t => some t) p := Evt.bind hg (Evt.ret _)
theorem spec_j1t (x : Bool) (v : Int) (hb : b.size ≤ 9223372036854775807) (hc : c.size ≤ 9223372036854775807) : Evt (fun k => spec_IsValidConstraint.j1 k x v true a b c d e l m n) (isTm b && (isTm c && (zR d e l && x))) := by
  refine Evt.step ?_
  simp only [spec_IsValidConstraint.j1]
  exact Evt.pos trivial (and_ev (spec_IsTerm_ev b hb) fun _ => and_ev (spec_IsTerm_ev c hc) fun _ => and_ev (Evt.const (spec_l9Zero_eq d e l)) fun _ => Evt.ret _)
theorem spec_j2t (x : Bool) (v : Int) (hb : b.size ≤ 9223372036854775807) (hr : Sm ⟨d, e, l⟩) : Evt (fun k => spec_IsValidConstraint.j2 k x v true a b c d e l m n) (isTm b && (decide (c.size = 0) && (decide (nds 6 ⟨d, e, l⟩ ≤ 16) && x))) := by
  refine Evt.step ?_
  simp only [spec_IsValidConstraint.j2]
  exact Evt.pos trivial (and_ev (spec_IsTerm_ev b hb) fun _ => nil_ev fun _ => and_ev (spec_IsValidRegex_ev ⟨d, e, l⟩ hr) fun _ => Evt.ret _)
theorem spec_IsValidConstraint_ev (hb : b.size ≤ 9223372036854775807) (hc : c.size ≤ 9223372036854775807) (hr : Sm ⟨d, e, l⟩) (hm : m.length ≤ 1048576) : Evt (fun k => spec_IsValidConstraint.f k a b c d e l m n) (valC a b c d e l m n) := by
  have hj : ∀ x : Bool, Evt (fun k => spec_IsValidConstraint.j0 k x a b c d e l m n) (valX x a b c d e l m n) := by
    intro x
    refine Evt.step ?_
    simp only [spec_IsValidConstraint.j0]
    unfold valX
    by_cases h1 : a = 1
    · subst h1; exact Evt.pos rfl ((spec_j1t x _ hb hc).cast (by simp))
    refine Evt.neg h1 ?_
    by_cases h2 : a = 2
    · subst h2; exact (spec_j1t x _ hb hc).cast (by simp)
    rw [show (a == 2) = false by simpa using h2, if_neg (by omega)]
    refine Evt.step ?_
    simp only [spec_IsValidConstraint.j1]
    refine Evt.neg (by decide) ?_
    by_cases h3 : a = 3
    · subst h3; exact Evt.pos rfl ((spec_j2t x _ hb hr).cast (by simp))
    refine Evt.neg h3 ?_
    by_cases h4 : a = 4
    · subst h4; exact (spec_j2t x _ hb hr).cast (by simp)
    rw [show (a == 4) = false by simpa using h4, if_neg (by omega)]
    refine Evt.step ?_
    simp only [spec_IsValidConstraint.j2]
    refine Evt.neg (by decide) ?_
    by_cases h5 : a = 5
    · rw [if_pos h5]
      exact Evt.pos h5 (nil_ev fun _ => nil_ev fun _ => and_ev (Evt.const (spec_l9Zero_eq d e l)) fun _ => and_ev (spec_l9Coeffs_ev m hm) fun _ => last_ev (Evt.const (spec_l1In_eq _ _ _)))
    · rw [if_neg h5]
      exact Evt.neg h5 (Evt.ret _)
  simp only [spec_IsValidConstraint.f]
  unfold valC
  by_cases h0 : m.length = 0
  · exact Evt.pos (by omega) ((hj _).cast (by simp [h0]))
  · exact Evt.neg (by omega) ((hj _).cast (by simp [h0]))
theorem impl_j1t (v : Int) : Evt (fun k => impl_IsValidConstraint.j1 k v true a b c d e l m n) (isTm b && (isTm c && (zR d e l))) := by
  refine Evt.step ?_
  simp only [impl_IsValidConstraint.j1]
  exact Evt.pos trivial (and_ev (impl_IsTerm_ev b) fun _ => and_ev (impl_IsTerm_ev c) fun _ => last_ev (Evt.const (impl_isZeroRegex_eq d e l)))
theorem impl_j2t (v : Int) : Evt (fun k => impl_IsValidConstraint.j2 k v true a b c d e l m n) (isTm b && (decide (c.size = 0) && (decide (nds 6 ⟨d, e, l⟩ ≤ 16)))) := by
  refine Evt.step ?_
  simp only [impl_IsValidConstraint.j2]
  exact Evt.pos trivial (and_ev (impl_IsTerm_ev b) fun _ => nil_ev fun _ => last_ev (impl_IsValidRegex_ev ⟨d, e, l⟩))
theorem impl_j0t : Evt (fun k => impl_IsValidConstraint.j0 k true a b c d e l m n) false := by
  refine Evt.step ?_
  simp only [impl_IsValidConstraint.j0]
  exact Evt.pos trivial (Evt.ret _)
theorem impl_IsValidConstraint_ev (hm : m.length ≤ 1048576) : Evt (fun k => impl_IsValidConstraint.f k a b c d e l m n) (valC a b c d e l m n) := by
  have hj : Evt (fun k => impl_IsValidConstraint.j0 k false a b c d e l m n) (valX true a b c d e l m n) := by
    refine Evt.step ?_
    simp only [impl_IsValidConstraint.j0]
    unfold valX
    refine Evt.neg (by decide) ?_
    by_cases h1 : a = 1
    · subst h1; exact Evt.pos rfl ((impl_j1t _).cast (by simp))
    refine Evt.neg h1 ?_
    by_cases h2 : a = 2
    · subst h2; exact (impl_j1t _).cast (by simp)
    rw [show (a == 2) = false by simpa using h2, if_neg (by omega)]
    refine Evt.step ?_
    simp only [impl_IsValidConstraint.j1]
    refine Evt.neg (by decide) ?_
    by_cases h3 : a = 3
    · subst h3; exact Evt.pos rfl ((impl_j2t _).cast (by simp))
    refine Evt.neg h3 ?_
    by_cases h4 : a = 4
    · subst h4; exact (impl_j2t _).cast (by simp)
    rw [show (a == 4) = false by simpa using h4, if_neg (by omega)]
    refine Evt.step ?_
    simp only [impl_IsValidConstraint.j2]
    refine Evt.neg (by decide) ?_
    by_cases h5 : a = 5
    · rw [if_pos h5]
      refine Evt.pos h5 (nil_ev fun _ => nil_ev fun _ => and_ev (Evt.const (impl_isZeroRegex_eq d e l)) fun _ => ?_)
      by_cases h3' : m.length = 3
      · refine Evt.pos (by omega) ?_
        rw [show ((m.length : Int) == 3) = true by simp [h3'], Bool.and_true, Bool.and_comm (cfs m)]
        exact and_ev (Evt.const (impl_within_eq _ _ _)) fun _ => Evt.bind (impl_coeffs_ev m hm) ((Evt.ret _).cast (by simp))
      · refine Evt.neg (by omega) ((Evt.ret _).cast ?_)
        have e3 : ((m.length : Int) == 3) = false := by simp; omega
        simp [e3]
    · rw [if_neg h5]
      exact Evt.neg h5 (Evt.ret _)
  simp only [impl_IsValidConstraint.f]
  unfold valC
  have hx : ∀ x, a = 5 → valX x a b c d e l m n = valX true a b c d e l m n := by
    intro x h; subst h; simp [valX]
  have hy : ¬ a = 5 → valX false a b c d e l m n = false := by
    intro h; unfold valX; simp [h]
  by_cases h5 : a = 5
  · exact Evt.pos h5 (hj.cast (hx _ h5).symm)
  refine Evt.neg h5 ?_
  by_cases h0 : m.length = 0
  · refine Evt.pos (by omega) ?_
    by_cases hn : n = 0
    · rw [show (n != 0) = false by simp [hn]]
      exact hj.cast (by simp [h0, hn])
    · rw [show (n != 0) = true by simp [hn]]
      exact impl_j0t.cast (by rw [show (n == 0) = false by simp [hn]]; simp [hy h5])
  · exact Evt.neg (by omega) (impl_j0t.cast (by simp [h0, hy h5]))
end
end Go.Proofs.Ytffjfdoghofkdaa.F


namespace Go.Proofs.Ytffjfdoghofkdaa.F
set_option linter.unusedVariables false
set_option linter.unusedSimpArgs false
open Go.RowKit Go.Proofs.YtffjfdoghofkdaaW.PrintWords Go.Proofs.Ytffjfdoghofkdaa.Pl Go.Proofs.Ytffjfdoghofkdaa.A Go.Proofs.Ytffjfdoghofkdaa.Ext

theorem bytesOf_strOf (s : ByteArray) : strOfNums (bytesOf s) = s := by
  apply bytesOf_inj
  unfold strOfNums bytesOf
  simp
theorem one_byte (s : ByteArray) (i : Nat) (h : i < s.size) : bytesOf (s.extract i (i + 1)) = [bt s (i : Int)] := by
  have hl : i < (bytesOf s).length := by rw [bytesOf_length]; exact h
  rw [bytesOf_extract, List.drop_eq_getElem_cons hl, bt_get s i hl, show i + 1 - i = 1 by omega]
  rfl
theorem size_le_of (s : ByteArray) : s.size = (bytesOf s).length := (bytesOf_length s).symm
theorem strOfNums_size (l : List Int) : (strOfNums l).size = l.length := by
  unfold strOfNums
  show (List.toArray _).size = _
  simp

end Go.Proofs.Ytffjfdoghofkdaa.F


namespace Go.Proofs.Ytffjfdoghofkdaa.F
set_option linter.unusedVariables false
set_option linter.unusedSimpArgs false
open Go.RowKit Go.Proofs.YtffjfdoghofkdaaW.PrintWords Go.Proofs.Ytffjfdoghofkdaa.Pl Go.Proofs.Ytffjfdoghofkdaa.A Go.Proofs.Ytffjfdoghofkdaa.Ext

theorem impl_ApplyValues_eq (s x y z : ByteArray) (hs : s.size ≤ 9223372036854775807) (hx : x.size ≤ 1048576) (hy : y.size ≤ 1048576) (hz : z.size ≤ 1048576) : impl_ApplyValues.f s x y z = some (replB (wordOf x y z) s) := by
  unfold impl_ApplyValues.f
  rw [if_pos ⟨hs, hx, hy, hz⟩]
theorem wordOf_var (x y z : ByteArray) {c : Int} (h0 : 0 ≤ c) (h1 : c ≤ 255) : (wordOf x y z c).2 = isVr c := by
  unfold wordOf
  rw [impl_isVariable_eq h0 h1]
  rfl
theorem spec_ValueOf_eq (x y z : ByteArray) (c : Int) : spec_ValueOf.f x y z c = some (wordOf x y z c).1 := valueOf_some x y z c
theorem spec_ApplyValues_ev (s x y z : ByteArray) (hs : s.size ≤ 9223372036854775807) (hx : x.size ≤ 1048576) (hy : y.size ≤ 1048576) (hz : z.size ≤ 1048576) : Evt (fun k => spec_ApplyValues.f k s x y z) (replB (wordOf x y z) s) := by
  have h : ∀ (d i : Nat) (acc : ByteArray), i + d = s.size → acc.size ≤ 1048576 → Evt (fun k => spec_ApplyValues.l0 k s acc (i : Int) x y z) (strOfNums (repl (wordOf x y z) ((bytesOf s).drop i) (bytesOf acc))) := by
    intro d
    induction d with
    | zero =>
      intro i acc hi ha
      refine Evt.step ?_
      simp only [spec_ApplyValues.l0]
      refine Evt.neg (by omega) (Evt.const ?_)
      rw [List.drop_of_length_le (by rw [bytesOf_length]; omega)]
      exact congrArg some (bytesOf_strOf acc).symm
    | succ d ih =>
      intro i acc hi ha
      have hl : i < (bytesOf s).length := by rw [bytesOf_length]; omega
      have hx1 : ((s.extract i (i + 1)).size : Nat) = 1 := by rw [size_le_of, one_byte s i (by omega)]; rfl
      refine Evt.step ?_
      simp only [spec_ApplyValues.l0]
      rw [w64s (by omega), Int.toNat_natCast, Int.toNat_natCast]
      rw [List.drop_eq_getElem_cons hl, ← bt_get s i hl]
      have hv := wordOf_var x y z (bt0 s i) (bt255 s i)
      have hw := wordOf_size x y z (bt s i) hx hy hz
      have hs2 := spec_ValueOf_eq x y z (bt s i)
      refine Evt.pos (by omega) (Evt.pos (by omega) (Evt.bindc (spec_l8Var_eq _) ?_))
      by_cases hc : isVr (bt s i) = true
      · have e : (if (wordOf x y z (bt s (i : Int))).2 = true then bytesOf (wordOf x y z (bt s (i : Int))).1 else [bt s (i : Int)]) = bytesOf (wordOf x y z (bt s (i : Int))).1 := by rw [hv, if_pos hc]
        refine Evt.pos hc (Evt.bindc hs2 (Evt.pos (by omega) ?_))
        by_cases hbig : ((acc ++ (wordOf x y z (bt s (i : Int))).1).size : Int) > 1048576
        · refine Evt.pos hbig (Evt.const ?_)
          unfold repl
          simp only [e]
          rw [if_pos (by rw [← bytesOf_append, bytesOf_length]; omega)]
          rfl
        · refine Evt.neg hbig ((ih (i + 1) (acc ++ (wordOf x y z (bt s (i : Int))).1) (by omega) (by omega)).cast ?_)
          rw [bytesOf_append]
          conv => rhs; unfold repl
          simp only [e]
          rw [if_neg (by rw [← bytesOf_append, bytesOf_length]; omega)]
      · have e : (if (wordOf x y z (bt s (i : Int))).2 = true then bytesOf (wordOf x y z (bt s (i : Int))).1 else [bt s (i : Int)]) = [bt s (i : Int)] := by rw [hv, if_neg hc]
        refine Evt.neg hc (Evt.pos (by omega) (Evt.pos (by omega) (Evt.pos (by omega) ?_)))
        by_cases hbig : ((acc ++ s.extract i (i + 1)).size : Int) > 1048576
        · refine Evt.pos hbig (Evt.const ?_)
          unfold repl
          simp only [e]
          rw [if_pos (by rw [← one_byte s i (by omega), ← bytesOf_append, bytesOf_length]; omega)]
          rfl
        · refine Evt.neg hbig ((ih (i + 1) (acc ++ s.extract i (i + 1)) (by omega) (by omega)).cast ?_)
          rw [bytesOf_append, one_byte s i (by omega)]
          conv => rhs; unfold repl
          simp only [e]
          rw [if_neg (by rw [← one_byte s i (by omega), ← bytesOf_append, bytesOf_length]; omega)]
  have := h s.size 0 (⟨#[]⟩ : ByteArray) (by omega) (by decide)
  rw [show bytesOf (⟨#[]⟩ : ByteArray) = [] from rfl] at this
  simpa [spec_ApplyValues.f, replB] using this

end Go.Proofs.Ytffjfdoghofkdaa.F


namespace Go.Proofs.Ytffjfdoghofkdaa.F
set_option linter.unusedVariables false
set_option linter.unusedSimpArgs false
open Go.RowKit Go.Proofs.YtffjfdoghofkdaaW.PrintWords Go.Proofs.Ytffjfdoghofkdaa.Pl Go.Proofs.Ytffjfdoghofkdaa.A Go.Proofs.Ytffjfdoghofkdaa.Ext

theorem rx_of_nds : ∀ (n m : Nat) (x : S35), n ≤ m → nds n x ≤ 16 → ∃ t, rxOf m x = some t ∧ t.size = nds n x := by
  intro n
  induction n with
  | zero => intro m x _ h; exact absurd h (by simp [nds])
  | succ n ih =>
    intro m x hm h
    obtain ⟨m, rfl⟩ : ∃ m', m = m' + 1 := ⟨m - 1, by omega⟩
    unfold nds at h ⊢
    by_cases hk : kOk x.f0 x.f1 x.f2.length = true
    · rw [if_pos hk] at h ⊢
      obtain ⟨a, b, l⟩ := x
      simp only at hk h ⊢
      have hlen := kOk_len hk
      match l, hk, h, hlen with
      | [], hk, h, hlen =>
        have ha : a = 1 ∨ a = 2 ∨ a = 3 ∨ a = 4 := by
          by_cases h3 : a = 3
          · exact .inr (.inr (.inl h3))
          · simp only [kOk, if_neg h3, Bool.and_eq_true, decide_eq_true_eq] at hk
            unfold arN at hlen
            simp only [List.length_nil] at hlen
            split at hlen
            · omega
            · split at hlen <;> omega
        rcases ha with rfl | rfl | rfl | rfl <;> exact ⟨_, rfl, rfl⟩
      | [x], hk, h, hlen =>
        simp only [List.map_cons, List.map_nil, List.sum_cons, List.sum_nil] at h ⊢
        obtain ⟨t, h1, h2⟩ := ih m x (by omega) (by omega)
        have ha : a = 8 ∨ a = 9 := by
          unfold arN at hlen
          simp only [List.length_cons, List.length_nil] at hlen
          split at hlen
          · omega
          · split at hlen <;> omega
        rcases ha with rfl | rfl <;> refine ⟨_, by simp only [rxOf, h1]; rfl, ?_⟩ <;> simp only [Rx.size, h2] <;> omega
      | [x, y], hk, h, hlen =>
        simp only [List.map_cons, List.map_nil, List.sum_cons, List.sum_nil] at h ⊢
        obtain ⟨t, h1, h2⟩ := ih m x (by omega) (by omega)
        obtain ⟨u, h3, h4⟩ := ih m y (by omega) (by omega)
        have ha : a = 5 ∨ a = 6 ∨ a = 7 := by
          unfold arN at hlen
          simp only [List.length_cons, List.length_nil] at hlen
          split at hlen
          · assumption
          · split at hlen <;> omega
        rcases ha with rfl | rfl | rfl <;> refine ⟨_, by simp only [rxOf, h1, h3]; rfl, ?_⟩ <;> simp only [Rx.size, h2, h4] <;> omega
      | _ :: _ :: _ :: _, hk, h, hlen =>
        have := arN_le a
        simp only [List.length_cons] at hlen
        omega
    · rw [if_neg hk] at h
      omega
theorem repl_le (G : Int → ByteArray × Bool) (m : Nat) (hm : 1 ≤ m) (hG : ∀ c, (G c).1.size ≤ m) : ∀ (l acc : List Int), (repl G l acc).length ≤ acc.length + m * l.length := by
  intro l
  induction l with
  | nil => intro acc; exact Nat.le_refl _
  | cons c l ih =>
    intro acc
    have h1 : (if (G c).2 = true then bytesOf (G c).1 else [c]).length ≤ m := by
      split
      · rw [bytesOf_length]; exact hG c
      · exact hm
    unfold repl
    by_cases h2 : (acc ++ (if (G c).2 = true then bytesOf (G c).1 else [c])).length > 1048576
    · rw [if_pos h2]
      exact Nat.zero_le _
    · rw [if_neg h2]
      refine Nat.le_trans (ih _) ?_
      rw [List.length_append, List.length_cons, Nat.mul_succ]
      omega
theorem replB_le (G : Int → ByteArray × Bool) (m : Nat) (hm : 1 ≤ m) (hG : ∀ c, (G c).1.size ≤ m) (s : ByteArray) : (replB G s).size ≤ m * s.size := by
  have := repl_le G m hm hG (bytesOf s) []
  unfold replB
  rw [strOfNums_size]
  rw [bytesOf_length] at this
  simpa using this
theorem wordOf_le (x y z : ByteArray) (m : Nat) (hx : x.size ≤ m) (hy : y.size ≤ m) (hz : z.size ≤ m) (c : Int) : (wordOf x y z c).1.size ≤ m := by
  unfold wordOf impl_ValueOf.f
  repeat' split
  all_goals first | exact hx | exact hy | exact hz | exact Nat.zero_le _
theorem rxMatch_def (d : Int) (e : ByteArray) (l : List S35) (s : ByteArray) (h : nds 6 ⟨d, e, l⟩ ≤ 16) (hs : s.size ≤ 400) : ∃ r, rxMatch d e l s = some r := by
  obtain ⟨t, h1, h2⟩ := rx_of_nds 6 7 _ (by omega) h
  refine ⟨mt s t 0 s.size, ?_⟩
  unfold rxMatch
  rw [if_pos hs, h1]
  show (if t.size ≤ 16 then _ else _) = _
  rw [if_pos (by omega)]
theorem isW_size {s : ByteArray} (h : isW s = true) : s.size ≤ 30 := by
  simp only [isW, Bool.and_eq_true, decide_eq_true_eq] at h
  exact h.2
def isVs (x y z : ByteArray) : Bool := isW x && (isW y && isW z)
theorem spec_IsValues_ev (x y z : ByteArray) (hx : x.size ≤ 9223372036854775807) (hy : y.size ≤ 9223372036854775807) (hz : z.size ≤ 9223372036854775807) : Evt (fun k => spec_IsValues.f k x y z) (isVs x y z) :=
  and_ev (spec_IsWord_ev x hx) fun _ => and_ev (spec_IsWord_ev y hy) fun _ => last_ev (spec_IsWord_ev z hz)
theorem impl_IsValues_ev (x y z : ByteArray) (hx : x.size ≤ 9223372036854775807) (hy : y.size ≤ 9223372036854775807) (hz : z.size ≤ 9223372036854775807) : Evt (fun k => impl_IsValues.f k x y z) (isVs x y z) :=
  and_ev (impl_IsWord_ev x hx) fun _ => and_ev (impl_IsWord_ev y hy) fun _ => last_ev (impl_IsWord_ev z hz)
section
variable {a : Int} {b c : ByteArray} {d : Int} {e : ByteArray} {l : List S35} {m : List Int} {n : Int} {x y z : ByteArray}
theorem valC_use (h : valC a b c d e l m n = true) : ((a = 1 ∨ a = 2) ∧ b.size ≤ 12 ∧ c.size ≤ 12) ∨ ((a = 3 ∨ a = 4) ∧ b.size ≤ 12 ∧ nds 6 ⟨d, e, l⟩ ≤ 16) ∨ (a = 5 ∧ b.size ≤ 12 ∧ m.length = 3) := by
  unfold valC valX at h
  split at h
  · next ha =>
    simp only [isTm, Bool.and_eq_true, decide_eq_true_eq, beq_iff_eq] at h
    obtain ⟨⟨_, h1⟩, ⟨_, h2⟩, _⟩ := h
    exact .inl ⟨ha, by omega, by omega⟩
  · split at h
    · next ha =>
      simp only [isTm, Bool.and_eq_true, decide_eq_true_eq, beq_iff_eq] at h
      obtain ⟨⟨_, h1⟩, _, h3, _⟩ := h
      exact .inr (.inl ⟨ha, by omega, h3⟩)
    · split at h
      · next ha =>
        simp only [Bool.and_eq_true, decide_eq_true_eq, beq_iff_eq] at h
        obtain ⟨h1, _, _, ⟨_, h4⟩, _⟩ := h
        exact .inr (.inr ⟨ha, by omega, by omega⟩)
      · cases h
theorem holds_ev (hv : valC a b c d e l m n = true) (hw : isVs x y z = true) : ∃ r, Evt (fun k => spec_l9Holds.f k a b c d e l m n x y z) r ∧ impl_holds.f a b c d e l m n x y z = some r := by
  simp only [isVs, Bool.and_eq_true] at hw
  have hx := isW_size hw.1
  have hy := isW_size hw.2.1
  have hz := isW_size hw.2.2
  have hsz : ∀ s : ByteArray, s.size ≤ 12 → (replB (wordOf x y z) s).size ≤ 400 := fun s hs => by
    have := replB_le (wordOf x y z) 30 (by omega) (wordOf_le x y z 30 hx hy hz) s
    omega
  have sp : ∀ s : ByteArray, s.size ≤ 12 → Evt (fun k => spec_ApplyValues.f k s x y z) (replB (wordOf x y z) s) := fun s hs => spec_ApplyValues_ev s x y z (by omega) (by omega) (by omega) (by omega)
  have im : ∀ s : ByteArray, s.size ≤ 12 → impl_ApplyValues.f s x y z = some (replB (wordOf x y z) s) := fun s hs => impl_ApplyValues_eq s x y z (by omega) (by omega) (by omega) (by omega)
  simp only [spec_l9Holds.f]
  unfold impl_holds.f
  rcases valC_use hv with ⟨ha, hb, hc⟩ | ⟨ha, hb, hn⟩ | ⟨ha, hb, hl⟩
  · rcases ha with rfl | rfl
    · exact ⟨_, Evt.bind (sp b hb) (Evt.pos rfl (Evt.bind (sp c hc) (Evt.ret _))), by rw [im b hb, im c hc]; rfl⟩
    · exact ⟨_, Evt.bind (sp b hb) (Evt.neg (by decide) (Evt.pos rfl (Evt.bind (sp c hc) (Evt.ret _)))), by rw [im b hb, im c hc]; rfl⟩
  · obtain ⟨r, hr⟩ := rxMatch_def d e l (replB (wordOf x y z) b) hn (hsz b hb)
    rcases ha with rfl | rfl
    · exact ⟨r, Evt.bind (sp b hb) (Evt.neg (by decide) (Evt.neg (by decide) (Evt.pos rfl (Evt.bindc hr (Evt.ret _))))), by rw [im b hb, Option.bind_some, if_neg (show ¬ (3 : Int) = 1 by decide), if_neg (show ¬ (3 : Int) = 2 by decide), if_pos rfl, show impl_matches.f d e l (replB (wordOf x y z) b) = some r from hr]; rfl⟩
    · exact ⟨!r, Evt.bind (sp b hb) (Evt.neg (by decide) (Evt.neg (by decide) (Evt.neg (by decide) (Evt.pos rfl (Evt.bindc hr (Evt.ret _)))))), by rw [im b hb, Option.bind_some, if_neg (show ¬ (4 : Int) = 1 by decide), if_neg (show ¬ (4 : Int) = 2 by decide), if_neg (show ¬ (4 : Int) = 3 by decide), if_pos rfl, show impl_matches.f d e l (replB (wordOf x y z) b) = some r from hr]; rfl⟩
  · subst ha
    have h0 : (0 : Int) < (m.length : Int) := by omega
    have h1 : (1 : Int) < (m.length : Int) := by omega
    have h2 : (2 : Int) < (m.length : Int) := by omega
    have hs : spec_l9Sum.f m x y z = some (wrap64 ((wrap64 ((wrap64 ((rd m 0) * (x.size : Int))) + (wrap64 ((rd m 1) * (y.size : Int))))) + (wrap64 ((rd m 2) * (z.size : Int))))) := by
      unfold spec_l9Sum.f
      rw [if_pos h0, if_pos h1, if_pos h2]
    refine ⟨_, Evt.bind (sp b hb) (Evt.neg (by decide) (Evt.neg (by decide) (Evt.neg (by decide) (Evt.neg (by decide) (Evt.bindc hs (Evt.ret _)))))), ?_⟩
    rw [im b hb, Option.bind_some, if_neg (show ¬ (5 : Int) = 1 by decide), if_neg (show ¬ (5 : Int) = 2 by decide), if_neg (show ¬ (5 : Int) = 3 by decide), if_neg (show ¬ (5 : Int) = 4 by decide), if_pos h0, if_pos h1, if_pos h2]
theorem HoldsFor_ev (hb : b.size ≤ 9223372036854775807) (hc : c.size ≤ 9223372036854775807) (hr : Sm ⟨d, e, l⟩) (hm : m.length ≤ 1048576) (hx : x.size ≤ 9223372036854775807) (hy : y.size ≤ 9223372036854775807) (hz : z.size ≤ 9223372036854775807) :
    ∃ r, Evt (fun k => spec_HoldsFor.f k a b c d e l m n x y z) r ∧ Evt (fun k => impl_HoldsFor.f k a b c d e l m n x y z) r := by
  simp only [spec_HoldsFor.f, impl_HoldsFor.f]
  have s1 := spec_IsValidConstraint_ev (a := a) (n := n) hb hc hr hm
  have i1 := impl_IsValidConstraint_ev (a := a) (b := b) (c := c) (d := d) (e := e) (l := l) (n := n) hm
  by_cases hv : valC a b c d e l m n = true
  · rw [hv] at s1 i1
    have s2 := spec_IsValues_ev x y z hx hy hz
    have i2 := impl_IsValues_ev x y z hx hy hz
    by_cases hw : isVs x y z = true
    · rw [hw] at s2 i2
      obtain ⟨r, h1, h2⟩ := holds_ev hv hw
      exact ⟨r, Evt.bind s1 (Evt.pos rfl (Evt.bind s2 (Evt.pos rfl (last_ev h1)))), Evt.bind i1 (Evt.pos rfl (Evt.bind i2 (Evt.pos rfl (Evt.bindc h2 (Evt.ret _)))))⟩
    · rw [Bool.eq_false_iff.2 hw] at s2 i2
      exact ⟨false, Evt.bind s1 (Evt.pos rfl (Evt.bind s2 (Evt.neg (by decide) (Evt.ret _)))), Evt.bind i1 (Evt.pos rfl (Evt.bind i2 (Evt.neg (by decide) (Evt.ret _))))⟩
  · rw [Bool.eq_false_iff.2 hv] at s1 i1
    exact ⟨false, Evt.bind s1 (Evt.neg (by decide) (Evt.ret _)), Evt.bind i1 (Evt.neg (by decide) (Evt.ret _))⟩
end
end Go.Proofs.Ytffjfdoghofkdaa.F


namespace Go.Proofs.Ytffjfdoghofkdaa.F
set_option linter.unusedVariables false
set_option linter.unusedSimpArgs false
open Go.RowKit Go.Proofs.YtffjfdoghofkdaaW.PrintWords Go.Proofs.Ytffjfdoghofkdaa.Pl Go.Proofs.Ytffjfdoghofkdaa.A

theorem szValues_at (a b c : ByteArray) (x : Int) (hx : 0 ≤ x) (hx' : x ≤ 1048576) (ha : a.size ≤ 9223372036854775807) (hb : b.size ≤ 9223372036854775807) (hc : c.size ≤ 9223372036854775807) :
    ∃ t, laws_szValues.f a b c x = some t ∧ (t = -1 ∨ (0 ≤ t ∧ t = x - a.size - b.size - c.size)) := by
  unfold laws_szValues.f
  rw [w64_sub (by omega) (by omega) ha]
  by_cases h1 : x - a.size < 0
  · exact ⟨-1, by rw [if_pos h1], .inl rfl⟩
  rw [if_neg h1, w64_sub (by omega) (by omega) hb]
  by_cases h2 : x - a.size - b.size < 0
  · exact ⟨-1, by rw [if_pos h2], .inl rfl⟩
  rw [if_neg h2, w64_sub (by omega) (by omega) hc]
  by_cases h3 : x - a.size - b.size - c.size < 0
  · exact ⟨-1, by rw [if_pos h3], .inl rfl⟩
  rw [if_neg h3]
  exact ⟨_, rfl, .inr ⟨by omega, rfl⟩⟩

end Go.Proofs.Ytffjfdoghofkdaa.F


namespace Go.Proofs.Ytffjfdoghofkdaa.Pure
set_option linter.unusedVariables false
set_option linter.unusedSimpArgs false
open Go Go.RowKit Go.Proofs.YtffjfdoghofkdaaW.PrintWords Go.Proofs.Ytffjfdoghofkdaa.Pl Go.Proofs.Ytffjfdoghofkdaa.F Go.Proofs.Ytffjfdoghofkdaa.A Go.Proofs.Ytffjfdoghofkdaa.Ext Go.Proofs.Ytffjfdoghofkdaa.BtFnExactHoldsFor

theorem rxOk_of (n : Nat) : ∀ x : S24, wf24N n x → RxOk n x := by
  induction n with
  | zero => intro x h; exact h.elim
  | succ n ih => intro x h; exact ⟨h.2.1, h.2.2.1, fun a ha => ih a (h.2.2.2 a ha)⟩
theorem rxOk_mono : ∀ n (x : S24), RxOk n x → RxOk (n + 1) x := by
  intro n
  induction n with
  | zero => intro x h; exact h.elim
  | succ n ih => intro x h; exact ⟨h.1, h.2.1, fun a ha => ih a (h.2.2 a ha)⟩
theorem rxOk_le {n m : Nat} (h : n ≤ m) (x : S24) (hx : RxOk n x) : RxOk m x := by
  induction h with
  | refl => exact hx
  | step _ ih => exact rxOk_mono _ _ ih
theorem rxOk_top (d : Int) (e : ByteArray) (l : List S24) (he : e.size ≤ 9223372036854775807) (hl : l.length ≤ 9223372036854775807 ∧ ∀ a ∈ l, wf24 a) : ∃ n, RxOk n ⟨d, e, l⟩ := by
  obtain ⟨h1, h2⟩ := hl
  have h3 : ∃ n, ∀ a ∈ l, RxOk n a := by
    clear h1
    induction l with
    | nil => exact ⟨0, fun a ha => by cases ha⟩
    | cons x l ih =>
      obtain ⟨n, hn⟩ := ih (fun a ha => h2 a (List.mem_cons_of_mem _ ha))
      obtain ⟨m, hm⟩ := h2 x (List.mem_cons_self ..)
      refine ⟨max n m, fun a ha => ?_⟩
      rcases List.mem_cons.1 ha with rfl | ha
      · exact rxOk_le (by omega) _ (rxOk_of m _ hm)
      · exact rxOk_le (by omega) _ (hn a ha)
  obtain ⟨n, hn⟩ := h3
  exact ⟨n + 1, he, h1, hn⟩
theorem FnExactHoldsFor : FnExactHoldsFor.Pure := by
  intro a b c d e l m n x y z _ hb hc _ he hl hm _ hx hy hz
  obtain ⟨N, hN⟩ := rxOk_top d e l he hl
  refine Evt.get (g := fun k => laws_FnExactHoldsFor.f k a b c d e l m n x y z) ?_
  simp only [laws_FnExactHoldsFor.f]
  obtain ⟨t, ht, hs⟩ := szConstraint_ev a b c d e l m n N 1048576 (by omega) (by omega) hb hc hN hm.1
  rcases hs with rfl | ⟨h0, h1, w, y1, y2, q1⟩
  · exact Evt.bind ht (Evt.pos (by decide) (Evt.ret _))
  refine Evt.bind ht (Evt.neg (by omega) ?_)
  obtain ⟨t2, ht2, hs2⟩ := szValues_at x y z t h0 h1 hx hy hz
  rcases hs2 with rfl | ⟨h2, _⟩
  · exact Evt.bindc ht2 (Evt.pos (by decide) (Evt.ret _))
  obtain ⟨r, r1, r2⟩ := HoldsFor_ev (a := a) (n := n) hb hc y1 y2 hx hy hz
  exact Evt.bindc ht2 (Evt.neg (by omega) (Evt.bind q1 (Evt.bindc rfl (Evt.bind r1 (Evt.bind q1 (Evt.bindc rfl (Evt.bind r2 (Evt.neg (by simp) (Evt.bind q1 (Evt.bind (eqConstraint_ev a b c d e w m n y1 y2) (Evt.pos rfl (Evt.ret _))))))))))))

end Go.Proofs.Ytffjfdoghofkdaa.Pure


namespace Go.Proofs.Ytffjfdoghofkdaa.fnExactHoldsFor
open Go.ChangeShapes Go.WideShapes Go.ChangeAt Go.RowKit Go.Proofs.Ytffjfdoghofkdaa.Br Go.Proofs.YtffjfdoghofkdaaW.PrintWords Go.Proofs.Ytffjfdoghofkdaa.A Go.Proofs.Ytffjfdoghofkdaa.BtFnExactHoldsFor
open Go.ChangeMaps (open_string shut_string)
set_option linter.unusedVariables false
theorem own : ownKnob Try.prog.godebug = none := by kernel_rfl
theorem laidOut : laidOutB Try.prog = true := by kernel_rfl
set_option maxHeartbeats 2000000 in
set_option maxRecDepth 100000 in
theorem lifted (os : Os) (started : os.Started) (H : Type) (enc : TypeId × Value → H) :
    ReturnsInHanded {} Try.checked os 3 .any (Rows.fnExactHoldsForSpec.pre6 enc Try.prog Try.f3 Rows.fnExactHoldsForRow.domain false) (Rows.fnExactHoldsForSpec.post enc Try.prog Try.f3 false true false false) := by
  refine returnsInHanded_of_change_sized (C := Try.checked) own started (by kernel_rfl) Try.func3
    (ChangeSpec.witness6 (enc := enc) (C := Try.checked) false ⟨#[], #[.agg #[.int .i64 0, .string ByteArray.empty, .string ByteArray.empty, .int .i64 0, .string ByteArray.empty, .slice none 0 0, .slice none 0 0, .int .i64 0], .agg #[.string ByteArray.empty, .string ByteArray.empty, .string ByteArray.empty]], []⟩ 8 (by kernel_rfl) (by kernel_rfl) (by kernel_rfl) (by kernel_rfl)) ?_
  intro W base args ds gs before hval0 hW hcnd hsz0 _
  have hval : ∀ (j : Nat) t v, Try.f3.params[j]? = some t → args[j]? = some v → Value.okWide Try.prog W .any base t v := hval0
  have hW' := hW
  obtain ⟨p, q, hA0, hV, rfl, hfz, hnd⟩ := hW
  have hA : DataW.TrodAll enc Try.prog W 0 (fun _ => true) true Try.f3.params.toList args.toList ds p := hA0
  rw [Try.params3] at hA hval
  obtain ⟨v0, vs0, d0, ds0, p0, q0, hargs, rfl, rfl, h0, r0⟩ := trodAll_cons hA
  obtain ⟨v1, vs1, d1, ds1, p1, q1, rfl, rfl, rfl, h1, r1⟩ := trodAll_cons r0
  obtain ⟨rfl, rfl, rfl⟩ := trodAll_nil r1
  obtain rfl : args = #[v0, v1] := by cases args; simp_all
  obtain ⟨rfl, rfl⟩ := trodVars_none hV
  have k0 := h0
  have lt0 : ∀ x ∈ p0, x.block < W.heap.size := by obtain ⟨m, hm⟩ := k0; exact DataW.trod_lt m _ _ _ hm
  obtain ⟨arr0, rfl, _, _⟩ : ∃ cs, v0 = .agg cs ∧ cs.size = Try.prog.cellsOf 27 ∧ Row.okWide Try.prog W .any base 27 cs := by have z := (hval 0 27 v0 rfl rfl); unfold Value.okWide at z; rw [Try.underlying27] at z; exact z
  obtain ⟨fuel0, hf0⟩ := h0
  obtain ⟨x0, hK0, hw0⟩ := (show ∀ n, BrN Try.prog n 27 _ _ from fun n => (br_struct' Try.underlying27 (show Try.prog.cellsOf 27 = 8 by kernel_rfl) (fun n => (bf_cons rfl (show Try.prog.cellsOf 3 = 1 by kernel_rfl) (br_int Try.underlying3 n) (bf_cons rfl (show Try.prog.cellsOf 9 = 1 by kernel_rfl) (br_string Try.underlying9 n) (bf_cons rfl (show Try.prog.cellsOf 9 = 1 by kernel_rfl) (br_string Try.underlying9 n) (bf_cons rfl (show Try.prog.cellsOf 24 = 3 by kernel_rfl) (br_struct' Try.underlying24 (show Try.prog.cellsOf 24 = 3 by kernel_rfl) (fun n => (bf_cons rfl (show Try.prog.cellsOf 3 = 1 by kernel_rfl) (br_int Try.underlying3 n) (bf_cons rfl (show Try.prog.cellsOf 9 = 1 by kernel_rfl) (br_string Try.underlying9 n) (bf_one rfl (show Try.prog.cellsOf 22 = 1 by kernel_rfl) (br_slice' Try.underlying22 (show Try.prog.cellsOf 24 = 3 by kernel_rfl) (fun n => (br24 n)) n)) (of_decide_eq_true (by kernel_rfl))) (of_decide_eq_true (by kernel_rfl)))) n) (bf_cons rfl (show Try.prog.cellsOf 25 = 1 by kernel_rfl) (br_slice' Try.underlying25 (show Try.prog.cellsOf 3 = 1 by kernel_rfl) (fun n => (br_int Try.underlying3 n)) n) (bf_one rfl (show Try.prog.cellsOf 3 = 1 by kernel_rfl) (br_int Try.underlying3 n)) (of_decide_eq_true (by kernel_rfl))) (of_decide_eq_true (by kernel_rfl))) (of_decide_eq_true (by kernel_rfl))) (of_decide_eq_true (by kernel_rfl))) (of_decide_eq_true (by kernel_rfl)))) n)) fuel0 H enc W 0 (fun _ => true) true fuel0 _ _ (Nat.le_refl _) hf0
  obtain ⟨a0_0, ⟨a0_1, ⟨a0_2, ⟨⟨a0_3, ⟨a0_4, l0_5⟩⟩, ⟨l0_6, a0_7⟩⟩⟩⟩⟩ := x0
  replace hw0 := hw0
  obtain ⟨w0_0, ⟨w0_1, ⟨w0_2, ⟨⟨w0_3, ⟨w0_4, w0_5⟩⟩, ⟨w0_6, w0_7⟩⟩⟩⟩⟩ := hw0
  obtain ⟨cs0, hcs0, hK0⟩ : ∃ cs, (Value.agg arr0).cells.toList = cs ∧ _ := ⟨_, rfl, hK0⟩
  obtain ⟨_, _, rfl, rfl, ⟨_, _, rfl, rfl, ⟨_, _, rfl, rfl, ⟨_, _, rfl, ⟨_, _, rfl, rfl, ⟨_, _, rfl, rfl, ⟨A0_5, c0_5, rfl, hc0_5, hr0_5⟩⟩⟩, ⟨_, _, rfl, ⟨A0_6, c0_6, rfl, hc0_6, hr0_6⟩, rfl⟩⟩⟩⟩⟩ := hK0
  obtain rfl : arr0 = #[.int .i64 a0_0, .string a0_1, .string a0_2, .int .i64 a0_3, .string a0_4, .slice A0_5 l0_5.length c0_5, .slice A0_6 l0_6.length c0_6, .int .i64 a0_7] := arr_of hcs0
  have k1 := h1
  have lt1 : ∀ x ∈ p1, x.block < W.heap.size := by obtain ⟨m, hm⟩ := k1; exact DataW.trod_lt m _ _ _ hm
  obtain ⟨arr1, rfl, _, _⟩ : ∃ cs, v1 = .agg cs ∧ cs.size = Try.prog.cellsOf 29 ∧ Row.okWide Try.prog W .any base 29 cs := by have z := (hval 1 29 v1 rfl rfl); unfold Value.okWide at z; rw [Try.underlying29] at z; exact z
  obtain ⟨fuel1, hf1⟩ := h1
  obtain ⟨x1, hK1, hw1⟩ := (show ∀ n, BrN Try.prog n 29 _ _ from fun n => (br_struct' Try.underlying29 (show Try.prog.cellsOf 29 = 3 by kernel_rfl) (fun n => (bf_cons rfl (show Try.prog.cellsOf 9 = 1 by kernel_rfl) (br_string Try.underlying9 n) (bf_cons rfl (show Try.prog.cellsOf 9 = 1 by kernel_rfl) (br_string Try.underlying9 n) (bf_one rfl (show Try.prog.cellsOf 9 = 1 by kernel_rfl) (br_string Try.underlying9 n)) (of_decide_eq_true (by kernel_rfl))) (of_decide_eq_true (by kernel_rfl)))) n)) fuel1 H enc W 0 (fun _ => true) true fuel1 _ _ (Nat.le_refl _) hf1
  obtain ⟨a1_0, ⟨a1_1, a1_2⟩⟩ := x1
  replace hw1 := hw1
  obtain ⟨w1_0, ⟨w1_1, w1_2⟩⟩ := hw1
  obtain ⟨cs1, hcs1, hK1⟩ : ∃ cs, (Value.agg arr1).cells.toList = cs ∧ _ := ⟨_, rfl, hK1⟩
  obtain ⟨_, _, rfl, rfl, ⟨_, _, rfl, rfl, rfl⟩⟩ := hK1
  obtain rfl : arr1 = #[.string a1_0, .string a1_1, .string a1_2] := arr_of hcs1
  clear hA0 hval0 hsz0
  obtain ⟨k, hp⟩ := Pure.FnExactHoldsFor a0_0 a0_1 a0_2 a0_3 a0_4 l0_5 l0_6 a0_7 a1_0 a1_1 a1_2 w0_0 w0_1 w0_2 w0_3 w0_4 w0_5 w0_6 w0_7 w1_0 w1_1 w1_2
  refine (laws_FnExactHoldsFor.calls k a0_0 a0_1 a0_2 a0_3 a0_4 _ _ l0_5 _ _ l0_6 a0_7 a1_0 a1_1 a1_2 true W hr0_5 hc0_5 hr0_6 hc0_6 hp rfl).mono fun e W' ⟨he, bel0⟩ => ?_
  subst he
  have bel : Below W.heap.size W W' := bel0
  exact ⟨_, rfl, _, _, _, [], _, [], hW', trodAll_mk1 (shut_bool Try.underlying4 _), (trodAll_cons_mk (Below.trod laidOut (by kernel_rfl) (of_decide_eq_true (by kernel_rfl)) k0 bel lt0) (trodAll_cons_mk (Below.trod laidOut (by kernel_rfl) (of_decide_eq_true (by kernel_rfl)) k1 bel lt1) trodAll_mk0)), rfl, bel.frame _, fun h => by cases h⟩
theorem fact0 : (Rows.fnExactHoldsForRow.inPlace == Try.pinned.checked.prog.inPlace 3) = true := by kernel_rfl
theorem fact1 : (Rows.fnExactHoldsForRow.unfollowed == Try.pinned.checked.prog.unfollowed 3) = true := by kernel_rfl
theorem fact2 : (Rows.fnExactHoldsForRow.recurses == Try.pinned.checked.prog.recurses 3) = true := by kernel_rfl
theorem fact3 : (Rows.fnExactHoldsForRow.named == Try.pinned.checked.prog.varsNamed 3) = true := by kernel_rfl
theorem facts : joinedFacts Try.pinned.checked.prog 3 Try.f3 Rows.fnExactHoldsForSpec Rows.fnExactHoldsForRow = true := by
  unfold joinedFacts
  rw [fact0, fact1, fact2, fact3]
  kernel_rfl
theorem known : Try.pinned.checked.prog.funcNamed Rows.fnExactHoldsForRow.func = some 3 := by kernel_rfl
theorem inst : Try.f3.isInstance Try.pinned.checked.prog Rows.fnExactHoldsForRow.origin Rows.fnExactHoldsForRow.targs := of_decide_eq_true (by kernel_rfl)
theorem wrap : Try.f3.isWrapper Try.pinned.checked.prog Rows.fnExactHoldsForRow.wrapper Rows.fnExactHoldsForRow.mainSum := by unfold Func.isWrapper; first | (rw [if_pos (by decide +kernel)]; kernel_rfl) | (rw [if_neg (by decide +kernel)]; exact ⟨rfl, rfl⟩)
theorem over : Rows.fnExactHoldsForRow.holds Try.pinned (OpenSpec.ofChange Rows.fnExactHoldsForSpec) :=
  OpenClaim.holds_of_wide 3 Try.f3 rfl rfl rfl rfl rfl rfl rfl ⟨rfl, rfl, rfl, rfl, rfl⟩ rfl rfl rfl rfl rfl known Try.func3 facts inst wrap
    (fun os started H enc _ => lifted os started H enc)
theorem proved : Rows.FnExactHoldsForSaid := over
#print axioms proved
end Go.Proofs.Ytffjfdoghofkdaa.fnExactHoldsFor
namespace Go.Proofs.Ytffjfdoghofkdaa
/-- The row, under a short name, for the claim. -/
theorem fnExactHoldsFor_holds : Rows.FnExactHoldsForSaid := fnExactHoldsFor.proved
end Go.Proofs.Ytffjfdoghofkdaa
