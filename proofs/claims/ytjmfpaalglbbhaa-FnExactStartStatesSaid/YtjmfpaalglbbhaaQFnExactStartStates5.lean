/- FnExactStartStates: what its proof needs, put together by this session's program wip/merge.py out of the texts that wip/xp.py printed and of this session's own. -/
import Derived.Test.YtjmfpaalglbbhaaQFnExactStartStates4
import Derived.Test.YtjmfpaalglbbhaaProg
import Derived.ChangeArms
import Derived.ChangeReads
import Derived.DataReads
import Derived.DataElems
import Derived.Lib.Strings
import Derived.Lib.Bytealg
import Derived.Shelf.Abstract
import Derived.Deep.LoopGhost
import Derived.Deep.QuietTactic
import Derived.BigQuiet
set_option linter.unusedVariables false
set_option linter.unusedSimpArgs false
set_option maxHeartbeats 8000000
set_option maxRecDepth 100000
namespace Go.Proofs.Ytjmfpaalglbbhaa.A
open Go.RowKit Go.Proofs.Ytjmfpaalglbbhaa.Ext Go.Proofs.YtjmfpaalglbbhaaW.PrintWords Go.Proofs.YtjmfpaalglbbhaaW.PrintLast Go.Proofs.YtjmfpaalglbbhaaW.PrintMore
attribute [local go_sem] max2_int min2_int max_two min_two max_three min_three max_four min_four
mutual
def spec_StartStates.j0 : Nat → List (S89) → List Int → List Int → List Int → Bool → ByteArray → ByteArray → List (List Int) → List Int → List (List Int) → List (List Int) → Option ((List (S89)))
 | 0, _, _, _, _, _, _, _, _, _, _, _ => none
 | k + 1, x3, x4, x5, x6, x46, x8002000, x8002001, x8002002, x8002003, x8002004, x8002005 => if x46 = true then (some x3) else ((spec_StripEquation.f k x8002000 x8002001).bind fun bt8014 => (spec_StartStates.l0 k x3 x4 x5 x6 0 bt8014.1 bt8014.2))
def spec_StartStates.l0 : Nat → List (S89) → List Int → List Int → List Int → Int → ByteArray → ByteArray → Option ((List (S89)))
 | 0, _, _, _, _, _, _, _ => none
 | k + 1, x3, x4, x5, x6, x8, x8017000, x8017001 => if x8 < (x4.length : Int) then (spec_StartStates.l1 k x3 x4 x5 x6 x8 0 x8017000 x8017001) else (some x3)
def spec_StartStates.l1 : Nat → List (S89) → List Int → List Int → List Int → Int → Int → ByteArray → ByteArray → Option ((List (S89)))
 | 0, _, _, _, _, _, _, _, _ => none
 | k + 1, x3, x4, x5, x6, x8, x9, x8017000, x8017001 => if x9 < (x5.length : Int) then (spec_StartStates.l2 k x3 x4 x5 x6 x8 x9 0 x8017000 x8017001) else (spec_StartStates.l0 k x3 x4 x5 x6 (wrap64 (x8 + 1)) x8017000 x8017001)
def spec_StartStates.l2 : Nat → List (S89) → List Int → List Int → List Int → Int → Int → Int → ByteArray → ByteArray → Option ((List (S89)))
 | 0, _, _, _, _, _, _, _, _, _ => none
 | k + 1, x3, x4, x5, x6, x8, x9, x10, x8017000, x8017001 => if x10 < (x6.length : Int) then (if 0 ≤ x8 then (if x8 < (x4.length : Int) then (if 0 ≤ x9 then (if x9 < (x5.length : Int) then (if 0 ≤ x10 then (if x3.length < 2513169434916 then (spec_StartStates.l2 k (x3 ++ [(⟨x8017000, x8017001, (([rd x4 x8, rd x5 x9, rd x6 x10] : List Int))⟩ : S89)]) x4 x5 x6 x8 x9 (wrap64 (x10 + 1)) x8017000 x8017001) else (none)) else (none)) else (none)) else (none)) else (none)) else (none)) else (spec_StartStates.l1 k x3 x4 x5 x6 x8 (wrap64 (x9 + 1)) x8017000 x8017001)
end
def spec_StartStates.f (k : Nat) (a0_0 : ByteArray) (a0_1 : ByteArray) (l0_2 : List (List Int)) (l0_3 : List Int) (l0_4 : List (List Int)) (l0_5 : List (List Int)) : Option ((List (S89))) := (some (([] : List (S89)) : List (S89))).bind fun y8002 => (if (l0_5.length : Int) = 3 then ((spec_l14Choices.f k a0_0 a0_1 l0_2 l0_3 l0_4 l0_5 0).bind fun t8005 => ((spec_l14Choices.f k a0_0 a0_1 l0_2 l0_3 l0_4 l0_5 1).bind fun t8008 => ((spec_l14Choices.f k a0_0 a0_1 l0_2 l0_3 l0_4 l0_5 2).bind fun t8011 => (if (t8005.length : Int) > 1000 then (spec_StartStates.j0 k y8002 t8005 t8008 t8011 true a0_0 a0_1 l0_2 l0_3 l0_4 l0_5) else (if (t8008.length : Int) > 1000 then (spec_StartStates.j0 k y8002 t8005 t8008 t8011 true a0_0 a0_1 l0_2 l0_3 l0_4 l0_5) else (if (t8011.length : Int) > 1000 then (spec_StartStates.j0 k y8002 t8005 t8008 t8011 true a0_0 a0_1 l0_2 l0_3 l0_4 l0_5) else (spec_StartStates.j0 k y8002 t8005 t8008 t8011 (decide ((wrap64 ((wrap64 ((t8005.length : Int) * (t8008.length : Int))) * (t8011.length : Int))) > 400)) a0_0 a0_1 l0_2 l0_3 l0_4 l0_5))))))) else (some y8002))
theorem spec_StartStates.mono_l : ∀ k, (∀ y0 y1 y2 y3 y4 y5 y6 y7 y8 y9 y10, LeO (spec_StartStates.j0 k y0 y1 y2 y3 y4 y5 y6 y7 y8 y9 y10) (spec_StartStates.j0 (k + 1) y0 y1 y2 y3 y4 y5 y6 y7 y8 y9 y10)) ∧ (∀ y0 y1 y2 y3 y4 y5 y6, LeO (spec_StartStates.l0 k y0 y1 y2 y3 y4 y5 y6) (spec_StartStates.l0 (k + 1) y0 y1 y2 y3 y4 y5 y6)) ∧ (∀ y0 y1 y2 y3 y4 y5 y6 y7, LeO (spec_StartStates.l1 k y0 y1 y2 y3 y4 y5 y6 y7) (spec_StartStates.l1 (k + 1) y0 y1 y2 y3 y4 y5 y6 y7)) ∧ (∀ y0 y1 y2 y3 y4 y5 y6 y7 y8, LeO (spec_StartStates.l2 k y0 y1 y2 y3 y4 y5 y6 y7 y8) (spec_StartStates.l2 (k + 1) y0 y1 y2 y3 y4 y5 y6 y7 y8))
 | 0 => ⟨fun _ _ _ _ _ _ _ _ _ _ _ r h => by simp [spec_StartStates.j0] at h, fun _ _ _ _ _ _ _ r h => by simp [spec_StartStates.l0] at h, fun _ _ _ _ _ _ _ _ r h => by simp [spec_StartStates.l1] at h, fun _ _ _ _ _ _ _ _ _ r h => by simp [spec_StartStates.l2] at h⟩
 | k + 1 => by
  obtain ⟨ih0, ih1, ih2, ih3⟩ := spec_StartStates.mono_l k
  refine ⟨?_, ?_, ?_, ?_⟩
  ·intro y0 y1 y2 y3 y4 y5 y6 y7 y8 y9 y10
   unfold spec_StartStates.j0
   repeat' first
   | (with_reducible exact ih0 _ _ _ _ _ _ _ _ _ _ _)
   | (with_reducible exact ih1 _ _ _ _ _ _ _)
   | (with_reducible exact ih2 _ _ _ _ _ _ _ _)
   | (with_reducible exact ih3 _ _ _ _ _ _ _ _ _)
   | (with_reducible exact spec_StripEquation.mono _ _ _)
   | (with_reducible exact spec_l14Choices.mono _ _ _ _ _ _ _ _)
   | (with_reducible exact LeO.refl _)
   | (with_reducible exact LeO.none _)
   | (with_reducible refine LeO.ite ?_ ?_)
   | (with_reducible refine LeO.bind ?_ (fun _ => ?_))
  ·intro y0 y1 y2 y3 y4 y5 y6
   unfold spec_StartStates.l0
   repeat' first
   | (with_reducible exact ih0 _ _ _ _ _ _ _ _ _ _ _)
   | (with_reducible exact ih1 _ _ _ _ _ _ _)
   | (with_reducible exact ih2 _ _ _ _ _ _ _ _)
   | (with_reducible exact ih3 _ _ _ _ _ _ _ _ _)
   | (with_reducible exact spec_StripEquation.mono _ _ _)
   | (with_reducible exact spec_l14Choices.mono _ _ _ _ _ _ _ _)
   | (with_reducible exact LeO.refl _)
   | (with_reducible exact LeO.none _)
   | (with_reducible refine LeO.ite ?_ ?_)
   | (with_reducible refine LeO.bind ?_ (fun _ => ?_))
  ·intro y0 y1 y2 y3 y4 y5 y6 y7
   unfold spec_StartStates.l1
   repeat' first
   | (with_reducible exact ih0 _ _ _ _ _ _ _ _ _ _ _)
   | (with_reducible exact ih1 _ _ _ _ _ _ _)
   | (with_reducible exact ih2 _ _ _ _ _ _ _ _)
   | (with_reducible exact ih3 _ _ _ _ _ _ _ _ _)
   | (with_reducible exact spec_StripEquation.mono _ _ _)
   | (with_reducible exact spec_l14Choices.mono _ _ _ _ _ _ _ _)
   | (with_reducible exact LeO.refl _)
   | (with_reducible exact LeO.none _)
   | (with_reducible refine LeO.ite ?_ ?_)
   | (with_reducible refine LeO.bind ?_ (fun _ => ?_))
  ·intro y0 y1 y2 y3 y4 y5 y6 y7 y8
   unfold spec_StartStates.l2
   repeat' first
   | (with_reducible exact ih0 _ _ _ _ _ _ _ _ _ _ _)
   | (with_reducible exact ih1 _ _ _ _ _ _ _)
   | (with_reducible exact ih2 _ _ _ _ _ _ _ _)
   | (with_reducible exact ih3 _ _ _ _ _ _ _ _ _)
   | (with_reducible exact spec_StripEquation.mono _ _ _)
   | (with_reducible exact spec_l14Choices.mono _ _ _ _ _ _ _ _)
   | (with_reducible exact LeO.refl _)
   | (with_reducible exact LeO.none _)
   | (with_reducible refine LeO.ite ?_ ?_)
   | (with_reducible refine LeO.bind ?_ (fun _ => ?_))
theorem spec_StartStates.mono : ∀ a0 a1 a2 a3 a4 a5 k, LeO (spec_StartStates.f k a0 a1 a2 a3 a4 a5) (spec_StartStates.f (k + 1) a0 a1 a2 a3 a4 a5) := by
 intro a0 a1 a2 a3 a4 a5 k
 obtain ⟨ih0, ih1, ih2, ih3⟩ := spec_StartStates.mono_l k
 unfold spec_StartStates.f
 repeat' first
   | (with_reducible exact ih0 _ _ _ _ _ _ _ _ _ _ _)
   | (with_reducible exact ih1 _ _ _ _ _ _ _)
   | (with_reducible exact ih2 _ _ _ _ _ _ _ _)
   | (with_reducible exact ih3 _ _ _ _ _ _ _ _ _)
   | (with_reducible exact spec_StripEquation.mono _ _ _)
   | (with_reducible exact spec_l14Choices.mono _ _ _ _ _ _ _ _)
   | (with_reducible exact LeO.refl _)
   | (with_reducible exact LeO.none _)
   | (with_reducible refine LeO.ite ?_ ?_)
   | (with_reducible refine LeO.bind ?_ (fun _ => ?_))
def spec_StartStates.T19 : Bool × List (List Nat × List Nat) := (true, [([], []), ([], []), ([1], [1]), ([], []), ([3], [3]), ([], []), ([], []), ([5, 6], [5, 6]), ([7], [7]), ([], []), ([], []), ([9, 10], [9, 10]), ([11], [11]), ([], []), ([], []), ([13, 14], [13, 14]), ([15], [15]), ([8, 12, 16], [8, 12, 16]), ([2, 4, 17], [2, 4, 17]), ([18], [18]), ([0, 19], [0, 19]), ([20, 20, 0, 1, 2, 3, 4, 5, 6, 7, 8, 9, 10, 11, 12, 13, 14, 15, 16, 17, 18, 19, 20], [0, 20])])
def spec_StartStates.B19 : List Nat := [0, 0, 2, 0, 8, 0, 0, 96, 224, 0, 0, 1536, 3584, 0, 0, 24576, 57344, 131040, 262142, 524286, 1048575, 2097151]
theorem spec_StartStates.tab19 : rtab .any (opsOf Try.f8 19) = spec_StartStates.T19 := by kernel_rfl
theorem spec_StartStates.bits19 : waitsOk spec_StartStates.T19.2 spec_StartStates.B19 = true := by kernel_rfl
theorem spec_StartStates.calls (k : Nat) (a0_0 : ByteArray) (a0_1 : ByteArray) (A0_2 : Option Addr) (c0_2 : Nat) (l0_2 : List (List Int)) (A0_3 : Option Addr) (c0_3 : Nat) (l0_3 : List Int) (A0_4 : Option Addr) (c0_4 : Nat) (l0_4 : List (List Int)) (A0_5 : Option Addr) (c0_5 : Nat) (l0_5 : List (List Int)) (r : List (S89)) (w : World) (hr0_2 : Kd.C (Kd.slice 3 (Kd.int .i64)) w A0_2 l0_2.length l0_2) (hc0_2 : l0_2.length ≤ c0_2) (hr0_3 : Kd.C (Kd.int .i64) w A0_3 l0_3.length l0_3) (hc0_3 : l0_3.length ≤ c0_3) (hr0_4 : Kd.C (Kd.slice 3 (Kd.int .i64)) w A0_4 l0_4.length l0_4) (hc0_4 : l0_4.length ≤ c0_4) (hr0_5 : Kd.C (Kd.slice 3 (Kd.int .i64)) w A0_5 l0_5.length l0_5) (hc0_5 : l0_5.length ≤ c0_5) (h : spec_StartStates.f k a0_0 a0_1 l0_2 l0_3 l0_4 l0_5 = some r) :
  Calls Try.prog 8 #[.agg #[.string a0_0, .string a0_1, .slice A0_2 l0_2.length c0_2, .slice A0_3 l0_3.length c0_3, .slice A0_4 l0_4.length c0_4, .slice A0_5 l0_5.length c0_5]] w fun e w' => ∃ v0_ : Value, e = .returned (v0_) ∧ Kd.S k89 89 w' w.heap.size (fun _ => True) v0_ r ∧ Below w.heap.size w w' := by
 have hu36 := Try.underlying36
 have hu33 := Try.underlying33
 have hu89 := Try.underlying89
 have HR0_2 := Aside0.mk hr0_2
 have HC0_2 := Aside0.mk hc0_2
 clear hr0_2 hc0_2
 have HR0_3 := Aside0.mk hr0_3
 have HC0_3 := Aside0.mk hc0_3
 clear hr0_3 hc0_3
 have HR0_4 := Aside0.mk hr0_4
 have HC0_4 := Aside0.mk hc0_4
 clear hr0_4 hc0_4
 have HR0_5 := Aside0.mk hr0_5
 have HC0_5 := Aside0.mk hc0_5
 clear hr0_5 hc0_5
 have HB := Aside0.mk (Below.refl w.heap.size w)
 have H : ((some (([] : List (S89)) : List (S89))).bind fun y8002 => (if (l0_5.length : Int) = 3 then ((spec_l14Choices.f k a0_0 a0_1 l0_2 l0_3 l0_4 l0_5 0).bind fun t8005 => ((spec_l14Choices.f k a0_0 a0_1 l0_2 l0_3 l0_4 l0_5 1).bind fun t8008 => ((spec_l14Choices.f k a0_0 a0_1 l0_2 l0_3 l0_4 l0_5 2).bind fun t8011 => (if (t8005.length : Int) > 1000 then (spec_StartStates.j0 k y8002 t8005 t8008 t8011 true a0_0 a0_1 l0_2 l0_3 l0_4 l0_5) else (if (t8008.length : Int) > 1000 then (spec_StartStates.j0 k y8002 t8005 t8008 t8011 true a0_0 a0_1 l0_2 l0_3 l0_4 l0_5) else (if (t8011.length : Int) > 1000 then (spec_StartStates.j0 k y8002 t8005 t8008 t8011 true a0_0 a0_1 l0_2 l0_3 l0_4 l0_5) else (spec_StartStates.j0 k y8002 t8005 t8008 t8011 (decide ((wrap64 ((wrap64 ((t8005.length : Int) * (t8008.length : Int))) * (t8011.length : Int))) > 400)) a0_0 a0_1 l0_2 l0_3 l0_4 l0_5))))))) else (some y8002))) = some r := h
 clear h
 obtain ⟨y8002, hy8002⟩ : ∃ y_ : List (S89), y_ = (([] : List (S89))) := ⟨_, rfl⟩
 replace H : (if (l0_5.length : Int) = 3 then ((spec_l14Choices.f k a0_0 a0_1 l0_2 l0_3 l0_4 l0_5 0).bind fun t8005 => ((spec_l14Choices.f k a0_0 a0_1 l0_2 l0_3 l0_4 l0_5 1).bind fun t8008 => ((spec_l14Choices.f k a0_0 a0_1 l0_2 l0_3 l0_4 l0_5 2).bind fun t8011 => (if (t8005.length : Int) > 1000 then (spec_StartStates.j0 k y8002 t8005 t8008 t8011 true a0_0 a0_1 l0_2 l0_3 l0_4 l0_5) else (if (t8008.length : Int) > 1000 then (spec_StartStates.j0 k y8002 t8005 t8008 t8011 true a0_0 a0_1 l0_2 l0_3 l0_4 l0_5) else (if (t8011.length : Int) > 1000 then (spec_StartStates.j0 k y8002 t8005 t8008 t8011 true a0_0 a0_1 l0_2 l0_3 l0_4 l0_5) else (spec_StartStates.j0 k y8002 t8005 t8008 t8011 (decide ((wrap64 ((wrap64 ((t8005.length : Int) * (t8008.length : Int))) * (t8011.length : Int))) > 400)) a0_0 a0_1 l0_2 l0_3 l0_4 l0_5))))))) else (some y8002)) = some r := by first | (rw [hy8002]; with_reducible exact H) | (have H2_ := (Option.bind_some _ _).symm.trans H; rw [hy8002]; with_reducible exact H2_) | (have H2_ := (Option.bind_some _ _).symm.trans H; with_reducible exact H2_) | with_reducible exact H | (rw [hy8002]; exact H) | exact H
 have Ny8002 := Aside0.mk hy8002
 clear hy8002
 by_cases c2 : (l0_5.length : Int) = 3
 ·rw [if_pos c2] at H
  have c2b0 : ((l0_5.length : Int) == 3) = true := beq_iff_eq.mpr c2
  have c2b1 : ((l0_5.length : Int) != 3) = false := bne_eq_false_iff_eq.mpr c2
  clear c2
  replace H := Option.bind_eq_some_iff.mp H
  obtain ⟨t8005, A30, H⟩ := H
  replace H : ((spec_l14Choices.f k a0_0 a0_1 l0_2 l0_3 l0_4 l0_5 1).bind fun t8008 => ((spec_l14Choices.f k a0_0 a0_1 l0_2 l0_3 l0_4 l0_5 2).bind fun t8011 => (if (t8005.length : Int) > 1000 then (spec_StartStates.j0 k y8002 t8005 t8008 t8011 true a0_0 a0_1 l0_2 l0_3 l0_4 l0_5) else (if (t8008.length : Int) > 1000 then (spec_StartStates.j0 k y8002 t8005 t8008 t8011 true a0_0 a0_1 l0_2 l0_3 l0_4 l0_5) else (if (t8011.length : Int) > 1000 then (spec_StartStates.j0 k y8002 t8005 t8008 t8011 true a0_0 a0_1 l0_2 l0_3 l0_4 l0_5) else (spec_StartStates.j0 k y8002 t8005 t8008 t8011 (decide ((wrap64 ((wrap64 ((t8005.length : Int) * (t8008.length : Int))) * (t8011.length : Int))) > 400)) a0_0 a0_1 l0_2 l0_3 l0_4 l0_5)))))) = some r := H
  have A3 := Aside0.mk A30
  clear A30
  replace H := Option.bind_eq_some_iff.mp H
  obtain ⟨t8008, A40, H⟩ := H
  replace H : ((spec_l14Choices.f k a0_0 a0_1 l0_2 l0_3 l0_4 l0_5 2).bind fun t8011 => (if (t8005.length : Int) > 1000 then (spec_StartStates.j0 k y8002 t8005 t8008 t8011 true a0_0 a0_1 l0_2 l0_3 l0_4 l0_5) else (if (t8008.length : Int) > 1000 then (spec_StartStates.j0 k y8002 t8005 t8008 t8011 true a0_0 a0_1 l0_2 l0_3 l0_4 l0_5) else (if (t8011.length : Int) > 1000 then (spec_StartStates.j0 k y8002 t8005 t8008 t8011 true a0_0 a0_1 l0_2 l0_3 l0_4 l0_5) else (spec_StartStates.j0 k y8002 t8005 t8008 t8011 (decide ((wrap64 ((wrap64 ((t8005.length : Int) * (t8008.length : Int))) * (t8011.length : Int))) > 400)) a0_0 a0_1 l0_2 l0_3 l0_4 l0_5))))) = some r := H
  have A4 := Aside0.mk A40
  clear A40
  replace H := Option.bind_eq_some_iff.mp H
  obtain ⟨t8011, A50, H⟩ := H
  replace H : (if (t8005.length : Int) > 1000 then (spec_StartStates.j0 k y8002 t8005 t8008 t8011 true a0_0 a0_1 l0_2 l0_3 l0_4 l0_5) else (if (t8008.length : Int) > 1000 then (spec_StartStates.j0 k y8002 t8005 t8008 t8011 true a0_0 a0_1 l0_2 l0_3 l0_4 l0_5) else (if (t8011.length : Int) > 1000 then (spec_StartStates.j0 k y8002 t8005 t8008 t8011 true a0_0 a0_1 l0_2 l0_3 l0_4 l0_5) else (spec_StartStates.j0 k y8002 t8005 t8008 t8011 (decide ((wrap64 ((wrap64 ((t8005.length : Int) * (t8008.length : Int))) * (t8011.length : Int))) > 400)) a0_0 a0_1 l0_2 l0_3 l0_4 l0_5)))) = some r := H
  have A5 := Aside0.mk A50
  clear A50
  have HC6 := Aside0.mk H
  clear H
  go_enter Try.func8, Try.ntmps8
  go_upto_region 7 with (first | ((with_reducible refine gate_dst (N := 1) rfl ?_); (try (refine gate_guard (by rfl) ?_; dsimp only)); refine box_event ?hg (N := 1) ?hd (cs := #[.string a0_0, .string a0_1, .slice A0_2 l0_2.length c0_2, .slice A0_3 l0_3.length c0_3, .slice A0_4 l0_4.length c0_4, .slice A0_5 l0_5.length c0_5]) (t := 36) ?hr ?_; (case hd => rfl); (case hg => rfl); (case hr => first | (go_simp; done) | (go_simp; rfl)); intro gb8001 hg w7 hbox hb; have n0_ := Aside0.mk (below_step (by repeat (first | (with_reducible first | exact HB.out | apply below_alloc | apply pw_below_drewN | apply below_drew1) | exact HB.out)) hb); have n1_ := Aside0.mk (hbox); have n2_ := Aside0.mk ((by rw [hg]; exact (below_size (by repeat (first | (with_reducible first | exact HB.out | apply below_alloc | apply pw_below_drewN | apply below_drew1) | exact HB.out))) : w.heap.size ≤ gb8001)); have n3_ := Aside0.mk ((by rw [hg]; exact (below_size (by repeat (first | (with_reducible first | exact HB.out | apply below_alloc | apply pw_below_drewN | apply below_drew1) | exact HB.out))) : w.heap.size ≤ gb8001)); clear HB; have HB := n0_; have BK8001 := n1_; have GW8001 := n2_; have GE8001 := n3_; clear n0_ n1_ n2_ n3_; clear hb hbox hg) | ((with_reducible refine gate_dst (N := 11) rfl ?_); (try (refine gate_guard (by rfl) ?_; dsimp only)); refine Kd.S_lit k89 _ 89 ?hg (N := 11) ?hd (xs := ([] : List (S89))) (inner := []) (ok := fun _ => True) (okp := fun _ => True) ?hr ?hp (fun _ hk => hk) trivial (Below.refl _ _) (Nat.le_refl _) (by simp) ?_; (case hd => rfl); (case hg => rfl); (case hr => first | (go_simp; done) | (go_simp; rfl)); (case hp => exact (Reps.none _ _)); intro v8003 w8 ho9 hb hg_ hnew_; clear hg_ hnew_; (first | rw [← Ny8002.out] at ho9 | (simp only [Int.reduceToNat] at ho9; rw [← Ny8002.out] at ho9)); have n0_ := Aside0.mk (Kd.S_lower ho9 (below_size (by repeat (first | (with_reducible first | exact HB.out | apply below_alloc | apply pw_below_drewN | apply below_drew1 | refine below_set ?_ GE8001.out) | exact HB.out)))); have n1_ := Aside0.mk (blk_below (g := gb8001) (o := .cells #[.string a0_0, .string a0_1, .slice A0_2 l0_2.length c0_2, .slice A0_3 l0_3.length c0_3, .slice A0_4 l0_4.length c0_4, .slice A0_5 l0_5.length c0_5] 36 (0, 0)) (by (with_reducible repeat (first | refine blk_drewN ?_ _ | refine blk_drew ?_ | refine blk_alloc ?_ _)); exact BK8001.out) hb); have n2_ := Aside0.mk (below_step (by repeat (first | (with_reducible first | exact HB.out | apply below_alloc | apply pw_below_drewN | apply below_drew1 | refine below_set ?_ GE8001.out) | exact HB.out)) hb); clear BK8001; clear HB; have HO8004 := n0_; have BK8001 := n1_; have HB := n2_; clear n0_ n1_ n2_; clear hb ho9; have hcz10_0 : w8.cell? ⟨gb8001, 0, none⟩ = some (.string a0_0) := (blk_cell BK8001.out 0).trans rfl; have hcz10_1 : w8.cell? ⟨gb8001, 1, none⟩ = some (.string a0_1) := (blk_cell BK8001.out 1).trans rfl; have hcz10_2 : w8.cell? ⟨gb8001, 2, none⟩ = some (.slice A0_2 l0_2.length c0_2) := (blk_cell BK8001.out 2).trans rfl; have hcz10_3 : w8.cell? ⟨gb8001, 3, none⟩ = some (.slice A0_3 l0_3.length c0_3) := (blk_cell BK8001.out 3).trans rfl; have hcz10_4 : w8.cell? ⟨gb8001, 4, none⟩ = some (.slice A0_4 l0_4.length c0_4) := (blk_cell BK8001.out 4).trans rfl; have hcz10_5 : w8.cell? ⟨gb8001, 5, none⟩ = some (.slice A0_5 l0_5.length c0_5) := (blk_cell BK8001.out 5).trans rfl; have hfz10_0 := blk_frozen BK8001.out 0; have hfz10_1 := blk_frozen BK8001.out 1; have hfz10_2 := blk_frozen BK8001.out 2; have hfz10_3 := blk_frozen BK8001.out 3; have hfz10_4 := blk_frozen BK8001.out 4; have hfz10_5 := blk_frozen BK8001.out 5) | ((with_reducible refine gate_callee (f := 46) rfl ?_); refine goesL_ (some 18) rfl rfl Try.func46 (by kernel_rfl) rfl #[.agg #[.string a0_0, .string a0_1, .slice A0_2 l0_2.length c0_2, .slice A0_3 l0_3.length c0_3, .slice A0_4 l0_4.length c0_4, .slice A0_5 l0_5.length c0_5], .int .i64 0] rfl (by (try simp only [List.map_toArray, List.map_cons, List.map_nil]); first | done | rfl | (simp only [List.length_drop, List.length_take]; rfl)) ?_; (with_reducible refine (spec_l14Choices.calls k a0_0 a0_1 _ _ l0_2 _ _ l0_3 _ _ l0_4 (fun k_ => k_ < w.heap.size) _ _ l0_5 0 t8005 _ ?side1 ?side2 ?side3 ?side4 ?side5 ?side6 ?side7 A3.out).mono ?_); (case side1 => repeat (first | exact (Kd.C_below HR0_2.out HB.out) | (with_reducible refine Kd.C_alloc ?_ _) | (with_reducible refine Kd.C_drewN ?_ _) | (with_reducible refine Kd.C_drew ?_))); (case side2 => exact HC0_2.out); (case side3 => repeat (first | exact (Kd.C_below HR0_3.out HB.out) | (with_reducible refine Kd.C_alloc ?_ _) | (with_reducible refine Kd.C_drewN ?_ _) | (with_reducible refine Kd.C_drew ?_))); (case side4 => exact HC0_3.out); (case side5 => repeat (first | exact (Kd.C_below HR0_4.out HB.out) | (with_reducible refine Kd.C_alloc ?_ _) | (with_reducible refine Kd.C_drewN ?_ _) | (with_reducible refine Kd.C_drew ?_))); (case side6 => exact HC0_4.out); (case side7 => exact Kd.V_mk HC0_5.out (Kd.F_below (Kd.C_F (Kd.heap_slice 3 (Kd.heap_int .i64)) HR0_5.out) (by repeat (first | (with_reducible first | exact HB.out | apply below_alloc | apply pw_below_drewN | apply below_drew1 | refine below_set ?_ GE8001.out) | exact HB.out)))); rintro e w11 ⟨v8006, rfl, ho0, hb⟩; refine ⟨_, rfl, ?_⟩; have n0_ := Aside0.mk (Kd.S_below (by (with_reducible repeat (first | apply Kd.S_alloc | apply Kd.S_drewN | apply Kd.S_drew)); exact HO8004.out) hb); have n1_ := Aside0.mk (Kd.V_lower (Kd.V_mono (ok' := fun k_ => some k_ ≠ (v8003 : Value).ownBlock ∧ k_ ≠ gb8001) ho0 (fun k_ hk_ => ⟨Or.elim hk_ (fun hs_ => fun e_ => Nat.not_le.2 hs_ (Kd.S_base HO8004.out k_ e_.symm)) (fun hn_ => (Kd.fresh' (Kd.S_lt (by (with_reducible repeat (first | apply Kd.S_alloc | apply Kd.S_drewN | apply Kd.S_drew)); exact HO8004.out)) k_ hn_)), Or.elim hk_ (fun hs_ => fun e_ => Nat.not_le.2 hs_ (by rw [e_]; exact GW8001.out)) (fun hn_ => (Kd.freshB (g := gb8001) (o := .cells #[.string a0_0, .string a0_1, .slice A0_2 l0_2.length c0_2, .slice A0_3 l0_3.length c0_3, .slice A0_4 l0_4.length c0_4, .slice A0_5 l0_5.length c0_5] 36 (0, 0)) (by (with_reducible repeat (first | refine blk_drewN ?_ _ | refine blk_drew ?_ | refine blk_alloc ?_ _)); exact BK8001.out) k_ hn_))⟩)) (below_size (by repeat (first | (with_reducible first | exact HB.out | apply below_alloc | apply pw_below_drewN | apply below_drew1 | refine below_set ?_ GE8001.out) | exact HB.out)))); have n2_ := Aside0.mk (blk_below (g := gb8001) (o := .cells #[.string a0_0, .string a0_1, .slice A0_2 l0_2.length c0_2, .slice A0_3 l0_3.length c0_3, .slice A0_4 l0_4.length c0_4, .slice A0_5 l0_5.length c0_5] 36 (0, 0)) (by (with_reducible repeat (first | refine blk_drewN ?_ _ | refine blk_drew ?_ | refine blk_alloc ?_ _)); exact BK8001.out) hb); have n3_ := Aside0.mk (below_step (by repeat (first | (with_reducible first | exact HB.out | apply below_alloc | apply pw_below_drewN | apply below_drew1 | refine below_set ?_ GE8001.out) | exact HB.out)) hb); clear HO8004; clear BK8001; clear HB; have HO8004 := n0_; have HO8007 := n1_; have BK8001 := n2_; have HB := n3_; clear n0_ n1_ n2_ n3_; (try clear hb); (try clear hb2); (try clear hk); (try clear hi); (try clear ho0); have hcz12_0 : w11.cell? ⟨gb8001, 0, none⟩ = some (.string a0_0) := (blk_cell BK8001.out 0).trans rfl; have hcz12_1 : w11.cell? ⟨gb8001, 1, none⟩ = some (.string a0_1) := (blk_cell BK8001.out 1).trans rfl; have hcz12_2 : w11.cell? ⟨gb8001, 2, none⟩ = some (.slice A0_2 l0_2.length c0_2) := (blk_cell BK8001.out 2).trans rfl; have hcz12_3 : w11.cell? ⟨gb8001, 3, none⟩ = some (.slice A0_3 l0_3.length c0_3) := (blk_cell BK8001.out 3).trans rfl; have hcz12_4 : w11.cell? ⟨gb8001, 4, none⟩ = some (.slice A0_4 l0_4.length c0_4) := (blk_cell BK8001.out 4).trans rfl; have hcz12_5 : w11.cell? ⟨gb8001, 5, none⟩ = some (.slice A0_5 l0_5.length c0_5) := (blk_cell BK8001.out 5).trans rfl; have hfz12_0 := blk_frozen BK8001.out 0; have hfz12_1 := blk_frozen BK8001.out 1; have hfz12_2 := blk_frozen BK8001.out 2; have hfz12_3 := blk_frozen BK8001.out 3; have hfz12_4 := blk_frozen BK8001.out 4; have hfz12_5 := blk_frozen BK8001.out 5) | ((with_reducible refine gate_callee (f := 46) rfl ?_); refine goesL_ (some 20) rfl rfl Try.func46 (by kernel_rfl) rfl #[.agg #[.string a0_0, .string a0_1, .slice A0_2 l0_2.length c0_2, .slice A0_3 l0_3.length c0_3, .slice A0_4 l0_4.length c0_4, .slice A0_5 l0_5.length c0_5], .int .i64 1] rfl (by (try simp only [List.map_toArray, List.map_cons, List.map_nil]); first | done | rfl | (simp only [List.length_drop, List.length_take]; rfl)) ?_; (with_reducible refine (spec_l14Choices.calls k a0_0 a0_1 _ _ l0_2 _ _ l0_3 _ _ l0_4 (fun k_ => k_ < w.heap.size) _ _ l0_5 1 t8008 _ ?side1 ?side2 ?side3 ?side4 ?side5 ?side6 ?side7 A4.out).mono ?_); (case side1 => repeat (first | exact (Kd.C_below HR0_2.out HB.out) | (with_reducible refine Kd.C_alloc ?_ _) | (with_reducible refine Kd.C_drewN ?_ _) | (with_reducible refine Kd.C_drew ?_))); (case side2 => exact HC0_2.out); (case side3 => repeat (first | exact (Kd.C_below HR0_3.out HB.out) | (with_reducible refine Kd.C_alloc ?_ _) | (with_reducible refine Kd.C_drewN ?_ _) | (with_reducible refine Kd.C_drew ?_))); (case side4 => exact HC0_3.out); (case side5 => repeat (first | exact (Kd.C_below HR0_4.out HB.out) | (with_reducible refine Kd.C_alloc ?_ _) | (with_reducible refine Kd.C_drewN ?_ _) | (with_reducible refine Kd.C_drew ?_))); (case side6 => exact HC0_4.out); (case side7 => exact Kd.V_mk HC0_5.out (Kd.F_below (Kd.C_F (Kd.heap_slice 3 (Kd.heap_int .i64)) HR0_5.out) (by repeat (first | (with_reducible first | exact HB.out | apply below_alloc | apply pw_below_drewN | apply below_drew1 | refine below_set ?_ GE8001.out) | exact HB.out)))); rintro e w13 ⟨v8009, rfl, ho0, hb⟩; refine ⟨_, rfl, ?_⟩; have n0_ := Aside0.mk (Kd.S_below (by (with_reducible repeat (first | apply Kd.S_alloc | apply Kd.S_drewN | apply Kd.S_drew)); exact HO8004.out) hb); have n1_ := Aside0.mk (Kd.V_below (by (with_reducible repeat (first | apply Kd.V_alloc | apply Kd.V_drewN | apply Kd.V_drew)); exact HO8007.out) hb); have n2_ := Aside0.mk (Kd.V_lower (Kd.V_mono (ok' := fun k_ => some k_ ≠ (v8003 : Value).ownBlock ∧ k_ ≠ gb8001) ho0 (fun k_ hk_ => ⟨Or.elim hk_ (fun hs_ => fun e_ => Nat.not_le.2 hs_ (Kd.S_base HO8004.out k_ e_.symm)) (fun hn_ => (Kd.fresh' (Kd.S_lt (by (with_reducible repeat (first | apply Kd.S_alloc | apply Kd.S_drewN | apply Kd.S_drew)); exact HO8004.out)) k_ hn_)), Or.elim hk_ (fun hs_ => fun e_ => Nat.not_le.2 hs_ (by rw [e_]; exact GW8001.out)) (fun hn_ => (Kd.freshB (g := gb8001) (o := .cells #[.string a0_0, .string a0_1, .slice A0_2 l0_2.length c0_2, .slice A0_3 l0_3.length c0_3, .slice A0_4 l0_4.length c0_4, .slice A0_5 l0_5.length c0_5] 36 (0, 0)) (by (with_reducible repeat (first | refine blk_drewN ?_ _ | refine blk_drew ?_ | refine blk_alloc ?_ _)); exact BK8001.out) k_ hn_))⟩)) (below_size (by repeat (first | (with_reducible first | exact HB.out | apply below_alloc | apply pw_below_drewN | apply below_drew1 | refine below_set ?_ GE8001.out) | exact HB.out)))); have n3_ := Aside0.mk (blk_below (g := gb8001) (o := .cells #[.string a0_0, .string a0_1, .slice A0_2 l0_2.length c0_2, .slice A0_3 l0_3.length c0_3, .slice A0_4 l0_4.length c0_4, .slice A0_5 l0_5.length c0_5] 36 (0, 0)) (by (with_reducible repeat (first | refine blk_drewN ?_ _ | refine blk_drew ?_ | refine blk_alloc ?_ _)); exact BK8001.out) hb); have n4_ := Aside0.mk (below_step (by repeat (first | (with_reducible first | exact HB.out | apply below_alloc | apply pw_below_drewN | apply below_drew1 | refine below_set ?_ GE8001.out) | exact HB.out)) hb); clear HO8004; clear HO8007; clear BK8001; clear HB; have HO8004 := n0_; have HO8007 := n1_; have HO8010 := n2_; have BK8001 := n3_; have HB := n4_; clear n0_ n1_ n2_ n3_ n4_; (try clear hb); (try clear hb2); (try clear hk); (try clear hi); (try clear ho0); have hcz14_0 : w13.cell? ⟨gb8001, 0, none⟩ = some (.string a0_0) := (blk_cell BK8001.out 0).trans rfl; have hcz14_1 : w13.cell? ⟨gb8001, 1, none⟩ = some (.string a0_1) := (blk_cell BK8001.out 1).trans rfl; have hcz14_2 : w13.cell? ⟨gb8001, 2, none⟩ = some (.slice A0_2 l0_2.length c0_2) := (blk_cell BK8001.out 2).trans rfl; have hcz14_3 : w13.cell? ⟨gb8001, 3, none⟩ = some (.slice A0_3 l0_3.length c0_3) := (blk_cell BK8001.out 3).trans rfl; have hcz14_4 : w13.cell? ⟨gb8001, 4, none⟩ = some (.slice A0_4 l0_4.length c0_4) := (blk_cell BK8001.out 4).trans rfl; have hcz14_5 : w13.cell? ⟨gb8001, 5, none⟩ = some (.slice A0_5 l0_5.length c0_5) := (blk_cell BK8001.out 5).trans rfl; have hfz14_0 := blk_frozen BK8001.out 0; have hfz14_1 := blk_frozen BK8001.out 1; have hfz14_2 := blk_frozen BK8001.out 2; have hfz14_3 := blk_frozen BK8001.out 3; have hfz14_4 := blk_frozen BK8001.out 4; have hfz14_5 := blk_frozen BK8001.out 5) | ((with_reducible refine gate_callee (f := 46) rfl ?_); refine goesL_ (some 22) rfl rfl Try.func46 (by kernel_rfl) rfl #[.agg #[.string a0_0, .string a0_1, .slice A0_2 l0_2.length c0_2, .slice A0_3 l0_3.length c0_3, .slice A0_4 l0_4.length c0_4, .slice A0_5 l0_5.length c0_5], .int .i64 2] rfl (by (try simp only [List.map_toArray, List.map_cons, List.map_nil]); first | done | rfl | (simp only [List.length_drop, List.length_take]; rfl)) ?_; (with_reducible refine (spec_l14Choices.calls k a0_0 a0_1 _ _ l0_2 _ _ l0_3 _ _ l0_4 (fun k_ => k_ < w.heap.size) _ _ l0_5 2 t8011 _ ?side1 ?side2 ?side3 ?side4 ?side5 ?side6 ?side7 A5.out).mono ?_); (case side1 => repeat (first | exact (Kd.C_below HR0_2.out HB.out) | (with_reducible refine Kd.C_alloc ?_ _) | (with_reducible refine Kd.C_drewN ?_ _) | (with_reducible refine Kd.C_drew ?_))); (case side2 => exact HC0_2.out); (case side3 => repeat (first | exact (Kd.C_below HR0_3.out HB.out) | (with_reducible refine Kd.C_alloc ?_ _) | (with_reducible refine Kd.C_drewN ?_ _) | (with_reducible refine Kd.C_drew ?_))); (case side4 => exact HC0_3.out); (case side5 => repeat (first | exact (Kd.C_below HR0_4.out HB.out) | (with_reducible refine Kd.C_alloc ?_ _) | (with_reducible refine Kd.C_drewN ?_ _) | (with_reducible refine Kd.C_drew ?_))); (case side6 => exact HC0_4.out); (case side7 => exact Kd.V_mk HC0_5.out (Kd.F_below (Kd.C_F (Kd.heap_slice 3 (Kd.heap_int .i64)) HR0_5.out) (by repeat (first | (with_reducible first | exact HB.out | apply below_alloc | apply pw_below_drewN | apply below_drew1 | refine below_set ?_ GE8001.out) | exact HB.out)))); rintro e w15 ⟨v8012, rfl, ho0, hb⟩; refine ⟨_, rfl, ?_⟩; have n0_ := Aside0.mk (Kd.S_below (by (with_reducible repeat (first | apply Kd.S_alloc | apply Kd.S_drewN | apply Kd.S_drew)); exact HO8004.out) hb); have n1_ := Aside0.mk (Kd.V_below (by (with_reducible repeat (first | apply Kd.V_alloc | apply Kd.V_drewN | apply Kd.V_drew)); exact HO8007.out) hb); have n2_ := Aside0.mk (Kd.V_below (by (with_reducible repeat (first | apply Kd.V_alloc | apply Kd.V_drewN | apply Kd.V_drew)); exact HO8010.out) hb); have n3_ := Aside0.mk (Kd.V_lower (Kd.V_mono (ok' := fun k_ => some k_ ≠ (v8003 : Value).ownBlock ∧ k_ ≠ gb8001) ho0 (fun k_ hk_ => ⟨Or.elim hk_ (fun hs_ => fun e_ => Nat.not_le.2 hs_ (Kd.S_base HO8004.out k_ e_.symm)) (fun hn_ => (Kd.fresh' (Kd.S_lt (by (with_reducible repeat (first | apply Kd.S_alloc | apply Kd.S_drewN | apply Kd.S_drew)); exact HO8004.out)) k_ hn_)), Or.elim hk_ (fun hs_ => fun e_ => Nat.not_le.2 hs_ (by rw [e_]; exact GW8001.out)) (fun hn_ => (Kd.freshB (g := gb8001) (o := .cells #[.string a0_0, .string a0_1, .slice A0_2 l0_2.length c0_2, .slice A0_3 l0_3.length c0_3, .slice A0_4 l0_4.length c0_4, .slice A0_5 l0_5.length c0_5] 36 (0, 0)) (by (with_reducible repeat (first | refine blk_drewN ?_ _ | refine blk_drew ?_ | refine blk_alloc ?_ _)); exact BK8001.out) k_ hn_))⟩)) (below_size (by repeat (first | (with_reducible first | exact HB.out | apply below_alloc | apply pw_below_drewN | apply below_drew1 | refine below_set ?_ GE8001.out) | exact HB.out)))); have n4_ := Aside0.mk (blk_below (g := gb8001) (o := .cells #[.string a0_0, .string a0_1, .slice A0_2 l0_2.length c0_2, .slice A0_3 l0_3.length c0_3, .slice A0_4 l0_4.length c0_4, .slice A0_5 l0_5.length c0_5] 36 (0, 0)) (by (with_reducible repeat (first | refine blk_drewN ?_ _ | refine blk_drew ?_ | refine blk_alloc ?_ _)); exact BK8001.out) hb); have n5_ := Aside0.mk (below_step (by repeat (first | (with_reducible first | exact HB.out | apply below_alloc | apply pw_below_drewN | apply below_drew1 | refine below_set ?_ GE8001.out) | exact HB.out)) hb); clear HO8004; clear HO8007; clear HO8010; clear BK8001; clear HB; have HO8004 := n0_; have HO8007 := n1_; have HO8010 := n2_; have HO8013 := n3_; have BK8001 := n4_; have HB := n5_; clear n0_ n1_ n2_ n3_ n4_ n5_; (try clear hb); (try clear hb2); (try clear hk); (try clear hi); (try clear ho0)))
  (try simp only [Act.put, List.setIfInBounds_toArray, List.set_cons_zero, List.set_cons_succ])
  go_cut [46] (fun v46 wc => ∃ (kq : Nat) (x46_5 : Bool), v46 = .bool x46_5 ∧ Aside0 (spec_StartStates.j0 kq y8002 t8005 t8008 t8011 x46_5 a0_0 a0_1 l0_2 l0_3 l0_4 l0_5 = some r) ∧ Aside0 (kq ≤ k) ∧ Aside0 (Kd.S k89 89 wc w.heap.size (fun _ => True) v8003 y8002) ∧ Aside0 (Kd.V (Kd.int .i64) 3 wc w.heap.size (fun k_ => some k_ ≠ (v8003 : Value).ownBlock ∧ k_ ≠ gb8001) v8006 t8005) ∧ Aside0 (Kd.V (Kd.int .i64) 3 wc w.heap.size (fun k_ => some k_ ≠ (v8003 : Value).ownBlock ∧ k_ ≠ gb8001) v8009 t8008) ∧ Aside0 (Kd.V (Kd.int .i64) 3 wc w.heap.size (fun k_ => some k_ ≠ (v8003 : Value).ownBlock ∧ k_ ≠ gb8001) v8012 t8011) ∧ Aside0 (wc.heap[gb8001]? = some (.cells #[.string a0_0, .string a0_1, (.slice A0_2 l0_2.length c0_2), (.slice A0_3 l0_3.length c0_3), (.slice A0_4 l0_4.length c0_4), (.slice A0_5 l0_5.length c0_5)] 36 (0, 0))) ∧ Aside0 (Below w.heap.size w wc))
  case first =>
   have H := HC6.out
   clear HC6
   by_cases c16 : (t8005.length : Int) > 1000
   ·rw [if_pos c16] at H
    have c16b0 : decide (1000 < (t8005.length : Int)) = true := decide_eq_true c16
    have c16b1 : decide (1000 < t8005.length) = true := decide_eq_true (by omega)
    clear c16
    (first | rw [c16b0] | (simp only [i64_w, i32_w]; rw [c16b0]) | skip)
    have H' := Aside0.mk H
    clear H
    obtain ⟨Ao17, co17, eo17⟩ := Kd.V_slice HO8007.out
    subst eo17
    go_wp2
    go_meet
    case rel => exact ⟨_, (true), (by first | rfl | (simp; done) | (simp [*]; done)), H', ⟨by first | omega | exact Nat.le_refl _⟩, ⟨by (with_reducible repeat (first | apply Kd.S_alloc | apply Kd.S_drewN | apply Kd.S_drew)); exact HO8004.out⟩, ⟨by (with_reducible repeat (first | apply Kd.V_alloc | apply Kd.V_drewN | apply Kd.V_drew)); exact HO8007.out⟩, ⟨by (with_reducible repeat (first | apply Kd.V_alloc | apply Kd.V_drewN | apply Kd.V_drew)); exact HO8010.out⟩, ⟨by (with_reducible repeat (first | apply Kd.V_alloc | apply Kd.V_drewN | apply Kd.V_drew)); exact HO8013.out⟩, ⟨by (with_reducible repeat (first | refine blk_drewN ?_ _ | refine blk_drew ?_ | refine blk_alloc ?_ _)); exact BK8001.out⟩, ⟨by repeat (first | (with_reducible first | exact HB.out | apply below_alloc | apply pw_below_drewN | apply below_drew1 | refine below_set ?_ GE8001.out) | exact HB.out)⟩⟩
   ·rw [if_neg c16] at H
    have c16b0 : decide (1000 < (t8005.length : Int)) = false := decide_eq_false c16
    have c16b1 : decide (1000 < t8005.length) = false := decide_eq_false (by omega)
    clear c16
    (first | rw [c16b0] | (simp only [i64_w, i32_w]; rw [c16b0]) | skip)
    by_cases c18 : (t8008.length : Int) > 1000
    ·rw [if_pos c18] at H
     have c18b0 : decide (1000 < (t8008.length : Int)) = true := decide_eq_true c18
     have c18b1 : decide (1000 < t8008.length) = true := decide_eq_true (by omega)
     clear c18
     have H' := Aside0.mk H
     clear H
     obtain ⟨Ao19, co19, eo19⟩ := Kd.V_slice HO8007.out
     subst eo19
     obtain ⟨Ao20, co20, eo20⟩ := Kd.V_slice HO8010.out
     subst eo20
     go_wp2
     go_meet
     case rel => exact ⟨_, (true), (by first | rfl | (simp; done) | (simp [*]; done)), H', ⟨by first | omega | exact Nat.le_refl _⟩, ⟨by (with_reducible repeat (first | apply Kd.S_alloc | apply Kd.S_drewN | apply Kd.S_drew)); exact HO8004.out⟩, ⟨by (with_reducible repeat (first | apply Kd.V_alloc | apply Kd.V_drewN | apply Kd.V_drew)); exact HO8007.out⟩, ⟨by (with_reducible repeat (first | apply Kd.V_alloc | apply Kd.V_drewN | apply Kd.V_drew)); exact HO8010.out⟩, ⟨by (with_reducible repeat (first | apply Kd.V_alloc | apply Kd.V_drewN | apply Kd.V_drew)); exact HO8013.out⟩, ⟨by (with_reducible repeat (first | refine blk_drewN ?_ _ | refine blk_drew ?_ | refine blk_alloc ?_ _)); exact BK8001.out⟩, ⟨by repeat (first | (with_reducible first | exact HB.out | apply below_alloc | apply pw_below_drewN | apply below_drew1 | refine below_set ?_ GE8001.out) | exact HB.out)⟩⟩
    ·rw [if_neg c18] at H
     have c18b0 : decide (1000 < (t8008.length : Int)) = false := decide_eq_false c18
     have c18b1 : decide (1000 < t8008.length) = false := decide_eq_false (by omega)
     clear c18
     by_cases c21 : (t8011.length : Int) > 1000
     ·rw [if_pos c21] at H
      have c21b0 : decide (1000 < (t8011.length : Int)) = true := decide_eq_true c21
      have c21b1 : decide (1000 < t8011.length) = true := decide_eq_true (by omega)
      clear c21
      have H' := Aside0.mk H
      clear H
      obtain ⟨Ao22, co22, eo22⟩ := Kd.V_slice HO8007.out
      subst eo22
      obtain ⟨Ao23, co23, eo23⟩ := Kd.V_slice HO8010.out
      subst eo23
      obtain ⟨Ao24, co24, eo24⟩ := Kd.V_slice HO8013.out
      subst eo24
      go_wp2
      go_meet
      case rel => exact ⟨_, (true), (by first | rfl | (simp; done) | (simp [*]; done)), H', ⟨by first | omega | exact Nat.le_refl _⟩, ⟨by (with_reducible repeat (first | apply Kd.S_alloc | apply Kd.S_drewN | apply Kd.S_drew)); exact HO8004.out⟩, ⟨by (with_reducible repeat (first | apply Kd.V_alloc | apply Kd.V_drewN | apply Kd.V_drew)); exact HO8007.out⟩, ⟨by (with_reducible repeat (first | apply Kd.V_alloc | apply Kd.V_drewN | apply Kd.V_drew)); exact HO8010.out⟩, ⟨by (with_reducible repeat (first | apply Kd.V_alloc | apply Kd.V_drewN | apply Kd.V_drew)); exact HO8013.out⟩, ⟨by (with_reducible repeat (first | refine blk_drewN ?_ _ | refine blk_drew ?_ | refine blk_alloc ?_ _)); exact BK8001.out⟩, ⟨by repeat (first | (with_reducible first | exact HB.out | apply below_alloc | apply pw_below_drewN | apply below_drew1 | refine below_set ?_ GE8001.out) | exact HB.out)⟩⟩
     ·rw [if_neg c21] at H
      have c21b0 : decide (1000 < (t8011.length : Int)) = false := decide_eq_false c21
      have c21b1 : decide (1000 < t8011.length) = false := decide_eq_false (by omega)
      clear c21
      have H' := Aside0.mk H
      clear H
      obtain ⟨Ao25, co25, eo25⟩ := Kd.V_slice HO8007.out
      subst eo25
      obtain ⟨Ao26, co26, eo26⟩ := Kd.V_slice HO8010.out
      subst eo26
      obtain ⟨Ao27, co27, eo27⟩ := Kd.V_slice HO8013.out
      subst eo27
      go_wp2
      go_meet
      case rel => exact ⟨_, (decide ((wrap64 ((wrap64 ((t8005.length : Int) * (t8008.length : Int))) * (t8011.length : Int))) > 400)), (by first | rfl | (simp; done) | (simp [*]; done)), H', ⟨by first | omega | exact Nat.le_refl _⟩, ⟨by (with_reducible repeat (first | apply Kd.S_alloc | apply Kd.S_drewN | apply Kd.S_drew)); exact HO8004.out⟩, ⟨by (with_reducible repeat (first | apply Kd.V_alloc | apply Kd.V_drewN | apply Kd.V_drew)); exact HO8007.out⟩, ⟨by (with_reducible repeat (first | apply Kd.V_alloc | apply Kd.V_drewN | apply Kd.V_drew)); exact HO8010.out⟩, ⟨by (with_reducible repeat (first | apply Kd.V_alloc | apply Kd.V_drewN | apply Kd.V_drew)); exact HO8013.out⟩, ⟨by (with_reducible repeat (first | refine blk_drewN ?_ _ | refine blk_drew ?_ | refine blk_alloc ?_ _)); exact BK8001.out⟩, ⟨by repeat (first | (with_reducible first | exact HB.out | apply below_alloc | apply pw_below_drewN | apply below_drew1 | refine below_set ?_ GE8001.out) | exact HB.out)⟩⟩
  case rest =>
   clear HC6
   try clear c1
   try clear c2
   try clear c2b0
   try clear c2b1
   try clear p2
   try clear c4
   try clear p6
   try clear c8
   try clear c16
   try clear c16b0
   try clear c16b1
   try clear c18
   try clear c18b0
   try clear c18b1
   try clear c21
   try clear c21b0
   try clear c21b1
   try clear hcz10_0
   try clear hcz10_1
   try clear hcz10_2
   try clear hcz10_3
   try clear hcz10_4
   try clear hcz10_5
   try clear hcz12_0
   try clear hcz12_1
   try clear hcz12_2
   try clear hcz12_3
   try clear hcz12_4
   try clear hcz12_5
   try clear hcz14_0
   try clear hcz14_1
   try clear hcz14_2
   try clear hcz14_3
   try clear hcz14_4
   try clear hcz14_5
   try clear hfz10_0
   try clear hfz10_1
   try clear hfz10_2
   try clear hfz10_3
   try clear hfz10_4
   try clear hfz10_5
   try clear hfz12_0
   try clear hfz12_1
   try clear hfz12_2
   try clear hfz12_3
   try clear hfz12_4
   try clear hfz12_5
   try clear hfz14_0
   try clear hfz14_1
   try clear hfz14_2
   try clear hfz14_3
   try clear hfz14_4
   try clear hfz14_5
   obtain ⟨kq, x46_5, rfl, HA, HJ5, HO_3, HO_4, HO_5, HO_6, BK8001, HB⟩ := hcut
   cases kq with
   | zero => exact absurd HA.out (by simp [spec_StartStates.j0])
   | succ kj5 =>
    have H := HA.out
    clear HA
    simp only [spec_StartStates.j0] at H
    by_cases c28 : x46_5 = true
    ·subst c28
     have H1 : (some y8002) = some r := by rw [if_pos rfl] at H; exact H
     clear H
     have H := H1
     clear H1
     obtain rfl := Option.some.inj H
     go_wp2
     go_ret
     exact ⟨_, by first | rfl | (simp [errW_none, errW_some] <;> rfl) | (simp [*, errW_none, errW_some] <;> rfl), by (with_reducible repeat (first | apply Kd.S_alloc | apply Kd.S_drewN | apply Kd.S_drew)); exact HO_3.out, by repeat (first | (with_reducible first | exact HB.out | apply below_alloc | apply pw_below_drewN | apply below_drew1 | refine below_set ?_ GE8001.out) | exact HB.out)⟩
    ·replace c28 := Bool.eq_false_iff.mpr c28
     subst c28
     have H1 : ((spec_StripEquation.f kj5 a0_0 a0_1).bind fun bt8014 => (spec_StartStates.l0 kj5 y8002 t8005 t8008 t8011 0 bt8014.1 bt8014.2)) = some r := by rw [if_neg (show ¬ (false = true) by decide)] at H; exact H
     clear H
     have H := H1
     clear H1
     replace H := Option.bind_eq_some_iff.mp H
     obtain ⟨⟨t8014, t8015⟩, A290, H⟩ := H
     replace H : (spec_StartStates.l0 kj5 y8002 t8005 t8008 t8011 0 t8014 t8015) = some r := H
     have A29 := Aside0.mk A290
     clear A290
     have H' := Aside0.mk H
     clear H
     have hcz30_0 : wc.cell? ⟨gb8001, 0, none⟩ = some (.string a0_0) := (blk_cell BK8001.out 0).trans rfl
     have hcz30_1 : wc.cell? ⟨gb8001, 1, none⟩ = some (.string a0_1) := (blk_cell BK8001.out 1).trans rfl
     have hcz30_2 : wc.cell? ⟨gb8001, 2, none⟩ = some (.slice A0_2 l0_2.length c0_2) := (blk_cell BK8001.out 2).trans rfl
     have hcz30_3 : wc.cell? ⟨gb8001, 3, none⟩ = some (.slice A0_3 l0_3.length c0_3) := (blk_cell BK8001.out 3).trans rfl
     have hcz30_4 : wc.cell? ⟨gb8001, 4, none⟩ = some (.slice A0_4 l0_4.length c0_4) := (blk_cell BK8001.out 4).trans rfl
     have hcz30_5 : wc.cell? ⟨gb8001, 5, none⟩ = some (.slice A0_5 l0_5.length c0_5) := (blk_cell BK8001.out 5).trans rfl
     have hfz30_0 := blk_frozen BK8001.out 0
     have hfz30_1 := blk_frozen BK8001.out 1
     have hfz30_2 := blk_frozen BK8001.out 2
     have hfz30_3 := blk_frozen BK8001.out 3
     have hfz30_4 := blk_frozen BK8001.out 4
     have hfz30_5 := blk_frozen BK8001.out 5
     go_wp2_with (first | ((with_reducible refine gate_callee (f := 47) rfl ?_); refine goesL_ (some 50) rfl rfl Try.func47 (by kernel_rfl) rfl #[.agg #[.string a0_0, .string a0_1]] rfl (by (try simp only [List.map_toArray, List.map_cons, List.map_nil]); first | done | rfl | (simp only [List.length_drop, List.length_take]; rfl)) ?_; (with_reducible refine (spec_StripEquation.calls kj5 a0_0 a0_1 t8014 t8015 _ A29.out).mono ?_); rintro e w31 ⟨rfl, hb⟩; refine ⟨_, rfl, ?_⟩; have n0_ := Aside0.mk (Kd.S_below (by (with_reducible repeat (first | apply Kd.S_alloc | apply Kd.S_drewN | apply Kd.S_drew)); exact HO_3.out) hb); have n1_ := Aside0.mk (Kd.V_below (by (with_reducible repeat (first | apply Kd.V_alloc | apply Kd.V_drewN | apply Kd.V_drew)); exact HO_4.out) hb); have n2_ := Aside0.mk (Kd.V_below (by (with_reducible repeat (first | apply Kd.V_alloc | apply Kd.V_drewN | apply Kd.V_drew)); exact HO_5.out) hb); have n3_ := Aside0.mk (Kd.V_below (by (with_reducible repeat (first | apply Kd.V_alloc | apply Kd.V_drewN | apply Kd.V_drew)); exact HO_6.out) hb); have n4_ := Aside0.mk (blk_below (g := gb8001) (o := .cells #[.string a0_0, .string a0_1, .slice A0_2 l0_2.length c0_2, .slice A0_3 l0_3.length c0_3, .slice A0_4 l0_4.length c0_4, .slice A0_5 l0_5.length c0_5] 36 (0, 0)) (by (with_reducible repeat (first | refine blk_drewN ?_ _ | refine blk_drew ?_ | refine blk_alloc ?_ _)); exact BK8001.out) hb); have n5_ := Aside0.mk (below_step (by repeat (first | (with_reducible first | exact HB.out | apply below_alloc | apply pw_below_drewN | apply below_drew1 | refine below_set ?_ GE8001.out) | exact HB.out)) hb); clear HO_3; clear HO_4; clear HO_5; clear HO_6; clear BK8001; clear HB; have HO_3 := n0_; have HO_4 := n1_; have HO_5 := n2_; have HO_6 := n3_; have BK8001 := n4_; have HB := n5_; clear n0_ n1_ n2_ n3_ n4_ n5_; (try clear hb); (try clear hb2); (try clear hk); (try clear hi)) | ((with_reducible refine gate_dst (N := 7) rfl ?_); (try (refine gate_guard (by rfl) ?_; dsimp only)); refine box_event ?hg (N := 7) ?hd (cs := #[.string (⟨#[]⟩ : ByteArray), .string (⟨#[]⟩ : ByteArray)]) (t := 33) ?hr ?_; (case hd => rfl); (case hg => rfl); (case hr => first | (go_simp; done) | (go_simp; rfl)); intro gb8016 hg w32 hbox hb; have n0_ := Aside0.mk (Kd.S_below (by (with_reducible repeat (first | apply Kd.S_alloc | apply Kd.S_drewN | apply Kd.S_drew)); exact HO_3.out) hb); have n1_ := Aside0.mk (Kd.V_below (Kd.V_elderB (by (with_reducible repeat (first | apply Kd.V_alloc | apply Kd.V_drewN | apply Kd.V_drew)); exact HO_4.out) gb8016 (Nat.le_of_eq hg.symm)) hb); have n2_ := Aside0.mk (Kd.V_below (Kd.V_elderB (by (with_reducible repeat (first | apply Kd.V_alloc | apply Kd.V_drewN | apply Kd.V_drew)); exact HO_5.out) gb8016 (Nat.le_of_eq hg.symm)) hb); have n3_ := Aside0.mk (Kd.V_below (Kd.V_elderB (by (with_reducible repeat (first | apply Kd.V_alloc | apply Kd.V_drewN | apply Kd.V_drew)); exact HO_6.out) gb8016 (Nat.le_of_eq hg.symm)) hb); have n4_ := Aside0.mk (blk_below (g := gb8001) (o := .cells #[.string a0_0, .string a0_1, .slice A0_2 l0_2.length c0_2, .slice A0_3 l0_3.length c0_3, .slice A0_4 l0_4.length c0_4, .slice A0_5 l0_5.length c0_5] 36 (0, 0)) (by (with_reducible repeat (first | refine blk_drewN ?_ _ | refine blk_drew ?_ | refine blk_alloc ?_ _)); exact BK8001.out) hb); have n5_ := Aside0.mk (below_step (by repeat (first | (with_reducible first | exact HB.out | apply below_alloc | apply pw_below_drewN | apply below_drew1 | refine below_set ?_ GE8001.out) | exact HB.out)) hb); have n6_ := Aside0.mk (hbox); have n7_ := Aside0.mk ((by rw [hg]; exact (below_size (by repeat (first | (with_reducible first | exact HB.out | apply below_alloc | apply pw_below_drewN | apply below_drew1 | refine below_set ?_ GE8001.out) | exact HB.out))) : w.heap.size ≤ gb8016)); have n8_ := Aside0.mk ((by rw [hg]; exact (below_size (by repeat (first | (with_reducible first | exact HB.out | apply below_alloc | apply pw_below_drewN | apply below_drew1 | refine below_set ?_ GE8001.out) | exact HB.out))) : w.heap.size ≤ gb8016)); have n9_ := Aside0.mk ((by rw [hg]; exact Nat.ne_of_lt (blk_lt (g := gb8001) (o := .cells #[.string a0_0, .string a0_1, .slice A0_2 l0_2.length c0_2, .slice A0_3 l0_3.length c0_3, .slice A0_4 l0_4.length c0_4, .slice A0_5 l0_5.length c0_5] 36 (0, 0)) (by (with_reducible repeat (first | refine blk_drewN ?_ _ | refine blk_drew ?_ | refine blk_alloc ?_ _)); exact BK8001.out)) : gb8001 ≠ gb8016)); have n10_ := Aside0.mk ((by rw [hg]; exact Nat.ne_of_gt (blk_lt (g := gb8001) (o := .cells #[.string a0_0, .string a0_1, .slice A0_2 l0_2.length c0_2, .slice A0_3 l0_3.length c0_3, .slice A0_4 l0_4.length c0_4, .slice A0_5 l0_5.length c0_5] 36 (0, 0)) (by (with_reducible repeat (first | refine blk_drewN ?_ _ | refine blk_drew ?_ | refine blk_alloc ?_ _)); exact BK8001.out)) : gb8016 ≠ gb8001)); clear HO_3; clear HO_4; clear HO_5; clear HO_6; clear BK8001; clear HB; have HO_3 := n0_; have HO_4 := n1_; have HO_5 := n2_; have HO_6 := n3_; have BK8001 := n4_; have HB := n5_; have BK8016 := n6_; have GW8016 := n7_; have GE8016 := n8_; have NB8001_8016 := n9_; have NB8016_8001 := n10_; clear n0_ n1_ n2_ n3_ n4_ n5_ n6_ n7_ n8_ n9_ n10_; clear hb hbox hg; have hnb33 := NB8016_8001.out; have hnc33 := NB8001_8016.out; have hcz34_0 : w32.cell? ⟨gb8016, 0, none⟩ = some (.string (⟨#[]⟩ : ByteArray)) := (blk_cell BK8016.out 0).trans rfl; have hcz34_1 : w32.cell? ⟨gb8016, 1, none⟩ = some (.string (⟨#[]⟩ : ByteArray)) := (blk_cell BK8016.out 1).trans rfl; have hfz34_0 := blk_frozen BK8016.out 0; have hfz34_1 := blk_frozen BK8016.out 1))
     first | go_loopg [3, 8] kj5 (fun kq v3 v8 w' => ∃ (x3_2 : List (S89)) (x8_2 : Int), v8 = .int .i64 x8_2 ∧ Aside0 (spec_StartStates.l0 kq x3_2 t8005 t8008 t8011 x8_2 t8014 t8015 = some r) ∧ Aside0 (kq ≤ kj5) ∧ Aside0 (Kd.S k89 89 w' w.heap.size (fun _ => True) v3 x3_2) ∧ Aside0 (Kd.V (Kd.int .i64) 3 w' w.heap.size (fun k_ => some k_ ≠ (v3 : Value).ownBlock ∧ k_ ≠ gb8001 ∧ k_ ≠ gb8016) v8006 t8005) ∧ Aside0 (Kd.V (Kd.int .i64) 3 w' w.heap.size (fun k_ => some k_ ≠ (v3 : Value).ownBlock ∧ k_ ≠ gb8001 ∧ k_ ≠ gb8016) v8009 t8008) ∧ Aside0 (Kd.V (Kd.int .i64) 3 w' w.heap.size (fun k_ => some k_ ≠ (v3 : Value).ownBlock ∧ k_ ≠ gb8001 ∧ k_ ≠ gb8016) v8012 t8011) ∧ Aside0 (w'.heap[gb8001]? = some (.cells #[.string a0_0, .string a0_1, (.slice A0_2 l0_2.length c0_2), (.slice A0_3 l0_3.length c0_3), (.slice A0_4 l0_4.length c0_4), (.slice A0_5 l0_5.length c0_5)] 36 (0, 0))) ∧ Aside0 (w'.heap[gb8016]? = some (.cells #[.string t8014, .string t8015] 33 (0, 0))) ∧ Aside0 (Below w.heap.size w w')) | (simp only [Act.put, List.setIfInBounds_toArray, List.set_cons_succ, List.set_cons_zero]; go_loopg [3, 8] kj5 (fun kq v3 v8 w' => ∃ (x3_2 : List (S89)) (x8_2 : Int), v8 = .int .i64 x8_2 ∧ Aside0 (spec_StartStates.l0 kq x3_2 t8005 t8008 t8011 x8_2 t8014 t8015 = some r) ∧ Aside0 (kq ≤ kj5) ∧ Aside0 (Kd.S k89 89 w' w.heap.size (fun _ => True) v3 x3_2) ∧ Aside0 (Kd.V (Kd.int .i64) 3 w' w.heap.size (fun k_ => some k_ ≠ (v3 : Value).ownBlock ∧ k_ ≠ gb8001 ∧ k_ ≠ gb8016) v8006 t8005) ∧ Aside0 (Kd.V (Kd.int .i64) 3 w' w.heap.size (fun k_ => some k_ ≠ (v3 : Value).ownBlock ∧ k_ ≠ gb8001 ∧ k_ ≠ gb8016) v8009 t8008) ∧ Aside0 (Kd.V (Kd.int .i64) 3 w' w.heap.size (fun k_ => some k_ ≠ (v3 : Value).ownBlock ∧ k_ ≠ gb8001 ∧ k_ ≠ gb8016) v8012 t8011) ∧ Aside0 (w'.heap[gb8001]? = some (.cells #[.string a0_0, .string a0_1, (.slice A0_2 l0_2.length c0_2), (.slice A0_3 l0_3.length c0_3), (.slice A0_4 l0_4.length c0_4), (.slice A0_5 l0_5.length c0_5)] 36 (0, 0))) ∧ Aside0 (w'.heap[gb8016]? = some (.cells #[.string t8014, .string t8015] 33 (0, 0))) ∧ Aside0 (Below w.heap.size w w')))
     case atStart => exact ⟨(y8002), (0), (by first | rfl | (simp; done) | (simp [*]; done)), H', ⟨Nat.le_refl _⟩, ⟨by (with_reducible repeat (first | apply Kd.S_alloc | apply Kd.S_drewN | apply Kd.S_drew)); exact Kd.S_mono (Kd.S_far (p := ⟨gb8016, 1, none⟩) (Kd.S_far (p := ⟨gb8016, 0, none⟩) (Kd.S_types HO_3.out BK8016.out (by decide)) (fun _ hk => hk.2) (.string t8014)) (fun _ hk => hk.2) (.string t8015)) (fun _ hk => trivial)⟩, ⟨by (with_reducible repeat (first | apply Kd.V_alloc | apply Kd.V_drewN | apply Kd.V_drew)); exact Kd.V_mono (Kd.V_far (p := ⟨gb8016, 1, none⟩) (Kd.V_far (p := ⟨gb8016, 0, none⟩) (Kd.V_mono HO_4.out (fun k_ hk => (⟨hk, hk.2⟩ : _ ∧ k_ ≠ gb8016))) (fun _ hk => hk.2) (.string t8014)) (fun _ hk => hk.2) (.string t8015)) (fun _ hk => ⟨hk.1.1.1, ⟨hk.1.1.2, hk.1.2⟩⟩)⟩, ⟨by (with_reducible repeat (first | apply Kd.V_alloc | apply Kd.V_drewN | apply Kd.V_drew)); exact Kd.V_mono (Kd.V_far (p := ⟨gb8016, 1, none⟩) (Kd.V_far (p := ⟨gb8016, 0, none⟩) (Kd.V_mono HO_5.out (fun k_ hk => (⟨hk, hk.2⟩ : _ ∧ k_ ≠ gb8016))) (fun _ hk => hk.2) (.string t8014)) (fun _ hk => hk.2) (.string t8015)) (fun _ hk => ⟨hk.1.1.1, ⟨hk.1.1.2, hk.1.2⟩⟩)⟩, ⟨by (with_reducible repeat (first | apply Kd.V_alloc | apply Kd.V_drewN | apply Kd.V_drew)); exact Kd.V_mono (Kd.V_far (p := ⟨gb8016, 1, none⟩) (Kd.V_far (p := ⟨gb8016, 0, none⟩) (Kd.V_mono HO_6.out (fun k_ hk => (⟨hk, hk.2⟩ : _ ∧ k_ ≠ gb8016))) (fun _ hk => hk.2) (.string t8014)) (fun _ hk => hk.2) (.string t8015)) (fun _ hk => ⟨hk.1.1.1, ⟨hk.1.1.2, hk.1.2⟩⟩)⟩, ⟨by (with_reducible repeat (first | refine blk_drewN ?_ _ | refine blk_drew ?_ | refine blk_alloc ?_ _)); refine blk_far ?_ NB8001_8016.out _; (with_reducible repeat (first | refine blk_drewN ?_ _ | refine blk_drew ?_ | refine blk_alloc ?_ _)); refine blk_far ?_ NB8001_8016.out _; (with_reducible repeat (first | refine blk_drewN ?_ _ | refine blk_drew ?_ | refine blk_alloc ?_ _)); exact BK8001.out⟩, ⟨by (with_reducible repeat (first | refine blk_drewN ?_ _ | refine blk_drew ?_ | refine blk_alloc ?_ _)); refine blk_put (cs := #[.string t8014, .string (⟨#[]⟩ : ByteArray)]) ?_ 1 _ rfl; (with_reducible repeat (first | refine blk_drewN ?_ _ | refine blk_drew ?_ | refine blk_alloc ?_ _)); refine blk_put (cs := #[.string (⟨#[]⟩ : ByteArray), .string (⟨#[]⟩ : ByteArray)]) ?_ 0 _ rfl; (with_reducible repeat (first | refine blk_drewN ?_ _ | refine blk_drew ?_ | refine blk_alloc ?_ _)); exact BK8016.out⟩, ⟨by repeat (first | (with_reducible first | exact HB.out | apply below_alloc | apply pw_below_drewN | apply below_drew1 | refine below_set ?_ GE8001.out | refine below_set ?_ GE8016.out) | exact HB.out)⟩⟩
     case round =>
      clear H'
      try clear c1
      try clear c2
      try clear c2b0
      try clear c2b1
      try clear p2
      try clear c3
      try clear c4
      try clear p6
      try clear c8
      try clear c16
      try clear c16b0
      try clear c16b1
      try clear c18
      try clear c18b0
      try clear c18b1
      try clear c21
      try clear c21b0
      try clear c21b1
      try clear c28
      try clear c33
      try clear hcz10_0
      try clear hcz10_1
      try clear hcz10_2
      try clear hcz10_3
      try clear hcz10_4
      try clear hcz10_5
      try clear hcz12_0
      try clear hcz12_1
      try clear hcz12_2
      try clear hcz12_3
      try clear hcz12_4
      try clear hcz12_5
      try clear hcz14_0
      try clear hcz14_1
      try clear hcz14_2
      try clear hcz14_3
      try clear hcz14_4
      try clear hcz14_5
      try clear hcz30_0
      try clear hcz30_1
      try clear hcz30_2
      try clear hcz30_3
      try clear hcz30_4
      try clear hcz30_5
      try clear hcz34_0
      try clear hcz34_1
      try clear hfz10_0
      try clear hfz10_1
      try clear hfz10_2
      try clear hfz10_3
      try clear hfz10_4
      try clear hfz10_5
      try clear hfz12_0
      try clear hfz12_1
      try clear hfz12_2
      try clear hfz12_3
      try clear hfz12_4
      try clear hfz12_5
      try clear hfz14_0
      try clear hfz14_1
      try clear hfz14_2
      try clear hfz14_3
      try clear hfz14_4
      try clear hfz14_5
      try clear hfz30_0
      try clear hfz30_1
      try clear hfz30_2
      try clear hfz30_3
      try clear hfz30_4
      try clear hfz30_5
      try clear hfz34_0
      try clear hfz34_1
      try clear p2
      try clear p6
      obtain ⟨x3_2, x8_2, rfl, HA, HK2, HO_3, HO_4, HO_5, HO_6, BK8001, BK8016, HB⟩ := hrel
      cases gk with
      | zero => exact absurd HA.out (by simp [spec_StartStates.l0])
      | succ k2 =>
       have H := HA.out
       clear HA
       simp only [spec_StartStates.l0] at H
       by_cases c35 : x8_2 < (t8005.length : Int)
       ·rw [if_pos c35] at H
        have c35b0 : decide (x8_2 < (t8005.length : Int)) = true := decide_eq_true c35
        clear c35
        have H' := Aside0.mk H
        clear H
        obtain ⟨Ao36, co36, eo36⟩ := Kd.V_slice HO_4.out
        subst eo36
        go_wp2
        first | go_loopg [3, 9] k2 (fun kq v3 v9 w' => ∃ (x3_3 : List (S89)) (x9_3 : Int), v9 = .int .i64 x9_3 ∧ Aside0 (spec_StartStates.l1 kq x3_3 t8005 t8008 t8011 x8_2 x9_3 t8014 t8015 = some r) ∧ Aside0 (kq ≤ k2) ∧ Aside0 (Kd.S k89 89 w' w.heap.size (fun _ => True) v3 x3_3) ∧ Aside0 (Kd.V (Kd.int .i64) 3 w' w.heap.size (fun k_ => some k_ ≠ (v3 : Value).ownBlock ∧ k_ ≠ gb8001 ∧ k_ ≠ gb8016) (.slice Ao36 t8005.length co36) t8005) ∧ Aside0 (Kd.V (Kd.int .i64) 3 w' w.heap.size (fun k_ => some k_ ≠ (v3 : Value).ownBlock ∧ k_ ≠ gb8001 ∧ k_ ≠ gb8016) v8009 t8008) ∧ Aside0 (Kd.V (Kd.int .i64) 3 w' w.heap.size (fun k_ => some k_ ≠ (v3 : Value).ownBlock ∧ k_ ≠ gb8001 ∧ k_ ≠ gb8016) v8012 t8011) ∧ Aside0 (w'.heap[gb8001]? = some (.cells #[.string a0_0, .string a0_1, (.slice A0_2 l0_2.length c0_2), (.slice A0_3 l0_3.length c0_3), (.slice A0_4 l0_4.length c0_4), (.slice A0_5 l0_5.length c0_5)] 36 (0, 0))) ∧ Aside0 (w'.heap[gb8016]? = some (.cells #[.string t8014, .string t8015] 33 (0, 0))) ∧ Aside0 (Below w.heap.size w w')) | (simp only [Act.put, List.setIfInBounds_toArray, List.set_cons_succ, List.set_cons_zero]; go_loopg [3, 9] k2 (fun kq v3 v9 w' => ∃ (x3_3 : List (S89)) (x9_3 : Int), v9 = .int .i64 x9_3 ∧ Aside0 (spec_StartStates.l1 kq x3_3 t8005 t8008 t8011 x8_2 x9_3 t8014 t8015 = some r) ∧ Aside0 (kq ≤ k2) ∧ Aside0 (Kd.S k89 89 w' w.heap.size (fun _ => True) v3 x3_3) ∧ Aside0 (Kd.V (Kd.int .i64) 3 w' w.heap.size (fun k_ => some k_ ≠ (v3 : Value).ownBlock ∧ k_ ≠ gb8001 ∧ k_ ≠ gb8016) (.slice Ao36 t8005.length co36) t8005) ∧ Aside0 (Kd.V (Kd.int .i64) 3 w' w.heap.size (fun k_ => some k_ ≠ (v3 : Value).ownBlock ∧ k_ ≠ gb8001 ∧ k_ ≠ gb8016) v8009 t8008) ∧ Aside0 (Kd.V (Kd.int .i64) 3 w' w.heap.size (fun k_ => some k_ ≠ (v3 : Value).ownBlock ∧ k_ ≠ gb8001 ∧ k_ ≠ gb8016) v8012 t8011) ∧ Aside0 (w'.heap[gb8001]? = some (.cells #[.string a0_0, .string a0_1, (.slice A0_2 l0_2.length c0_2), (.slice A0_3 l0_3.length c0_3), (.slice A0_4 l0_4.length c0_4), (.slice A0_5 l0_5.length c0_5)] 36 (0, 0))) ∧ Aside0 (w'.heap[gb8016]? = some (.cells #[.string t8014, .string t8015] 33 (0, 0))) ∧ Aside0 (Below w.heap.size w w')))
        case atStart => exact ⟨(x3_2), (0), (by first | rfl | (simp; done) | (simp [*]; done)), H', ⟨Nat.le_refl _⟩, ⟨by (with_reducible repeat (first | apply Kd.S_alloc | apply Kd.S_drewN | apply Kd.S_drew)); exact HO_3.out⟩, ⟨by (with_reducible repeat (first | apply Kd.V_alloc | apply Kd.V_drewN | apply Kd.V_drew)); exact HO_4.out⟩, ⟨by (with_reducible repeat (first | apply Kd.V_alloc | apply Kd.V_drewN | apply Kd.V_drew)); exact HO_5.out⟩, ⟨by (with_reducible repeat (first | apply Kd.V_alloc | apply Kd.V_drewN | apply Kd.V_drew)); exact HO_6.out⟩, ⟨by (with_reducible repeat (first | refine blk_drewN ?_ _ | refine blk_drew ?_ | refine blk_alloc ?_ _)); exact BK8001.out⟩, ⟨by (with_reducible repeat (first | refine blk_drewN ?_ _ | refine blk_drew ?_ | refine blk_alloc ?_ _)); exact BK8016.out⟩, ⟨by repeat (first | (with_reducible first | exact HB.out | apply below_alloc | apply pw_below_drewN | apply below_drew1 | refine below_set ?_ GE8001.out | refine below_set ?_ GE8016.out) | exact HB.out)⟩⟩
        case round =>
         clear H'
         try clear c1
         try clear c2
         try clear c2b0
         try clear c2b1
         try clear p2
         try clear c3
         try clear c4
         try clear p6
         try clear c8
         try clear c16
         try clear c16b0
         try clear c16b1
         try clear c18
         try clear c18b0
         try clear c18b1
         try clear c21
         try clear c21b0
         try clear c21b1
         try clear c28
         try clear c33
         try clear c35
         try clear c35b0
         try clear hcz10_0
         try clear hcz10_1
         try clear hcz10_2
         try clear hcz10_3
         try clear hcz10_4
         try clear hcz10_5
         try clear hcz12_0
         try clear hcz12_1
         try clear hcz12_2
         try clear hcz12_3
         try clear hcz12_4
         try clear hcz12_5
         try clear hcz14_0
         try clear hcz14_1
         try clear hcz14_2
         try clear hcz14_3
         try clear hcz14_4
         try clear hcz14_5
         try clear hcz30_0
         try clear hcz30_1
         try clear hcz30_2
         try clear hcz30_3
         try clear hcz30_4
         try clear hcz30_5
         try clear hcz34_0
         try clear hcz34_1
         try clear hfz10_0
         try clear hfz10_1
         try clear hfz10_2
         try clear hfz10_3
         try clear hfz10_4
         try clear hfz10_5
         try clear hfz12_0
         try clear hfz12_1
         try clear hfz12_2
         try clear hfz12_3
         try clear hfz12_4
         try clear hfz12_5
         try clear hfz14_0
         try clear hfz14_1
         try clear hfz14_2
         try clear hfz14_3
         try clear hfz14_4
         try clear hfz14_5
         try clear hfz30_0
         try clear hfz30_1
         try clear hfz30_2
         try clear hfz30_3
         try clear hfz30_4
         try clear hfz30_5
         try clear hfz34_0
         try clear hfz34_1
         try clear p2
         try clear p6
         obtain ⟨x3_3, x9_3, rfl, HA, HK3, HO_3, HO_4, HO_5, HO_6, BK8001, BK8016, HB⟩ := hrel
         cases gk with
         | zero => exact absurd HA.out (by simp [spec_StartStates.l1])
         | succ k3 =>
          have H := HA.out
          clear HA
          simp only [spec_StartStates.l1] at H
          by_cases c37 : x9_3 < (t8008.length : Int)
          ·rw [if_pos c37] at H
           have c37b0 : decide (x9_3 < (t8008.length : Int)) = true := decide_eq_true c37
           clear c37
           have H' := Aside0.mk H
           clear H
           obtain ⟨Ao38, co38, eo38⟩ := Kd.V_slice HO_5.out
           subst eo38
           go_wp2
           first | go_loopg [3, 10] k3 (fun kq v3 v10 w' => ∃ (x3_4 : List (S89)) (x10_4 : Int), v10 = .int .i64 x10_4 ∧ Aside0 (spec_StartStates.l2 kq x3_4 t8005 t8008 t8011 x8_2 x9_3 x10_4 t8014 t8015 = some r) ∧ Aside0 (kq ≤ k3) ∧ Aside0 (Kd.S k89 89 w' w.heap.size (fun _ => True) v3 x3_4) ∧ Aside0 (Kd.V (Kd.int .i64) 3 w' w.heap.size (fun k_ => some k_ ≠ (v3 : Value).ownBlock ∧ k_ ≠ gb8001 ∧ k_ ≠ gb8016) (.slice Ao36 t8005.length co36) t8005) ∧ Aside0 (Kd.V (Kd.int .i64) 3 w' w.heap.size (fun k_ => some k_ ≠ (v3 : Value).ownBlock ∧ k_ ≠ gb8001 ∧ k_ ≠ gb8016) (.slice Ao38 t8008.length co38) t8008) ∧ Aside0 (Kd.V (Kd.int .i64) 3 w' w.heap.size (fun k_ => some k_ ≠ (v3 : Value).ownBlock ∧ k_ ≠ gb8001 ∧ k_ ≠ gb8016) v8012 t8011) ∧ Aside0 (w'.heap[gb8001]? = some (.cells #[.string a0_0, .string a0_1, (.slice A0_2 l0_2.length c0_2), (.slice A0_3 l0_3.length c0_3), (.slice A0_4 l0_4.length c0_4), (.slice A0_5 l0_5.length c0_5)] 36 (0, 0))) ∧ Aside0 (w'.heap[gb8016]? = some (.cells #[.string t8014, .string t8015] 33 (0, 0))) ∧ Aside0 (Below w.heap.size w w')) | (simp only [Act.put, List.setIfInBounds_toArray, List.set_cons_succ, List.set_cons_zero]; go_loopg [3, 10] k3 (fun kq v3 v10 w' => ∃ (x3_4 : List (S89)) (x10_4 : Int), v10 = .int .i64 x10_4 ∧ Aside0 (spec_StartStates.l2 kq x3_4 t8005 t8008 t8011 x8_2 x9_3 x10_4 t8014 t8015 = some r) ∧ Aside0 (kq ≤ k3) ∧ Aside0 (Kd.S k89 89 w' w.heap.size (fun _ => True) v3 x3_4) ∧ Aside0 (Kd.V (Kd.int .i64) 3 w' w.heap.size (fun k_ => some k_ ≠ (v3 : Value).ownBlock ∧ k_ ≠ gb8001 ∧ k_ ≠ gb8016) (.slice Ao36 t8005.length co36) t8005) ∧ Aside0 (Kd.V (Kd.int .i64) 3 w' w.heap.size (fun k_ => some k_ ≠ (v3 : Value).ownBlock ∧ k_ ≠ gb8001 ∧ k_ ≠ gb8016) (.slice Ao38 t8008.length co38) t8008) ∧ Aside0 (Kd.V (Kd.int .i64) 3 w' w.heap.size (fun k_ => some k_ ≠ (v3 : Value).ownBlock ∧ k_ ≠ gb8001 ∧ k_ ≠ gb8016) v8012 t8011) ∧ Aside0 (w'.heap[gb8001]? = some (.cells #[.string a0_0, .string a0_1, (.slice A0_2 l0_2.length c0_2), (.slice A0_3 l0_3.length c0_3), (.slice A0_4 l0_4.length c0_4), (.slice A0_5 l0_5.length c0_5)] 36 (0, 0))) ∧ Aside0 (w'.heap[gb8016]? = some (.cells #[.string t8014, .string t8015] 33 (0, 0))) ∧ Aside0 (Below w.heap.size w w')))
           case atStart => exact ⟨(x3_3), (0), (by first | rfl | (simp; done) | (simp [*]; done)), H', ⟨Nat.le_refl _⟩, ⟨by (with_reducible repeat (first | apply Kd.S_alloc | apply Kd.S_drewN | apply Kd.S_drew)); exact HO_3.out⟩, ⟨by (with_reducible repeat (first | apply Kd.V_alloc | apply Kd.V_drewN | apply Kd.V_drew)); exact HO_4.out⟩, ⟨by (with_reducible repeat (first | apply Kd.V_alloc | apply Kd.V_drewN | apply Kd.V_drew)); exact HO_5.out⟩, ⟨by (with_reducible repeat (first | apply Kd.V_alloc | apply Kd.V_drewN | apply Kd.V_drew)); exact HO_6.out⟩, ⟨by (with_reducible repeat (first | refine blk_drewN ?_ _ | refine blk_drew ?_ | refine blk_alloc ?_ _)); exact BK8001.out⟩, ⟨by (with_reducible repeat (first | refine blk_drewN ?_ _ | refine blk_drew ?_ | refine blk_alloc ?_ _)); exact BK8016.out⟩, ⟨by repeat (first | (with_reducible first | exact HB.out | apply below_alloc | apply pw_below_drewN | apply below_drew1 | refine below_set ?_ GE8001.out | refine below_set ?_ GE8016.out) | exact HB.out)⟩⟩
           case round =>
            clear H'
            try clear c1
            try clear c2
            try clear c2b0
            try clear c2b1
            try clear p2
            try clear c3
            try clear c4
            try clear p6
            try clear c8
            try clear c16
            try clear c16b0
            try clear c16b1
            try clear c18
            try clear c18b0
            try clear c18b1
            try clear c21
            try clear c21b0
            try clear c21b1
            try clear c28
            try clear c33
            try clear c35
            try clear c35b0
            try clear c37
            try clear c37b0
            try clear hcz10_0
            try clear hcz10_1
            try clear hcz10_2
            try clear hcz10_3
            try clear hcz10_4
            try clear hcz10_5
            try clear hcz12_0
            try clear hcz12_1
            try clear hcz12_2
            try clear hcz12_3
            try clear hcz12_4
            try clear hcz12_5
            try clear hcz14_0
            try clear hcz14_1
            try clear hcz14_2
            try clear hcz14_3
            try clear hcz14_4
            try clear hcz14_5
            try clear hcz30_0
            try clear hcz30_1
            try clear hcz30_2
            try clear hcz30_3
            try clear hcz30_4
            try clear hcz30_5
            try clear hcz34_0
            try clear hcz34_1
            try clear hfz10_0
            try clear hfz10_1
            try clear hfz10_2
            try clear hfz10_3
            try clear hfz10_4
            try clear hfz10_5
            try clear hfz12_0
            try clear hfz12_1
            try clear hfz12_2
            try clear hfz12_3
            try clear hfz12_4
            try clear hfz12_5
            try clear hfz14_0
            try clear hfz14_1
            try clear hfz14_2
            try clear hfz14_3
            try clear hfz14_4
            try clear hfz14_5
            try clear hfz30_0
            try clear hfz30_1
            try clear hfz30_2
            try clear hfz30_3
            try clear hfz30_4
            try clear hfz30_5
            try clear hfz34_0
            try clear hfz34_1
            try clear p2
            try clear p6
            obtain ⟨x3_4, x10_4, rfl, HA, HK4, HO_3, HO_4, HO_5, HO_6, BK8001, BK8016, HB⟩ := hrel
            cases gk with
            | zero => exact absurd HA.out (by simp [spec_StartStates.l2])
            | succ k4 =>
             have H := HA.out
             clear HA
             simp only [spec_StartStates.l2] at H
             by_cases c39 : x10_4 < (t8011.length : Int)
             ·rw [if_pos c39] at H
              have c39b0 : decide (x10_4 < (t8011.length : Int)) = true := decide_eq_true c39
              clear c39
              by_cases c40 : 0 ≤ x8_2
              ·rw [if_pos c40] at H
               have c40b0 : decide (0 ≤ x8_2) = true := decide_eq_true c40
               clear c40
               by_cases c41 : x8_2 < (t8005.length : Int)
               ·rw [if_pos c41] at H
                have c41b0 : decide (x8_2 < (t8005.length : Int)) = true := decide_eq_true c41
                clear c41
                by_cases c42 : 0 ≤ x9_3
                ·rw [if_pos c42] at H
                 have c42b0 : decide (0 ≤ x9_3) = true := decide_eq_true c42
                 clear c42
                 by_cases c43 : x9_3 < (t8008.length : Int)
                 ·rw [if_pos c43] at H
                  have c43b0 : decide (x9_3 < (t8008.length : Int)) = true := decide_eq_true c43
                  clear c43
                  by_cases c44 : 0 ≤ x10_4
                  ·rw [if_pos c44] at H
                   have c44b0 : decide (0 ≤ x10_4) = true := decide_eq_true c44
                   clear c44
                   obtain ⟨y8020, hy8020⟩ : ∃ y_ : List Int, y_ = (([rd t8005 x8_2, rd t8008 x9_3, rd t8011 x10_4] : List Int)) := ⟨_, rfl⟩
                   replace H : (if x3_4.length < 2513169434916 then (spec_StartStates.l2 k4 (x3_4 ++ [(⟨t8014, t8015, y8020⟩ : S89)]) t8005 t8008 t8011 x8_2 x9_3 (wrap64 (x10_4 + 1)) t8014 t8015) else (none)) = some r := by first | (rw [hy8020]; with_reducible exact H) | (have H2_ := (Option.bind_some _ _).symm.trans H; rw [hy8020]; with_reducible exact H2_) | (have H2_ := (Option.bind_some _ _).symm.trans H; with_reducible exact H2_) | with_reducible exact H | (rw [hy8020]; exact H) | exact H
                   have Ny8020 := Aside0.mk hy8020
                   clear hy8020
                   by_cases c45 : x3_4.length < 2513169434916
                   ·rw [if_pos c45] at H
                    have LMc45 := Aside0.mk c45
                    clear c45
                    obtain ⟨y8023, hy8023⟩ : ∃ y_ : List (S89), y_ = (x3_4 ++ [(⟨t8014, t8015, y8020⟩ : S89)]) := ⟨_, rfl⟩
                    replace H : (spec_StartStates.l2 k4 y8023 t8005 t8008 t8011 x8_2 x9_3 (wrap64 (x10_4 + 1)) t8014 t8015) = some r := by first | (rw [hy8023]; with_reducible exact H) | (have H2_ := (Option.bind_some _ _).symm.trans H; rw [hy8023]; with_reducible exact H2_) | (have H2_ := (Option.bind_some _ _).symm.trans H; with_reducible exact H2_) | with_reducible exact H | (rw [hy8023]; exact H) | exact H
                    have Ny8023 := Aside0.mk hy8023
                    clear hy8023
                    have H' := Aside0.mk H
                    clear H
                    obtain ⟨Ao46, co46, eo46⟩ := Kd.V_slice HO_6.out
                    subst eo46
                    try go_wp2
                    have n0_ := Aside0.mk (Kd.S_drew HO_3.out)
                    have n1_ := Aside0.mk (Kd.V_drew HO_4.out)
                    have n2_ := Aside0.mk (Kd.V_drew HO_5.out)
                    have n3_ := Aside0.mk (Kd.V_drew HO_6.out)
                    have n4_ := Aside0.mk (blk_drew BK8001.out)
                    have n5_ := Aside0.mk (blk_drew BK8016.out)
                    have n6_ := Aside0.mk (below_drew1 HB.out)
                    clear HO_3
                    clear HO_4
                    clear HO_5
                    clear HO_6
                    clear BK8001
                    clear BK8016
                    clear HB
                    have HO_3 := n0_
                    have HO_4 := n1_
                    have HO_5 := n2_
                    have HO_6 := n3_
                    have BK8001 := n4_
                    have BK8016 := n5_
                    have HB := n6_
                    clear n0_ n1_ n2_ n3_ n4_ n5_ n6_
                    have p8017 : 0 ≤ (x8_2 : Int) := of_decide_eq_true (by first | (with_reducible assumption) | assumption)
                    have q8017 : x8_2 < (t8005.length : Int) := of_decide_eq_true (by first | (with_reducible assumption) | assumption)
                    obtain ⟨ad8017, e8017, hx8017_0⟩ := Kd.at_int (Kd.V_reads' HO_4.out).2.2 x8_2 p8017 q8017
                    cases e8017
                    replace p8017 := eq_true p8017
                    replace q8017 := eq_true q8017
                    have p8018 : 0 ≤ (x9_3 : Int) := of_decide_eq_true (by first | (with_reducible assumption) | assumption)
                    have q8018 : x9_3 < (t8008.length : Int) := of_decide_eq_true (by first | (with_reducible assumption) | assumption)
                    obtain ⟨ad8018, e8018, hx8018_0⟩ := Kd.at_int (Kd.V_reads' HO_5.out).2.2 x9_3 p8018 q8018
                    cases e8018
                    replace p8018 := eq_true p8018
                    replace q8018 := eq_true q8018
                    have p8019 : 0 ≤ (x10_4 : Int) := of_decide_eq_true (by first | (with_reducible assumption) | assumption)
                    have q8019 : x10_4 < (t8011.length : Int) := of_decide_eq_true (by first | (with_reducible assumption) | assumption)
                    obtain ⟨ad8019, e8019, hx8019_0⟩ := Kd.at_int (Kd.V_reads' HO_6.out).2.2 x10_4 p8019 q8019
                    cases e8019
                    replace p8019 := eq_true p8019
                    replace q8019 := eq_true q8019
                    refine start_ (n := 22) (S := fun w' => w'.cell? ⟨gb8016, 0, none⟩ = some (.string t8014) ∧ w'.cell? ⟨gb8016, 1, none⟩ = some (.string t8015) ∧ w'.cell? (ad8017.add (x8_2).toNat) = some (.int .i64 (rd t8005 x8_2)) ∧ w'.cell? (ad8018.add (x9_3).toNat) = some (.int .i64 (rd t8008 x9_3)) ∧ w'.cell? (ad8019.add (x10_4).toNat) = some (.int .i64 (rd t8011 x10_4))) (ds := [19, 20]) #[false, false, false, false, false, false, false, false, false, false, false, false, false, false, false, false, false, false, false, false, false, false] (by kernel_rfl) rfl rfl ⟨(blk_cell BK8016.out 0).trans rfl, (blk_cell BK8016.out 1).trans rfl, hx8017_0, hx8018_0, hx8019_0⟩ (fun hHeld => ?_); refine with_tabW spec_StartStates.tab19 spec_StartStates.bits19 (fun HT_ HW_ => ?_)
                    generalize wr.drew = w47 at HO_3 HO_4 HO_5 HO_6 BK8001 BK8016 HB hx8017_0 hx8018_0 hx8019_0 hHeld ⊢
                    refine pure_ (i := 0) (N := some 69) (v := ?_) (a' := ?_) #[true, false, false, false, false, false, false, false, false, false, false, false, false, false, false, false, false, false, false, false, false, false] rfl rfl (any_of HT_.out (by kernel_rfl)) (fun _ _ _ h => h) (Or.inl ⟨by rfl, ?_⟩) ?_ ?_
                    rotate_left
                    ·intro w'
                     go_simp
                     first | with_reducible rfl | (rw [if_neg (by omega)]; done) | (rw [if_neg (by (try simp only [decide_eq_true_eq, decide_eq_false_iff_not, eq_iff_iff, iff_true, iff_false] at *); (try simp only [ByteArray.size_extract, ByteArray.size_append, show (⟨#[97, 98, 99]⟩ : ByteArray).size = 3 from rfl, show (⟨#[88, 89, 90]⟩ : ByteArray).size = 3 from rfl, show (⟨#[61]⟩ : ByteArray).size = 1 from rfl] at *); omega)]; done)
                    rotate_left
                    ·simp only [Act.put, List.setIfInBounds_toArray, List.set_cons_zero, List.set_cons_succ, i64_w, i32_w]
                     rfl
                    refine pure_ (i := 1) (N := some 70) (v := ?_) (a' := ?_) #[true, true, false, false, false, false, false, false, false, false, false, false, false, false, false, false, false, false, false, false, false, false] rfl rfl (any_of HT_.out (by kernel_rfl)) (fun _ _ _ h => h) (Or.inl ⟨by rfl, ?_⟩) ?_ ?_
                    rotate_left
                    ·intro w'
                     go_simp
                     first | with_reducible rfl | (rw [if_neg (by omega)]; done) | (rw [if_neg (by (try simp only [decide_eq_true_eq, decide_eq_false_iff_not, eq_iff_iff, iff_true, iff_false] at *); (try simp only [ByteArray.size_extract, ByteArray.size_append, show (⟨#[97, 98, 99]⟩ : ByteArray).size = 3 from rfl, show (⟨#[88, 89, 90]⟩ : ByteArray).size = 3 from rfl, show (⟨#[61]⟩ : ByteArray).size = 1 from rfl] at *); omega)]; done)
                    rotate_left
                    ·simp only [Act.put, List.setIfInBounds_toArray, List.set_cons_zero, List.set_cons_succ, i64_w, i32_w]
                     rfl
                    refine pure_ (i := 3) (N := some 72) (v := ?_) (a' := ?_) #[true, true, false, true, false, false, false, false, false, false, false, false, false, false, false, false, false, false, false, false, false, false] rfl rfl (any_of HT_.out (by kernel_rfl)) (fun _ _ _ h => h) (Or.inl ⟨by rfl, ?_⟩) ?_ ?_
                    rotate_left
                    ·intro w'
                     go_simp
                     first | with_reducible rfl | (rw [if_neg (by omega)]; done) | (rw [if_neg (by (try simp only [decide_eq_true_eq, decide_eq_false_iff_not, eq_iff_iff, iff_true, iff_false] at *); (try simp only [ByteArray.size_extract, ByteArray.size_append, show (⟨#[97, 98, 99]⟩ : ByteArray).size = 3 from rfl, show (⟨#[88, 89, 90]⟩ : ByteArray).size = 3 from rfl, show (⟨#[61]⟩ : ByteArray).size = 1 from rfl] at *); omega)]; done)
                    rotate_left
                    ·simp only [Act.put, List.setIfInBounds_toArray, List.set_cons_zero, List.set_cons_succ, i64_w, i32_w]
                     rfl
                    refine pure_ (i := 5) (N := some 74) (v := ?_) (a' := ?_) #[true, true, false, true, false, true, false, false, false, false, false, false, false, false, false, false, false, false, false, false, false, false] rfl rfl (any_of HT_.out (by kernel_rfl)) (fun _ _ _ h => h) (Or.inl ⟨by rfl, ?_⟩) ?_ ?_
                    rotate_left
                    ·intro w'
                     go_simp
                     first | with_reducible rfl | (rw [if_neg (by omega)]; done) | (rw [if_neg (by (try simp only [decide_eq_true_eq, decide_eq_false_iff_not, eq_iff_iff, iff_true, iff_false] at *); (try simp only [ByteArray.size_extract, ByteArray.size_append, show (⟨#[97, 98, 99]⟩ : ByteArray).size = 3 from rfl, show (⟨#[88, 89, 90]⟩ : ByteArray).size = 3 from rfl, show (⟨#[61]⟩ : ByteArray).size = 1 from rfl] at *); omega)]; done)
                    rotate_left
                    ·simp only [Act.put, List.setIfInBounds_toArray, List.set_cons_zero, List.set_cons_succ, i64_w, i32_w]
                     rfl
                    refine pure_ (i := 6) (N := some 75) (v := ?_) (a' := ?_) #[true, true, false, true, false, true, true, false, false, false, false, false, false, false, false, false, false, false, false, false, false, false] rfl rfl (any_of HT_.out (by kernel_rfl)) (fun _ _ _ h => h) (Or.inl ⟨by rfl, ?_⟩) ?_ ?_
                    rotate_left
                    ·intro w'
                     go_simp
                     first | with_reducible rfl | (rw [if_neg (by omega)]; done) | (rw [if_neg (by (try simp only [decide_eq_true_eq, decide_eq_false_iff_not, eq_iff_iff, iff_true, iff_false] at *); (try simp only [ByteArray.size_extract, ByteArray.size_append, show (⟨#[97, 98, 99]⟩ : ByteArray).size = 3 from rfl, show (⟨#[88, 89, 90]⟩ : ByteArray).size = 3 from rfl, show (⟨#[61]⟩ : ByteArray).size = 1 from rfl] at *); omega)]; done)
                    rotate_left
                    ·simp only [Act.put, List.setIfInBounds_toArray, List.set_cons_zero, List.set_cons_succ, i64_w, i32_w]
                     rfl
                    refine pure_ (i := 7) (N := some 76) (v := ?_) (a' := ?_) #[true, true, false, true, false, true, true, true, false, false, false, false, false, false, false, false, false, false, false, false, false, false] rfl rfl (any_of HT_.out (by kernel_rfl)) (fun _ _ _ h => h) (Or.inl ⟨by rfl, ?_⟩) ?_ ?_
                    rotate_left
                    ·intro w'
                     go_simp
                     first | with_reducible rfl | (rw [if_neg (by omega)]; done) | (rw [if_neg (by (try simp only [decide_eq_true_eq, decide_eq_false_iff_not, eq_iff_iff, iff_true, iff_false] at *); (try simp only [ByteArray.size_extract, ByteArray.size_append, show (⟨#[97, 98, 99]⟩ : ByteArray).size = 3 from rfl, show (⟨#[88, 89, 90]⟩ : ByteArray).size = 3 from rfl, show (⟨#[61]⟩ : ByteArray).size = 1 from rfl] at *); omega)]; done)
                    rotate_left
                    ·simp only [Act.put, List.setIfInBounds_toArray, List.set_cons_zero, List.set_cons_succ, i64_w, i32_w]
                     rfl
                    refine pure_ (i := 9) (N := some 78) (v := ?_) (a' := ?_) #[true, true, false, true, false, true, true, true, false, true, false, false, false, false, false, false, false, false, false, false, false, false] rfl rfl (any_of HT_.out (by kernel_rfl)) (fun _ _ _ h => h) (Or.inl ⟨by rfl, ?_⟩) ?_ ?_
                    rotate_left
                    ·intro w'
                     go_simp
                     first | with_reducible rfl | (rw [if_neg (by omega)]; done) | (rw [if_neg (by (try simp only [decide_eq_true_eq, decide_eq_false_iff_not, eq_iff_iff, iff_true, iff_false] at *); (try simp only [ByteArray.size_extract, ByteArray.size_append, show (⟨#[97, 98, 99]⟩ : ByteArray).size = 3 from rfl, show (⟨#[88, 89, 90]⟩ : ByteArray).size = 3 from rfl, show (⟨#[61]⟩ : ByteArray).size = 1 from rfl] at *); omega)]; done)
                    rotate_left
                    ·simp only [Act.put, List.setIfInBounds_toArray, List.set_cons_zero, List.set_cons_succ, i64_w, i32_w]
                     rfl
                    refine pure_ (i := 10) (N := some 79) (v := ?_) (a' := ?_) #[true, true, false, true, false, true, true, true, false, true, true, false, false, false, false, false, false, false, false, false, false, false] rfl rfl (any_of HT_.out (by kernel_rfl)) (fun _ _ _ h => h) (Or.inl ⟨by rfl, ?_⟩) ?_ ?_
                    rotate_left
                    ·intro w'
                     go_simp
                     first | with_reducible rfl | (rw [if_neg (by omega)]; done) | (rw [if_neg (by (try simp only [decide_eq_true_eq, decide_eq_false_iff_not, eq_iff_iff, iff_true, iff_false] at *); (try simp only [ByteArray.size_extract, ByteArray.size_append, show (⟨#[97, 98, 99]⟩ : ByteArray).size = 3 from rfl, show (⟨#[88, 89, 90]⟩ : ByteArray).size = 3 from rfl, show (⟨#[61]⟩ : ByteArray).size = 1 from rfl] at *); omega)]; done)
                    rotate_left
                    ·simp only [Act.put, List.setIfInBounds_toArray, List.set_cons_zero, List.set_cons_succ, i64_w, i32_w]
                     rfl
                    refine pure_ (i := 11) (N := some 80) (v := ?_) (a' := ?_) #[true, true, false, true, false, true, true, true, false, true, true, true, false, false, false, false, false, false, false, false, false, false] rfl rfl (any_of HT_.out (by kernel_rfl)) (fun _ _ _ h => h) (Or.inl ⟨by rfl, ?_⟩) ?_ ?_
                    rotate_left
                    ·intro w'
                     go_simp
                     first | with_reducible rfl | (rw [if_neg (by omega)]; done) | (rw [if_neg (by (try simp only [decide_eq_true_eq, decide_eq_false_iff_not, eq_iff_iff, iff_true, iff_false] at *); (try simp only [ByteArray.size_extract, ByteArray.size_append, show (⟨#[97, 98, 99]⟩ : ByteArray).size = 3 from rfl, show (⟨#[88, 89, 90]⟩ : ByteArray).size = 3 from rfl, show (⟨#[61]⟩ : ByteArray).size = 1 from rfl] at *); omega)]; done)
                    rotate_left
                    ·simp only [Act.put, List.setIfInBounds_toArray, List.set_cons_zero, List.set_cons_succ, i64_w, i32_w]
                     rfl
                    refine pure_ (i := 13) (N := some 82) (v := ?_) (a' := ?_) #[true, true, false, true, false, true, true, true, false, true, true, true, false, true, false, false, false, false, false, false, false, false] rfl rfl (any_of HT_.out (by kernel_rfl)) (fun _ _ _ h => h) (Or.inl ⟨by rfl, ?_⟩) ?_ ?_
                    rotate_left
                    ·intro w'
                     go_simp
                     first | with_reducible rfl | (rw [if_neg (by omega)]; done) | (rw [if_neg (by (try simp only [decide_eq_true_eq, decide_eq_false_iff_not, eq_iff_iff, iff_true, iff_false] at *); (try simp only [ByteArray.size_extract, ByteArray.size_append, show (⟨#[97, 98, 99]⟩ : ByteArray).size = 3 from rfl, show (⟨#[88, 89, 90]⟩ : ByteArray).size = 3 from rfl, show (⟨#[61]⟩ : ByteArray).size = 1 from rfl] at *); omega)]; done)
                    rotate_left
                    ·simp only [Act.put, List.setIfInBounds_toArray, List.set_cons_zero, List.set_cons_succ, i64_w, i32_w]
                     rfl
                    refine pure_ (i := 14) (N := some 83) (v := ?_) (a' := ?_) #[true, true, false, true, false, true, true, true, false, true, true, true, false, true, true, false, false, false, false, false, false, false] rfl rfl (any_of HT_.out (by kernel_rfl)) (fun _ _ _ h => h) (Or.inl ⟨by rfl, ?_⟩) ?_ ?_
                    rotate_left
                    ·intro w'
                     go_simp
                     first | with_reducible rfl | (rw [if_neg (by omega)]; done) | (rw [if_neg (by (try simp only [decide_eq_true_eq, decide_eq_false_iff_not, eq_iff_iff, iff_true, iff_false] at *); (try simp only [ByteArray.size_extract, ByteArray.size_append, show (⟨#[97, 98, 99]⟩ : ByteArray).size = 3 from rfl, show (⟨#[88, 89, 90]⟩ : ByteArray).size = 3 from rfl, show (⟨#[61]⟩ : ByteArray).size = 1 from rfl] at *); omega)]; done)
                    rotate_left
                    ·simp only [Act.put, List.setIfInBounds_toArray, List.set_cons_zero, List.set_cons_succ, i64_w, i32_w]
                     rfl
                    refine pure_ (i := 15) (N := some 84) (v := ?_) (a' := ?_) #[true, true, false, true, false, true, true, true, false, true, true, true, false, true, true, true, false, false, false, false, false, false] rfl rfl (any_of HT_.out (by kernel_rfl)) (fun _ _ _ h => h) (Or.inl ⟨by rfl, ?_⟩) ?_ ?_
                    rotate_left
                    ·intro w'
                     go_simp
                     first | with_reducible rfl | (rw [if_neg (by omega)]; done) | (rw [if_neg (by (try simp only [decide_eq_true_eq, decide_eq_false_iff_not, eq_iff_iff, iff_true, iff_false] at *); (try simp only [ByteArray.size_extract, ByteArray.size_append, show (⟨#[97, 98, 99]⟩ : ByteArray).size = 3 from rfl, show (⟨#[88, 89, 90]⟩ : ByteArray).size = 3 from rfl, show (⟨#[61]⟩ : ByteArray).size = 1 from rfl] at *); omega)]; done)
                    rotate_left
                    ·simp only [Act.put, List.setIfInBounds_toArray, List.set_cons_zero, List.set_cons_succ, i64_w, i32_w]
                     rfl
                    refine take_ (i := 2) (N := some 71) (v := ?_) (a' := ?_) #[true, true, true, true, false, true, true, true, false, true, true, true, false, true, true, true, false, false, false, false, false, false] rfl rfl (take_ofW HT_.out HW_.out (by kernel_rfl)) (fun _ _ _ h => h) (Or.inl ⟨by rfl, ?_⟩) hHeld ?_ ?_
                    rotate_left
                    ·rintro w' ⟨s0, s1, s2, s3, s4⟩
                     go_simp
                     first | with_reducible rfl | (rw [if_neg (by omega)]; done) | (rw [if_neg (by (try simp only [decide_eq_true_eq, decide_eq_false_iff_not, eq_iff_iff, iff_true, iff_false] at *); (try simp only [ByteArray.size_extract, ByteArray.size_append, show (⟨#[97, 98, 99]⟩ : ByteArray).size = 3 from rfl, show (⟨#[88, 89, 90]⟩ : ByteArray).size = 3 from rfl, show (⟨#[61]⟩ : ByteArray).size = 1 from rfl] at *); omega)]; done)
                    rotate_left
                    ·simp only [Act.put, List.setIfInBounds_toArray, List.set_cons_zero, List.set_cons_succ, i64_w, i32_w]
                     rfl
                    refine take_ (i := 4) (N := some 73) (v := ?_) (a' := ?_) #[true, true, true, true, true, true, true, true, false, true, true, true, false, true, true, true, false, false, false, false, false, false] rfl rfl (take_ofW HT_.out HW_.out (by kernel_rfl)) (fun _ _ _ h => h) (Or.inl ⟨by rfl, ?_⟩) hHeld ?_ ?_
                    rotate_left
                    ·rintro w' ⟨s0, s1, s2, s3, s4⟩
                     go_simp
                     first | with_reducible rfl | (rw [if_neg (by omega)]; done) | (rw [if_neg (by (try simp only [decide_eq_true_eq, decide_eq_false_iff_not, eq_iff_iff, iff_true, iff_false] at *); (try simp only [ByteArray.size_extract, ByteArray.size_append, show (⟨#[97, 98, 99]⟩ : ByteArray).size = 3 from rfl, show (⟨#[88, 89, 90]⟩ : ByteArray).size = 3 from rfl, show (⟨#[61]⟩ : ByteArray).size = 1 from rfl] at *); omega)]; done)
                    rotate_left
                    ·simp only [Act.put, List.setIfInBounds_toArray, List.set_cons_zero, List.set_cons_succ, i64_w, i32_w]
                     rfl
                    refine take_ (i := 8) (N := some 77) (v := ?_) (a' := ?_) #[true, true, true, true, true, true, true, true, true, true, true, true, false, true, true, true, false, false, false, false, false, false] rfl rfl (take_ofW HT_.out HW_.out (by kernel_rfl)) (fun _ _ _ h => h) (Or.inl ⟨by rfl, ?_⟩) hHeld ?_ ?_
                    rotate_left
                    ·rintro w' ⟨s0, s1, s2, s3, s4⟩
                     go_simp
                     first | with_reducible rfl | (rw [if_neg (by omega)]; done) | (rw [if_neg (by (try simp only [decide_eq_true_eq, decide_eq_false_iff_not, eq_iff_iff, iff_true, iff_false] at *); (try simp only [ByteArray.size_extract, ByteArray.size_append, show (⟨#[97, 98, 99]⟩ : ByteArray).size = 3 from rfl, show (⟨#[88, 89, 90]⟩ : ByteArray).size = 3 from rfl, show (⟨#[61]⟩ : ByteArray).size = 1 from rfl] at *); omega)]; done)
                    rotate_left
                    ·simp only [Act.put, List.setIfInBounds_toArray, List.set_cons_zero, List.set_cons_succ, i64_w, i32_w]
                     rfl
                    refine take_ (i := 12) (N := some 81) (v := ?_) (a' := ?_) #[true, true, true, true, true, true, true, true, true, true, true, true, true, true, true, true, false, false, false, false, false, false] rfl rfl (take_ofW HT_.out HW_.out (by kernel_rfl)) (fun _ _ _ h => h) (Or.inl ⟨by rfl, ?_⟩) hHeld ?_ ?_
                    rotate_left
                    ·rintro w' ⟨s0, s1, s2, s3, s4⟩
                     go_simp
                     first | with_reducible rfl | (rw [if_neg (by omega)]; done) | (rw [if_neg (by (try simp only [decide_eq_true_eq, decide_eq_false_iff_not, eq_iff_iff, iff_true, iff_false] at *); (try simp only [ByteArray.size_extract, ByteArray.size_append, show (⟨#[97, 98, 99]⟩ : ByteArray).size = 3 from rfl, show (⟨#[88, 89, 90]⟩ : ByteArray).size = 3 from rfl, show (⟨#[61]⟩ : ByteArray).size = 1 from rfl] at *); omega)]; done)
                    rotate_left
                    ·simp only [Act.put, List.setIfInBounds_toArray, List.set_cons_zero, List.set_cons_succ, i64_w, i32_w]
                     rfl
                    refine take_ (i := 16) (N := some 85) (v := ?_) (a' := ?_) #[true, true, true, true, true, true, true, true, true, true, true, true, true, true, true, true, true, false, false, false, false, false] rfl rfl (take_ofW HT_.out HW_.out (by kernel_rfl)) (fun _ _ _ h => h) (Or.inl ⟨by rfl, ?_⟩) hHeld ?_ ?_
                    rotate_left
                    ·rintro w' ⟨s0, s1, s2, s3, s4⟩
                     go_simp
                     first | with_reducible rfl | (rw [if_neg (by omega)]; done) | (rw [if_neg (by (try simp only [decide_eq_true_eq, decide_eq_false_iff_not, eq_iff_iff, iff_true, iff_false] at *); (try simp only [ByteArray.size_extract, ByteArray.size_append, show (⟨#[97, 98, 99]⟩ : ByteArray).size = 3 from rfl, show (⟨#[88, 89, 90]⟩ : ByteArray).size = 3 from rfl, show (⟨#[61]⟩ : ByteArray).size = 1 from rfl] at *); omega)]; done)
                    rotate_left
                    ·simp only [Act.put, List.setIfInBounds_toArray, List.set_cons_zero, List.set_cons_succ, i64_w, i32_w]
                     rfl
                    refine one_ (i := 17) (N := some 86) #[true, true, true, true, true, true, true, true, true, true, true, true, true, true, true, true, true, true, false, false, false, false] rfl rfl (one_of HT_.out (by kernel_rfl)) (by decide) (fun K hK => ?_)
                    refine Kd.R_lit_step (Kd.int .i64) _ 3 ?hg (N := 86) ?hd (xs := ([rd t8005 x8_2, rd t8008 x9_3, rd t8011 x10_4] : List Int)) (inner := [.int .i64 (rd t8005 x8_2), .int .i64 (rd t8008 x9_3), .int .i64 (rd t8011 x10_4)]) (ok := fun _ => True) (okp := fun _ => True) ?hr ?hp (fun _ hk => hk) trivial (Below.refl _ _) (Nat.le_refl _) (by simp) ?_; (case hd => rfl); (case hg => rfl); (case hr => first | (go_simp; done) | (go_simp; rfl)); (case hp => exact (Reps.one (show Kd.M (Kd.int .i64) _ _ _ (rd t8005 x8_2) [.int .i64 (rd t8005 x8_2)] from rfl) (Reps.one (show Kd.M (Kd.int .i64) _ _ _ (rd t8008 x9_3) [.int .i64 (rd t8008 x9_3)] from rfl) (Reps.one (show Kd.M (Kd.int .i64) _ _ _ (rd t8011 x10_4) [.int .i64 (rd t8011 x10_4)] from rfl) (Reps.none _ _)))))
                    intro v8021 w48 ho49 hb hg_ hnew_
                    have HS2_ := (hb.cell (World.block_lt_of_cell? _ _ (hHeld.2.2.1))).trans (hHeld.2.2.1)
                    have HS3_ := (hb.cell (World.block_lt_of_cell? _ _ (hHeld.2.2.2.1))).trans (hHeld.2.2.2.1)
                    have HS4_ := (hb.cell (World.block_lt_of_cell? _ _ (hHeld.2.2.2.2))).trans (hHeld.2.2.2.2)
                    clear hg_ hnew_
                    (first | rw [← Ny8020.out] at ho49 | (simp only [Int.reduceToNat] at ho49; rw [← Ny8020.out] at ho49))
                    have n0_ := Aside0.mk (Kd.S_elder' (by (with_reducible repeat (first | apply Kd.S_alloc | apply Kd.S_drewN | apply Kd.S_drew)); exact HO_3.out) (Kd.R_base ho49) hb)
                    have n1_ := Aside0.mk (Kd.V_elder' (by (with_reducible repeat (first | apply Kd.V_alloc | apply Kd.V_drewN | apply Kd.V_drew)); exact HO_4.out) (Kd.R_base ho49) hb)
                    have n2_ := Aside0.mk (Kd.V_elder' (by (with_reducible repeat (first | apply Kd.V_alloc | apply Kd.V_drewN | apply Kd.V_drew)); exact HO_5.out) (Kd.R_base ho49) hb)
                    have n3_ := Aside0.mk (Kd.V_elder' (by (with_reducible repeat (first | apply Kd.V_alloc | apply Kd.V_drewN | apply Kd.V_drew)); exact HO_6.out) (Kd.R_base ho49) hb)
                    have n4_ := Aside0.mk (Kd.R_lower ho49 (below_size (by repeat (first | (with_reducible first | exact HB.out | apply below_alloc | apply pw_below_drewN | apply below_drew1 | refine below_set ?_ GE8001.out | refine below_set ?_ GE8016.out) | exact HB.out))))
                    have n5_ := Aside0.mk (blk_below (g := gb8001) (o := .cells #[.string a0_0, .string a0_1, .slice A0_2 l0_2.length c0_2, .slice A0_3 l0_3.length c0_3, .slice A0_4 l0_4.length c0_4, .slice A0_5 l0_5.length c0_5] 36 (0, 0)) (by (with_reducible repeat (first | refine blk_drewN ?_ _ | refine blk_drew ?_ | refine blk_alloc ?_ _)); exact BK8001.out) hb)
                    have n6_ := Aside0.mk (blk_below (g := gb8016) (o := .cells #[.string t8014, .string t8015] 33 (0, 0)) (by (with_reducible repeat (first | refine blk_drewN ?_ _ | refine blk_drew ?_ | refine blk_alloc ?_ _)); exact BK8016.out) hb)
                    have n7_ := Aside0.mk (below_step (by repeat (first | (with_reducible first | exact HB.out | apply below_alloc | apply pw_below_drewN | apply below_drew1 | refine below_set ?_ GE8001.out | refine below_set ?_ GE8016.out) | exact HB.out)) hb)
                    clear HO_3
                    clear HO_4
                    clear HO_5
                    clear HO_6
                    clear BK8001
                    clear BK8016
                    clear HB
                    have HO_3 := n0_
                    have HO_4 := n1_
                    have HO_5 := n2_
                    have HO_6 := n3_
                    have HO8022 := n4_
                    have BK8001 := n5_
                    have BK8016 := n6_
                    have HB := n7_
                    clear n0_ n1_ n2_ n3_ n4_ n5_ n6_ n7_
                    clear hb ho49
                    obtain ⟨Ao50, co50, eo50⟩ := Kd.R_slice HO8022.out
                    (first | subst eo50 | (injection eo50 with f1_ f2_ f3_; have f4_ := f1_.symm; have f5_ := f3_.symm; clear f1_ f2_ f3_; subst f4_; subst f5_))
                    refine hK.out _ _ ⟨(blk_cell BK8016.out 0).trans rfl, (blk_cell BK8016.out 1).trans rfl, HS2_, HS3_, HS4_⟩ (fun hHeld => ?_)
                    clear hK K
                    refine norm_ (a' := ?_) ?_ ?_
                    rotate_left
                    ·show Act.put _ (some 86) _ = _
                     simp only [Act.put, List.setIfInBounds_toArray, List.set_cons_zero, List.set_cons_succ, i64_w, i32_w]
                     rfl
                    refine pure_ (i := 18) (N := some 87) (v := ?_) (a' := ?_) #[true, true, true, true, true, true, true, true, true, true, true, true, true, true, true, true, true, true, true, false, false, false] rfl rfl (any_of HT_.out (by kernel_rfl)) (fun _ _ _ h => h) (Or.inl ⟨by rfl, ?_⟩) ?_ ?_
                    rotate_left
                    ·intro w'
                     go_simp
                     first | with_reducible rfl | (rw [if_neg (by omega)]; done) | (rw [if_neg (by (try simp only [decide_eq_true_eq, decide_eq_false_iff_not, eq_iff_iff, iff_true, iff_false] at *); (try simp only [ByteArray.size_extract, ByteArray.size_append, show (⟨#[97, 98, 99]⟩ : ByteArray).size = 3 from rfl, show (⟨#[88, 89, 90]⟩ : ByteArray).size = 3 from rfl, show (⟨#[61]⟩ : ByteArray).size = 1 from rfl] at *); omega)]; done)
                    rotate_left
                    ·simp only [Act.put, List.setIfInBounds_toArray, List.set_cons_zero, List.set_cons_succ, i64_w, i32_w]
                     rfl
                    refine last_ (i := 19) (N := some 88) #[true, true, true, true, true, true, true, true, true, true, true, true, true, true, true, true, true, true, true, true, false, false] rfl rfl (one_of HT_.out (by kernel_rfl)) (by decide) (fun K hK => ?_)
                    refine value_ (w1 := ?_) (v := ?_) (by rfl) rfl ?_ ?_
                    rotate_left 2
                    ·go_simp
                     constructor
                     ·rfl
                     ·rfl
                    refine hK.out _ _ ?_
                    clear hK K
                    refine norm_ (a' := ?_) ?_ ?_
                    rotate_left
                    ·show Act.put _ (some 88) _ = _
                     simp only [Act.put, List.setIfInBounds_toArray, List.set_cons_zero, List.set_cons_succ, i64_w, i32_w]
                     rfl
                    refine last_ (i := 20) (N := some 89) #[true, true, true, true, true, true, true, true, true, true, true, true, true, true, true, true, true, true, true, true, true, false] rfl rfl (one_of HT_.out (by kernel_rfl)) (by decide) (fun K hK => ?_)
                    refine Kd.S_append_step k89 (w0 := w) w.heap.size (by rfl) (.tmp 69) (.tmp 88) 31 89 (.agg #[(.string ⟨#[]⟩), (.string ⟨#[]⟩), (.slice none 0 0)]) 56 rfl Try.underlying31 info89 rfl (by decide) (by omega) u3 x3_4 (⟨t8014, t8015, y8020⟩ : S89) [.string t8014, .string t8015, .slice Ao50 y8020.length co50] (fun _ => True) (fun k_ => some k_ = (.slice Ao50 y8020.length co50 : Value).ownBlock) rfl rfl ?aP (fun k_ hk_ => ((Kd.R_mono (ok' := fun k_ => ((fun _ => True)) k_ ∧ some k_ ≠ (u3 : Value).ownBlock) (Kd.R_apart' (HO8022.out) (Kd.S_typed HO_3.out) (by decide)) (fun k_ hk => ⟨trivial, hk.2⟩))).1 k_ hk_.symm) ?aF ?aO ?aB ?aS ?aL ?_
                    (case aP => exact k89_mkM _ _ _ (⟨t8014, t8015, y8020⟩ : S89) (Kd.R_mono (Kd.R_tight rfl (Kd.R_mono (ok' := fun k_ => ((fun _ => True)) k_ ∧ some k_ ≠ (u3 : Value).ownBlock) (Kd.R_apart' (HO8022.out) (Kd.S_typed HO_3.out) (by decide)) (fun k_ hk => ⟨trivial, hk.2⟩))) (fun _ h_ => h_)))
                    (case aB => exact (by repeat (first | (with_reducible first | exact HB.out | apply below_alloc | apply pw_below_drewN | apply below_drew1 | refine below_set ?_ GE8001.out | refine below_set ?_ GE8016.out) | exact HB.out)))
                    (case aF => exact (fun _ _ => trivial))
                    (case aO => exact (by (with_reducible repeat (first | apply Kd.S_alloc | apply Kd.S_drewN | apply Kd.S_drew)); exact Kd.S_mono HO_3.out (fun k_ hk => ⟨trivial, fun e_ => hk.2 e_⟩)))
                    (case aS => exact (below_size (by repeat (first | (with_reducible first | exact HB.out | apply below_alloc | apply pw_below_drewN | apply below_drew1 | refine below_set ?_ GE8001.out | refine below_set ?_ GE8016.out) | exact HB.out))))
                    (case aL => have := LMc45.out; omega)
                    intro v8024 w51 ho hb hg hat
                    rw [← Ny8023.out] at ho
                    have n0_ := Aside0.mk (Kd.V_afterv (ok := (fun k_ => some k_ ≠ (.slice Ao50 y8020.length co50 : Value).ownBlock ∧ k_ ≠ gb8001 ∧ k_ ≠ gb8016)) (by (with_reducible repeat (first | apply Kd.V_alloc | apply Kd.V_drewN | apply Kd.V_drew)); exact Kd.V_mono HO_4.out (fun _ hk => ⟨⟨hk.2, ⟨hk.1.2.1, hk.1.2.2⟩⟩, hk.1.1⟩)) hg hat)
                    have n1_ := Aside0.mk (Kd.V_afterv (ok := (fun k_ => some k_ ≠ (.slice Ao50 y8020.length co50 : Value).ownBlock ∧ k_ ≠ gb8001 ∧ k_ ≠ gb8016)) (by (with_reducible repeat (first | apply Kd.V_alloc | apply Kd.V_drewN | apply Kd.V_drew)); exact Kd.V_mono HO_5.out (fun _ hk => ⟨⟨hk.2, ⟨hk.1.2.1, hk.1.2.2⟩⟩, hk.1.1⟩)) hg hat)
                    have n2_ := Aside0.mk (Kd.V_afterv (ok := (fun k_ => some k_ ≠ (.slice Ao50 y8020.length co50 : Value).ownBlock ∧ k_ ≠ gb8001 ∧ k_ ≠ gb8016)) (by (with_reducible repeat (first | apply Kd.V_alloc | apply Kd.V_drewN | apply Kd.V_drew)); exact Kd.V_mono HO_6.out (fun _ hk => ⟨⟨hk.2, ⟨hk.1.2.1, hk.1.2.2⟩⟩, hk.1.1⟩)) hg hat)
                    have n3_ := Aside0.mk (blk_grown (g := gb8001) (o := .cells #[.string a0_0, .string a0_1, .slice A0_2 l0_2.length c0_2, .slice A0_3 l0_3.length c0_3, .slice A0_4 l0_4.length c0_4, .slice A0_5 l0_5.length c0_5] 36 (0, 0)) (by (with_reducible repeat (first | refine blk_drewN ?_ _ | refine blk_drew ?_ | refine blk_alloc ?_ _)); exact BK8001.out) hg (Kd.S_ne HO_3.out BK8001.out (by decide)))
                    have n4_ := Aside0.mk (blk_grown (g := gb8016) (o := .cells #[.string t8014, .string t8015] 33 (0, 0)) (by (with_reducible repeat (first | refine blk_drewN ?_ _ | refine blk_drew ?_ | refine blk_alloc ?_ _)); exact BK8016.out) hg (Kd.S_ne HO_3.out BK8016.out (by decide)))
                    have n5_ := Aside0.mk (hb)
                    have n6_ := Aside0.mk (ho)
                    clear HO_4
                    clear HO_5
                    clear HO_6
                    clear BK8001
                    clear BK8016
                    clear HB
                    clear HO_3
                    clear HO8022
                    have HO_4 := n0_
                    have HO_5 := n1_
                    have HO_6 := n2_
                    have BK8001 := n3_
                    have BK8016 := n4_
                    have HB := n5_
                    have HO8025 := n6_
                    clear n0_ n1_ n2_ n3_ n4_ n5_ n6_
                    clear ho hb hg hat
                    refine hK.out _ _ ?_
                    clear hK K
                    refine norm_ (a' := ?_) ?_ ?_
                    rotate_left
                    ·show Act.put _ (some 89) _ = _
                     simp only [Act.put, List.setIfInBounds_toArray, List.set_cons_zero, List.set_cons_succ, i64_w, i32_w]
                     rfl
                    refine pure_ (i := 21) (N := some 3) (v := ?_) (a' := ?_) #[true, true, true, true, true, true, true, true, true, true, true, true, true, true, true, true, true, true, true, true, true, true] rfl rfl (any_of HT_.out (by kernel_rfl)) (fun _ _ _ h => h) (Or.inl ⟨by rfl, ?_⟩) ?_ ?_
                    rotate_left
                    ·intro w'
                     go_simp
                     first | with_reducible rfl | (rw [if_neg (by omega)]; done) | (rw [if_neg (by (try simp only [decide_eq_true_eq, decide_eq_false_iff_not, eq_iff_iff, iff_true, iff_false] at *); (try simp only [ByteArray.size_extract, ByteArray.size_append, show (⟨#[97, 98, 99]⟩ : ByteArray).size = 3 from rfl, show (⟨#[88, 89, 90]⟩ : ByteArray).size = 3 from rfl, show (⟨#[61]⟩ : ByteArray).size = 1 from rfl] at *); omega)]; done)
                    rotate_left
                    ·simp only [Act.put, List.setIfInBounds_toArray, List.set_cons_zero, List.set_cons_succ, i64_w, i32_w]
                     rfl
                    refine done_ (done_of HT_.out (by kernel_rfl)) ?_
                    try go_wp2
                    go_roundg k4
                    case measure => have := HJ5.out; have := HK2.out; have := HK3.out; have := HK4.out; omega
                    case rel => exact ⟨(y8023), (wrap64 (x10_4 + 1)), (by first | rfl | (simp; done) | (simp [*]; done)), H', ⟨by have := HJ5.out; have := HK2.out; have := HK3.out; have := HK4.out; omega⟩, ⟨by (with_reducible repeat (first | apply Kd.S_alloc | apply Kd.S_drewN | apply Kd.S_drew)); exact HO8025.out⟩, ⟨by (with_reducible repeat (first | apply Kd.V_alloc | apply Kd.V_drewN | apply Kd.V_drew)); exact Kd.V_mono HO_4.out (fun _ hk => ⟨hk.2, ⟨hk.1.2.1, hk.1.2.2⟩⟩)⟩, ⟨by (with_reducible repeat (first | apply Kd.V_alloc | apply Kd.V_drewN | apply Kd.V_drew)); exact Kd.V_mono HO_5.out (fun _ hk => ⟨hk.2, ⟨hk.1.2.1, hk.1.2.2⟩⟩)⟩, ⟨by (with_reducible repeat (first | apply Kd.V_alloc | apply Kd.V_drewN | apply Kd.V_drew)); exact Kd.V_mono HO_6.out (fun _ hk => ⟨hk.2, ⟨hk.1.2.1, hk.1.2.2⟩⟩)⟩, ⟨by (with_reducible repeat (first | refine blk_drewN ?_ _ | refine blk_drew ?_ | refine blk_alloc ?_ _)); exact BK8001.out⟩, ⟨by (with_reducible repeat (first | refine blk_drewN ?_ _ | refine blk_drew ?_ | refine blk_alloc ?_ _)); exact BK8016.out⟩, ⟨by repeat (first | (with_reducible first | exact HB.out | apply below_alloc | apply pw_below_drewN | apply below_drew1 | refine below_set ?_ GE8001.out | refine below_set ?_ GE8016.out) | exact HB.out)⟩⟩
                   ·rw [if_neg c45] at H
                    exact absurd H (by simp)
                  ·rw [if_neg c44] at H
                   exact absurd H (by simp)
                 ·rw [if_neg c43] at H
                  exact absurd H (by simp)
                ·rw [if_neg c42] at H
                 exact absurd H (by simp)
               ·rw [if_neg c41] at H
                exact absurd H (by simp)
              ·rw [if_neg c40] at H
               exact absurd H (by simp)
             ·rw [if_neg c39] at H
              have c39b0 : decide (x10_4 < (t8011.length : Int)) = false := decide_eq_false c39
              clear c39
              have H' := Aside0.mk H
              clear H
              obtain ⟨Ao52, co52, eo52⟩ := Kd.V_slice HO_6.out
              subst eo52
              go_wp2
              go_roundg k4
              case measure => have := HJ5.out; have := HK2.out; have := HK3.out; have := HK4.out; omega
              case rel => exact ⟨(x3_4), (wrap64 (x9_3 + 1)), (by first | rfl | (simp; done) | (simp [*]; done)), H', ⟨by have := HJ5.out; have := HK2.out; have := HK3.out; have := HK4.out; omega⟩, ⟨by (with_reducible repeat (first | apply Kd.S_alloc | apply Kd.S_drewN | apply Kd.S_drew)); exact HO_3.out⟩, ⟨by (with_reducible repeat (first | apply Kd.V_alloc | apply Kd.V_drewN | apply Kd.V_drew)); exact HO_4.out⟩, ⟨by (with_reducible repeat (first | apply Kd.V_alloc | apply Kd.V_drewN | apply Kd.V_drew)); exact HO_5.out⟩, ⟨by (with_reducible repeat (first | apply Kd.V_alloc | apply Kd.V_drewN | apply Kd.V_drew)); exact HO_6.out⟩, ⟨by (with_reducible repeat (first | refine blk_drewN ?_ _ | refine blk_drew ?_ | refine blk_alloc ?_ _)); exact BK8001.out⟩, ⟨by (with_reducible repeat (first | refine blk_drewN ?_ _ | refine blk_drew ?_ | refine blk_alloc ?_ _)); exact BK8016.out⟩, ⟨by repeat (first | (with_reducible first | exact HB.out | apply below_alloc | apply pw_below_drewN | apply below_drew1 | refine below_set ?_ GE8001.out | refine below_set ?_ GE8016.out) | exact HB.out)⟩⟩
          ·rw [if_neg c37] at H
           have c37b0 : decide (x9_3 < (t8008.length : Int)) = false := decide_eq_false c37
           clear c37
           have H' := Aside0.mk H
           clear H
           obtain ⟨Ao53, co53, eo53⟩ := Kd.V_slice HO_5.out
           subst eo53
           go_wp2
           go_roundg k3
           case measure => have := HJ5.out; have := HK2.out; have := HK3.out; omega
           case rel => exact ⟨(x3_3), (wrap64 (x8_2 + 1)), (by first | rfl | (simp; done) | (simp [*]; done)), H', ⟨by have := HJ5.out; have := HK2.out; have := HK3.out; omega⟩, ⟨by (with_reducible repeat (first | apply Kd.S_alloc | apply Kd.S_drewN | apply Kd.S_drew)); exact HO_3.out⟩, ⟨by (with_reducible repeat (first | apply Kd.V_alloc | apply Kd.V_drewN | apply Kd.V_drew)); exact HO_4.out⟩, ⟨by (with_reducible repeat (first | apply Kd.V_alloc | apply Kd.V_drewN | apply Kd.V_drew)); exact HO_5.out⟩, ⟨by (with_reducible repeat (first | apply Kd.V_alloc | apply Kd.V_drewN | apply Kd.V_drew)); exact HO_6.out⟩, ⟨by (with_reducible repeat (first | refine blk_drewN ?_ _ | refine blk_drew ?_ | refine blk_alloc ?_ _)); exact BK8001.out⟩, ⟨by (with_reducible repeat (first | refine blk_drewN ?_ _ | refine blk_drew ?_ | refine blk_alloc ?_ _)); exact BK8016.out⟩, ⟨by repeat (first | (with_reducible first | exact HB.out | apply below_alloc | apply pw_below_drewN | apply below_drew1 | refine below_set ?_ GE8001.out | refine below_set ?_ GE8016.out) | exact HB.out)⟩⟩
       ·rw [if_neg c35] at H
        have c35b0 : decide (x8_2 < (t8005.length : Int)) = false := decide_eq_false c35
        clear c35
        obtain rfl := Option.some.inj H
        obtain ⟨Ao54, co54, eo54⟩ := Kd.V_slice HO_4.out
        subst eo54
        go_wp2
        go_ret
        exact ⟨_, by first | rfl | (simp [errW_none, errW_some] <;> rfl) | (simp [*, errW_none, errW_some] <;> rfl), by (with_reducible repeat (first | apply Kd.S_alloc | apply Kd.S_drewN | apply Kd.S_drew)); exact HO_3.out, by repeat (first | (with_reducible first | exact HB.out | apply below_alloc | apply pw_below_drewN | apply below_drew1 | refine below_set ?_ GE8001.out | refine below_set ?_ GE8016.out) | exact HB.out)⟩
 ·rw [if_neg c2] at H
  have c2b0 : ((l0_5.length : Int) == 3) = false := beq_eq_false_iff_ne.mpr c2
  have c2b1 : ((l0_5.length : Int) != 3) = true := bne_iff_ne.mpr c2
  obtain rfl := Option.some.inj H
  go_enter Try.func8, Try.ntmps8
  go_wp2_with (first | ((with_reducible refine gate_dst (N := 1) rfl ?_); (try (refine gate_guard (by rfl) ?_; dsimp only)); refine box_event ?hg (N := 1) ?hd (cs := #[.string a0_0, .string a0_1, .slice A0_2 l0_2.length c0_2, .slice A0_3 l0_3.length c0_3, .slice A0_4 l0_4.length c0_4, .slice A0_5 l0_5.length c0_5]) (t := 36) ?hr ?_; (case hd => rfl); (case hg => rfl); (case hr => first | (go_simp; done) | (go_simp; rfl)); intro gb8001 hg w55 hbox hb; have n0_ := Aside0.mk (below_step (by repeat (first | (with_reducible first | exact HB.out | apply below_alloc | apply pw_below_drewN | apply below_drew1) | exact HB.out)) hb); have n1_ := Aside0.mk (hbox); have n2_ := Aside0.mk ((by rw [hg]; exact (below_size (by repeat (first | (with_reducible first | exact HB.out | apply below_alloc | apply pw_below_drewN | apply below_drew1) | exact HB.out))) : w.heap.size ≤ gb8001)); have n3_ := Aside0.mk ((by rw [hg]; exact (below_size (by repeat (first | (with_reducible first | exact HB.out | apply below_alloc | apply pw_below_drewN | apply below_drew1) | exact HB.out))) : w.heap.size ≤ gb8001)); clear HB; have HB := n0_; have BK8001 := n1_; have GW8001 := n2_; have GE8001 := n3_; clear n0_ n1_ n2_ n3_; clear hb hbox hg) | ((with_reducible refine gate_dst (N := 11) rfl ?_); (try (refine gate_guard (by rfl) ?_; dsimp only)); refine Kd.S_lit k89 _ 89 ?hg (N := 11) ?hd (xs := ([] : List (S89))) (inner := []) (ok := fun _ => True) (okp := fun _ => True) ?hr ?hp (fun _ hk => hk) trivial (Below.refl _ _) (Nat.le_refl _) (by simp) ?_; (case hd => rfl); (case hg => rfl); (case hr => first | (go_simp; done) | (go_simp; rfl)); (case hp => exact (Reps.none _ _)); intro v8003 w56 ho57 hb hg_ hnew_; clear hg_ hnew_; (first | rw [← Ny8002.out] at ho57 | (simp only [Int.reduceToNat] at ho57; rw [← Ny8002.out] at ho57)); have n0_ := Aside0.mk (Kd.S_lower ho57 (below_size (by repeat (first | (with_reducible first | exact HB.out | apply below_alloc | apply pw_below_drewN | apply below_drew1 | refine below_set ?_ GE8001.out) | exact HB.out)))); have n1_ := Aside0.mk (blk_below (g := gb8001) (o := .cells #[.string a0_0, .string a0_1, .slice A0_2 l0_2.length c0_2, .slice A0_3 l0_3.length c0_3, .slice A0_4 l0_4.length c0_4, .slice A0_5 l0_5.length c0_5] 36 (0, 0)) (by (with_reducible repeat (first | refine blk_drewN ?_ _ | refine blk_drew ?_ | refine blk_alloc ?_ _)); exact BK8001.out) hb); have n2_ := Aside0.mk (below_step (by repeat (first | (with_reducible first | exact HB.out | apply below_alloc | apply pw_below_drewN | apply below_drew1 | refine below_set ?_ GE8001.out) | exact HB.out)) hb); clear BK8001; clear HB; have HO8004 := n0_; have BK8001 := n1_; have HB := n2_; clear n0_ n1_ n2_; clear hb ho57; have hcz58_0 : w56.cell? ⟨gb8001, 0, none⟩ = some (.string a0_0) := (blk_cell BK8001.out 0).trans rfl; have hcz58_1 : w56.cell? ⟨gb8001, 1, none⟩ = some (.string a0_1) := (blk_cell BK8001.out 1).trans rfl; have hcz58_2 : w56.cell? ⟨gb8001, 2, none⟩ = some (.slice A0_2 l0_2.length c0_2) := (blk_cell BK8001.out 2).trans rfl; have hcz58_3 : w56.cell? ⟨gb8001, 3, none⟩ = some (.slice A0_3 l0_3.length c0_3) := (blk_cell BK8001.out 3).trans rfl; have hcz58_4 : w56.cell? ⟨gb8001, 4, none⟩ = some (.slice A0_4 l0_4.length c0_4) := (blk_cell BK8001.out 4).trans rfl; have hcz58_5 : w56.cell? ⟨gb8001, 5, none⟩ = some (.slice A0_5 l0_5.length c0_5) := (blk_cell BK8001.out 5).trans rfl; have hfz58_0 := blk_frozen BK8001.out 0; have hfz58_1 := blk_frozen BK8001.out 1; have hfz58_2 := blk_frozen BK8001.out 2; have hfz58_3 := blk_frozen BK8001.out 3; have hfz58_4 := blk_frozen BK8001.out 4; have hfz58_5 := blk_frozen BK8001.out 5))
  go_ret
  exact ⟨_, by first | rfl | (simp [errW_none, errW_some] <;> rfl) | (simp [*, errW_none, errW_some] <;> rfl), by (with_reducible repeat (first | apply Kd.S_alloc | apply Kd.S_drewN | apply Kd.S_drew)); exact HO8004.out, by repeat (first | (with_reducible first | exact HB.out | apply below_alloc | apply pw_below_drewN | apply below_drew1 | refine below_set ?_ GE8001.out) | exact HB.out)⟩
end Go.Proofs.Ytjmfpaalglbbhaa.A
-- EXT loop.example/g00582/laws.FnExactStartStates rounds making
namespace Go.Proofs.Ytjmfpaalglbbhaa.Ext
open Go.RowKit Go.Proofs.YtjmfpaalglbbhaaW.PrintWords Go.Proofs.YtjmfpaalglbbhaaW.PrintLast Go.Proofs.YtjmfpaalglbbhaaW.PrintMore Go.Proofs.Ytjmfpaalglbbhaa.A
theorem S_ap {W W2 : World} {base a b : Nat} {v : Value} {l : List (List Int)} {Q : Nat → Prop} (h : Kd.S kRw 25 W base (fun k => a ≤ k ∧ k < b) v l) (hk : Kept W W2 Q) (hq : ∀ k, Q k → (a ≤ k ∧ k < b) → False) : Kd.S kRw 25 W2 base (fun k => a ≤ k ∧ k < b) v l :=
 Kd.S_kept h hk (fun k hk hs => hq k hs hk)
theorem R_ap {W W2 : World} {base a b : Nat} {v : Value} {l : List Int} {Q : Nat → Prop} (h : Kd.R (Kd.int .i64) 3 W base (fun k => a ≤ k ∧ k < b) v l) (hk : Kept W W2 Q) (hq : ∀ k, Q k → (a ≤ k ∧ k < b) → False) : Kd.R (Kd.int .i64) 3 W2 base (fun k => a ≤ k ∧ k < b) v l :=
 Kd.R_kept h hk (fun k hk hs => hq k hs hk)
theorem S_apSt {W W2 : World} {base a b : Nat} {v : Value} {l : List SSt} {Q : Nat → Prop} (h : Kd.S kSt 89 W base (fun k => a ≤ k ∧ k < b) v l) (hk : Kept W W2 Q) (hq : ∀ k, Q k → (a ≤ k ∧ k < b) → False) : Kd.S kSt 89 W2 base (fun k => a ≤ k ∧ k < b) v l :=
 Kd.S_kept h hk (fun k hk hs => hq k hs hk)
theorem S_newSt {W W1 : World} {v : Value} {l : List SSt} {ok : Nat → Prop} (h : Kd.S kSt 89 W1 W.heap.size ok v l) : Kd.S kSt 89 W1 W.heap.size (fun k => W.heap.size ≤ k ∧ k < W1.heap.size) v l := Kd.S_mono (Kd.S_bound h) (fun _ hk => ⟨hk.2.1, hk.2.2.1⟩)
theorem heldSt (k : Nat) (A : Option Addr) (c n : Nat) (l : List SSt) (x r : Int) (w : World) (hn : n = l.length) (hr : Kd.C kSt w A l.length l) (hc : n ≤ c) (h : laws_heldStateS.f k l x = some r) :
  Calls Try.prog 15 #[.slice A n c, .int .i64 x] w fun e w' => e = .returned (.int .i64 r) ∧ Below w.heap.size w w' := by
 subst hn
 exact laws_heldStateS.calls k A c l x r w hr hc h
def laws_FnExactStartStates.f (k : Nat) (s0 s1 : ByteArray) (l0 : List (List Int)) (l1 : List Int) (l2 l3 : List (List Int)) : Option Bool :=
 (laws_szFrame.f k s0 s1 l0 l1 l2 l3 1048576).bind fun sz => if sz < 0 then some true else
 (laws_toFrame.f k s0 s1 l0 l1 l2 l3).bind fun x => (spec_StartStates.f k x.1 x.2.1 x.2.2.1 x.2.2.2.1 x.2.2.2.2.1 x.2.2.2.2.2).bind fun wr => (impl_StartStates.f k x.1 x.2.1 x.2.2.1 x.2.2.2.1 x.2.2.2.2.1 x.2.2.2.2.2).bind fun gr =>
 (laws_eqStateS.f k gr wr).bind fun e1 => (laws_eqFrame.f k x.1 x.2.1 x.2.2.1 x.2.2.2.1 x.2.2.2.2.1 x.2.2.2.2.2 x.1 x.2.1 x.2.2.1 x.2.2.2.1 x.2.2.2.2.1 x.2.2.2.2.2).bind fun e2 =>
 (laws_markFrame.f k x.1 x.2.1 x.2.2.1 x.2.2.2.1 x.2.2.2.2.1 x.2.2.2.2.2 1).bind fun mk => (laws_markStateS.f k gr 1).bind fun mg => (laws_heldStateS.f k mg.2 1).bind fun q =>
 if e1 = true ∧ e2 = true ∧ 0 ≤ mk.1 ∧ 0 ≤ mg.1 ∧ q = mg.1 then some true else some false
theorem laws_FnExactStartStates.calls (k : Nat) (s0 s1 : ByteArray) (A0 : Option Addr) (c0 : Nat) (l0 : List (List Int)) (A1 : Option Addr) (c1 : Nat) (l1 : List Int) (A2 : Option Addr) (c2 : Nat) (l2 : List (List Int)) (A3 : Option Addr) (c3 : Nat) (l3 : List (List Int)) (r : Bool) (w : World)
  (hr0 : Kd.C (Kd.slice 3 (Kd.int .i64)) w A0 l0.length l0) (hc0 : l0.length ≤ c0) (hr1 : Kd.C (Kd.int .i64) w A1 l1.length l1) (hc1 : l1.length ≤ c1) (hr2 : Kd.C (Kd.slice 3 (Kd.int .i64)) w A2 l2.length l2) (hc2 : l2.length ≤ c2) (hr3 : Kd.C (Kd.slice 3 (Kd.int .i64)) w A3 l3.length l3) (hc3 : l3.length ≤ c3)
  (h : laws_FnExactStartStates.f k s0 s1 l0 l1 l2 l3 = some r) (hr_ : r = true) :
  Calls Try.prog 3 #[.agg #[.string s0, .string s1, .slice A0 l0.length c0, .slice A1 l1.length c1, .slice A2 l2.length c2, .slice A3 l3.length c3]] w fun e w' => e = .returned (.bool r) ∧ Below w.heap.size w w' := by
 subst hr_
 have hu29 := Try.underlying29
 have hu36 := Try.underlying36
 have hu33 := Try.underlying33
 have hu34 := Try.underlying34
 have HR0 := Aside0.mk hr0
 have HC0 := Aside0.mk hc0
 have HR1 := Aside0.mk hr1
 have HC1 := Aside0.mk hc1
 have HR2 := Aside0.mk hr2
 have HC2 := Aside0.mk hc2
 have HR3 := Aside0.mk hr3
 have HC3 := Aside0.mk hc3
 have HB0 := Aside0.mk (Below.refl w.heap.size w)
 clear hr0 hc0 hr1 hc1 hr2 hc2 hr3 hc3
 unfold laws_FnExactStartStates.f at h
 obtain ⟨sz, g0, h⟩ := Option.bind_eq_some_iff.mp h
 have G0 := Aside0.mk g0
 clear g0
 by_cases hs : sz < 0
 ·have hs0 : decide (sz < 0) = true := decide_eq_true hs
  clear h hs
  go_enter Try.func3, Try.ntmps3
  go_wp2_with (first
  | ((with_reducible refine gate_dst (N := 1) rfl ?_); refine box_event ?hg (N := 1) ?hd (cs := #[.string s0, .string s1, .slice A0 l0.length c0, .slice A1 l1.length c1, .slice A2 l2.length c2, .slice A3 l3.length c3]) (t := 29) ?hr ?_; (case hd => rfl); (case hg => rfl); (case hr => first | (go_simp; done) | (go_simp; rfl)); intro gX hgX w1 hbX hb; have HB1 := Aside0.mk (below_step HB0.out hb); have BX1 := Aside0.mk hbX; clear hbX hb hgX; have hz1 : w1.cell? ⟨gX, 0, none⟩ = some (.string s0) := (blk_cell BX1.out 0).trans rfl; have hf1 := blk_frozen BX1.out 0; have hz2 : w1.cell? ⟨gX, 1, none⟩ = some (.string s1) := (blk_cell BX1.out 1).trans rfl; have hf2 := blk_frozen BX1.out 1; have hz3 : w1.cell? ⟨gX, 2, none⟩ = some (.slice A0 l0.length c0) := (blk_cell BX1.out 2).trans rfl; have hf3 := blk_frozen BX1.out 2; have hz4 : w1.cell? ⟨gX, 3, none⟩ = some (.slice A1 l1.length c1) := (blk_cell BX1.out 3).trans rfl; have hf4 := blk_frozen BX1.out 3; have hz5 : w1.cell? ⟨gX, 4, none⟩ = some (.slice A2 l2.length c2) := (blk_cell BX1.out 4).trans rfl; have hf5 := blk_frozen BX1.out 4; have hz6 : w1.cell? ⟨gX, 5, none⟩ = some (.slice A3 l3.length c3) := (blk_cell BX1.out 5).trans rfl; have hf6 := blk_frozen BX1.out 5)
  | (go_at_call 7; (with_reducible refine (laws_szFrame.calls k s0 s1 _ _ l0 _ _ l1 _ _ l2 _ _ l3 1048576 sz _ ?s1 ?s2 ?s3 ?s4 ?s5 ?s6 ?s7 ?s8 G0.out).mono ?_); (case s1 => exact Kd.C_below HR0.out HB1.out); (case s2 => exact HC0.out); (case s3 => exact Kd.C_below HR1.out HB1.out); (case s4 => exact HC1.out); (case s5 => exact Kd.C_below HR2.out HB1.out); (case s6 => exact HC2.out); (case s7 => exact Kd.C_below HR3.out HB1.out); (case s8 => exact HC3.out); rintro e w2 ⟨rfl, hb⟩; have HB2 := Aside0.mk (below_step HB1.out hb); have BX2 := Aside0.mk (blk_below BX1.out hb); clear hb HB1 BX1; have hz7 : w2.cell? ⟨gX, 0, none⟩ = some (.string s0) := (blk_cell BX2.out 0).trans rfl; have hf7 := blk_frozen BX2.out 0; have hz8 : w2.cell? ⟨gX, 1, none⟩ = some (.string s1) := (blk_cell BX2.out 1).trans rfl; have hf8 := blk_frozen BX2.out 1; have hz9 : w2.cell? ⟨gX, 2, none⟩ = some (.slice A0 l0.length c0) := (blk_cell BX2.out 2).trans rfl; have hf9 := blk_frozen BX2.out 2; have hz10 : w2.cell? ⟨gX, 3, none⟩ = some (.slice A1 l1.length c1) := (blk_cell BX2.out 3).trans rfl; have hf10 := blk_frozen BX2.out 3; have hz11 : w2.cell? ⟨gX, 4, none⟩ = some (.slice A2 l2.length c2) := (blk_cell BX2.out 4).trans rfl; have hf11 := blk_frozen BX2.out 4; have hz12 : w2.cell? ⟨gX, 5, none⟩ = some (.slice A3 l3.length c3) := (blk_cell BX2.out 5).trans rfl; have hf12 := blk_frozen BX2.out 5)
  | (go_at_call 9; (with_reducible refine (laws_toFrame.calls k s0 s1 _ _ l0 _ _ l1 _ _ l2 _ _ l3 q0 q1 m0 m1 m2 m3 _ ?s1 ?s2 ?s3 ?s4 ?s5 ?s6 ?s7 ?s8 G1.out).mono ?_); (case s1 => exact Kd.C_below HR0.out HB2.out); (case s2 => exact HC0.out); (case s3 => exact Kd.C_below HR1.out HB2.out); (case s4 => exact HC1.out); (case s5 => exact Kd.C_below HR2.out HB2.out); (case s6 => exact HC2.out); (case s7 => exact Kd.C_below HR3.out HB2.out); (case s8 => exact HC3.out); rintro e w3 ⟨u0, u1, u2, u3, rfl, j0, j1, j2, j3, hb⟩; have HB3 := Aside0.mk (below_step HB2.out hb); have BX3 := Aside0.mk (blk_below BX2.out hb); clear hb HB2 BX2; obtain ⟨Y0, y0, e0⟩ := Kd.S_slice j0; subst e0; have D0 := Aside0.mk (Kd.S_reads' j0).2.2; have E0 := Aside0.mk (Kd.S_reads' j0).2.1; obtain ⟨Y1, y1, e1⟩ := Kd.R_slice j1; subst e1; have D1 := Aside0.mk (Kd.R_reads' j1).2.2; have E1 := Aside0.mk (Kd.R_reads' j1).2.1; obtain ⟨Y2, y2, e2⟩ := Kd.S_slice j2; subst e2; have D2 := Aside0.mk (Kd.S_reads' j2).2.2; have E2 := Aside0.mk (Kd.S_reads' j2).2.1; obtain ⟨Y3, y3, e3⟩ := Kd.S_slice j3; subst e3; have D3 := Aside0.mk (Kd.S_reads' j3).2.2; have E3 := Aside0.mk (Kd.S_reads' j3).2.1; clear j0 j1 j2 j3)
  | (go_at_call 8; (with_reducible refine (spec_StartStates.calls k q0 q1 _ _ m0 _ _ m1 _ _ m2 _ _ m3 wr_ _ ?s1 ?s2 ?s3 ?s4 ?s5 ?s6 ?s7 ?s8 G2.out).mono ?_); (case s1 => exact D0.out); (case s2 => exact E0.out); (case s3 => exact D1.out); (case s4 => exact E1.out); (case s5 => exact D2.out); (case s6 => exact E2.out); (case s7 => exact D3.out); (case s8 => exact E3.out); rintro e w4 ⟨uw, rfl, jw, hb⟩; have HB4 := Aside0.mk (below_step HB3.out hb); have BX4 := Aside0.mk (blk_below BX3.out hb); have SW4 := Aside0.mk (S_newSt jw); obtain ⟨AW, cW, eW⟩ := Kd.S_slice SW4.out; subst eW; have ZX := Aside0.mk (show gX < w4.heap.size from blk_lt BX4.out); have L4 := Aside0.mk (show w.heap.size ≤ w4.heap.size from HB4.out.size); clear hb jw HB3 BX3 D0 D1 D2 D3 E0 E1 E2 E3; have hz13 : w4.cell? ⟨gX, 0, none⟩ = some (.string s0) := (blk_cell BX4.out 0).trans rfl; have hf13 := blk_frozen BX4.out 0; have hz14 : w4.cell? ⟨gX, 1, none⟩ = some (.string s1) := (blk_cell BX4.out 1).trans rfl; have hf14 := blk_frozen BX4.out 1; have hz15 : w4.cell? ⟨gX, 2, none⟩ = some (.slice A0 l0.length c0) := (blk_cell BX4.out 2).trans rfl; have hf15 := blk_frozen BX4.out 2; have hz16 : w4.cell? ⟨gX, 3, none⟩ = some (.slice A1 l1.length c1) := (blk_cell BX4.out 3).trans rfl; have hf16 := blk_frozen BX4.out 3; have hz17 : w4.cell? ⟨gX, 4, none⟩ = some (.slice A2 l2.length c2) := (blk_cell BX4.out 4).trans rfl; have hf17 := blk_frozen BX4.out 4; have hz18 : w4.cell? ⟨gX, 5, none⟩ = some (.slice A3 l3.length c3) := (blk_cell BX4.out 5).trans rfl; have hf18 := blk_frozen BX4.out 5)
  | (go_at_call 9; (with_reducible refine (toFrame_apart k s0 s1 _ _ l0 _ _ l1 _ _ l2 _ _ l3 q0 q1 m0 m1 m2 m3 _ ?s1 ?s2 ?s3 ?s4 ?s5 ?s6 ?s7 ?s8 G1.out).mono ?_); (case s1 => exact Kd.C_below HR0.out HB4.out); (case s2 => exact HC0.out); (case s3 => exact Kd.C_below HR1.out HB4.out); (case s4 => exact HC1.out); (case s5 => exact Kd.C_below HR2.out HB4.out); (case s6 => exact HC2.out); (case s7 => exact Kd.C_below HR3.out HB4.out); (case s8 => exact HC3.out); rintro e w5 ⟨u0, u1, u2, u3, a0, a1, a2, a3, a4, rfl, j0, j1, j2, j3, hiv, hb⟩; have HB5 := Aside0.mk (below_step HB4.out hb); have BX5 := Aside0.mk (blk_below BX4.out hb); have SW5 := Aside0.mk (Kd.S_below SW4.out hb); have IV := Aside0.mk hiv; obtain ⟨X0, d0, e0⟩ := Kd.S_slice j0; subst e0; have SX05 := Aside0.mk j0; obtain ⟨X1, d1, e1⟩ := Kd.R_slice j1; subst e1; have SX15 := Aside0.mk j1; obtain ⟨X2, d2, e2⟩ := Kd.S_slice j2; subst e2; have SX25 := Aside0.mk j2; obtain ⟨X3, d3, e3⟩ := Kd.S_slice j3; subst e3; have SX35 := Aside0.mk j3; clear j0 j1 j2 j3 hiv hb HB4 BX4 SW4)
  | ((with_reducible refine gate_dst (N := 5) rfl ?_); refine box_event ?hg (N := 5) ?hd (cs := #[.string (⟨#[]⟩ : ByteArray), .string (⟨#[]⟩ : ByteArray), .slice none 0 0, .slice none 0 0, .slice none 0 0, .slice none 0 0]) (t := 36) ?hr ?_; (case hd => rfl); (case hg => rfl); (case hr => first | (go_simp; done) | (go_simp; rfl)); intro gY hgY w6 hbY hb; have HB6 := Aside0.mk (below_step HB5.out hb); have BX6 := Aside0.mk (blk_below BX5.out hb); have SW6 := Aside0.mk (Kd.S_below SW5.out hb); have SX06 := Aside0.mk (Kd.S_below SX05.out hb); have SX16 := Aside0.mk (Kd.R_below SX15.out hb); have SX26 := Aside0.mk (Kd.S_below SX25.out hb); have SX36 := Aside0.mk (Kd.S_below SX35.out hb); have BY6 := Aside0.mk hbY; have GY := Aside0.mk (show w5.heap.size ≤ gY by rw [hgY]; exact Nat.le_refl _); have GW := Aside0.mk (show w.heap.size ≤ gY by rw [hgY]; exact below_size HB5.out); have NXY := Aside0.mk (show gX ≠ gY by rw [hgY]; exact Nat.ne_of_lt (blk_lt BX5.out)); have LY := Aside0.mk (show gY < w6.heap.size from blk_lt hbY); clear hbY hb hgY HB5 BX5 SW5 SX05 SX15 SX25 SX35; have hz19 : w6.cell? ⟨gY, 0, none⟩ = some (.string (⟨#[]⟩ : ByteArray)) := (blk_cell BY6.out 0).trans rfl; have hf19 := blk_frozen BY6.out 0; have hz20 : w6.cell? ⟨gY, 1, none⟩ = some (.string (⟨#[]⟩ : ByteArray)) := (blk_cell BY6.out 1).trans rfl; have hf20 := blk_frozen BY6.out 1; have hz21 : w6.cell? ⟨gY, 2, none⟩ = some (.slice none 0 0) := (blk_cell BY6.out 2).trans rfl; have hf21 := blk_frozen BY6.out 2; have hz22 : w6.cell? ⟨gY, 3, none⟩ = some (.slice none 0 0) := (blk_cell BY6.out 3).trans rfl; have hf22 := blk_frozen BY6.out 3; have hz23 : w6.cell? ⟨gY, 4, none⟩ = some (.slice none 0 0) := (blk_cell BY6.out 4).trans rfl; have hf23 := blk_frozen BY6.out 4; have hz24 : w6.cell? ⟨gY, 5, none⟩ = some (.slice none 0 0) := (blk_cell BY6.out 5).trans rfl; have hf24 := blk_frozen BY6.out 5; have hnb := NXY.out)
  | (go_at_call 10; have KS := (Kept.setCell (Kept.setCell (Kept.setCell (Kept.setCell (Kept.setCell (Kept.setCell (Kept.refl w6 (fun k => k = gY)) (p := ⟨gY, 0, none⟩) (.inl rfl) (.string q0)) (p := ⟨gY, 1, none⟩) (.inl rfl) (.string q1)) (p := ⟨gY, 2, none⟩) (.inl rfl) (.slice X0 m0.length d0)) (p := ⟨gY, 3, none⟩) (.inl rfl) (.slice X1 m1.length d1)) (p := ⟨gY, 4, none⟩) (.inl rfl) (.slice X2 m2.length d2)) (p := ⟨gY, 5, none⟩) (.inl rfl) (.slice X3 m3.length d3)); (with_reducible refine (impl_StartStates.calls k q0 q1 _ _ m0 _ _ m1 _ _ m2 (fun k_ => a3 ≤ k_ ∧ k_ < a4) _ _ m3 gr_ _ ?s1 ?s2 ?s3 ?s4 ?s5 ?s6 ?s7 G3.out).mono ?_); (case s1 => exact (Kd.S_reads' (S_ap SX06.out KS (fun k h h2 => by have := IV.out; have := GY.out; have := LY.out; omega))).2.2); (case s2 => exact (Kd.S_reads' SX06.out).2.1); (case s3 => exact (Kd.R_reads' (R_ap SX16.out KS (fun k h h2 => by have := IV.out; have := GY.out; have := LY.out; omega))).2.2); (case s4 => exact (Kd.R_reads' SX16.out).2.1); (case s5 => exact (Kd.S_reads' (S_ap SX26.out KS (fun k h h2 => by have := IV.out; have := GY.out; have := LY.out; omega))).2.2); (case s6 => exact (Kd.S_reads' SX26.out).2.1); (case s7 => exact Kd.S_V (S_ap SX36.out KS (fun k h h2 => by have := IV.out; have := GY.out; have := LY.out; omega))); rintro e w7 ⟨ug, rfl, jg, hb⟩; have HB7 := Aside0.mk (below_step (below_set (below_set (below_set (below_set (below_set (below_set HB6.out GW.out) GW.out) GW.out) GW.out) GW.out) GW.out) hb); have BX7 := Aside0.mk (blk_below (blk_far (blk_far (blk_far (blk_far (blk_far (blk_far BX6.out NXY.out _) NXY.out _) NXY.out _) NXY.out _) NXY.out _) NXY.out _) hb); have BY7 := Aside0.mk (blk_below (blk_put (cs := #[.string q0, .string q1, .slice X0 m0.length d0, .slice X1 m1.length d1, .slice X2 m2.length d2, .slice none 0 0]) (blk_put (cs := #[.string q0, .string q1, .slice X0 m0.length d0, .slice X1 m1.length d1, .slice none 0 0, .slice none 0 0]) (blk_put (cs := #[.string q0, .string q1, .slice X0 m0.length d0, .slice none 0 0, .slice none 0 0, .slice none 0 0]) (blk_put (cs := #[.string q0, .string q1, .slice none 0 0, .slice none 0 0, .slice none 0 0, .slice none 0 0]) (blk_put (cs := #[.string q0, .string (⟨#[]⟩ : ByteArray), .slice none 0 0, .slice none 0 0, .slice none 0 0, .slice none 0 0]) (blk_put (cs := #[.string (⟨#[]⟩ : ByteArray), .string (⟨#[]⟩ : ByteArray), .slice none 0 0, .slice none 0 0, .slice none 0 0, .slice none 0 0]) BY6.out 0 (.string q0) rfl) 1 (.string q1) rfl) 2 (.slice X0 m0.length d0) rfl) 3 (.slice X1 m1.length d1) rfl) 4 (.slice X2 m2.length d2) rfl) 5 (.slice X3 m3.length d3) rfl) hb); have SG7 := Aside0.mk (S_newSt jg); have SW7 := Aside0.mk (Kd.S_below (S_apSt SW6.out KS (fun k h h2 => by have := IV.out; have := GY.out; have := LY.out; omega)) hb); have SX07 := Aside0.mk (Kd.S_below (S_ap SX06.out KS (fun k h h2 => by have := IV.out; have := GY.out; have := LY.out; omega)) hb); have SX17 := Aside0.mk (Kd.R_below (R_ap SX16.out KS (fun k h h2 => by have := IV.out; have := GY.out; have := LY.out; omega)) hb); have SX27 := Aside0.mk (Kd.S_below (S_ap SX26.out KS (fun k h h2 => by have := IV.out; have := GY.out; have := LY.out; omega)) hb); have SX37 := Aside0.mk (Kd.S_below (S_ap SX36.out KS (fun k h h2 => by have := IV.out; have := GY.out; have := LY.out; omega)) hb); simp only [World.size_setCell] at SG7; obtain ⟨AG, cG, eG⟩ := Kd.S_slice SG7.out; subst eG; have L6 := Aside0.mk (show w.heap.size ≤ w6.heap.size from HB6.out.size); clear hb jg KS HB6 BX6 BY6 SW6 SX06 SX16 SX26 SX36; have hz25 : w7.cell? ⟨gX, 0, none⟩ = some (.string s0) := (blk_cell BX7.out 0).trans rfl; have hf25 := blk_frozen BX7.out 0; have hz26 : w7.cell? ⟨gX, 1, none⟩ = some (.string s1) := (blk_cell BX7.out 1).trans rfl; have hf26 := blk_frozen BX7.out 1; have hz27 : w7.cell? ⟨gX, 2, none⟩ = some (.slice A0 l0.length c0) := (blk_cell BX7.out 2).trans rfl; have hf27 := blk_frozen BX7.out 2; have hz28 : w7.cell? ⟨gX, 3, none⟩ = some (.slice A1 l1.length c1) := (blk_cell BX7.out 3).trans rfl; have hf28 := blk_frozen BX7.out 3; have hz29 : w7.cell? ⟨gX, 4, none⟩ = some (.slice A2 l2.length c2) := (blk_cell BX7.out 4).trans rfl; have hf29 := blk_frozen BX7.out 4; have hz30 : w7.cell? ⟨gX, 5, none⟩ = some (.slice A3 l3.length c3) := (blk_cell BX7.out 5).trans rfl; have hf30 := blk_frozen BX7.out 5; have hz31 : w7.cell? ⟨gY, 0, none⟩ = some (.string q0) := (blk_cell BY7.out 0).trans rfl; have hf31 := blk_frozen BY7.out 0; have hz32 : w7.cell? ⟨gY, 1, none⟩ = some (.string q1) := (blk_cell BY7.out 1).trans rfl; have hf32 := blk_frozen BY7.out 1; have hz33 : w7.cell? ⟨gY, 2, none⟩ = some (.slice X0 m0.length d0) := (blk_cell BY7.out 2).trans rfl; have hf33 := blk_frozen BY7.out 2; have hz34 : w7.cell? ⟨gY, 3, none⟩ = some (.slice X1 m1.length d1) := (blk_cell BY7.out 3).trans rfl; have hf34 := blk_frozen BY7.out 3; have hz35 : w7.cell? ⟨gY, 4, none⟩ = some (.slice X2 m2.length d2) := (blk_cell BY7.out 4).trans rfl; have hf35 := blk_frozen BY7.out 4; have hz36 : w7.cell? ⟨gY, 5, none⟩ = some (.slice X3 m3.length d3) := (blk_cell BY7.out 5).trans rfl; have hf36 := blk_frozen BY7.out 5)
  | (go_at_call 11; (with_reducible refine (laws_eqStateS.calls k _ _ gr_ _ _ wr_ true _ ?s1 ?s2 ?s3 ?s4 G4.out).mono ?_); (case s1 => exact (Kd.S_reads' SG7.out).2.2); (case s2 => exact (Kd.S_reads' SG7.out).2.1); (case s3 => exact (Kd.S_reads' SW7.out).2.2); (case s4 => exact (Kd.S_reads' SW7.out).2.1); rintro e w8 ⟨rfl, hb⟩; have HB8 := Aside0.mk (below_step HB7.out hb); have BX8 := Aside0.mk (blk_below BX7.out hb); have BY8 := Aside0.mk (blk_below BY7.out hb); have SW8 := Aside0.mk (Kd.S_below SW7.out hb); have SG8 := Aside0.mk (Kd.S_below SG7.out hb); have SX08 := Aside0.mk (Kd.S_below SX07.out hb); have SX18 := Aside0.mk (Kd.R_below SX17.out hb); have SX28 := Aside0.mk (Kd.S_below SX27.out hb); have SX38 := Aside0.mk (Kd.S_below SX37.out hb); clear HB7 BX7 BY7 SW7 SG7 SX07 SX17 SX27 SX37; clear hb; have hz37 : w8.cell? ⟨gX, 0, none⟩ = some (.string s0) := (blk_cell BX8.out 0).trans rfl; have hf37 := blk_frozen BX8.out 0; have hz38 : w8.cell? ⟨gX, 1, none⟩ = some (.string s1) := (blk_cell BX8.out 1).trans rfl; have hf38 := blk_frozen BX8.out 1; have hz39 : w8.cell? ⟨gX, 2, none⟩ = some (.slice A0 l0.length c0) := (blk_cell BX8.out 2).trans rfl; have hf39 := blk_frozen BX8.out 2; have hz40 : w8.cell? ⟨gX, 3, none⟩ = some (.slice A1 l1.length c1) := (blk_cell BX8.out 3).trans rfl; have hf40 := blk_frozen BX8.out 3; have hz41 : w8.cell? ⟨gX, 4, none⟩ = some (.slice A2 l2.length c2) := (blk_cell BX8.out 4).trans rfl; have hf41 := blk_frozen BX8.out 4; have hz42 : w8.cell? ⟨gX, 5, none⟩ = some (.slice A3 l3.length c3) := (blk_cell BX8.out 5).trans rfl; have hf42 := blk_frozen BX8.out 5; have hz43 : w8.cell? ⟨gY, 0, none⟩ = some (.string q0) := (blk_cell BY8.out 0).trans rfl; have hf43 := blk_frozen BY8.out 0; have hz44 : w8.cell? ⟨gY, 1, none⟩ = some (.string q1) := (blk_cell BY8.out 1).trans rfl; have hf44 := blk_frozen BY8.out 1; have hz45 : w8.cell? ⟨gY, 2, none⟩ = some (.slice X0 m0.length d0) := (blk_cell BY8.out 2).trans rfl; have hf45 := blk_frozen BY8.out 2; have hz46 : w8.cell? ⟨gY, 3, none⟩ = some (.slice X1 m1.length d1) := (blk_cell BY8.out 3).trans rfl; have hf46 := blk_frozen BY8.out 3; have hz47 : w8.cell? ⟨gY, 4, none⟩ = some (.slice X2 m2.length d2) := (blk_cell BY8.out 4).trans rfl; have hf47 := blk_frozen BY8.out 4; have hz48 : w8.cell? ⟨gY, 5, none⟩ = some (.slice X3 m3.length d3) := (blk_cell BY8.out 5).trans rfl; have hf48 := blk_frozen BY8.out 5))
  go_ret
  exact ⟨rfl, HB2.out⟩
 ·have hs0 : decide (sz < 0) = false := decide_eq_false hs
  rw [if_neg hs] at h
  clear hs
  obtain ⟨⟨q0, q1, m0, m1, m2, m3⟩, g1, h⟩ := Option.bind_eq_some_iff.mp h
  obtain ⟨wr_, g2, h⟩ := Option.bind_eq_some_iff.mp h
  obtain ⟨gr_, g3, h⟩ := Option.bind_eq_some_iff.mp h
  obtain ⟨e1_, g4, h⟩ := Option.bind_eq_some_iff.mp h
  obtain ⟨e2_, g5, h⟩ := Option.bind_eq_some_iff.mp h
  obtain ⟨⟨mk_, n0, n1, n2, n3⟩, g6, h⟩ := Option.bind_eq_some_iff.mp h
  obtain ⟨⟨mg_, gm_⟩, g7, h⟩ := Option.bind_eq_some_iff.mp h
  obtain ⟨q_, g8, h⟩ := Option.bind_eq_some_iff.mp h
  dsimp only at g2 g3 g4 g5 g6 g7 g8 h
  by_cases hh : e1_ = true ∧ e2_ = true ∧ 0 ≤ mk_ ∧ 0 ≤ mg_ ∧ q_ = mg_
  ·obtain ⟨rfl, rfl, hm, hg, rfl⟩ := hh
   have hm0 : decide (mk_ < 0) = false := decide_eq_false (by omega)
   have hg0 : decide (q_ < 0) = false := decide_eq_false (by omega)
   have hg1 : (q_ != q_) = false := by simp
   clear h hm hg
   have G1 := Aside0.mk g1
   have G2 := Aside0.mk g2
   have G3 := Aside0.mk g3
   have G4 := Aside0.mk g4
   have G5 := Aside0.mk g5
   have G6 := Aside0.mk g6
   have G7 := Aside0.mk g7
   have G8 := Aside0.mk g8
   clear g1 g2 g3 g4 g5 g6 g7 g8
   go_enter Try.func3, Try.ntmps3
   go_wp2_with (first
  | ((with_reducible refine gate_dst (N := 1) rfl ?_); refine box_event ?hg (N := 1) ?hd (cs := #[.string s0, .string s1, .slice A0 l0.length c0, .slice A1 l1.length c1, .slice A2 l2.length c2, .slice A3 l3.length c3]) (t := 29) ?hr ?_; (case hd => rfl); (case hg => rfl); (case hr => first | (go_simp; done) | (go_simp; rfl)); intro gX hgX w1 hbX hb; have HB1 := Aside0.mk (below_step HB0.out hb); have BX1 := Aside0.mk hbX; clear hbX hb hgX; have hz1 : w1.cell? ⟨gX, 0, none⟩ = some (.string s0) := (blk_cell BX1.out 0).trans rfl; have hf1 := blk_frozen BX1.out 0; have hz2 : w1.cell? ⟨gX, 1, none⟩ = some (.string s1) := (blk_cell BX1.out 1).trans rfl; have hf2 := blk_frozen BX1.out 1; have hz3 : w1.cell? ⟨gX, 2, none⟩ = some (.slice A0 l0.length c0) := (blk_cell BX1.out 2).trans rfl; have hf3 := blk_frozen BX1.out 2; have hz4 : w1.cell? ⟨gX, 3, none⟩ = some (.slice A1 l1.length c1) := (blk_cell BX1.out 3).trans rfl; have hf4 := blk_frozen BX1.out 3; have hz5 : w1.cell? ⟨gX, 4, none⟩ = some (.slice A2 l2.length c2) := (blk_cell BX1.out 4).trans rfl; have hf5 := blk_frozen BX1.out 4; have hz6 : w1.cell? ⟨gX, 5, none⟩ = some (.slice A3 l3.length c3) := (blk_cell BX1.out 5).trans rfl; have hf6 := blk_frozen BX1.out 5)
  | (go_at_call 7; (with_reducible refine (laws_szFrame.calls k s0 s1 _ _ l0 _ _ l1 _ _ l2 _ _ l3 1048576 sz _ ?s1 ?s2 ?s3 ?s4 ?s5 ?s6 ?s7 ?s8 G0.out).mono ?_); (case s1 => exact Kd.C_below HR0.out HB1.out); (case s2 => exact HC0.out); (case s3 => exact Kd.C_below HR1.out HB1.out); (case s4 => exact HC1.out); (case s5 => exact Kd.C_below HR2.out HB1.out); (case s6 => exact HC2.out); (case s7 => exact Kd.C_below HR3.out HB1.out); (case s8 => exact HC3.out); rintro e w2 ⟨rfl, hb⟩; have HB2 := Aside0.mk (below_step HB1.out hb); have BX2 := Aside0.mk (blk_below BX1.out hb); clear hb HB1 BX1; have hz7 : w2.cell? ⟨gX, 0, none⟩ = some (.string s0) := (blk_cell BX2.out 0).trans rfl; have hf7 := blk_frozen BX2.out 0; have hz8 : w2.cell? ⟨gX, 1, none⟩ = some (.string s1) := (blk_cell BX2.out 1).trans rfl; have hf8 := blk_frozen BX2.out 1; have hz9 : w2.cell? ⟨gX, 2, none⟩ = some (.slice A0 l0.length c0) := (blk_cell BX2.out 2).trans rfl; have hf9 := blk_frozen BX2.out 2; have hz10 : w2.cell? ⟨gX, 3, none⟩ = some (.slice A1 l1.length c1) := (blk_cell BX2.out 3).trans rfl; have hf10 := blk_frozen BX2.out 3; have hz11 : w2.cell? ⟨gX, 4, none⟩ = some (.slice A2 l2.length c2) := (blk_cell BX2.out 4).trans rfl; have hf11 := blk_frozen BX2.out 4; have hz12 : w2.cell? ⟨gX, 5, none⟩ = some (.slice A3 l3.length c3) := (blk_cell BX2.out 5).trans rfl; have hf12 := blk_frozen BX2.out 5)
  | (go_at_call 9; (with_reducible refine (laws_toFrame.calls k s0 s1 _ _ l0 _ _ l1 _ _ l2 _ _ l3 q0 q1 m0 m1 m2 m3 _ ?s1 ?s2 ?s3 ?s4 ?s5 ?s6 ?s7 ?s8 G1.out).mono ?_); (case s1 => exact Kd.C_below HR0.out HB2.out); (case s2 => exact HC0.out); (case s3 => exact Kd.C_below HR1.out HB2.out); (case s4 => exact HC1.out); (case s5 => exact Kd.C_below HR2.out HB2.out); (case s6 => exact HC2.out); (case s7 => exact Kd.C_below HR3.out HB2.out); (case s8 => exact HC3.out); rintro e w3 ⟨u0, u1, u2, u3, rfl, j0, j1, j2, j3, hb⟩; have HB3 := Aside0.mk (below_step HB2.out hb); have BX3 := Aside0.mk (blk_below BX2.out hb); clear hb HB2 BX2; obtain ⟨Y0, y0, e0⟩ := Kd.S_slice j0; subst e0; have D0 := Aside0.mk (Kd.S_reads' j0).2.2; have E0 := Aside0.mk (Kd.S_reads' j0).2.1; obtain ⟨Y1, y1, e1⟩ := Kd.R_slice j1; subst e1; have D1 := Aside0.mk (Kd.R_reads' j1).2.2; have E1 := Aside0.mk (Kd.R_reads' j1).2.1; obtain ⟨Y2, y2, e2⟩ := Kd.S_slice j2; subst e2; have D2 := Aside0.mk (Kd.S_reads' j2).2.2; have E2 := Aside0.mk (Kd.S_reads' j2).2.1; obtain ⟨Y3, y3, e3⟩ := Kd.S_slice j3; subst e3; have D3 := Aside0.mk (Kd.S_reads' j3).2.2; have E3 := Aside0.mk (Kd.S_reads' j3).2.1; clear j0 j1 j2 j3)
  | (go_at_call 8; (with_reducible refine (spec_StartStates.calls k q0 q1 _ _ m0 _ _ m1 _ _ m2 _ _ m3 wr_ _ ?s1 ?s2 ?s3 ?s4 ?s5 ?s6 ?s7 ?s8 G2.out).mono ?_); (case s1 => exact D0.out); (case s2 => exact E0.out); (case s3 => exact D1.out); (case s4 => exact E1.out); (case s5 => exact D2.out); (case s6 => exact E2.out); (case s7 => exact D3.out); (case s8 => exact E3.out); rintro e w4 ⟨uw, rfl, jw, hb⟩; have HB4 := Aside0.mk (below_step HB3.out hb); have BX4 := Aside0.mk (blk_below BX3.out hb); have SW4 := Aside0.mk (S_newSt jw); obtain ⟨AW, cW, eW⟩ := Kd.S_slice SW4.out; subst eW; have ZX := Aside0.mk (show gX < w4.heap.size from blk_lt BX4.out); have L4 := Aside0.mk (show w.heap.size ≤ w4.heap.size from HB4.out.size); clear hb jw HB3 BX3 D0 D1 D2 D3 E0 E1 E2 E3; have hz13 : w4.cell? ⟨gX, 0, none⟩ = some (.string s0) := (blk_cell BX4.out 0).trans rfl; have hf13 := blk_frozen BX4.out 0; have hz14 : w4.cell? ⟨gX, 1, none⟩ = some (.string s1) := (blk_cell BX4.out 1).trans rfl; have hf14 := blk_frozen BX4.out 1; have hz15 : w4.cell? ⟨gX, 2, none⟩ = some (.slice A0 l0.length c0) := (blk_cell BX4.out 2).trans rfl; have hf15 := blk_frozen BX4.out 2; have hz16 : w4.cell? ⟨gX, 3, none⟩ = some (.slice A1 l1.length c1) := (blk_cell BX4.out 3).trans rfl; have hf16 := blk_frozen BX4.out 3; have hz17 : w4.cell? ⟨gX, 4, none⟩ = some (.slice A2 l2.length c2) := (blk_cell BX4.out 4).trans rfl; have hf17 := blk_frozen BX4.out 4; have hz18 : w4.cell? ⟨gX, 5, none⟩ = some (.slice A3 l3.length c3) := (blk_cell BX4.out 5).trans rfl; have hf18 := blk_frozen BX4.out 5)
  | (go_at_call 9; (with_reducible refine (toFrame_apart k s0 s1 _ _ l0 _ _ l1 _ _ l2 _ _ l3 q0 q1 m0 m1 m2 m3 _ ?s1 ?s2 ?s3 ?s4 ?s5 ?s6 ?s7 ?s8 G1.out).mono ?_); (case s1 => exact Kd.C_below HR0.out HB4.out); (case s2 => exact HC0.out); (case s3 => exact Kd.C_below HR1.out HB4.out); (case s4 => exact HC1.out); (case s5 => exact Kd.C_below HR2.out HB4.out); (case s6 => exact HC2.out); (case s7 => exact Kd.C_below HR3.out HB4.out); (case s8 => exact HC3.out); rintro e w5 ⟨u0, u1, u2, u3, a0, a1, a2, a3, a4, rfl, j0, j1, j2, j3, hiv, hb⟩; have HB5 := Aside0.mk (below_step HB4.out hb); have BX5 := Aside0.mk (blk_below BX4.out hb); have SW5 := Aside0.mk (Kd.S_below SW4.out hb); have IV := Aside0.mk hiv; obtain ⟨X0, d0, e0⟩ := Kd.S_slice j0; subst e0; have SX05 := Aside0.mk j0; obtain ⟨X1, d1, e1⟩ := Kd.R_slice j1; subst e1; have SX15 := Aside0.mk j1; obtain ⟨X2, d2, e2⟩ := Kd.S_slice j2; subst e2; have SX25 := Aside0.mk j2; obtain ⟨X3, d3, e3⟩ := Kd.S_slice j3; subst e3; have SX35 := Aside0.mk j3; clear j0 j1 j2 j3 hiv hb HB4 BX4 SW4)
  | ((with_reducible refine gate_dst (N := 5) rfl ?_); refine box_event ?hg (N := 5) ?hd (cs := #[.string (⟨#[]⟩ : ByteArray), .string (⟨#[]⟩ : ByteArray), .slice none 0 0, .slice none 0 0, .slice none 0 0, .slice none 0 0]) (t := 36) ?hr ?_; (case hd => rfl); (case hg => rfl); (case hr => first | (go_simp; done) | (go_simp; rfl)); intro gY hgY w6 hbY hb; have HB6 := Aside0.mk (below_step HB5.out hb); have BX6 := Aside0.mk (blk_below BX5.out hb); have SW6 := Aside0.mk (Kd.S_below SW5.out hb); have SX06 := Aside0.mk (Kd.S_below SX05.out hb); have SX16 := Aside0.mk (Kd.R_below SX15.out hb); have SX26 := Aside0.mk (Kd.S_below SX25.out hb); have SX36 := Aside0.mk (Kd.S_below SX35.out hb); have BY6 := Aside0.mk hbY; have GY := Aside0.mk (show w5.heap.size ≤ gY by rw [hgY]; exact Nat.le_refl _); have GW := Aside0.mk (show w.heap.size ≤ gY by rw [hgY]; exact below_size HB5.out); have NXY := Aside0.mk (show gX ≠ gY by rw [hgY]; exact Nat.ne_of_lt (blk_lt BX5.out)); have LY := Aside0.mk (show gY < w6.heap.size from blk_lt hbY); clear hbY hb hgY HB5 BX5 SW5 SX05 SX15 SX25 SX35; have hz19 : w6.cell? ⟨gY, 0, none⟩ = some (.string (⟨#[]⟩ : ByteArray)) := (blk_cell BY6.out 0).trans rfl; have hf19 := blk_frozen BY6.out 0; have hz20 : w6.cell? ⟨gY, 1, none⟩ = some (.string (⟨#[]⟩ : ByteArray)) := (blk_cell BY6.out 1).trans rfl; have hf20 := blk_frozen BY6.out 1; have hz21 : w6.cell? ⟨gY, 2, none⟩ = some (.slice none 0 0) := (blk_cell BY6.out 2).trans rfl; have hf21 := blk_frozen BY6.out 2; have hz22 : w6.cell? ⟨gY, 3, none⟩ = some (.slice none 0 0) := (blk_cell BY6.out 3).trans rfl; have hf22 := blk_frozen BY6.out 3; have hz23 : w6.cell? ⟨gY, 4, none⟩ = some (.slice none 0 0) := (blk_cell BY6.out 4).trans rfl; have hf23 := blk_frozen BY6.out 4; have hz24 : w6.cell? ⟨gY, 5, none⟩ = some (.slice none 0 0) := (blk_cell BY6.out 5).trans rfl; have hf24 := blk_frozen BY6.out 5; have hnb := NXY.out)
  | (go_at_call 10; have KS := (Kept.setCell (Kept.setCell (Kept.setCell (Kept.setCell (Kept.setCell (Kept.setCell (Kept.refl w6 (fun k => k = gY)) (p := ⟨gY, 0, none⟩) (.inl rfl) (.string q0)) (p := ⟨gY, 1, none⟩) (.inl rfl) (.string q1)) (p := ⟨gY, 2, none⟩) (.inl rfl) (.slice X0 m0.length d0)) (p := ⟨gY, 3, none⟩) (.inl rfl) (.slice X1 m1.length d1)) (p := ⟨gY, 4, none⟩) (.inl rfl) (.slice X2 m2.length d2)) (p := ⟨gY, 5, none⟩) (.inl rfl) (.slice X3 m3.length d3)); (with_reducible refine (impl_StartStates.calls k q0 q1 _ _ m0 _ _ m1 _ _ m2 (fun k_ => a3 ≤ k_ ∧ k_ < a4) _ _ m3 gr_ _ ?s1 ?s2 ?s3 ?s4 ?s5 ?s6 ?s7 G3.out).mono ?_); (case s1 => exact (Kd.S_reads' (S_ap SX06.out KS (fun k h h2 => by have := IV.out; have := GY.out; have := LY.out; omega))).2.2); (case s2 => exact (Kd.S_reads' SX06.out).2.1); (case s3 => exact (Kd.R_reads' (R_ap SX16.out KS (fun k h h2 => by have := IV.out; have := GY.out; have := LY.out; omega))).2.2); (case s4 => exact (Kd.R_reads' SX16.out).2.1); (case s5 => exact (Kd.S_reads' (S_ap SX26.out KS (fun k h h2 => by have := IV.out; have := GY.out; have := LY.out; omega))).2.2); (case s6 => exact (Kd.S_reads' SX26.out).2.1); (case s7 => exact Kd.S_V (S_ap SX36.out KS (fun k h h2 => by have := IV.out; have := GY.out; have := LY.out; omega))); rintro e w7 ⟨ug, rfl, jg, hb⟩; have HB7 := Aside0.mk (below_step (below_set (below_set (below_set (below_set (below_set (below_set HB6.out GW.out) GW.out) GW.out) GW.out) GW.out) GW.out) hb); have BX7 := Aside0.mk (blk_below (blk_far (blk_far (blk_far (blk_far (blk_far (blk_far BX6.out NXY.out _) NXY.out _) NXY.out _) NXY.out _) NXY.out _) NXY.out _) hb); have BY7 := Aside0.mk (blk_below (blk_put (cs := #[.string q0, .string q1, .slice X0 m0.length d0, .slice X1 m1.length d1, .slice X2 m2.length d2, .slice none 0 0]) (blk_put (cs := #[.string q0, .string q1, .slice X0 m0.length d0, .slice X1 m1.length d1, .slice none 0 0, .slice none 0 0]) (blk_put (cs := #[.string q0, .string q1, .slice X0 m0.length d0, .slice none 0 0, .slice none 0 0, .slice none 0 0]) (blk_put (cs := #[.string q0, .string q1, .slice none 0 0, .slice none 0 0, .slice none 0 0, .slice none 0 0]) (blk_put (cs := #[.string q0, .string (⟨#[]⟩ : ByteArray), .slice none 0 0, .slice none 0 0, .slice none 0 0, .slice none 0 0]) (blk_put (cs := #[.string (⟨#[]⟩ : ByteArray), .string (⟨#[]⟩ : ByteArray), .slice none 0 0, .slice none 0 0, .slice none 0 0, .slice none 0 0]) BY6.out 0 (.string q0) rfl) 1 (.string q1) rfl) 2 (.slice X0 m0.length d0) rfl) 3 (.slice X1 m1.length d1) rfl) 4 (.slice X2 m2.length d2) rfl) 5 (.slice X3 m3.length d3) rfl) hb); have SG7 := Aside0.mk (S_newSt jg); have SW7 := Aside0.mk (Kd.S_below (S_apSt SW6.out KS (fun k h h2 => by have := IV.out; have := GY.out; have := LY.out; omega)) hb); have SX07 := Aside0.mk (Kd.S_below (S_ap SX06.out KS (fun k h h2 => by have := IV.out; have := GY.out; have := LY.out; omega)) hb); have SX17 := Aside0.mk (Kd.R_below (R_ap SX16.out KS (fun k h h2 => by have := IV.out; have := GY.out; have := LY.out; omega)) hb); have SX27 := Aside0.mk (Kd.S_below (S_ap SX26.out KS (fun k h h2 => by have := IV.out; have := GY.out; have := LY.out; omega)) hb); have SX37 := Aside0.mk (Kd.S_below (S_ap SX36.out KS (fun k h h2 => by have := IV.out; have := GY.out; have := LY.out; omega)) hb); simp only [World.size_setCell] at SG7; obtain ⟨AG, cG, eG⟩ := Kd.S_slice SG7.out; subst eG; have L6 := Aside0.mk (show w.heap.size ≤ w6.heap.size from HB6.out.size); clear hb jg KS HB6 BX6 BY6 SW6 SX06 SX16 SX26 SX36; have hz25 : w7.cell? ⟨gX, 0, none⟩ = some (.string s0) := (blk_cell BX7.out 0).trans rfl; have hf25 := blk_frozen BX7.out 0; have hz26 : w7.cell? ⟨gX, 1, none⟩ = some (.string s1) := (blk_cell BX7.out 1).trans rfl; have hf26 := blk_frozen BX7.out 1; have hz27 : w7.cell? ⟨gX, 2, none⟩ = some (.slice A0 l0.length c0) := (blk_cell BX7.out 2).trans rfl; have hf27 := blk_frozen BX7.out 2; have hz28 : w7.cell? ⟨gX, 3, none⟩ = some (.slice A1 l1.length c1) := (blk_cell BX7.out 3).trans rfl; have hf28 := blk_frozen BX7.out 3; have hz29 : w7.cell? ⟨gX, 4, none⟩ = some (.slice A2 l2.length c2) := (blk_cell BX7.out 4).trans rfl; have hf29 := blk_frozen BX7.out 4; have hz30 : w7.cell? ⟨gX, 5, none⟩ = some (.slice A3 l3.length c3) := (blk_cell BX7.out 5).trans rfl; have hf30 := blk_frozen BX7.out 5; have hz31 : w7.cell? ⟨gY, 0, none⟩ = some (.string q0) := (blk_cell BY7.out 0).trans rfl; have hf31 := blk_frozen BY7.out 0; have hz32 : w7.cell? ⟨gY, 1, none⟩ = some (.string q1) := (blk_cell BY7.out 1).trans rfl; have hf32 := blk_frozen BY7.out 1; have hz33 : w7.cell? ⟨gY, 2, none⟩ = some (.slice X0 m0.length d0) := (blk_cell BY7.out 2).trans rfl; have hf33 := blk_frozen BY7.out 2; have hz34 : w7.cell? ⟨gY, 3, none⟩ = some (.slice X1 m1.length d1) := (blk_cell BY7.out 3).trans rfl; have hf34 := blk_frozen BY7.out 3; have hz35 : w7.cell? ⟨gY, 4, none⟩ = some (.slice X2 m2.length d2) := (blk_cell BY7.out 4).trans rfl; have hf35 := blk_frozen BY7.out 4; have hz36 : w7.cell? ⟨gY, 5, none⟩ = some (.slice X3 m3.length d3) := (blk_cell BY7.out 5).trans rfl; have hf36 := blk_frozen BY7.out 5)
  | (go_at_call 11; (with_reducible refine (laws_eqStateS.calls k _ _ gr_ _ _ wr_ true _ ?s1 ?s2 ?s3 ?s4 G4.out).mono ?_); (case s1 => exact (Kd.S_reads' SG7.out).2.2); (case s2 => exact (Kd.S_reads' SG7.out).2.1); (case s3 => exact (Kd.S_reads' SW7.out).2.2); (case s4 => exact (Kd.S_reads' SW7.out).2.1); rintro e w8 ⟨rfl, hb⟩; have HB8 := Aside0.mk (below_step HB7.out hb); have BX8 := Aside0.mk (blk_below BX7.out hb); have BY8 := Aside0.mk (blk_below BY7.out hb); have SW8 := Aside0.mk (Kd.S_below SW7.out hb); have SG8 := Aside0.mk (Kd.S_below SG7.out hb); have SX08 := Aside0.mk (Kd.S_below SX07.out hb); have SX18 := Aside0.mk (Kd.R_below SX17.out hb); have SX28 := Aside0.mk (Kd.S_below SX27.out hb); have SX38 := Aside0.mk (Kd.S_below SX37.out hb); clear HB7 BX7 BY7 SW7 SG7 SX07 SX17 SX27 SX37; clear hb; have hz37 : w8.cell? ⟨gX, 0, none⟩ = some (.string s0) := (blk_cell BX8.out 0).trans rfl; have hf37 := blk_frozen BX8.out 0; have hz38 : w8.cell? ⟨gX, 1, none⟩ = some (.string s1) := (blk_cell BX8.out 1).trans rfl; have hf38 := blk_frozen BX8.out 1; have hz39 : w8.cell? ⟨gX, 2, none⟩ = some (.slice A0 l0.length c0) := (blk_cell BX8.out 2).trans rfl; have hf39 := blk_frozen BX8.out 2; have hz40 : w8.cell? ⟨gX, 3, none⟩ = some (.slice A1 l1.length c1) := (blk_cell BX8.out 3).trans rfl; have hf40 := blk_frozen BX8.out 3; have hz41 : w8.cell? ⟨gX, 4, none⟩ = some (.slice A2 l2.length c2) := (blk_cell BX8.out 4).trans rfl; have hf41 := blk_frozen BX8.out 4; have hz42 : w8.cell? ⟨gX, 5, none⟩ = some (.slice A3 l3.length c3) := (blk_cell BX8.out 5).trans rfl; have hf42 := blk_frozen BX8.out 5; have hz43 : w8.cell? ⟨gY, 0, none⟩ = some (.string q0) := (blk_cell BY8.out 0).trans rfl; have hf43 := blk_frozen BY8.out 0; have hz44 : w8.cell? ⟨gY, 1, none⟩ = some (.string q1) := (blk_cell BY8.out 1).trans rfl; have hf44 := blk_frozen BY8.out 1; have hz45 : w8.cell? ⟨gY, 2, none⟩ = some (.slice X0 m0.length d0) := (blk_cell BY8.out 2).trans rfl; have hf45 := blk_frozen BY8.out 2; have hz46 : w8.cell? ⟨gY, 3, none⟩ = some (.slice X1 m1.length d1) := (blk_cell BY8.out 3).trans rfl; have hf46 := blk_frozen BY8.out 3; have hz47 : w8.cell? ⟨gY, 4, none⟩ = some (.slice X2 m2.length d2) := (blk_cell BY8.out 4).trans rfl; have hf47 := blk_frozen BY8.out 4; have hz48 : w8.cell? ⟨gY, 5, none⟩ = some (.slice X3 m3.length d3) := (blk_cell BY8.out 5).trans rfl; have hf48 := blk_frozen BY8.out 5))
   clear hz37 hf37 hz38 hf38 hz39 hf39 hz40 hf40 hz41 hf41 hz42 hf42 hz43 hf43 hz44 hf44 hz45 hf45 hz46 hf46 hz47 hf47 hz48 hf48
   refine start_ (n := 5) (S := fun w' => w'.cell? ⟨gY, 0, none⟩ = some (.string q0) ∧ w'.cell? ⟨gY, 1, none⟩ = some (.string q1) ∧ w'.cell? ⟨gY, 2, none⟩ = some (.slice X0 m0.length d0) ∧ w'.cell? ⟨gY, 3, none⟩ = some (.slice X1 m1.length d1) ∧ w'.cell? ⟨gY, 4, none⟩ = some (.slice X2 m2.length d2) ∧ w'.cell? ⟨gY, 5, none⟩ = some (.slice X3 m3.length d3) ∧ w'.cell? ⟨gX, 0, none⟩ = some (.string s0) ∧ w'.cell? ⟨gX, 1, none⟩ = some (.string s1) ∧ w'.cell? ⟨gX, 2, none⟩ = some (.slice A0 l0.length c0) ∧ w'.cell? ⟨gX, 3, none⟩ = some (.slice A1 l1.length c1) ∧ w'.cell? ⟨gX, 4, none⟩ = some (.slice A2 l2.length c2) ∧ w'.cell? ⟨gX, 5, none⟩ = some (.slice A3 l3.length c3)) (ds := []) #[false, false, false, false, false] (by kernel_rfl) rfl rfl ⟨(blk_cell BY8.out 0).trans rfl, (blk_cell BY8.out 1).trans rfl, (blk_cell BY8.out 2).trans rfl, (blk_cell BY8.out 3).trans rfl, (blk_cell BY8.out 4).trans rfl, (blk_cell BY8.out 5).trans rfl, (blk_cell BX8.out 0).trans rfl, (blk_cell BX8.out 1).trans rfl, (blk_cell BX8.out 2).trans rfl, (blk_cell BX8.out 3).trans rfl, (blk_cell BX8.out 4).trans rfl, (blk_cell BX8.out 5).trans rfl⟩ (fun hHeld => ?_)
   have HB80 := Aside0.mk (below_drew1 HB8.out)
   have BX80 := Aside0.mk (blk_drew BX8.out)
   have BY80 := Aside0.mk (blk_drew BY8.out)
   have SW80 := Aside0.mk (Kd.S_drew SW8.out)
   have SG80 := Aside0.mk (Kd.S_drew SG8.out)
   have SX080 := Aside0.mk (Kd.S_drew SX08.out)
   have SX180 := Aside0.mk (Kd.R_drew SX18.out)
   have SX280 := Aside0.mk (Kd.S_drew SX28.out)
   have SX380 := Aside0.mk (Kd.S_drew SX38.out)
   clear HB8 BX8 BY8 SW8 SG8 SX08 SX18 SX28 SX38
   generalize w8.drew = wq at HB80 BX80 BY80 SW80 SG80 SX080 SX180 SX280 SX380 hHeld ⊢
   refine take_ (i := 0) (N := some 27) (v := ?_) (a' := ?_) #[true, false, false, false, false] rfl rfl (by kernel_rfl) (fun _ _ _ h => h) (Or.inl ⟨by rfl, ?_⟩) hHeld ?_ ?_
   rotate_left
   ·rintro w' ⟨s0_, s1_, s2_, s3_, s4_, s5_, s6_, s7_, s8_, s9_, s10_, s11_⟩
    go_simp
    first | with_reducible rfl | (rw [if_neg (by omega)]; done)
   rotate_left
   ·simp only [Act.put, List.setIfInBounds_toArray, List.set_cons_zero, List.set_cons_succ, i64_w, i32_w]
    rfl
   refine take_ (i := 1) (N := some 28) (v := ?_) (a' := ?_) #[true, true, false, false, false] rfl rfl (by kernel_rfl) (fun _ _ _ h => h) (Or.inl ⟨by rfl, ?_⟩) hHeld ?_ ?_
   rotate_left
   ·rintro w' ⟨s0_, s1_, s2_, s3_, s4_, s5_, s6_, s7_, s8_, s9_, s10_, s11_⟩
    go_simp
    first | with_reducible rfl | (rw [if_neg (by omega)]; done)
   rotate_left
   ·simp only [Act.put, List.setIfInBounds_toArray, List.set_cons_zero, List.set_cons_succ, i64_w, i32_w]
    rfl
   refine one_ (i := 2) (N := some 29) #[true, true, true, false, false] rfl rfl (by kernel_rfl) (by decide) (fun K hK => ?_)
   refine goes_ Try.func9 (by kernel_rfl) rfl #[.agg #[.string s0, .string s1, .slice A0 l0.length c0, .slice A1 l1.length c1, .slice A2 l2.length c2, .slice A3 l3.length c3]] (by rfl) rfl rfl (by (try simp only [List.map_toArray, List.map_cons, List.map_nil]); first | done | rfl | (simp only [List.length_drop, List.length_take]; rfl)) ?_
   with_reducible refine (laws_toFrame.calls k s0 s1 _ _ l0 _ _ l1 _ _ l2 _ _ l3 q0 q1 m0 m1 m2 m3 _ ?s1 ?s2 ?s3 ?s4 ?s5 ?s6 ?s7 ?s8 G1.out).mono ?_
   (case s1 => exact Kd.C_below HR0.out HB80.out)
   (case s2 => exact HC0.out)
   (case s3 => exact Kd.C_below HR1.out HB80.out)
   (case s4 => exact HC1.out)
   (case s5 => exact Kd.C_below HR2.out HB80.out)
   (case s6 => exact HC2.out)
   (case s7 => exact Kd.C_below HR3.out HB80.out)
   (case s8 => exact HC3.out)
   rintro e wa ⟨u0, u1, u2, u3, rfl, j0, j1, j2, j3, hb⟩
   refine ⟨_, rfl, ?_⟩
   have HB81 := Aside0.mk (below_step HB80.out hb)
   have BX81 := Aside0.mk (blk_below BX80.out hb)
   have BY81 := Aside0.mk (blk_below BY80.out hb)
   have SW81 := Aside0.mk (Kd.S_below SW80.out hb)
   have SG81 := Aside0.mk (Kd.S_below SG80.out hb)
   have SX081 := Aside0.mk (Kd.S_below SX080.out hb)
   have SX181 := Aside0.mk (Kd.R_below SX180.out hb)
   have SX281 := Aside0.mk (Kd.S_below SX280.out hb)
   have SX381 := Aside0.mk (Kd.S_below SX380.out hb)
   clear HB80 BX80 BY80 SW80 SG80 SX080 SX180 SX280 SX380
   obtain ⟨Y0, y0, e0⟩ := Kd.S_slice j0
   subst e0
   have D0 := Aside0.mk (Kd.S_reads' j0).2.2
   have E0 := Aside0.mk (Kd.S_reads' j0).2.1
   obtain ⟨Y1, y1, e1⟩ := Kd.R_slice j1
   subst e1
   have D1 := Aside0.mk (Kd.R_reads' j1).2.2
   have E1 := Aside0.mk (Kd.R_reads' j1).2.1
   obtain ⟨Y2, y2, e2⟩ := Kd.S_slice j2
   subst e2
   have D2 := Aside0.mk (Kd.S_reads' j2).2.2
   have E2 := Aside0.mk (Kd.S_reads' j2).2.1
   obtain ⟨Y3, y3, e3⟩ := Kd.S_slice j3
   subst e3
   have D3 := Aside0.mk (Kd.S_reads' j3).2.2
   have E3 := Aside0.mk (Kd.S_reads' j3).2.1
   clear j0 j1 j2 j3 hb
   refine hK.out _ _ ⟨(blk_cell BY81.out 0).trans rfl, (blk_cell BY81.out 1).trans rfl, (blk_cell BY81.out 2).trans rfl, (blk_cell BY81.out 3).trans rfl, (blk_cell BY81.out 4).trans rfl, (blk_cell BY81.out 5).trans rfl, (blk_cell BX81.out 0).trans rfl, (blk_cell BX81.out 1).trans rfl, (blk_cell BX81.out 2).trans rfl, (blk_cell BX81.out 3).trans rfl, (blk_cell BX81.out 4).trans rfl, (blk_cell BX81.out 5).trans rfl⟩ (fun hHeld => ?_)
   clear hK K
   refine norm_ (a' := ?_) ?_ ?_
   rotate_left
   ·show Act.put _ (some 29) _ = _
    simp only [Act.put, List.setIfInBounds_toArray, List.set_cons_zero, List.set_cons_succ, i64_w, i32_w]
    rfl
   refine one_ (i := 3) (N := some 30) #[true, true, true, true, false] rfl rfl (by kernel_rfl) (by decide) (fun K hK => ?_)
   refine goes_ Try.func12 (by kernel_rfl) rfl #[.agg #[.string q0, .string q1, .slice X0 m0.length d0, .slice X1 m1.length d1, .slice X2 m2.length d2, .slice X3 m3.length d3], .agg #[.string q0, .string q1, .slice Y0 m0.length y0, .slice Y1 m1.length y1, .slice Y2 m2.length y2, .slice Y3 m3.length y3]] (by rfl) rfl rfl (by (try simp only [List.map_toArray, List.map_cons, List.map_nil]); first | done | rfl | (simp only [List.length_drop, List.length_take]; rfl)) ?_
   with_reducible refine (laws_eqFrame.calls k q0 q1 _ _ m0 _ _ m1 _ _ m2 _ _ m3 q0 q1 _ _ m0 _ _ m1 _ _ m2 _ _ m3 true _ ?s1 ?s2 ?s3 ?s4 ?s5 ?s6 ?s7 ?s8 ?s9 ?s10 ?s11 ?s12 ?s13 ?s14 ?s15 ?s16 G5.out).mono ?_
   (case s1 => exact (Kd.S_reads' SX081.out).2.2)
   (case s2 => exact (Kd.S_reads' SX081.out).2.1)
   (case s3 => exact (Kd.R_reads' SX181.out).2.2)
   (case s4 => exact (Kd.R_reads' SX181.out).2.1)
   (case s5 => exact (Kd.S_reads' SX281.out).2.2)
   (case s6 => exact (Kd.S_reads' SX281.out).2.1)
   (case s7 => exact (Kd.S_reads' SX381.out).2.2)
   (case s8 => exact (Kd.S_reads' SX381.out).2.1)
   (case s9 => exact D0.out)
   (case s10 => exact E0.out)
   (case s11 => exact D1.out)
   (case s12 => exact E1.out)
   (case s13 => exact D2.out)
   (case s14 => exact E2.out)
   (case s15 => exact D3.out)
   (case s16 => exact E3.out)
   rintro e wb ⟨rfl, hb⟩
   refine ⟨_, rfl, ?_⟩
   have HB82 := Aside0.mk (below_step HB81.out hb)
   have BX82 := Aside0.mk (blk_below BX81.out hb)
   have BY82 := Aside0.mk (blk_below BY81.out hb)
   have SW82 := Aside0.mk (Kd.S_below SW81.out hb)
   have SG82 := Aside0.mk (Kd.S_below SG81.out hb)
   have SX082 := Aside0.mk (Kd.S_below SX081.out hb)
   have SX182 := Aside0.mk (Kd.R_below SX181.out hb)
   have SX282 := Aside0.mk (Kd.S_below SX281.out hb)
   have SX382 := Aside0.mk (Kd.S_below SX381.out hb)
   clear HB81 BX81 BY81 SW81 SG81 SX081 SX181 SX281 SX381
   clear hb D0 D1 D2 D3 E0 E1 E2 E3
   refine hK.out _ _ ⟨(blk_cell BY82.out 0).trans rfl, (blk_cell BY82.out 1).trans rfl, (blk_cell BY82.out 2).trans rfl, (blk_cell BY82.out 3).trans rfl, (blk_cell BY82.out 4).trans rfl, (blk_cell BY82.out 5).trans rfl, (blk_cell BX82.out 0).trans rfl, (blk_cell BX82.out 1).trans rfl, (blk_cell BX82.out 2).trans rfl, (blk_cell BX82.out 3).trans rfl, (blk_cell BX82.out 4).trans rfl, (blk_cell BX82.out 5).trans rfl⟩ (fun hHeld => ?_)
   clear hK K
   refine norm_ (a' := ?_) ?_ ?_
   rotate_left
   ·show Act.put _ (some 30) _ = _
    simp only [Act.put, List.setIfInBounds_toArray, List.set_cons_zero, List.set_cons_succ, i64_w, i32_w]
    rfl
   refine pure_ (i := 4) (N := some 31) (v := ?_) (a' := ?_) #[true, true, true, true, true] rfl rfl (by kernel_rfl) (fun _ _ _ h => h) (Or.inl ⟨by rfl, ?_⟩) ?_ ?_
   rotate_left
   ·intro w'
    go_simp
    first | with_reducible rfl | (rw [if_neg (by omega)]; done)
   rotate_left
   ·simp only [Act.put, List.setIfInBounds_toArray, List.set_cons_zero, List.set_cons_succ, i64_w, i32_w]
    rfl
   refine done_ (by kernel_rfl) ?_
   have HB10 := HB82
   have BX10 := BX82
   have BY10 := BY82
   have SW10 := SW82
   have SG10 := SG82
   have SX010 := SX082
   have SX110 := SX182
   have SX210 := SX282
   have SX310 := SX382
   clear HB82 BX82 BY82 SW82 SG82 SX082 SX182 SX282 SX382
   have hz49 : wb.cell? ⟨gX, 0, none⟩ = some (.string s0) := (blk_cell BX10.out 0).trans rfl
   have hf49 := blk_frozen BX10.out 0
   have hz50 : wb.cell? ⟨gX, 1, none⟩ = some (.string s1) := (blk_cell BX10.out 1).trans rfl
   have hf50 := blk_frozen BX10.out 1
   have hz51 : wb.cell? ⟨gX, 2, none⟩ = some (.slice A0 l0.length c0) := (blk_cell BX10.out 2).trans rfl
   have hf51 := blk_frozen BX10.out 2
   have hz52 : wb.cell? ⟨gX, 3, none⟩ = some (.slice A1 l1.length c1) := (blk_cell BX10.out 3).trans rfl
   have hf52 := blk_frozen BX10.out 3
   have hz53 : wb.cell? ⟨gX, 4, none⟩ = some (.slice A2 l2.length c2) := (blk_cell BX10.out 4).trans rfl
   have hf53 := blk_frozen BX10.out 4
   have hz54 : wb.cell? ⟨gX, 5, none⟩ = some (.slice A3 l3.length c3) := (blk_cell BX10.out 5).trans rfl
   have hf54 := blk_frozen BX10.out 5
   have hz55 : wb.cell? ⟨gY, 0, none⟩ = some (.string q0) := (blk_cell BY10.out 0).trans rfl
   have hf55 := blk_frozen BY10.out 0
   have hz56 : wb.cell? ⟨gY, 1, none⟩ = some (.string q1) := (blk_cell BY10.out 1).trans rfl
   have hf56 := blk_frozen BY10.out 1
   have hz57 : wb.cell? ⟨gY, 2, none⟩ = some (.slice X0 m0.length d0) := (blk_cell BY10.out 2).trans rfl
   have hf57 := blk_frozen BY10.out 2
   have hz58 : wb.cell? ⟨gY, 3, none⟩ = some (.slice X1 m1.length d1) := (blk_cell BY10.out 3).trans rfl
   have hf58 := blk_frozen BY10.out 3
   have hz59 : wb.cell? ⟨gY, 4, none⟩ = some (.slice X2 m2.length d2) := (blk_cell BY10.out 4).trans rfl
   have hf59 := blk_frozen BY10.out 4
   have hz60 : wb.cell? ⟨gY, 5, none⟩ = some (.slice X3 m3.length d3) := (blk_cell BY10.out 5).trans rfl
   have hf60 := blk_frozen BY10.out 5
   go_wp2_with (first
  | (go_at_call 13; (with_reducible refine (laws_markFrame.calls k a0 a1 a2 a3 a4 q0 q1 _ _ _ _ m0 m1 m2 m3 1 mk_ n0 n1 n2 n3 w _ HB10.out ?s1 ?s2 ?s3 ?s4 ?s5 G6.out).mono ?_); (case s1 => exact Kd.S_lower SX010.out L4.out); (case s2 => exact Kd.R_lower SX110.out L4.out); (case s3 => exact Kd.S_lower SX210.out L4.out); (case s4 => exact Kd.S_lower SX310.out L4.out); (case s5 => have h1 := IV.out; have h5 := blk_lt BY10.out; have h6 := GY.out; omega); rintro e w11 ⟨rfl, hb, hk⟩; have iv := IV.out; have gy := GY.out; have zx := ZX.out; have ly := LY.out; have HB11 := Aside0.mk hb; have BX11 := Aside0.mk (blk_kept BX10.out hk (fun h => by omega)); have SW11 := Aside0.mk (Kd.S_kept SW10.out hk (fun k h1 h2 => by omega)); have SG11 := Aside0.mk (Kd.S_kept SG10.out hk (fun k h1 h2 => by omega)); clear hb hk iv gy zx ly HB10 BX10 BY10 SW10 SG10 SX010 SX110 SX210 SX310; have hz61 : w11.cell? ⟨gX, 0, none⟩ = some (.string s0) := (blk_cell BX11.out 0).trans rfl; have hf61 := blk_frozen BX11.out 0; have hz62 : w11.cell? ⟨gX, 1, none⟩ = some (.string s1) := (blk_cell BX11.out 1).trans rfl; have hf62 := blk_frozen BX11.out 1; have hz63 : w11.cell? ⟨gX, 2, none⟩ = some (.slice A0 l0.length c0) := (blk_cell BX11.out 2).trans rfl; have hf63 := blk_frozen BX11.out 2; have hz64 : w11.cell? ⟨gX, 3, none⟩ = some (.slice A1 l1.length c1) := (blk_cell BX11.out 3).trans rfl; have hf64 := blk_frozen BX11.out 3; have hz65 : w11.cell? ⟨gX, 4, none⟩ = some (.slice A2 l2.length c2) := (blk_cell BX11.out 4).trans rfl; have hf65 := blk_frozen BX11.out 4; have hz66 : w11.cell? ⟨gX, 5, none⟩ = some (.slice A3 l3.length c3) := (blk_cell BX11.out 5).trans rfl; have hf66 := blk_frozen BX11.out 5)
  | (go_at_call 11; (with_reducible refine (laws_eqStateS.calls k _ _ gr_ _ _ wr_ true _ ?s1 ?s2 ?s3 ?s4 G4.out).mono ?_); (case s1 => exact (Kd.S_reads' SG11.out).2.2); (case s2 => exact (Kd.S_reads' SG11.out).2.1); (case s3 => exact (Kd.S_reads' SW11.out).2.2); (case s4 => exact (Kd.S_reads' SW11.out).2.1); rintro e w12 ⟨rfl, hb⟩; have HB12 := Aside0.mk (below_step HB11.out hb); have BX12 := Aside0.mk (blk_below BX11.out hb); have SW12 := Aside0.mk (Kd.S_below SW11.out hb); have SG12 := Aside0.mk (Kd.S_below SG11.out hb); clear HB11 BX11 SW11 SG11; clear hb; have hz67 : w12.cell? ⟨gX, 0, none⟩ = some (.string s0) := (blk_cell BX12.out 0).trans rfl; have hf67 := blk_frozen BX12.out 0; have hz68 : w12.cell? ⟨gX, 1, none⟩ = some (.string s1) := (blk_cell BX12.out 1).trans rfl; have hf68 := blk_frozen BX12.out 1; have hz69 : w12.cell? ⟨gX, 2, none⟩ = some (.slice A0 l0.length c0) := (blk_cell BX12.out 2).trans rfl; have hf69 := blk_frozen BX12.out 2; have hz70 : w12.cell? ⟨gX, 3, none⟩ = some (.slice A1 l1.length c1) := (blk_cell BX12.out 3).trans rfl; have hf70 := blk_frozen BX12.out 3; have hz71 : w12.cell? ⟨gX, 4, none⟩ = some (.slice A2 l2.length c2) := (blk_cell BX12.out 4).trans rfl; have hf71 := blk_frozen BX12.out 4; have hz72 : w12.cell? ⟨gX, 5, none⟩ = some (.slice A3 l3.length c3) := (blk_cell BX12.out 5).trans rfl; have hf72 := blk_frozen BX12.out 5)
  | (go_at_call 14; (with_reducible refine (laws_markStateS.calls k (fun k_ => w6.heap.size ≤ k_ ∧ k_ < w7.heap.size) _ gr_ 1 q_ gm_ w _ HB12.out ?s1 G7.out).mono ?_); (case s1 => exact Kd.S_lower SG12.out L6.out); rintro e w13 ⟨rfl, jg, hb, hk⟩; have iv := IV.out; have gy := GY.out; have zx := ZX.out; have ly := LY.out; have HB13 := Aside0.mk hb; have BX13 := Aside0.mk (blk_kept BX12.out hk (fun h => by omega)); have SW13 := Aside0.mk (Kd.S_kept SW12.out hk (fun k h1 h2 => by omega)); have SM13 := Aside0.mk jg; clear jg hb hk iv gy zx ly HB12 BX12 SW12 SG12; have hz73 : w13.cell? ⟨gX, 0, none⟩ = some (.string s0) := (blk_cell BX13.out 0).trans rfl; have hf73 := blk_frozen BX13.out 0; have hz74 : w13.cell? ⟨gX, 1, none⟩ = some (.string s1) := (blk_cell BX13.out 1).trans rfl; have hf74 := blk_frozen BX13.out 1; have hz75 : w13.cell? ⟨gX, 2, none⟩ = some (.slice A0 l0.length c0) := (blk_cell BX13.out 2).trans rfl; have hf75 := blk_frozen BX13.out 2; have hz76 : w13.cell? ⟨gX, 3, none⟩ = some (.slice A1 l1.length c1) := (blk_cell BX13.out 3).trans rfl; have hf76 := blk_frozen BX13.out 3; have hz77 : w13.cell? ⟨gX, 4, none⟩ = some (.slice A2 l2.length c2) := (blk_cell BX13.out 4).trans rfl; have hf77 := blk_frozen BX13.out 4; have hz78 : w13.cell? ⟨gX, 5, none⟩ = some (.slice A3 l3.length c3) := (blk_cell BX13.out 5).trans rfl; have hf78 := blk_frozen BX13.out 5)
  | (go_at_call 15; (with_reducible refine (heldSt k _ _ _ gm_ 1 q_ _ ?s0 ?s1 ?s2 G8.out).mono ?_); (case s0 => exact (Kd.S_reads' SM13.out).1); (case s1 => exact (Kd.S_reads' SM13.out).2.2); (case s2 => exact (Kd.S_reads' SM13.out).2.1); rintro e w14 ⟨rfl, hb⟩; have HB14 := Aside0.mk (below_step HB13.out hb); have BX14 := Aside0.mk (blk_below BX13.out hb); have SW14 := Aside0.mk (Kd.S_below SW13.out hb); have SM14 := Aside0.mk (Kd.S_below SM13.out hb); clear hb HB13 BX13 SW13 SM13; have hz79 : w14.cell? ⟨gX, 0, none⟩ = some (.string s0) := (blk_cell BX14.out 0).trans rfl; have hf79 := blk_frozen BX14.out 0; have hz80 : w14.cell? ⟨gX, 1, none⟩ = some (.string s1) := (blk_cell BX14.out 1).trans rfl; have hf80 := blk_frozen BX14.out 1; have hz81 : w14.cell? ⟨gX, 2, none⟩ = some (.slice A0 l0.length c0) := (blk_cell BX14.out 2).trans rfl; have hf81 := blk_frozen BX14.out 2; have hz82 : w14.cell? ⟨gX, 3, none⟩ = some (.slice A1 l1.length c1) := (blk_cell BX14.out 3).trans rfl; have hf82 := blk_frozen BX14.out 3; have hz83 : w14.cell? ⟨gX, 4, none⟩ = some (.slice A2 l2.length c2) := (blk_cell BX14.out 4).trans rfl; have hf83 := blk_frozen BX14.out 4; have hz84 : w14.cell? ⟨gX, 5, none⟩ = some (.slice A3 l3.length c3) := (blk_cell BX14.out 5).trans rfl; have hf84 := blk_frozen BX14.out 5)
  | (go_at_call 9; (with_reducible refine (laws_toFrame.calls k s0 s1 _ _ l0 _ _ l1 _ _ l2 _ _ l3 q0 q1 m0 m1 m2 m3 _ ?s1 ?s2 ?s3 ?s4 ?s5 ?s6 ?s7 ?s8 G1.out).mono ?_); (case s1 => exact Kd.C_below HR0.out HB14.out); (case s2 => exact HC0.out); (case s3 => exact Kd.C_below HR1.out HB14.out); (case s4 => exact HC1.out); (case s5 => exact Kd.C_below HR2.out HB14.out); (case s6 => exact HC2.out); (case s7 => exact Kd.C_below HR3.out HB14.out); (case s8 => exact HC3.out); rintro e w15 ⟨u0, u1, u2, u3, rfl, j0, j1, j2, j3, hb⟩; have HB15 := Aside0.mk (below_step HB14.out hb); have BX15 := Aside0.mk (blk_below BX14.out hb); have SW15 := Aside0.mk (Kd.S_below SW14.out hb); have SM15 := Aside0.mk (Kd.S_below SM14.out hb); clear hb HB14 BX14 SW14 SM14; obtain ⟨Y0, y0, e0⟩ := Kd.S_slice j0; subst e0; have D0 := Aside0.mk (Kd.S_reads' j0).2.2; have E0 := Aside0.mk (Kd.S_reads' j0).2.1; obtain ⟨Y1, y1, e1⟩ := Kd.R_slice j1; subst e1; have D1 := Aside0.mk (Kd.R_reads' j1).2.2; have E1 := Aside0.mk (Kd.R_reads' j1).2.1; obtain ⟨Y2, y2, e2⟩ := Kd.S_slice j2; subst e2; have D2 := Aside0.mk (Kd.S_reads' j2).2.2; have E2 := Aside0.mk (Kd.S_reads' j2).2.1; obtain ⟨Y3, y3, e3⟩ := Kd.S_slice j3; subst e3; have D3 := Aside0.mk (Kd.S_mono j3 (ok' := fun _ => True) (fun _ _ => trivial)); clear j0 j1 j2 j3)
  | (go_at_call 10; (with_reducible refine (impl_StartStates.calls k q0 q1 _ _ m0 _ _ m1 _ _ m2 (fun _ => True) _ _ m3 gr_ _ ?s1 ?s2 ?s3 ?s4 ?s5 ?s6 ?s7 G3.out).mono ?_); (case s1 => exact D0.out); (case s2 => exact E0.out); (case s3 => exact D1.out); (case s4 => exact E1.out); (case s5 => exact D2.out); (case s6 => exact E2.out); (case s7 => exact Kd.S_V D3.out); rintro e w16 ⟨ug, rfl, jg, hb⟩; have HB16 := Aside0.mk (below_step HB15.out hb); have BX16 := Aside0.mk (blk_below BX15.out hb); have SW16 := Aside0.mk (Kd.S_below SW15.out hb); have SM16 := Aside0.mk (Kd.S_below SM15.out hb); clear hb HB15 BX15 SW15 SM15; have SH16 := Aside0.mk jg; obtain ⟨AH, cH, eH⟩ := Kd.S_slice SH16.out; subst eH; clear jg D0 D1 D2 D3 E0 E1 E2)
  | (go_at_call 11; (with_reducible refine (laws_eqStateS.calls k _ _ gr_ _ _ wr_ true _ ?s1 ?s2 ?s3 ?s4 G4.out).mono ?_); (case s1 => exact (Kd.S_reads' SH16.out).2.2); (case s2 => exact (Kd.S_reads' SH16.out).2.1); (case s3 => exact (Kd.S_reads' SW16.out).2.2); (case s4 => exact (Kd.S_reads' SW16.out).2.1); rintro e w17 ⟨rfl, hb⟩; have HB17 := Aside0.mk (below_step HB16.out hb); have SM17 := Aside0.mk (Kd.S_below SM16.out hb); clear hb HB16 SM16)
  | (go_at_call 15; (with_reducible refine (heldSt k _ _ _ gm_ 1 q_ _ ?s0 ?s1 ?s2 G8.out).mono ?_); (case s0 => exact (Kd.S_reads' SM17.out).1); (case s1 => exact (Kd.S_reads' SM17.out).2.2); (case s2 => exact (Kd.S_reads' SM17.out).2.1); rintro e w18 ⟨rfl, hb⟩; have HB18 := Aside0.mk (below_step HB17.out hb); clear hb HB17))
   go_ret
   exact ⟨rfl, HB18.out⟩
  ·rw [if_neg hh] at h
   exact absurd (Option.some.inj h) (by decide)
end Go.Proofs.Ytjmfpaalglbbhaa.Ext
namespace Go.Proofs.Ytjmfpaalglbbhaa.Br
open Go Go.Proofs.YtjmfpaalglbbhaaW.PrintWords
def BrN (P : Program) (n : Nat) (t : TypeId) {α : Type} (d : Kd α) (wf : α → Prop) : Prop :=
 ∀ (H : Type) (enc : TypeId × Value → H) (w : World) (base : Nat) (spare : Nat → Bool) (held : Bool) (m : Nat) (cs : List Value) (x : DataW H × List MemPlace),
  m ≤ n → DataW.trod enc P w base spare held m t cs = some x → ∃ a, d.K w a cs ∧ wf a
def Br (P : Program) (t : TypeId) {α : Type} (d : Kd α) (wf : α → Prop) : Prop := ∀ n, BrN P n t d wf
def BF (P : Program) (n : Nat) (fs : List Field) (o : Nat) {α : Type} (d : Kd α) (wf : α → Prop) : Prop :=
 ∀ (H : Type) (enc : TypeId × Value → H) (w : World) (base : Nat) (spare : Nat → Bool) (held : Bool) (m : Nat) (cs : List Value) (xs : List (DataW H × List MemPlace)),
  m ≤ n → cs.length = d.sz → xs.length = fs.length →
  (∀ (i : Nat) (f : Field), fs[i]? = some f → DataW.trod enc P w base spare held m f.type ((cs.drop (f.offset - o)).take (P.cellsOf f.type)) = xs[i]?) → ∃ a, d.K w a cs ∧ wf a
theorem BrN.mono {P : Program} {n m : Nat} {t : TypeId} {α : Type} {d : Kd α} {wf : α → Prop} (h : BrN P n t d wf) (hm : m ≤ n) : BrN P m t d wf :=
 fun H enc w base spare held k cs x hk => h H enc w base spare held k cs x (Nat.le_trans hk hm)
theorem BrN.imp {P : Program} {n : Nat} {t : TypeId} {α : Type} {d : Kd α} {wf wf' : α → Prop} (h : BrN P n t d wf) (hi : ∀ a, wf a → wf' a) : BrN P n t d wf' :=
 fun H enc w base spare held k cs x hk hx => by
  obtain ⟨a, h1, h2⟩ := h H enc w base spare held k cs x hk hx
  exact ⟨a, h1, hi a h2⟩
theorem BrN.zero (P : Program) (t : TypeId) {α : Type} (d : Kd α) (wf : α → Prop) : BrN P 0 t d wf := by
 intro H enc w base spare held m cs x hm hx
 obtain rfl : m = 0 := by omega
 simp [DataW.trod] at hx
theorem br_int {P : Program} {t : TypeId} {k : IntKind} (ht : P.underlying t = some (.int k)) (n : Nat) : BrN P n t (Kd.int k) (fun a => (Lit.int k a).wf = true) := by
 intro H enc w base spare held m cs x _ hx
 obtain ⟨a, rfl, _, hw⟩ := DataW.trod_int ht hx
 exact ⟨a, rfl, hw⟩
theorem br_string {P : Program} {t : TypeId} (ht : P.underlying t = some .string) (n : Nat) : BrN P n t Kd.string (fun s => s.size ≤ 9223372036854775807) := by
 intro H enc w base spare held m cs x _ hx
 obtain ⟨a, rfl, _, hw⟩ := DataW.trod_string ht hx
 exact ⟨a, rfl, by simpa [maxLen] using hw⟩
theorem list_of_all {α : Type} {Q : Nat → α → Prop} (n : Nat) (h : ∀ i, i < n → ∃ a, Q i a) : ∃ l : List α, l.length = n ∧ ∀ i a, l[i]? = some a → Q i a := by
 induction n with
 | zero => exact ⟨[], rfl, fun i a h => by simp at h⟩
 | succ n ih =>
  obtain ⟨l, hl, hq⟩ := ih (fun i hi => h i (by omega))
  obtain ⟨a, ha⟩ := h n (by omega)
  refine ⟨l ++ [a], by simp [hl], fun i b hb => ?_⟩
  rcases Nat.lt_or_ge i l.length with hi | hi
  ·rw [List.getElem?_append_left hi] at hb
   exact hq i b hb
  ·rw [List.getElem?_append_right hi] at hb
   obtain ⟨h0, rfl⟩ : i - l.length = 0 ∧ a = b := by
    rcases Nat.eq_zero_or_pos (i - l.length) with h0 | h0
    ·rw [h0] at hb; exact ⟨h0, by simpa using hb⟩
    ·rw [List.getElem?_eq_none (by simp; omega)] at hb; simp at hb
   obtain rfl : i = n := by omega
   exact ha
theorem cells_at {w : World} {base : Nat} {a : Addr} {n : Nat} {cs : List Value} (h : w.cells? base a n = some cs) : cs.length = n ∧ ∀ i u, cs[i]? = some u → w.cell? (a.add i) = some u := by
 unfold World.cells? at h
 split at h
 ·have hl := mapM_some_length h
  refine ⟨by simpa using hl, fun i u hu => ?_⟩
  have hi : i < n := by
   have := (List.getElem?_eq_some_iff.1 hu).1
   simp at hl
   omega
  have := mapM_some_get h i i (by simp [hi])
  rw [this, hu]
 ·simp at h
theorem br_slice {P : Program} {t e : TypeId} {α : Type} {d : Kd α} {wf : α → Prop} {n : Nat} (ht : P.underlying t = some (.slice e)) (hs : P.cellsOf e = d.sz) (h : BrN P n e d wf) :
  BrN P (n + 1) t (Kd.slice e d) (fun l => l.length ≤ 9223372036854775807 ∧ ∀ a ∈ l, wf a) := by
 intro H enc w base spare held m cs x hm hx
 rcases DataW.trod_slice ht hx with ⟨rfl, _⟩ | ⟨a, len, cap, elems, rest, k, rfl, rfl, _, _, hl, hc, he, hg, _, _⟩
 ·exact ⟨[], ⟨none, 0, rfl, Nat.le_refl _, Kd.C_nil d w⟩, by simp, by simp⟩
 ·have hq : ∀ i, i < len → ∃ b, (∃ c, c.length = d.sz ∧ d.K w b c ∧ ∀ j u, c[j]? = some u → w.cell? (a.add (i * d.sz + j)) = some u) ∧ wf b := by
   intro i hi
   have g := hg i hi
   rw [List.getElem?_eq_getElem (by omega)] at g
   obtain ⟨c, hc1, hc2⟩ := Option.bind_eq_some_iff.1 g
   obtain ⟨b, hb, hw⟩ := h H enc w base spare held k c _ (by omega) hc2
   obtain ⟨h1, h2⟩ := cells_at hc1
   refine ⟨b, ⟨c, by rw [h1, hs], hb, fun j u hu => ?_⟩, hw⟩
   have := h2 j u hu
   rw [Addr.add_add, hs] at this
   exact this
  obtain ⟨l, hl1, hl2⟩ := list_of_all len hq
  have hlen : len ≤ 9223372036854775807 := by simp only [maxLen] at hc; omega
  refine ⟨l, ⟨some a, cap, by rw [hl1], by omega, rfl, by omega, fun _ => ⟨a, rfl, fun j p hp => (hl2 j p hp).1⟩⟩, by omega, fun b hb => ?_⟩
  obtain ⟨i, hi, rfl⟩ := List.mem_iff_getElem.1 hb
  exact (hl2 i _ (List.getElem?_eq_getElem hi)).2
theorem br_slice' {P : Program} {t e : TypeId} {α : Type} {d : Kd α} {wf : α → Prop} (ht : P.underlying t = some (.slice e)) (hs : P.cellsOf e = d.sz) (h : ∀ n, BrN P n e d wf) (n : Nat) :
  BrN P n t (Kd.slice e d) (fun l => l.length ≤ 9223372036854775807 ∧ ∀ a ∈ l, wf a) := (br_slice ht hs (h n)).mono (Nat.le_succ n)
theorem bf_one {P : Program} {n o : Nat} {f : Field} {α : Type} {d : Kd α} {wf : α → Prop} (ho : f.offset = o) (hs : P.cellsOf f.type = d.sz) (h : BrN P n f.type d wf) : BF P n [f] o d wf := by
 intro H enc w base spare held m cs xs hm hl hx hf
 have g := hf 0 f rfl
 rw [ho, Nat.sub_self, List.drop_zero, hs, ← hl, List.take_length, List.getElem?_eq_getElem (by simp at hx; omega)] at g
 exact h H enc w base spare held m cs _ hm g
theorem bf_cons {P : Program} {n o : Nat} {f : Field} {fs : List Field} {α β : Type} {d : Kd α} {d' : Kd β} {wf : α → Prop} {wf' : β → Prop} (ho : f.offset = o) (hs : P.cellsOf f.type = d.sz) (h : BrN P n f.type d wf)
  (hfs : BF P n fs (o + d.sz) d' wf') (hle : ∀ g ∈ fs, o + d.sz ≤ g.offset) : BF P n (f :: fs) o (Kd.pair d d') (fun x => wf x.1 ∧ wf' x.2) := by
 intro H enc w base spare held m cs xs hm hl hx hf
 have hl' : cs.length = d.sz + d'.sz := hl
 have g := hf 0 f rfl
 rw [ho, Nat.sub_self, List.drop_zero, hs, List.getElem?_eq_getElem (by simp at hx; omega)] at g
 obtain ⟨a, ha, hwa⟩ := h H enc w base spare held m _ _ hm g
 cases xs with
 | nil => simp at hx
 | cons y ys =>
  obtain ⟨b, hb, hwb⟩ := hfs H enc w base spare held m (cs.drop d.sz) ys hm (by rw [List.length_drop]; omega) (by simpa using hx) (fun i q hq => by
   have g2 := hf (i + 1) q (by simpa using hq)
   have hm : q ∈ fs := List.mem_of_getElem? hq
   have := hle q hm
   rw [List.drop_drop, show d.sz + (q.offset - (o + d.sz)) = q.offset - o by omega]
   simpa using g2)
  exact ⟨(a, b), ⟨cs.take d.sz, cs.drop d.sz, (List.take_append_drop _ _).symm, ha, hb⟩, hwa, hwb⟩
theorem br_struct {P : Program} {t : TypeId} {fs : Array Field} {α : Type} {d : Kd α} {wf : α → Prop} {n : Nat} (ht : P.underlying t = some (.struct fs)) (hs : P.cellsOf t = d.sz) (h : BF P n fs.toList 0 d wf) : BrN P (n + 1) t d wf := by
 intro H enc w base spare held m cs x hm hx
 obtain ⟨xs, k, rfl, _, hl, hxs, hf⟩ := DataW.trod_struct ht hx
 exact h H enc w base spare held k cs xs (by omega) (by rw [hl, hs]) (by simpa using hxs) (fun i f hi => by simpa using hf i f (by simpa using hi))
theorem br_struct' {P : Program} {t : TypeId} {fs : Array Field} {α : Type} {d : Kd α} {wf : α → Prop} (ht : P.underlying t = some (.struct fs)) (hs : P.cellsOf t = d.sz) (h : ∀ n, BF P n fs.toList 0 d wf) (n : Nat) : BrN P n t d wf :=
 (br_struct ht hs (h n)).mono (Nat.le_succ n)
theorem arr_of {xs : Array Value} {l : List Value} (h : xs.toList = l) : xs = l.toArray := by rw [← h]
end Go.Proofs.Ytjmfpaalglbbhaa.Br
namespace Go.Proofs.Ytjmfpaalglbbhaa.Pure
open Go Go.RowKit Go.Proofs.Ytjmfpaalglbbhaa.Br Go.Proofs.YtjmfpaalglbbhaaW.PrintWords Go.Proofs.YtjmfpaalglbbhaaW.PrintLast Go.Proofs.Ytjmfpaalglbbhaa.A Go.Proofs.Ytjmfpaalglbbhaa.Ext
def FnExactStartStates.Pure : Prop := ∀ (a0_0 : ByteArray) (a0_1 : ByteArray) (l0_2 : (List (List Int))) (l0_3 : (List Int)) (l0_4 : (List (List Int))) (l0_5 : (List (List Int))), ((a0_0 : ByteArray).size ≤ 9223372036854775807) → ((a0_1 : ByteArray).size ≤ 9223372036854775807) → ((l0_2 : (List (List Int))).length ≤ 9223372036854775807 ∧ ∀ a ∈ l0_2, (a : (List Int)).length ≤ 9223372036854775807 ∧ ∀ b ∈ a, (Lit.int .i64 b).wf = true) → ((l0_3 : (List Int)).length ≤ 9223372036854775807 ∧ ∀ a ∈ l0_3, (Lit.int .i64 a).wf = true) → ((l0_4 : (List (List Int))).length ≤ 9223372036854775807 ∧ ∀ a ∈ l0_4, (a : (List Int)).length ≤ 9223372036854775807 ∧ ∀ b ∈ a, (Lit.int .i64 b).wf = true) → ((l0_5 : (List (List Int))).length ≤ 9223372036854775807 ∧ ∀ a ∈ l0_5, (a : (List Int)).length ≤ 9223372036854775807 ∧ ∀ b ∈ a, (Lit.int .i64 b).wf = true) → ∃ k, laws_FnExactStartStates.f k a0_0 a0_1 l0_2 l0_3 l0_4 l0_5 = some true
end Go.Proofs.Ytjmfpaalglbbhaa.Pure
namespace Go.Proofs.Ytjmfpaalglbbhaa.Pl
open Go.RowKit Go.Proofs.YtjmfpaalglbbhaaW.PrintWords
def Evt {α : Type} (g : Nat → Option α) (r : α) : Prop := ∃ K, ∀ k, K ≤ k → g k = some r
section
variable {α β : Type}
theorem Evt.const {g : Option α} {r : α} (h : g = some r) : Evt (fun _ => g) r := ⟨0, fun _ _ => h⟩
theorem Evt.ret (r : α) : Evt (fun _ => some r) r := Evt.const rfl
theorem Evt.bind {g : Nat → Option α} {f : Nat → α → Option β} {a : α} {r : β} (hg : Evt g a) (hf : Evt (fun k => f k a) r) : Evt (fun k => (g k).bind (f k)) r := by
 obtain ⟨K, hK⟩ := hg
 obtain ⟨L, hL⟩ := hf
 exact ⟨max K L, fun k hk => by show (g k).bind (f k) = some r; rw [hK k (by omega)]; exact hL k (by omega)⟩
theorem Evt.bindc {g : Option α} {f : Nat → α → Option β} {a : α} {r : β} (hg : g = some a) (hf : Evt (fun k => f k a) r) : Evt (fun k => g.bind (f k)) r := Evt.bind (Evt.const hg) hf
theorem Evt.step {g : Nat → Option α} {r : α} (h : Evt (fun k => g (k + 1)) r) : Evt g r := by
 obtain ⟨K, hK⟩ := h
 exact ⟨K + 1, fun k hk => by
  obtain ⟨m, rfl⟩ : ∃ m, k = m + 1 := ⟨k - 1, by omega⟩
  exact hK m (by omega)⟩
theorem Evt.pos {c : Prop} [Decidable c] {t e : Nat → Option α} {r : α} (h : c) (ht : Evt t r) : Evt (fun k => if c then t k else e k) r := by
 obtain ⟨K, hK⟩ := ht
 exact ⟨K, fun k hk => (if_pos h).trans (hK k hk)⟩
theorem Evt.neg {c : Prop} [Decidable c] {t e : Nat → Option α} {r : α} (h : ¬ c) (ht : Evt e r) : Evt (fun k => if c then t k else e k) r := by
 obtain ⟨K, hK⟩ := ht
 exact ⟨K, fun k hk => (if_neg h).trans (hK k hk)⟩
theorem Evt.ite {c : Prop} [Decidable c] {t e : Nat → Option α} {x y : α} (ht : c → Evt t x) (he : ¬ c → Evt e y) : Evt (fun k => if c then t k else e k) (if c then x else y) := by
 by_cases h : c
 ·rw [if_pos h]; exact Evt.pos h (ht h)
 ·rw [if_neg h]; exact Evt.neg h (he h)
theorem Evt.get {g : Nat → Option α} {r : α} (h : Evt g r) : ∃ k, g k = some r := by
 obtain ⟨K, hK⟩ := h
 exact ⟨K, hK K (Nat.le_refl _)⟩
theorem Evt.of_eq {g g' : Nat → Option α} {r : α} (h : ∀ k, g k = g' k) (h' : Evt g' r) : Evt g r := by
 obtain ⟨K, hK⟩ := h'
 exact ⟨K, fun k hk => by rw [h]; exact hK k hk⟩
theorem Evt.cast {g : Nat → Option α} {r r' : α} (h : Evt g r) (e : r = r') : Evt g r' := e ▸ h
theorem Evt.up (l : Nat → Int → Option α) (n : Nat) (R : Nat → α) (hend : Evt (fun k => l k (n : Int)) (R n))
  (hstep : ∀ i : Nat, i < n → Evt (fun k => l k ((i + 1 : Nat) : Int)) (R (i + 1)) → Evt (fun k => l k (i : Int)) (R i)) : Evt (fun k => l k 0) (R 0) := by
 have h : ∀ d i : Nat, i + d = n → Evt (fun k => l k (i : Int)) (R i) := by
  intro d
  induction d with
  | zero =>
   intro i hi
   obtain rfl : i = n := by omega
   exact hend
  | succ d ih =>
   intro i hi
   exact hstep i (by omega) (ih (i + 1) (by omega))
 exact h n 0 (by omega)
end
theorem w64 {x : Int} (h : -9223372036854775808 ≤ x) (h' : x ≤ 9223372036854775807) : wrap64 x = x := by unfold wrap64; omega
theorem w64s {i : Nat} (h : i < 9223372036854775807) : wrap64 ((i : Int) + 1) = ((i + 1 : Nat) : Int) := by
 rw [w64 (by omega) (by omega)]; omega
theorem bt0 (s : ByteArray) (i : Int) : 0 ≤ bt s i := (bt_range s i).1
theorem bt255 (s : ByteArray) (i : Int) : bt s i ≤ 255 := (bt_range s i).2
theorem bt_get (s : ByteArray) (i : Nat) (h : i < (bytesOf s).length) : bt s (i : Int) = (bytesOf s)[i] := by
 rw [← rd_bytesOf]
 simp [rd, h]
theorem bytesOf_inj {s t : ByteArray} (h : bytesOf s = bytesOf t) : s = t := by
 have h1 : s.data.toList = t.data.toList := by
  refine List.map_inj_right (f := fun b : UInt8 => (b.toNat : Int)) (fun x y hxy => ?_) |>.1 h
  exact UInt8.toNat_inj.1 (Int.ofNat_inj.1 hxy)
 cases s; cases t
 simp only [ByteArray.mk.injEq]
 exact Array.toList_inj.1 h1
theorem toList_eq_iff (s t : ByteArray) : s.toList = t.toList ↔ s = t := by
 rw [Lib.toList_data, Lib.toList_data]
 constructor
 ·intro h
  cases s; cases t
  simp only [ByteArray.mk.injEq]
  exact Array.toList_inj.1 h
 ·rintro rfl; rfl
theorem toList_nil_iff (s : ByteArray) : s.toList = ([] : List UInt8) ↔ s.size = 0 := by
 rw [Lib.toList_data, ← data_length, List.length_eq_zero_iff]
theorem mem_bytes (s : ByteArray) {c : Int} (h : c ∈ bytesOf s) : 0 ≤ c ∧ c ≤ 255 := by
 unfold bytesOf at h
 obtain ⟨b, _, rfl⟩ := List.mem_map.1 h
 have := b.toNat_lt
 omega
theorem bytesOf_append (s t : ByteArray) : bytesOf (s ++ t) = bytesOf s ++ bytesOf t := by
 simp [bytesOf, ByteArray.data_append]
theorem bytesOf_extract (s : ByteArray) (a b : Nat) : bytesOf (s.extract a b) = ((bytesOf s).drop a).take (b - a) := by
 have h := Lib.extract_toList s a b
 rw [Lib.toList_data] at h
 unfold bytesOf
 rw [h, List.map_take, List.map_drop]
theorem bytesOf_tail (s : ByteArray) (a : Nat) : bytesOf (s.extract a s.size) = (bytesOf s).drop a := by
 rw [bytesOf_extract, List.take_of_length_le]
 rw [List.length_drop, bytesOf_length]
 exact Nat.le_refl _
def ltI (c : Int) : Int := if 97 = c then 0 else if 98 = c then 1 else if 99 = c then 2 else -1
def varI (c : Int) : Int := if 88 = c then 0 else if 89 = c then 1 else if 90 = c then 2 else -1
def isVr (c : Int) : Bool := decide (88 ≤ c ∧ c ≤ 90)
theorem ix_abc : ∀ n : Nat, n < 256 → Lib.indexByte [97, 98, 99] n.toUInt8 = ltI (n : Int) := by decide +kernel
theorem ix_XYZ : ∀ n : Nat, n < 256 → Lib.indexByte [88, 89, 90] n.toUInt8 = varI (n : Int) := by decide +kernel
theorem varI_isVar (c : Int) : decide (varI c ≥ 0) = isVr c := by
 unfold varI isVr
 split
 ·subst_vars; rfl
 ·split
  ·subst_vars; rfl
  ·split
   ·subst_vars; rfl
   ·simp; omega
theorem ltI_nonneg (c : Int) : 0 ≤ ltI c ↔ (97 ≤ c ∧ c ≤ 99) := by
 unfold ltI
 split
 ·subst_vars; simp
 ·split
  ·subst_vars; simp
  ·split
   ·subst_vars; simp
   ·simp; omega
theorem ltI_le (c : Int) : ltI c ≤ 2 := by
 unfold ltI
 repeat' split
 all_goals omega
theorem ltI_ge (c : Int) : -1 ≤ ltI c := by
 unfold ltI
 repeat' split
 all_goals omega
theorem bt_abc0 : bt (⟨#[97, 98, 99]⟩ : ByteArray) 0 = 97 := by decide
theorem bt_abc1 : bt (⟨#[97, 98, 99]⟩ : ByteArray) 1 = 98 := by decide
theorem bt_abc2 : bt (⟨#[97, 98, 99]⟩ : ByteArray) 2 = 99 := by decide
theorem bt_XYZ0 : bt (⟨#[88, 89, 90]⟩ : ByteArray) 0 = 88 := by decide
theorem bt_XYZ1 : bt (⟨#[88, 89, 90]⟩ : ByteArray) 1 = 89 := by decide
theorem bt_XYZ2 : bt (⟨#[88, 89, 90]⟩ : ByteArray) 2 = 90 := by decide
theorem w64_a : wrap64 1 = 1 := by unfold wrap64; omega
theorem w64_b : wrap64 2 = 2 := by unfold wrap64; omega
theorem w64_c : wrap64 3 = 3 := by unfold wrap64; omega
theorem w64_1 : wrap64 (0 + 1) = 1 := by unfold wrap64; omega
theorem w64_2 : wrap64 (1 + 1) = 2 := by unfold wrap64; omega
theorem w64_3 : wrap64 (2 + 1) = 3 := by unfold wrap64; omega
theorem indexByte_nonneg (l : List UInt8) (c : UInt8) : 0 ≤ Lib.indexByte l c ↔ c ∈ l := by
 induction l with
 | nil => simp [Lib.indexByte]
 | cons b l ih =>
  unfold Lib.indexByte
  by_cases h : b = c
  ·subst h; simp
  ·have hb : (b == c) = false := by simpa using h
   rw [hb]
   have hge := Lib.indexByte_ge l c
   by_cases h2 : Lib.indexByte l c = -1
   ·simp only [h2]
    simp
    refine ⟨fun e => h e.symm, fun hm => ?_⟩
    have := ih.2 hm
    omega
   ·have h3 : (Lib.indexByte l c == -1) = false := by simpa using h2
    rw [h3]
    simp
    constructor
    ·intro _; exact .inr (ih.1 (by omega))
    ·rintro (e | hm)
     ·exact absurd e.symm h
     ·have := ih.2 hm; omega
theorem mem_data (s : ByteArray) (n : Nat) (hn : n < 256) : n.toUInt8 ∈ s.data.toList ↔ (n : Int) ∈ bytesOf s := by
 unfold bytesOf
 rw [List.mem_map]
 constructor
 ·intro h
  exact ⟨_, h, by simp [Nat.mod_eq_of_lt hn]⟩
 ·rintro ⟨b, hb, e⟩
  have e2 : b.toNat = n := by omega
  subst e2
  simpa using hb
theorem w64_sub {a : Int} {n : Nat} (ha : -1 ≤ a) (ha' : a ≤ 1048576) (hn : n ≤ 9223372036854775807) : wrap64 (a - (n : Int)) = a - (n : Int) := w64 (by omega) (by omega)
end Go.Proofs.Ytjmfpaalglbbhaa.Pl
namespace Go.Proofs.Ytjmfpaalglbbhaa.F
open Go.RowKit Go.Proofs.YtjmfpaalglbbhaaW.PrintWords Go.Proofs.Ytjmfpaalglbbhaa.Pl Go.Proofs.Ytjmfpaalglbbhaa.A Go.Proofs.Ytjmfpaalglbbhaa.Ext
def cntB (l : List Int) (c : Int) : Nat := l.count c
theorem spec_CountByte_ev (s : ByteArray) (c : Int) (hs : s.size ≤ 9223372036854775807) : Evt (fun k => spec_CountByte.f k s c) ((cntB (bytesOf s) c : Nat) : Int) := by
 have h : ∀ d i n : Nat, i + d = s.size → n ≤ i → Evt (fun k => spec_CountByte.l0 k s c (n : Int) (i : Int)) (((n + cntB ((bytesOf s).drop i) c : Nat)) : Int) := by
  intro d
  induction d with
  | zero =>
   intro i n hi hn
   refine Evt.step ?_
   simp only [spec_CountByte.l0]
   rw [List.drop_of_length_le (by rw [bytesOf_length]; omega)]
   exact Evt.neg (by omega) (Evt.const (by simp [cntB]))
  | succ d ih =>
   intro i n hi hn
   refine Evt.step ?_
   simp only [spec_CountByte.l0]
   have hl : i < (bytesOf s).length := by rw [bytesOf_length]; omega
   rw [List.drop_eq_getElem_cons hl, ← bt_get s i hl, w64s (i := i) (by omega), w64s (i := n) (by omega)]
   refine Evt.pos (by omega) (Evt.pos (by omega) ?_)
   by_cases hc : bt s i = c
   ·exact Evt.pos hc ((ih (i + 1) (n + 1) (by omega) (by omega)).cast (by simp [cntB, hc]; omega))
   ·exact Evt.neg hc ((ih (i + 1) n (by omega) (by omega)).cast (by simp [cntB, hc]))
 have := h s.size 0 0 (by omega) (by omega)
 simpa [spec_CountByte.f] using this
end Go.Proofs.Ytjmfpaalglbbhaa.F
namespace Go.Proofs.Ytjmfpaalglbbhaa.F
open Go.RowKit Go.Proofs.YtjmfpaalglbbhaaW.PrintWords Go.Proofs.Ytjmfpaalglbbhaa.Pl Go.Proofs.Ytjmfpaalglbbhaa.A Go.Proofs.Ytjmfpaalglbbhaa.Ext
def cp : List Int → List Int → Nat
 | x :: xs, y :: ys => if x = y then cp xs ys + 1 else 0
 | _, _ => 0
theorem cp_nil_r (xs : List Int) : cp xs [] = 0 := by cases xs <;> rfl
theorem cp_nil_l (xs : List Int) : cp [] xs = 0 := by cases xs <;> rfl
def stripB (a b : ByteArray) : ByteArray × ByteArray := (a.extract (cp (bytesOf a) (bytesOf b)) a.size, b.extract (cp (bytesOf a) (bytesOf b)) b.size)
theorem spec_StripEquation_ev (a b : ByteArray) (ha : a.size ≤ 9223372036854775807) (hb : b.size ≤ 9223372036854775807) : Evt (fun k => spec_StripEquation.f k a b) (stripB a b) := by
 have h : ∀ d i : Nat, i + d = a.size → i ≤ b.size → Evt (fun k => spec_StripEquation.l0 k (i : Int) a b) (a.extract (i + cp ((bytesOf a).drop i) ((bytesOf b).drop i)) a.size, b.extract (i + cp ((bytesOf a).drop i) ((bytesOf b).drop i)) b.size) := by
  intro d
  induction d with
  | zero =>
   intro i hi hb2
   refine Evt.step ?_
   simp only [spec_StripEquation.l0]
   refine Evt.neg (by omega) (Evt.pos (by omega) (Evt.pos (by omega) (Evt.pos (by omega) (Evt.const ?_))))
   rw [List.drop_of_length_le (l := bytesOf a) (by rw [bytesOf_length]; omega), cp_nil_l]
   simp
  | succ d ih =>
   intro i hi hb2
   have hl : i < (bytesOf a).length := by rw [bytesOf_length]; omega
   refine Evt.step ?_
   simp only [spec_StripEquation.l0]
   refine Evt.pos (by omega) ?_
   by_cases h2 : i < b.size
   ·have hl2 : i < (bytesOf b).length := by rw [bytesOf_length]; omega
    refine Evt.pos (by omega) (Evt.pos (by omega) ?_)
    rw [List.drop_eq_getElem_cons hl, List.drop_eq_getElem_cons hl2, ← bt_get a i hl, ← bt_get b i hl2, w64s (by omega)]
    by_cases hc : bt a i = bt b i
    ·refine Evt.pos hc ((ih (i + 1) (by omega) (by omega)).cast ?_)
     simp only [cp, hc, if_true]
     rw [show i + 1 + cp ((bytesOf a).drop (i + 1)) ((bytesOf b).drop (i + 1)) = i + (cp ((bytesOf a).drop (i + 1)) ((bytesOf b).drop (i + 1)) + 1) by omega]
    ·refine Evt.neg hc (Evt.pos (by omega) (Evt.pos (by omega) (Evt.const ?_)))
     simp [cp, hc]
   ·refine Evt.neg (by omega) (Evt.pos (by omega) (Evt.pos (by omega) (Evt.pos (by omega) (Evt.const ?_))))
    rw [List.drop_of_length_le (l := bytesOf b) (by rw [bytesOf_length]; omega), cp_nil_r]
    simp
 have := h a.size 0 (by omega) (by omega)
 simpa [spec_StripEquation.f, stripB] using this
theorem extract_all (a : ByteArray) : a.extract 0 a.size = a := bytesOf_inj (by rw [bytesOf_tail]; rfl)
theorem extract_one (a : ByteArray) (n : Nat) : (a.extract 1 a.size).extract n (a.extract 1 a.size).size = a.extract (n + 1) a.size :=
 bytesOf_inj (by rw [bytesOf_tail, bytesOf_tail, bytesOf_tail, List.drop_drop, Nat.add_comm])
theorem impl_StripEquation_ev (a b : ByteArray) : Evt (fun k => impl_StripEquation.f k a b) (stripB a b) := by
 have h : ∀ (n : Nat) (a b : ByteArray), a.size = n → Evt (fun k => impl_StripEquation.l0 k a b) (stripB a b) := by
  intro n
  induction n with
  | zero =>
   intro a b hn
   refine Evt.step ?_
   simp only [impl_StripEquation.l0]
   refine Evt.pos ((toList_nil_iff a).2 hn) (Evt.const ?_)
   have e : bytesOf a = [] := List.length_eq_zero_iff.1 (by rw [bytesOf_length]; exact hn)
   simp only [stripB, e, cp_nil_l, extract_all]
  | succ n ih =>
   intro a b hn
   refine Evt.step ?_
   simp only [impl_StripEquation.l0]
   refine Evt.neg (fun h => by rw [toList_nil_iff] at h; omega) ?_
   by_cases hb : b.size = 0
   ·refine Evt.pos ((toList_nil_iff b).2 hb) (Evt.const ?_)
    have e : bytesOf b = [] := List.length_eq_zero_iff.1 (by rw [bytesOf_length]; exact hb)
    simp only [stripB, e, cp_nil_r, extract_all]
   ·refine Evt.neg (fun h => hb ((toList_nil_iff b).1 h)) (Evt.pos (by omega) (Evt.pos (by omega) ?_))
    have hl : 0 < (bytesOf a).length := by rw [bytesOf_length]; omega
    have hl2 : 0 < (bytesOf b).length := by rw [bytesOf_length]; omega
    have ea : bytesOf a = bt a 0 :: (bytesOf a).drop 1 := by
     have := List.drop_eq_getElem_cons hl
     rw [List.drop_zero, ← bt_get a 0 hl] at this
     exact this
    have eb : bytesOf b = bt b 0 :: (bytesOf b).drop 1 := by
     have := List.drop_eq_getElem_cons hl2
     rw [List.drop_zero, ← bt_get b 0 hl2] at this
     exact this
    by_cases hc : bt a 0 = bt b 0
    ·refine Evt.pos hc (Evt.pos (by omega) (Evt.pos (by omega) ((ih _ _ ?_).cast ?_)))
     ·rw [← bytesOf_length, bytesOf_tail, List.length_drop, bytesOf_length]; omega
     ·have e1 : cp (bytesOf a) (bytesOf b) = cp ((bytesOf a).drop 1) ((bytesOf b).drop 1) + 1 := by
       rw [ea, eb]
       simp [cp, hc]
      simp only [stripB, extract_one, bytesOf_tail, e1]
    ·refine Evt.neg hc (Evt.const ?_)
     have e1 : cp (bytesOf a) (bytesOf b) = 0 := by
      rw [ea, eb]
      simp [cp, hc]
     simp only [stripB, e1, extract_all]
 exact h a.size a b rfl
end Go.Proofs.Ytjmfpaalglbbhaa.F
namespace Go.Proofs.Ytjmfpaalglbbhaa.A
open Go.RowKit Go.Proofs.Ytjmfpaalglbbhaa.Ext Go.Proofs.YtjmfpaalglbbhaaW.PrintWords Go.Proofs.YtjmfpaalglbbhaaW.PrintLast Go.Proofs.YtjmfpaalglbbhaaW.PrintMore
attribute [local go_sem] max2_int min2_int max_two min_two max_three min_three max_four min_four
def slices_Equal_int_int.l0 : Nat → List Int → List Int → Int → Int → Option (Bool)
 | 0, _, _, _, _ => none
 | k + 1, x0, x1, x12, x13 => if x13 < x12 then (if 0 ≤ x13 then (if x13 < (x0.length : Int) then (if x13 < (x1.length : Int) then (if (rd x0 x13) = (rd x1 x13) then (slices_Equal_int_int.l0 k x0 x1 x12 (wrap64 (x13 + 1))) else (some false)) else (none)) else (none)) else (none)) else (some true)
def slices_Equal_int_int.f (k : Nat) (l0 : List Int) (l1 : List Int) : Option (Bool) := if (l0.length : Int) = (l1.length : Int) then (slices_Equal_int_int.l0 k l0 l1 (l0.length : Int) 0) else (some false)
theorem slices_Equal_int_int.mono_l : ∀ k, (∀ y0 y1 y2 y3, LeO (slices_Equal_int_int.l0 k y0 y1 y2 y3) (slices_Equal_int_int.l0 (k + 1) y0 y1 y2 y3))
 | 0 => fun _ _ _ _ r h => by simp [slices_Equal_int_int.l0] at h
 | k + 1 => by
  have ih0 := slices_Equal_int_int.mono_l k
  ·intro y0 y1 y2 y3
   unfold slices_Equal_int_int.l0
   repeat' first
   | (with_reducible exact ih0 _ _ _ _)
   | (with_reducible exact LeO.refl _)
   | (with_reducible exact LeO.none _)
   | (with_reducible refine LeO.ite ?_ ?_)
   | (with_reducible refine LeO.bind ?_ (fun _ => ?_))
theorem slices_Equal_int_int.mono : ∀ a0 a1 k, LeO (slices_Equal_int_int.f k a0 a1) (slices_Equal_int_int.f (k + 1) a0 a1) := by
 intro a0 a1 k
 have ih0 := slices_Equal_int_int.mono_l k
 unfold slices_Equal_int_int.f
 repeat' first
   | (with_reducible exact ih0 _ _ _ _)
   | (with_reducible exact LeO.refl _)
   | (with_reducible exact LeO.none _)
   | (with_reducible refine LeO.ite ?_ ?_)
   | (with_reducible refine LeO.bind ?_ (fun _ => ?_))
theorem slices_Equal_int_int.calls (k : Nat) (A0 : Option Addr) (c0 : Nat) (l0 : List Int) (A1 : Option Addr) (c1 : Nat) (l1 : List Int) (r : Bool) (w : World) (hr0 : Kd.C (Kd.int .i64) w A0 l0.length l0) (hc0 : l0.length ≤ c0) (hr1 : Kd.C (Kd.int .i64) w A1 l1.length l1) (hc1 : l1.length ≤ c1) (h : slices_Equal_int_int.f k l0 l1 = some r) :
  Calls Try.prog 70 #[.slice A0 l0.length c0, .slice A1 l1.length c1] w fun e w' => e = .returned (.bool r) ∧ Drawn0 w w' := by
 have HR0 := Aside0.mk hr0
 have HC0 := Aside0.mk hc0
 clear hr0 hc0
 have HR1 := Aside0.mk hr1
 have HC1 := Aside0.mk hc1
 clear hr1 hc1
 have H : (if (l0.length : Int) = (l1.length : Int) then (slices_Equal_int_int.l0 k l0 l1 (l0.length : Int) 0) else (some false)) = some r := h
 clear h
 by_cases c3 : (l0.length : Int) = (l1.length : Int)
 ·rw [if_pos c3] at H
  have c3b0 : ((l0.length : Int) == (l1.length : Int)) = true := beq_iff_eq.mpr c3
  have c3b1 : ((l0.length : Int) != (l1.length : Int)) = false := bne_eq_false_iff_eq.mpr c3
  have c3b2 : (l0.length == l1.length) = true := by first | simpa using c3 | (simp at c3 ⊢; omega)
  clear c3
  have H' := Aside0.mk H
  clear H
  go_enter Try.func70, Try.ntmps70
  go_wp2
  repeat (go_quiet (fail); try go_wp2)
  first | go_loopg [13] k (fun kq v13 w' => ∃ (x13_1 : Int), v13 = .int .i64 x13_1 ∧ Aside0 (slices_Equal_int_int.l0 kq l0 l1 (l0.length : Int) x13_1 = some r) ∧ Aside0 (kq ≤ k) ∧ Drawn0 w w') | (simp only [Act.put, List.setIfInBounds_toArray, List.set_cons_succ, List.set_cons_zero]; go_loopg [13] k (fun kq v13 w' => ∃ (x13_1 : Int), v13 = .int .i64 x13_1 ∧ Aside0 (slices_Equal_int_int.l0 kq l0 l1 (l0.length : Int) x13_1 = some r) ∧ Aside0 (kq ≤ k) ∧ Drawn0 w w'))
  case atStart => exact ⟨(0), (by first | rfl | (simp; done) | (simp [*]; done)), H', ⟨Nat.le_refl _⟩, by repeat (first | exact Drawn0.refl _ | apply Drawn0.step)⟩
  case round =>
   clear H'
   try clear c1
   try clear p2
   try clear c3
   try clear c3b0
   try clear c3b1
   try clear c3b2
   obtain ⟨x13_1, rfl, HA, HK1, ⟨m1, rfl⟩⟩ := hrel
   cases gk with
   | zero => exact absurd HA.out (by simp [slices_Equal_int_int.l0])
   | succ k1 =>
    have H := HA.out
    clear HA
    simp only [slices_Equal_int_int.l0] at H
    by_cases c4 : x13_1 < (l0.length : Int)
    ·rw [if_pos c4] at H
     have c4b0 : decide (x13_1 < (l0.length : Int)) = true := decide_eq_true c4
     clear c4
     by_cases c5 : 0 ≤ x13_1
     ·rw [if_pos c5] at H
      have c5b0 : decide (0 ≤ x13_1) = true := decide_eq_true c5
      clear c5
      by_cases c6 : x13_1 < (l0.length : Int)
      ·rw [if_pos c6] at H
       have c6b0 : decide (x13_1 < (l0.length : Int)) = true := decide_eq_true c6
       clear c6
       by_cases c7 : x13_1 < (l1.length : Int)
       ·rw [if_pos c7] at H
        have c7b0 : decide (x13_1 < (l1.length : Int)) = true := decide_eq_true c7
        clear c7
        by_cases c8 : (rd l0 x13_1) = (rd l1 x13_1)
        ·rw [if_pos c8] at H
         have c8b0 : ((rd l0 x13_1) == (rd l1 x13_1)) = true := beq_iff_eq.mpr c8
         have c8b1 : ((rd l0 x13_1) != (rd l1 x13_1)) = false := bne_eq_false_iff_eq.mpr c8
         clear c8
         have H' := Aside0.mk H
         clear H
         have p70001 : 0 ≤ (x13_1 : Int) := of_decide_eq_true (by first | (with_reducible assumption) | assumption)
         have q70001 : x13_1 < (l0.length : Int) := of_decide_eq_true (by first | (with_reducible assumption) | assumption)
         obtain ⟨ad70001, e70001, hx70001_0⟩ := Kd.at_int HR0.out x13_1 p70001 q70001
         cases e70001
         replace p70001 := eq_true p70001
         replace q70001 := eq_true q70001
         have p70002 : 0 ≤ (x13_1 : Int) := of_decide_eq_true (by first | (with_reducible assumption) | assumption)
         have q70002 : x13_1 < (l1.length : Int) := of_decide_eq_true (by first | (with_reducible assumption) | assumption)
         obtain ⟨ad70002, e70002, hx70002_0⟩ := Kd.at_int HR1.out x13_1 p70002 q70002
         cases e70002
         replace p70002 := eq_true p70002
         replace q70002 := eq_true q70002
         go_wp2
         repeat (go_quiet (fail); try go_wp2)
         go_roundg k1
         case measure => have := HK1.out; omega
         case rel => exact ⟨(wrap64 (x13_1 + 1)), (by first | rfl | (simp; done) | (simp [*]; done)), H', ⟨by have := HK1.out; omega⟩, by repeat (first | exact Drawn0.refl _ | apply Drawn0.step)⟩
        ·rw [if_neg c8] at H
         have c8b0 : ((rd l0 x13_1) == (rd l1 x13_1)) = false := beq_eq_false_iff_ne.mpr c8
         have c8b1 : ((rd l0 x13_1) != (rd l1 x13_1)) = true := bne_iff_ne.mpr c8
         obtain rfl := Option.some.inj H
         have p70001 : 0 ≤ (x13_1 : Int) := of_decide_eq_true (by first | (with_reducible assumption) | assumption)
         have q70001 : x13_1 < (l0.length : Int) := of_decide_eq_true (by first | (with_reducible assumption) | assumption)
         obtain ⟨ad70001, e70001, hx70001_0⟩ := Kd.at_int HR0.out x13_1 p70001 q70001
         cases e70001
         replace p70001 := eq_true p70001
         replace q70001 := eq_true q70001
         have p70002 : 0 ≤ (x13_1 : Int) := of_decide_eq_true (by first | (with_reducible assumption) | assumption)
         have q70002 : x13_1 < (l1.length : Int) := of_decide_eq_true (by first | (with_reducible assumption) | assumption)
         obtain ⟨ad70002, e70002, hx70002_0⟩ := Kd.at_int HR1.out x13_1 p70002 q70002
         cases e70002
         replace p70002 := eq_true p70002
         replace q70002 := eq_true q70002
         go_wp2
         repeat (go_quiet (fail); try go_wp2)
         go_ret
         exact ⟨by first | rfl | (simp; done) | (simp [*]; done), by repeat (first | exact Drawn0.refl _ | apply Drawn0.step)⟩
       ·rw [if_neg c7] at H
        exact absurd H (by simp)
      ·rw [if_neg c6] at H
       exact absurd H (by simp)
     ·rw [if_neg c5] at H
      exact absurd H (by simp)
    ·rw [if_neg c4] at H
     have c4b0 : decide (x13_1 < (l0.length : Int)) = false := decide_eq_false c4
     clear c4
     obtain rfl := Option.some.inj H
     go_wp2
     repeat (go_quiet (fail); try go_wp2)
     go_ret
     exact ⟨by first | rfl | (simp; done) | (simp [*]; done), by repeat (first | exact Drawn0.refl _ | apply Drawn0.step)⟩
 ·rw [if_neg c3] at H
  have c3b0 : ((l0.length : Int) == (l1.length : Int)) = false := beq_eq_false_iff_ne.mpr c3
  have c3b1 : ((l0.length : Int) != (l1.length : Int)) = true := bne_iff_ne.mpr c3
  have c3b2 : (l0.length == l1.length) = false := by first | simpa using c3 | (simp at c3 ⊢; omega)
  obtain rfl := Option.some.inj H
  go_enter Try.func70, Try.ntmps70
  go_wp2
  repeat (go_quiet (fail); try go_wp2)
  go_ret
  exact ⟨by first | rfl | (simp; done) | (simp [*]; done), by repeat (first | exact Drawn0.refl _ | apply Drawn0.step)⟩
end Go.Proofs.Ytjmfpaalglbbhaa.A
namespace Go.Proofs.Ytjmfpaalglbbhaa.F
open Go.RowKit Go.Proofs.YtjmfpaalglbbhaaW.PrintWords Go.Proofs.Ytjmfpaalglbbhaa.Pl Go.Proofs.Ytjmfpaalglbbhaa.A
theorem rd_at (l : List Int) (i : Nat) (h : i < l.length) : rd l (i : Int) = l[i] := by simp [rd, h]
theorem slEq_ev (l l' : List Int) (hl : l.length ≤ 9223372036854775807) : Evt (fun k => slices_Equal_int_int.f k l l') (decide (l = l')) := by
 simp only [slices_Equal_int_int.f]
 by_cases he : l.length = l'.length
 ·refine Evt.pos (by omega) ?_
  have h := Evt.up (fun k i => slices_Equal_int_int.l0 k l l' (l.length : Int) i) l.length (fun i => decide (l.drop i = l'.drop i)) ?_ ?_
  ·simpa using h
  ·refine Evt.step ?_
   simp only [slices_Equal_int_int.l0]
   refine Evt.neg (by omega) (Evt.const ?_)
   rw [List.drop_of_length_le (Nat.le_refl _), List.drop_of_length_le (by omega)]
   rfl
  ·intro i hi h
   refine Evt.step ?_
   simp only [slices_Equal_int_int.l0]
   have hi' : i < l'.length := by omega
   refine Evt.pos (by omega) (Evt.pos (by omega) (Evt.pos (by omega) (Evt.pos (by omega) ?_)))
   rw [List.drop_eq_getElem_cons hi, List.drop_eq_getElem_cons hi', w64s (by omega), rd_at l i hi, rd_at l' i hi']
   by_cases hc : l[i] = l'[i]
   ·exact Evt.pos hc (h.cast (by rw [hc]; simp only [List.cons.injEq, true_and]))
   ·exact Evt.neg hc (Evt.const (by rw [decide_eq_false (fun e => hc (List.cons.inj e).1)]))
 ·refine Evt.neg (by omega) (Evt.const ?_)
  have : l ≠ l' := fun e => he (by rw [e])
  simp [this]
end Go.Proofs.Ytjmfpaalglbbhaa.F
namespace Go.Proofs.Ytjmfpaalglbbhaa.F
open Go.RowKit Go.Proofs.YtjmfpaalglbbhaaW.PrintWords Go.Proofs.Ytjmfpaalglbbhaa.Pl Go.Proofs.Ytjmfpaalglbbhaa.A
theorem szIntS_eq (l : List Int) (a : Int) (ha : -1 ≤ a) (ha' : a ≤ 1048576) (hl : l.length ≤ 9223372036854775807) :
  ∃ t, laws_szIntS.f l a = some t ∧ (t = -1 ∨ (0 ≤ t ∧ t = a - l.length)) := by
 unfold laws_szIntS.f
 rw [w64_sub ha ha' hl]
 by_cases h1 : a - l.length < 0
 ·exact ⟨-1, by rw [if_pos h1], .inl rfl⟩
 ·rw [if_neg h1]; exact ⟨_, rfl, .inr ⟨by omega, rfl⟩⟩
theorem set_next (l : List Int) (i n : Nat) (hn : l.length = n) (hi : i < n) : (l.take i ++ List.replicate (n - i) 0).set i (rd l (i : Int)) = l.take (i + 1) ++ List.replicate (n - (i + 1)) 0 := by
 have hl : (l.take i).length = i := by rw [List.length_take]; omega
 have e : rd l (i : Int) = l[i] := by simp [rd, show i < l.length by omega]
 rw [List.set_append_right _ _ (by omega), hl, Nat.sub_self, show n - i = (n - (i + 1)) + 1 by omega, List.replicate_succ, List.set_cons_zero, List.take_succ_eq_append_getElem (by omega), e, List.append_assoc]
 rfl
theorem toIntS_ev (l : List Int) (hl : l.length ≤ 35184372088832) : Evt (fun k => laws_toIntS.f k l) l := by
 simp only [laws_toIntS.f]
 refine Evt.pos (by omega) (Evt.pos (by omega) ?_)
 rw [Int.toNat_natCast]
 have h : ∀ d i : Nat, i + d = l.length → Evt (fun k => laws_toIntS.l0 k l (l.take i ++ List.replicate (l.length - i) 0) (i : Int)) l := by
  intro d
  induction d with
  | zero =>
   intro i hi
   refine Evt.step ?_
   simp only [laws_toIntS.l0]
   refine Evt.neg (by omega) (Evt.const ?_)
   obtain rfl : i = l.length := by omega
   simp
  | succ d ih =>
   intro i hi
   refine Evt.step ?_
   simp only [laws_toIntS.l0]
   rw [w64s (by omega), Int.toNat_natCast, set_next l i l.length rfl (by omega)]
   exact Evt.pos (by omega) (Evt.pos (by omega) (Evt.pos (by simp; omega) (ih (i + 1) (by omega))))
 simpa using h l.length 0 (by omega)
theorem eqIntS_ev (l l' : List Int) (hl : l.length ≤ 9223372036854775807) : Evt (fun k => laws_eqIntS.f k l l') (decide (l = l')) := by
 simp only [laws_eqIntS.f]
 by_cases he : l.length = l'.length
 ·refine Evt.pos (by omega) ?_
  have h := Evt.up (fun k i => laws_eqIntS.l0 k l l' i) l.length (fun i => decide (l.drop i = l'.drop i)) ?_ ?_
  ·simpa using h
  ·refine Evt.step ?_
   simp only [laws_eqIntS.l0]
   refine Evt.neg (by omega) (Evt.const ?_)
   rw [List.drop_of_length_le (Nat.le_refl _), List.drop_of_length_le (by omega)]
   rfl
  ·intro i hi h
   refine Evt.step ?_
   simp only [laws_eqIntS.l0]
   have hi' : i < l'.length := by omega
   refine Evt.pos (by omega) (Evt.pos (by omega) (Evt.pos (by omega) ?_))
   rw [List.drop_eq_getElem_cons hi, List.drop_eq_getElem_cons hi', w64s (by omega)]
   have e1 : rd l (i : Int) = l[i] := by simp [rd, hi]
   have e2 : rd l' (i : Int) = l'[i] := by simp [rd, hi']
   rw [e1, e2]
   by_cases hc : l[i] = l'[i]
   ·exact Evt.pos hc (h.cast (by rw [hc]; simp only [List.cons.injEq, true_and]))
   ·exact Evt.neg hc (Evt.const (by rw [decide_eq_false (fun e => hc (List.cons.inj e).1)]))
 ·refine Evt.neg (by omega) (Evt.const ?_)
  have : l ≠ l' := fun e => he (by rw [e])
  simp [this]
end Go.Proofs.Ytjmfpaalglbbhaa.F
namespace Go.Proofs.Ytjmfpaalglbbhaa.F
open Go.RowKit Go.Proofs.YtjmfpaalglbbhaaW.PrintWords Go.Proofs.Ytjmfpaalglbbhaa.Pl Go.Proofs.Ytjmfpaalglbbhaa.A
theorem rows_at (l : List (List Int)) (i : Nat) (h : i < l.length) : rd_L1 l (i : Int) = l[i] := by simp [rd_L1, h]
def RowsLe (l : List (List Int)) (b : Nat) : Prop := l.length ≤ b ∧ ∀ x ∈ l, x.length ≤ b
theorem szIntSS_ev (l : List (List Int)) (a : Int) (ha : 0 ≤ a) (ha' : a ≤ 1048576) (hl : l.length ≤ 9223372036854775807) (hw : ∀ x ∈ l, x.length ≤ 9223372036854775807) :
  ∃ t, Evt (fun k => laws_szIntSS.f k l a) t ∧ (t = -1 ∨ (0 ≤ t ∧ t ≤ a ∧ RowsLe l 1048576)) := by
 simp only [laws_szIntSS.f]
 rw [w64_sub (by omega) ha' hl]
 by_cases h1 : a - l.length < 0
 ·exact ⟨-1, Evt.pos h1 (Evt.ret _), .inl rfl⟩
 have h : ∀ d i : Nat, i + d = l.length → ∀ b : Int, 0 ≤ b → b ≤ 1048576 → ∃ t, Evt (fun k => laws_szIntSS.l0 k l b (i : Int)) t ∧ (t = -1 ∨ (0 ≤ t ∧ t ≤ b ∧ ∀ x ∈ l.drop i, x.length ≤ 1048576)) := by
  intro d
  induction d with
  | zero =>
   intro i hi b hb hb'
   refine ⟨b, Evt.step ?_, .inr ⟨hb, Int.le_refl _, ?_⟩⟩
   ·simp only [laws_szIntSS.l0]
    exact Evt.neg (by omega) (Evt.ret _)
   ·rw [List.drop_of_length_le (by omega)]
    intro x hx
    cases hx
  | succ d ih =>
   intro i hi b hb hb'
   have hi' : i < l.length := by omega
   obtain ⟨t, ht, hc⟩ := szIntS_eq l[i] b (by omega) hb' (hw _ (List.getElem_mem hi'))
   by_cases h2 : t < 0
   ·refine ⟨-1, Evt.step ?_, .inl rfl⟩
    simp only [laws_szIntSS.l0]
    rw [rows_at l i hi']
    exact Evt.pos (by omega) (Evt.pos (by omega) (Evt.bindc ht (Evt.pos h2 (Evt.ret _))))
   ·have hc' : 0 ≤ t ∧ t = b - l[i].length := hc.elim (fun e => absurd (show t < 0 by omega) h2) id
    obtain ⟨t', ht', hc2⟩ := ih (i + 1) (by omega) t (by omega) (by omega)
    refine ⟨t', Evt.step ?_, ?_⟩
    ·simp only [laws_szIntSS.l0]
     rw [rows_at l i hi', w64s (by omega)]
     exact Evt.pos (by omega) (Evt.pos (by omega) (Evt.bindc ht (Evt.neg h2 ht')))
    ·rcases hc2 with h3 | ⟨h3, h4, h5⟩
     ·exact .inl h3
     ·refine .inr ⟨h3, by omega, ?_⟩
      rw [List.drop_eq_getElem_cons hi']
      intro x hx
      rcases List.mem_cons.1 hx with rfl | hx
      ·omega
      ·exact h5 x hx
 obtain ⟨t, ht, hc⟩ := h l.length 0 (by omega) (a - l.length) (by omega) (by omega)
 refine ⟨t, Evt.neg h1 ht, ?_⟩
 rcases hc with hc | ⟨h2, h3, h4⟩
 ·exact .inl hc
 ·exact .inr ⟨h2, by omega, by omega, by simpa using h4⟩
theorem set_nextR (l : List (List Int)) (i n : Nat) (hn : l.length = n) (hi : i < n) : (l.take i ++ List.replicate (n - i) []).set i l[i] = l.take (i + 1) ++ List.replicate (n - (i + 1)) [] := by
 have hl : (l.take i).length = i := by rw [List.length_take]; omega
 rw [List.set_append_right _ _ (by omega), hl, Nat.sub_self, show n - i = (n - (i + 1)) + 1 by omega, List.replicate_succ, List.set_cons_zero, List.take_succ_eq_append_getElem (by omega), List.append_assoc]
 rfl
theorem toIntSS_ev (l : List (List Int)) (hl : RowsLe l 1048576) : Evt (fun k => laws_toIntSS.f k l) l := by
 have hn := hl.1
 simp only [laws_toIntSS.f]
 refine Evt.pos (by omega) (Evt.pos (by omega) ?_)
 rw [Int.toNat_natCast]
 have h : ∀ d i : Nat, i + d = l.length → Evt (fun k => laws_toIntSS.l0 k l (l.take i ++ List.replicate (l.length - i) []) (i : Int)) l := by
  intro d
  induction d with
  | zero =>
   intro i hi
   refine Evt.step ?_
   simp only [laws_toIntSS.l0]
   refine Evt.neg (by omega) (Evt.const ?_)
   obtain rfl : i = l.length := by omega
   simp
  | succ d ih =>
   intro i hi
   have hi' : i < l.length := by omega
   have hx := hl.2 _ (List.getElem_mem hi')
   refine Evt.step ?_
   simp only [laws_toIntSS.l0]
   rw [rows_at l i hi']
   refine Evt.pos (by omega) (Evt.pos (by omega) (Evt.bind (toIntS_ev _ (by omega)) (Evt.pos (by simp; omega) ?_)))
   rw [Int.toNat_natCast, set_nextR l i l.length rfl hi', w64s (by omega)]
   exact ih (i + 1) (by omega)
 simpa using h l.length 0 (by omega)
theorem eqIntSS_ev (l l' : List (List Int)) (hl : l.length ≤ 9223372036854775807) (hw : ∀ x ∈ l, x.length ≤ 9223372036854775807) : Evt (fun k => laws_eqIntSS.f k l l') (decide (l = l')) := by
 simp only [laws_eqIntSS.f]
 by_cases he : l.length = l'.length
 ·refine Evt.pos (by omega) ?_
  have h := Evt.up (fun k i => laws_eqIntSS.l0 k l l' i) l.length (fun i => decide (l.drop i = l'.drop i)) ?_ ?_
  ·simpa using h
  ·refine Evt.step ?_
   simp only [laws_eqIntSS.l0]
   refine Evt.neg (by omega) (Evt.const ?_)
   rw [List.drop_of_length_le (Nat.le_refl _), List.drop_of_length_le (by omega)]
   rfl
  ·intro i hi h
   refine Evt.step ?_
   simp only [laws_eqIntSS.l0]
   have hi' : i < l'.length := by omega
   rw [rows_at l i hi, rows_at l' i hi']
   refine Evt.pos (by omega) (Evt.pos (by omega) (Evt.pos (by omega) (Evt.bind (eqIntS_ev _ _ (hw _ (List.getElem_mem hi))) ?_)))
   rw [List.drop_eq_getElem_cons hi, List.drop_eq_getElem_cons hi', w64s (by omega)]
   by_cases hc : l[i] = l'[i]
   ·exact Evt.pos (by simp [hc]) (h.cast (by rw [hc]; simp only [List.cons.injEq, true_and]))
   ·exact Evt.neg (by simp [hc]) (Evt.const (by rw [decide_eq_false (fun e => hc (List.cons.inj e).1)]))
 ·refine Evt.neg (by omega) (Evt.const ?_)
  have : l ≠ l' := fun e => he (by rw [e])
  simp [this]
end Go.Proofs.Ytjmfpaalglbbhaa.F
namespace Go.Proofs.Ytjmfpaalglbbhaa.F
open Go Go.RowKit Go.Proofs.YtjmfpaalglbbhaaW.PrintWords Go.Proofs.YtjmfpaalglbbhaaW.PrintMore Go.Proofs.Ytjmfpaalglbbhaa.Pl Go.Proofs.Ytjmfpaalglbbhaa.A Go.Proofs.Ytjmfpaalglbbhaa.Ext
abbrev St := S89
def chB (s : ByteArray) (i : Nat) (l : List Int) : List Int := if ((88 + i : Nat) : Int) ∈ bytesOf s then l else l.take 1
def crossB (p : ByteArray × ByteArray) (X Y Z : List Int) : List St := X.flatMap fun x => Y.flatMap fun y => Z.map fun z => ⟨p.1, p.2, [x, y, z]⟩
def mnN (n : Nat) : Nat := if 401 < n then 401 else n
def startB (a b : ByteArray) (L : List (List Int)) : List St :=
 if L.length = 3 then (if 400 < mnN (chB (a ++ b) 0 (L.getD 0 [])).length * mnN (chB (a ++ b) 1 (L.getD 1 [])).length * mnN (chB (a ++ b) 2 (L.getD 2 [])).length then [] else crossB (stripB a b) (chB (a ++ b) 0 (L.getD 0 [])) (chB (a ++ b) 1 (L.getD 1 [])) (chB (a ++ b) 2 (L.getD 2 []))) else []
theorem bt_XYZ (i : Nat) (h : i < 3) : bt (⟨#[88, 89, 90]⟩ : ByteArray) (i : Int) = ((88 + i : Nat) : Int) := by
 rcases i with _ | _ | _ | i
 ·exact bt_XYZ0
 ·exact bt_XYZ1
 ·exact bt_XYZ2
 ·omega
theorem take_min (l : List Int) (n : Int) (h : n = 1 ∨ n = (l.length : Int) ∧ l.length ≤ 1) : l.take n.toNat = l.take 1 := by
 rcases h with rfl | ⟨rfl, h⟩
 ·rfl
 ·rw [Int.toNat_natCast, List.take_length, List.take_of_length_le h]
theorem mn1 (l : List Int) : l.take (mn 1 (l.length : Int)).toNat = l.take 1 ∧ 0 ≤ mn 1 (l.length : Int) ∧ mn 1 (l.length : Int) ≤ (l.length : Int) := by
 unfold mn
 by_cases h : (l.length : Int) < 1
 ·rw [if_pos h]
  exact ⟨take_min l _ (.inr ⟨rfl, by omega⟩), by omega, by omega⟩
 ·rw [if_neg h]
  exact ⟨take_min l _ (.inl rfl), by omega, by omega⟩
theorem mn401 (n : Nat) : mn (n : Int) 401 = ((mnN n : Nat) : Int) := by
 unfold mn mnN
 by_cases h : 401 < n
 ·rw [if_pos (by omega), if_pos h]
  rfl
 ·rw [if_neg (by omega), if_neg h]
theorem mnN_le (n : Nat) : mnN n ≤ 401 := by unfold mnN; split <;> omega
theorem ix_var (s : ByteArray) (i : Nat) (h : i < 3) : ∃ t, strings_IndexByte.f s (bt (⟨#[88, 89, 90]⟩ : ByteArray) (i : Int)) = some t ∧ (t < 0 ↔ ¬ ((88 + i : Nat) : Int) ∈ bytesOf s) := by
 rw [bt_XYZ i h]
 refine ⟨_, rfl, ?_⟩
 have h1 := indexByte_nonneg s.data.toList (88 + i).toUInt8
 rw [mem_data s (88 + i) (by omega)] at h1
 rw [Int.toNat_natCast, ← h1]
 omega
theorem cntB_zero (l : List Int) (c : Int) : cntB l c = 0 ↔ c ∉ l := by
 unfold cntB
 exact List.count_eq_zero
section impl
variable (x3 : List (List Int)) (a b : ByteArray) (X Y Z : List Int)
theorem impl_l3 (r : List St) (x10 x12 : Int) (x64 x72 : Int) (hZ : Z.length ≤ 1000000) : ∀ d i : Nat, ∀ out : List St, i + d = Z.length → out.length + d ≤ 1000000 →
  Evt (fun k => impl_StartStates.l2 k x3 (out ++ (Z.drop i).map fun z => (⟨a, b, [x10, x12, z]⟩ : St)) x10 X (X.length : Int) x64 Y (Y.length : Int) (wrap64 (x72 + 1)) a b) r →
  Evt (fun k => impl_StartStates.l3 k x3 out x10 x12 X (X.length : Int) x64 Y (Y.length : Int) x72 Z (Z.length : Int) (i : Int) a b) r := by
 intro d
 induction d with
 | zero =>
  intro i out hi ho h
  refine Evt.step ?_
  simp only [impl_StartStates.l3]
  rw [List.drop_of_length_le (by omega), List.map_nil, List.append_nil] at h
  exact Evt.neg (by omega) h
 | succ d ih =>
  intro i out hi ho h
  refine Evt.step ?_
  simp only [impl_StartStates.l3]
  refine Evt.pos (by omega) (Evt.pos (by omega) (Evt.pos (by omega) (Evt.pos (by omega) ?_)))
  rw [w64s (by omega), rd_at Z i (by omega)]
  refine ih (i + 1) _ (by omega) (by rw [List.length_append, List.length_cons, List.length_nil]; omega) ?_
  rw [List.drop_eq_getElem_cons (by omega), List.map_cons] at h
  rw [List.append_assoc, List.singleton_append]
  exact h
theorem impl_l2 (r : List St) (x10 x64 : Int) (hY : Y.length ≤ 9223372036854775806) (hZ : Z.length ≤ 1000000) (h2 : 2 < x3.length) (hz : rd_L1 x3 2 = Z) : ∀ d j : Nat, ∀ out : List St, j + d = Y.length → out.length + d * Z.length ≤ 1000000 →
  Evt (fun k => impl_StartStates.l1 k x3 (out ++ (Y.drop j).flatMap fun y => Z.map fun z => (⟨a, b, [x10, y, z]⟩ : St)) X (X.length : Int) (wrap64 (x64 + 1)) a b) r →
  Evt (fun k => impl_StartStates.l2 k x3 out x10 X (X.length : Int) x64 Y (Y.length : Int) (j : Int) a b) r := by
 intro d
 induction d with
 | zero =>
  intro j out hj ho h
  refine Evt.step ?_
  simp only [impl_StartStates.l2]
  rw [List.drop_of_length_le (by omega), List.flatMap_nil, List.append_nil] at h
  exact Evt.neg (by omega) h
 | succ d ih =>
  intro j out hj ho h
  rw [Nat.succ_mul] at ho
  refine Evt.step ?_
  simp only [impl_StartStates.l2]
  refine Evt.pos (by omega) (Evt.pos (by omega) (Evt.pos (by omega) (Evt.pos (by omega) ?_)))
  rw [hz, rd_at Y j (by omega)]
  refine impl_l3 x3 a b X Y Z r x10 _ x64 (j : Int) hZ Z.length 0 out (by omega) (by omega) ?_
  rw [w64s (by omega), List.drop_zero]
  refine ih (j + 1) _ (by omega) (by rw [List.length_append, List.length_map]; omega) ?_
  rw [List.drop_eq_getElem_cons (by omega), List.flatMap_cons] at h
  rw [List.append_assoc]
  exact h
theorem impl_l1 (hX : X.length ≤ 9223372036854775806) (hY : Y.length ≤ 9223372036854775806) (hZ : Z.length ≤ 1000000) (h2 : 2 < x3.length) (hy : rd_L1 x3 1 = Y) (hz : rd_L1 x3 2 = Z) : ∀ d i : Nat, ∀ out : List St, i + d = X.length → out.length + d * (Y.length * Z.length) ≤ 1000000 →
  Evt (fun k => impl_StartStates.l1 k x3 out X (X.length : Int) (i : Int) a b) (out ++ (X.drop i).flatMap fun x => Y.flatMap fun y => Z.map fun z => (⟨a, b, [x, y, z]⟩ : St)) := by
 intro d
 induction d with
 | zero =>
  intro i out hi ho
  refine Evt.step ?_
  simp only [impl_StartStates.l1]
  rw [List.drop_of_length_le (by omega), List.flatMap_nil, List.append_nil]
  exact Evt.neg (by omega) (Evt.ret _)
 | succ d ih =>
  intro i out hi ho
  rw [Nat.succ_mul] at ho
  refine Evt.step ?_
  simp only [impl_StartStates.l1]
  refine Evt.pos (by omega) (Evt.pos (by omega) (Evt.pos (by omega) (Evt.pos (by omega) ?_)))
  rw [hy, rd_at X i (by omega)]
  have hl : (Y.flatMap fun y => Z.map fun z => (⟨a, b, [X[i], y, z]⟩ : St)).length = Y.length * Z.length := by
   clear ih ho hy
   induction Y with
   | nil => simp
   | cons y Y ihY => rw [List.flatMap_cons, List.length_append, List.length_map, ihY (by rw [List.length_cons] at hY; omega), List.length_cons, Nat.succ_mul, Nat.add_comm]
  refine impl_l2 x3 a b X Y Z _ _ (i : Int) hY hZ h2 hz Y.length 0 out (by omega) (by omega) ?_
  rw [w64s (by omega), List.drop_zero, List.drop_eq_getElem_cons (by omega), List.flatMap_cons, ← List.append_assoc]
  exact ih (i + 1) _ (by omega) (by rw [List.length_append, hl]; omega)
end impl
theorem crossB_nil {p : ByteArray × ByteArray} {X Y Z : List Int} (h : X = [] ∨ Y = [] ∨ Z = []) : crossB p X Y Z = [] := by
 unfold crossB
 rcases h with rfl | rfl | rfl <;> simp
theorem mn_prod (x y z : Nat) (h : mnN x * mnN y * mnN z ≤ 400) : x = 0 ∨ y = 0 ∨ z = 0 ∨ x * y * z ≤ 400 ∧ x ≤ 400 ∧ y ≤ 400 ∧ z ≤ 400 := by
 by_cases hx : x = 0
 ·exact .inl hx
 by_cases hy : y = 0
 ·exact .inr (.inl hy)
 by_cases hz : z = 0
 ·exact .inr (.inr (.inl hz))
 refine .inr (.inr (.inr ?_))
 have px : 1 ≤ mnN x := by unfold mnN; split <;> omega
 have py : 1 ≤ mnN y := by unfold mnN; split <;> omega
 have pz : 1 ≤ mnN z := by unfold mnN; split <;> omega
 have e1 : mnN x * 1 * 1 ≤ mnN x * mnN y * mnN z := Nat.mul_le_mul (Nat.mul_le_mul (Nat.le_refl _) py) pz
 have e2 : 1 * mnN y * 1 ≤ mnN x * mnN y * mnN z := Nat.mul_le_mul (Nat.mul_le_mul px (Nat.le_refl _)) pz
 have e3 : 1 * 1 * mnN z ≤ mnN x * mnN y * mnN z := Nat.mul_le_mul (Nat.mul_le_mul px py) (Nat.le_refl _)
 have small : ∀ n, mnN n ≤ 400 → mnN n = n := by intro n hn; unfold mnN at hn ⊢; split at hn <;> rename_i hc <;> simp [hc] at * <;> omega
 simp only [Nat.mul_one, Nat.one_mul] at e1 e2 e3
 have q1 : mnN x = x := small x (by omega)
 have q2 : mnN y = y := small y (by omega)
 have q3 : mnN z = z := small z (by omega)
 have r1 : x ≤ 400 := by omega
 have r2 : y ≤ 400 := by omega
 have r3 : z ≤ 400 := by omega
 rw [q1, q2, q3] at h
 exact ⟨h, r1, r2, r3⟩
theorem mn_big (x y z : Nat) (h : 400 < mnN x * mnN y * mnN z) : 400 < x * y * z := by
 have h1 : ∀ n, mnN n ≤ n := by intro n; unfold mnN; split <;> omega
 exact Nat.lt_of_lt_of_le h (Nat.mul_le_mul (Nat.mul_le_mul (h1 x) (h1 y)) (h1 z))
theorem chB_len (s : ByteArray) (i : Nat) (l : List Int) : (chB s i l).length ≤ l.length := by
 unfold chB
 split
 ·exact Nat.le_refl _
 ·rw [List.length_take]; omega
theorem impl_StartStates_ev (a b : ByteArray) (x : List (List Int)) (y : List Int) (z L : List (List Int)) (hs : a.size + b.size ≤ 1048576) (hL : RowsLe L 1048576) : Evt (fun k => impl_StartStates.f k a b x y z L) (startB a b L) := by
 unfold startB
 simp only [impl_StartStates.f]
 by_cases h3 : ¬ L.length = 3
 ·rw [if_neg h3]
  exact Evt.neg (by omega) (Evt.ret _)
 have h3 : L.length = 3 := by omega
 rw [if_pos h3]
 refine Evt.pos (by omega) ?_
 have step : ∀ (i : Nat) (out : List (List Int)) (c : Nat) (r : List St), i < 3 → out.length ≤ 3 → c ≤ 1000000000 →
   Evt (fun k => impl_StartStates.l0 k (out ++ [chB (a ++ b) i (L.getD i [])]) ((c * mnN (chB (a ++ b) i (L.getD i [])).length : Nat) : Int) L (L.length : Int) ((i + 1 : Nat) : Int) a b x y z L) r →
   Evt (fun k => impl_StartStates.l0 k out (c : Int) L (L.length : Int) (i : Int) a b x y z L) r := by
  intro i out c r hi ho hc h
  have hg : rd_L1 L (i : Int) = L.getD i [] := by rw [rows_at L i (by omega)]; simp [h3, hi]
  obtain ⟨t, ht, hlt⟩ := ix_var (a ++ b) i hi
  have hw : ∀ n : Nat, wrap64 ((c : Int) * mn (n : Int) 401) = ((c * mnN n : Nat) : Int) := by
   intro n
   have hm := mnN_le n
   have hcm : c * mnN n ≤ 1000000000 * 401 := Nat.mul_le_mul hc hm
   rw [mn401, ← Int.natCast_mul]
   exact w64 (by omega) (by omega)
  refine Evt.step ?_
  simp only [impl_StartStates.l0]
  refine Evt.pos (by omega) (Evt.pos (by omega) (Evt.pos (by omega) (Evt.pos (by omega) (Evt.pos (by omega) (Evt.bindc ht ?_)))))
  rw [hg]
  unfold chB at h
  by_cases hv : ((88 + i : Nat) : Int) ∈ bytesOf (a ++ b)
  ·rw [if_pos hv] at h
   refine Evt.neg (by rw [hlt]; exact fun q => q hv) (Evt.pos (by omega) ?_)
   rw [hw, w64s (by omega)]
   exact h
  ·rw [if_neg hv] at h
   obtain ⟨e1, e2, e3⟩ := mn1 (L.getD i [])
   refine Evt.pos (hlt.2 hv) (Evt.pos e2 (Evt.pos e3 (Evt.bindc rfl (Evt.pos (by omega) ?_))))
   rw [e1, hw, w64s (by omega)]
   exact h
 have hX := chB_len (a ++ b) 0 (L.getD 0 [])
 have hY := chB_len (a ++ b) 1 (L.getD 1 [])
 have hZ := chB_len (a ++ b) 2 (L.getD 2 [])
 have hb : ∀ i, i < 3 → (L.getD i []).length ≤ 1048576 := fun i hi => hL.2 _ (by rw [List.getD_eq_getElem?_getD, List.getElem?_eq_getElem (by omega)]; exact List.getElem_mem _)
 have hX0 := hb 0 (by omega)
 have hY0 := hb 1 (by omega)
 have hZ0 := hb 2 (by omega)
 have last : ∀ X Y Z : List Int, X.length ≤ 1048576 → Y.length ≤ 1048576 → Z.length ≤ 1048576 →
   Evt (fun k => impl_StartStates.l0 k ((([] ++ [X]) ++ [Y]) ++ [Z]) ((1 * mnN X.length * mnN Y.length * mnN Z.length : Nat) : Int) L (L.length : Int) ((2 + 1 : Nat) : Int) a b x y z L) (if 400 < mnN X.length * mnN Y.length * mnN Z.length then [] else crossB (stripB a b) X Y Z) := by
  intro X Y Z hX hY hZ
  refine Evt.step ?_
  simp only [impl_StartStates.l0, Nat.one_mul]
  refine Evt.neg (by omega) ?_
  by_cases hc : 400 < mnN X.length * mnN Y.length * mnN Z.length
  ·rw [if_pos hc]
   exact Evt.pos (by omega) (Evt.ret _)
  rw [if_neg hc]
  refine Evt.neg (by omega) (Evt.bind (impl_StripEquation_ev a b) (Evt.pos (by simp) ?_))
  have hz : Z.length ≤ 1000000 ∨ X = [] ∨ Y = [] := by
   rcases mn_prod X.length Y.length Z.length (by omega) with h | h | h | h
   ·exact .inr (.inl (List.eq_nil_of_length_eq_zero h))
   ·exact .inr (.inr (List.eq_nil_of_length_eq_zero h))
   ·exact .inl (by omega)
   ·exact .inl (by omega)
  have hp : X.length * (Y.length * Z.length) ≤ 1000000 := by
   rcases mn_prod X.length Y.length Z.length (by omega) with h | h | h | h
   ·rw [h, Nat.zero_mul]; omega
   ·rw [h, Nat.zero_mul, Nat.mul_zero]; omega
   ·rw [h, Nat.mul_zero, Nat.mul_zero]; omega
   ·rw [← Nat.mul_assoc]; omega
  have e0 : rd_L1 ([] ++ [X] ++ [Y] ++ [Z]) 0 = X := rfl
  rw [e0]
  by_cases hZ' : Z.length ≤ 1000000
  ·have := impl_l1 ([] ++ [X] ++ [Y] ++ [Z]) (stripB a b).1 (stripB a b).2 X Y Z (by omega) (by omega) hZ' (by simp) rfl rfl X.length 0 [] (by omega) (by simpa using hp)
   simpa [crossB] using this
  ·rcases hz with h | h | h
   ·exact absurd h hZ'
   ·subst h
    refine Evt.step ?_
    simp only [impl_StartStates.l1]
    rw [crossB_nil (.inl rfl)]
    exact Evt.neg (by simp) (Evt.ret _)
   ·subst h
    rw [crossB_nil (.inr (.inl rfl))]
    have hh : ∀ d i : Nat, i + d = X.length → Evt (fun k => impl_StartStates.l1 k ([] ++ [X] ++ [[]] ++ [Z]) [] X (X.length : Int) (i : Int) (stripB a b).1 (stripB a b).2) [] := by
     intro d
     induction d with
     | zero =>
      intro i hi
      refine Evt.step ?_
      simp only [impl_StartStates.l1]
      exact Evt.neg (by omega) (Evt.ret _)
     | succ d ih =>
      intro i hi
      refine Evt.step ?_
      simp only [impl_StartStates.l1]
      refine Evt.pos (by omega) (Evt.pos (by omega) (Evt.pos (by omega) (Evt.pos (by simp) ?_)))
      refine Evt.step ?_
      simp only [impl_StartStates.l2]
      have e1 : rd_L1 ([] ++ [X] ++ [[]] ++ [Z]) 1 = [] := rfl
      rw [e1]
      refine Evt.neg (by simp) ?_
      rw [w64s (by omega)]
      exact ih (i + 1) (by omega)
    exact hh X.length 0 (by omega)
 have m0 := mnN_le (chB (a ++ b) 0 (L.getD 0 [])).length
 have m1 := mnN_le (chB (a ++ b) 1 (L.getD 1 [])).length
 have m01 : mnN (chB (a ++ b) 0 (L.getD 0 [])).length * mnN (chB (a ++ b) 1 (L.getD 1 [])).length ≤ 401 * 401 := Nat.mul_le_mul m0 m1
 exact step 0 [] 1 _ (by omega) (by simp) (by omega) (step 1 _ _ _ (by omega) (by simp) (by omega) (step 2 _ _ _ (by omega) (by simp) (by rw [Nat.one_mul]; omega) (last _ _ _ (by omega) (by omega) (by omega))))
theorem choices_ev (a b : ByteArray) (x : List (List Int)) (y : List Int) (z L : List (List Int)) (i : Nat) (hi : i < 3) (hs : a.size + b.size ≤ 1048576) (hL : L.length = 3) : Evt (fun k => spec_l14Choices.f k a b x y z L (i : Int)) (chB (a ++ b) i (L.getD i [])) := by
 simp only [spec_l14Choices.f]
 have hg : rd_L1 L (i : Int) = L.getD i [] := by rw [rows_at L i (by omega)]; simp [hL, hi]
 refine Evt.pos (by omega) (Evt.pos (by omega) (Evt.pos (by omega) ?_))
 rw [bt_XYZ i hi, hg]
 refine Evt.bind (spec_CountByte_ev _ _ (by rw [ByteArray.size_append]; omega)) ?_
 unfold chB
 by_cases hv : ((88 + i : Nat) : Int) ∈ bytesOf (a ++ b)
 ·rw [if_pos hv]
  exact Evt.neg (fun h => (cntB_zero _ _).1 (by omega) hv) (Evt.pos (by omega) (Evt.ret _))
 ·rw [if_neg hv]
  have hc := (cntB_zero (bytesOf (a ++ b)) ((88 + i : Nat) : Int)).2 hv
  refine Evt.pos (by omega) (Evt.pos (by omega) ?_)
  by_cases h1 : (1 : Int) < ((L.getD i []).length : Int)
  ·have e : spec_l1Min.f 1 ((L.getD i []).length : Int) = some 1 := by unfold spec_l1Min.f; rw [if_pos h1]
   exact Evt.bindc e (Evt.pos (by omega) (Evt.pos (by omega) (Evt.ret _)))
  ·have e : spec_l1Min.f 1 ((L.getD i []).length : Int) = some ((L.getD i []).length : Int) := by unfold spec_l1Min.f; rw [if_neg h1]
   refine Evt.bindc e (Evt.pos (by omega) (Evt.pos (by omega) ?_))
   rw [take_min (L.getD i []) _ (.inr ⟨rfl, by omega⟩)]
   exact Evt.ret _
section spec
variable (a b : ByteArray) (X Y Z : List Int)
theorem spec_l2 (r : List St) (ii j : Nat) (hi : ii < X.length) (hj : j < Y.length) (hZ : Z.length ≤ 1000000) : ∀ d i : Nat, ∀ out : List St, i + d = Z.length → out.length + d ≤ 1000000 →
  Evt (fun k => spec_StartStates.l1 k (out ++ (Z.drop i).map fun z => (⟨a, b, [X[ii], Y[j], z]⟩ : St)) X Y Z (ii : Int) (wrap64 ((j : Int) + 1)) a b) r →
  Evt (fun k => spec_StartStates.l2 k out X Y Z (ii : Int) (j : Int) (i : Int) a b) r := by
 intro d
 induction d with
 | zero =>
  intro i out hi ho h
  refine Evt.step ?_
  simp only [spec_StartStates.l2]
  rw [List.drop_of_length_le (by omega), List.map_nil, List.append_nil] at h
  exact Evt.neg (by omega) h
 | succ d ih =>
  intro i out hi ho h
  refine Evt.step ?_
  simp only [spec_StartStates.l2]
  refine Evt.pos (by omega) (Evt.pos (by omega) (Evt.pos (by omega) (Evt.pos (by omega) (Evt.pos (by omega) (Evt.pos (by omega) (Evt.pos (by omega) ?_))))))
  rw [w64s (by omega), rd_at Z i (by omega), rd_at X ii (by omega), rd_at Y j (by omega)]
  refine ih (i + 1) _ (by omega) (by rw [List.length_append, List.length_cons, List.length_nil]; omega) ?_
  rw [List.drop_eq_getElem_cons (by omega), List.map_cons] at h
  rw [List.append_assoc, List.singleton_append]
  exact h
theorem spec_l1 (r : List St) (ii : Nat) (hi : ii < X.length) (hX : X.length ≤ 1000000) (hY : Y.length ≤ 1000000) (hZ : Z.length ≤ 1000000) : ∀ d j : Nat, ∀ out : List St, j + d = Y.length → out.length + d * Z.length ≤ 1000000 →
  Evt (fun k => spec_StartStates.l0 k (out ++ (Y.drop j).flatMap fun y => Z.map fun z => (⟨a, b, [X[ii], y, z]⟩ : St)) X Y Z (wrap64 ((ii : Int) + 1)) a b) r →
  Evt (fun k => spec_StartStates.l1 k out X Y Z (ii : Int) (j : Int) a b) r := by
 intro d
 induction d with
 | zero =>
  intro j out hj ho h
  refine Evt.step ?_
  simp only [spec_StartStates.l1]
  rw [List.drop_of_length_le (by omega), List.flatMap_nil, List.append_nil] at h
  exact Evt.neg (by omega) h
 | succ d ih =>
  intro j out hj ho h
  rw [Nat.succ_mul] at ho
  refine Evt.step ?_
  simp only [spec_StartStates.l1]
  refine Evt.pos (by omega) ?_
  refine spec_l2 a b X Y Z r ii j hi (by omega) hZ Z.length 0 out (by omega) (by omega) ?_
  rw [w64s (by omega), List.drop_zero]
  refine ih (j + 1) _ (by omega) (by rw [List.length_append, List.length_map]; omega) ?_
  rw [List.drop_eq_getElem_cons (by omega), List.flatMap_cons] at h
  rw [List.append_assoc]
  exact h
theorem spec_l0 (hX : X.length ≤ 1000000) (hY : Y.length ≤ 1000000) (hZ : Z.length ≤ 1000000) : ∀ d i : Nat, ∀ out : List St, i + d = X.length → out.length + d * (Y.length * Z.length) ≤ 1000000 →
  Evt (fun k => spec_StartStates.l0 k out X Y Z (i : Int) a b) (out ++ (X.drop i).flatMap fun x => Y.flatMap fun y => Z.map fun z => (⟨a, b, [x, y, z]⟩ : St)) := by
 intro d
 induction d with
 | zero =>
  intro i out hi ho
  refine Evt.step ?_
  simp only [spec_StartStates.l0]
  rw [List.drop_of_length_le (by omega), List.flatMap_nil, List.append_nil]
  exact Evt.neg (by omega) (Evt.ret _)
 | succ d ih =>
  intro i out hi ho
  rw [Nat.succ_mul] at ho
  refine Evt.step ?_
  simp only [spec_StartStates.l0]
  refine Evt.pos (by omega) ?_
  have hl : (Y.flatMap fun y => Z.map fun z => (⟨a, b, [X[i], y, z]⟩ : St)).length = Y.length * Z.length := by
   clear ih ho
   induction Y with
   | nil => simp
   | cons y Y ihY => rw [List.flatMap_cons, List.length_append, List.length_map, ihY (by rw [List.length_cons] at hY; omega), List.length_cons, Nat.succ_mul, Nat.add_comm]
  refine spec_l1 a b X Y Z _ i (by omega) hX hY hZ Y.length 0 out (by omega) (by omega) ?_
  rw [w64s (by omega), List.drop_zero, List.drop_eq_getElem_cons (by omega), List.flatMap_cons, ← List.append_assoc]
  exact ih (i + 1) _ (by omega) (by rw [List.length_append, hl]; omega)
end spec
theorem gt_true (n : Nat) (h : 400 < n) : ((n : Int) > 400) = True := eq_true (by omega)
theorem gt_false (n : Nat) (h : ¬ 400 < n) : ((n : Int) > 400) = False := eq_false (by omega)
theorem spec_StartStates_ev (a b : ByteArray) (x : List (List Int)) (y : List Int) (z L : List (List Int)) (hs : a.size + b.size ≤ 1048576) (hL : RowsLe L 1048576) : Evt (fun k => spec_StartStates.f k a b x y z L) (startB a b L) := by
 unfold startB
 simp only [spec_StartStates.f]
 refine Evt.bindc rfl ?_
 by_cases h3 : ¬ L.length = 3
 ·rw [if_neg h3]
  exact Evt.neg (by omega) (Evt.ret _)
 have h3 : L.length = 3 := by omega
 rw [if_pos h3]
 refine Evt.pos (by omega) ?_
 have c0 := choices_ev a b x y z L 0 (by omega) hs h3
 rw [show ((0 : Nat) : Int) = 0 from rfl] at c0
 have c1 := choices_ev a b x y z L 1 (by omega) hs h3
 rw [show ((1 : Nat) : Int) = 1 from rfl] at c1
 have c2 := choices_ev a b x y z L 2 (by omega) hs h3
 rw [show ((2 : Nat) : Int) = 2 from rfl] at c2
 have hX := chB_len (a ++ b) 0 (L.getD 0 [])
 have hY := chB_len (a ++ b) 1 (L.getD 1 [])
 have hZ := chB_len (a ++ b) 2 (L.getD 2 [])
 refine Evt.bind c0 (Evt.bind c1 (Evt.bind c2 ?_))
 generalize chB (a ++ b) 0 (L.getD 0 []) = X
 generalize chB (a ++ b) 1 (L.getD 1 []) = Y
 generalize chB (a ++ b) 2 (L.getD 2 []) = Z
 have hnil : 1000 < X.length ∨ 1000 < Y.length ∨ 1000 < Z.length ∨ 400 < X.length * Y.length * Z.length → (if 400 < mnN X.length * mnN Y.length * mnN Z.length then [] else crossB (stripB a b) X Y Z) = ([] : List St) := by
  intro h
  by_cases hc : 400 < mnN X.length * mnN Y.length * mnN Z.length
  ·rw [if_pos hc]
  rw [if_neg hc]
  rcases mn_prod X.length Y.length Z.length (by omega) with h1 | h1 | h1 | h1
  ·exact crossB_nil (.inl (List.eq_nil_of_length_eq_zero h1))
  ·exact crossB_nil (.inr (.inl (List.eq_nil_of_length_eq_zero h1)))
  ·exact crossB_nil (.inr (.inr (List.eq_nil_of_length_eq_zero h1)))
  ·omega
 by_cases b1 : 1000 < X.length
 ·rw [hnil (.inl b1)]
  refine Evt.pos (by omega) (Evt.step ?_)
  simp only [spec_StartStates.j0]
  exact Evt.pos trivial (Evt.ret _)
 refine Evt.neg (by omega) ?_
 by_cases b2 : 1000 < Y.length
 ·rw [hnil (.inr (.inl b2))]
  refine Evt.pos (by omega) (Evt.step ?_)
  simp only [spec_StartStates.j0]
  exact Evt.pos trivial (Evt.ret _)
 refine Evt.neg (by omega) ?_
 by_cases b3 : 1000 < Z.length
 ·rw [hnil (.inr (.inr (.inl b3)))]
  refine Evt.pos (by omega) (Evt.step ?_)
  simp only [spec_StartStates.j0]
  exact Evt.pos trivial (Evt.ret _)
 refine Evt.neg (by omega) ?_
 have hxy : X.length * Y.length ≤ 1000 * 1000 := Nat.mul_le_mul (by omega) (by omega)
 have hxyz : X.length * Y.length * Z.length ≤ 1000 * 1000 * 1000 := Nat.mul_le_mul hxy (by omega)
 have hw1 : wrap64 ((X.length : Int) * (Y.length : Int)) = ((X.length * Y.length : Nat) : Int) := by
  rw [← Int.natCast_mul]
  generalize X.length * Y.length = n at hxy ⊢
  exact w64 (by omega) (by omega)
 have hw : wrap64 (wrap64 ((X.length : Int) * (Y.length : Int)) * (Z.length : Int)) = ((X.length * Y.length * Z.length : Nat) : Int) := by
  rw [hw1, ← Int.natCast_mul]
  generalize X.length * Y.length * Z.length = n at hxyz ⊢
  exact w64 (by omega) (by omega)
 rw [hw]
 by_cases hb : 400 < X.length * Y.length * Z.length
 ·rw [hnil (.inr (.inr (.inr hb)))]
  have hg : (((X.length * Y.length * Z.length : Nat) : Int) > 400) = True := gt_true _ hb
  simp only [hg, decide_true]
  refine Evt.step ?_
  simp only [spec_StartStates.j0]
  exact Evt.pos trivial (Evt.ret _)
 ·rw [if_neg (fun h => hb (mn_big _ _ _ h))]
  have hg : (((X.length * Y.length * Z.length : Nat) : Int) > 400) = False := gt_false _ hb
  simp only [hg, decide_false]
  refine Evt.step ?_
  simp only [spec_StartStates.j0]
  refine Evt.neg (by simp) (Evt.bind (spec_StripEquation_ev a b (by omega) (by omega)) ?_)
  have hh := spec_l0 (stripB a b).1 (stripB a b).2 X Y Z (by omega) (by omega) (by omega) X.length 0 [] (by omega) (by rw [List.length_nil, Nat.zero_add, ← Nat.mul_assoc]; exact Nat.le_trans (Nat.le_of_not_lt hb) (by decide))
  rw [List.nil_append, List.drop_zero, show ((0 : Nat) : Int) = 0 from rfl] at hh
  exact hh
theorem startB_ok (a b : ByteArray) (L : List (List Int)) : (startB a b L).length ≤ 400 ∧ ∀ s ∈ startB a b L, s.f2.length = 3 := by
 unfold startB
 by_cases h3 : ¬ L.length = 3
 ·rw [if_neg h3]; simp
 rw [if_pos (by omega)]
 by_cases hc : 400 < mnN (chB (a ++ b) 0 (L.getD 0 [])).length * mnN (chB (a ++ b) 1 (L.getD 1 [])).length * mnN (chB (a ++ b) 2 (L.getD 2 [])).length
 ·rw [if_pos hc]; simp
 rw [if_neg hc]
 generalize chB (a ++ b) 0 (L.getD 0 []) = X at hc ⊢
 generalize chB (a ++ b) 1 (L.getD 1 []) = Y at hc ⊢
 generalize chB (a ++ b) 2 (L.getD 2 []) = Z at hc ⊢
 constructor
 ·rcases mn_prod X.length Y.length Z.length (by omega) with h | h | h | h
  ·rw [crossB_nil (.inl (List.eq_nil_of_length_eq_zero h))]; simp
  ·rw [crossB_nil (.inr (.inl (List.eq_nil_of_length_eq_zero h)))]; simp
  ·rw [crossB_nil (.inr (.inr (List.eq_nil_of_length_eq_zero h)))]; simp
  ·have hl : ∀ (X Y : List Int), (crossB (stripB a b) X Y Z).length = X.length * Y.length * Z.length := by
    intro X Y
    unfold crossB
    have hy : ∀ (x : Int) (Y : List Int), (Y.flatMap fun y => Z.map fun z => (⟨(stripB a b).1, (stripB a b).2, [x, y, z]⟩ : St)).length = Y.length * Z.length := by
     intro x Y
     induction Y with
     | nil => simp
     | cons y Y ihY => rw [List.flatMap_cons, List.length_append, List.length_map, ihY, List.length_cons, Nat.succ_mul, Nat.add_comm]
    induction X with
    | nil => simp
    | cons x X ihX => rw [List.flatMap_cons, List.length_append, hy, ihX, List.length_cons, Nat.mul_assoc, Nat.mul_assoc, Nat.succ_mul, Nat.add_comm]
   rw [hl]
   omega
 ·intro s hs
  simp only [crossB, List.mem_flatMap, List.mem_map] at hs
  obtain ⟨x, _, y, _, z, _, rfl⟩ := hs
  rfl
end Go.Proofs.Ytjmfpaalglbbhaa.F
namespace Go.Proofs.Ytjmfpaalglbbhaa.F
open Go Go.RowKit Go.Proofs.YtjmfpaalglbbhaaW.PrintWords Go.Proofs.YtjmfpaalglbbhaaW.PrintMore Go.Proofs.Ytjmfpaalglbbhaa.Pl Go.Proofs.Ytjmfpaalglbbhaa.A Go.Proofs.Ytjmfpaalglbbhaa.Ext
def mkI : Nat → Int → List Int
 | 0, _ => []
 | n + 1, x => x :: mkI n (x + 1)
theorem set_at {α : Type} (P : List α) (u v : α) (r : List α) : (P ++ u :: r).set P.length v = P ++ v :: r := by
 rw [List.set_append_right _ _ (Nat.le_refl _), Nat.sub_self, List.set_cons_zero]
theorem rd_mid (P : List Int) (u : Int) (r : List Int) : rd (P ++ u :: r) (P.length : Int) = u := by
 unfold rd
 rw [Int.toNat_natCast, List.getD_eq_getElem?_getD, List.getElem?_append_right (Nat.le_refl _), Nat.sub_self]
 rfl
theorem rows_mid (P : List (List Int)) (u : List Int) (r : List (List Int)) : rd_L1 (P ++ u :: r) (P.length : Int) = u := by
 unfold rd_L1
 rw [Int.toNat_natCast, List.getD_eq_getElem?_getD, List.getElem?_append_right (Nat.le_refl _), Nat.sub_self]
 rfl
theorem markI_l (P : List Int) : ∀ (l : List Int) (x : Int) (P : List Int), 0 ≤ x → x + l.length ≤ 4611686018427387904 → l.length + P.length ≤ 4611686018427387904 → Evt (fun k => laws_markIntS.l0 k (P ++ l) x (P.length : Int)) (x + l.length, P ++ mkI l.length x) := by
 intro l
 induction l with
 | nil =>
  intro x P h0 h1 h2
  refine Evt.step ?_
  simp only [laws_markIntS.l0]
  refine Evt.neg (by simp) ?_
  simpa [mkI] using Evt.ret (x, P)
 | cons u l ih =>
  intro x P h0 h1 h2
  rw [List.length_cons] at h1 h2
  refine Evt.step ?_
  simp only [laws_markIntS.l0]
  refine Evt.pos (by rw [List.length_append, List.length_cons]; omega) (Evt.pos (by omega) ?_)
  rw [Int.toNat_natCast, set_at, w64s (by omega), w64 (by omega) (by omega)]
  have h := ih (x + 1) (P ++ [x]) (by omega) (by omega) (by rw [List.length_append, List.length_singleton]; omega)
  rw [List.length_append, List.length_singleton, List.append_assoc, List.append_assoc, List.singleton_append, List.singleton_append] at h
  rw [List.length_cons, mkI]
  refine h.cast ?_
  rw [show x + 1 + (l.length : Int) = x + ((l.length + 1 : Nat) : Int) by omega]
theorem markI_ev (l : List Int) (x : Int) (h0 : 0 ≤ x) (h1 : x + l.length ≤ 4611686018427387904) : Evt (fun k => laws_markIntS.f k l x) (x + l.length, mkI l.length x) := by
 simp only [laws_markIntS.f]
 exact markI_l [] l x [] h0 h1 (by rw [List.length_nil]; omega)
theorem heldI_l : ∀ (n : Nat) (x : Int) (P : List Int), 0 ≤ x → x + n ≤ 4611686018427387904 → n + P.length ≤ 4611686018427387904 → Evt (fun k => laws_heldIntS.l0 k (P ++ mkI n x) x (P.length : Int)) (x + n) := by
 intro n
 induction n with
 | zero =>
  intro x P h0 h1 h2
  refine Evt.step ?_
  simp only [laws_heldIntS.l0, mkI]
  refine Evt.neg (by simp) ?_
  simpa using Evt.ret x
 | succ n ih =>
  intro x P h0 h1 h2
  refine Evt.step ?_
  simp only [laws_heldIntS.l0, mkI]
  refine Evt.pos (by rw [List.length_append, List.length_cons]; omega) (Evt.pos (by omega) (Evt.pos (rd_mid P x _) ?_))
  rw [w64s (by omega), w64 (by omega) (by omega)]
  have h := ih (x + 1) (P ++ [x]) (by omega) (by omega) (by rw [List.length_append, List.length_singleton]; omega)
  rw [List.length_append, List.length_singleton, List.append_assoc, List.singleton_append] at h
  refine h.cast (by omega)
theorem heldI_ev (n : Nat) (x : Int) (h0 : 0 ≤ x) (h1 : x + n ≤ 4611686018427387904) : Evt (fun k => laws_heldIntS.f k (mkI n x) x) (x + n) := by
 simp only [laws_heldIntS.f]
 exact heldI_l n x [] h0 h1 (by rw [List.length_nil]; omega)
def totN : List (List Int) → Nat
 | [] => 0
 | r :: l => r.length + totN l
def mkII : List (List Int) → Int → List (List Int)
 | [], _ => []
 | r :: l, x => mkI r.length x :: mkII l (x + r.length)
theorem totN_le : ∀ (l : List (List Int)) (b : Nat), (∀ r ∈ l, r.length ≤ b) → totN l ≤ l.length * b
 | [], _, _ => Nat.zero_le _
 | r :: l, b, h => by
  have h1 := totN_le l b (fun x hx => h x (List.mem_cons_of_mem _ hx))
  have h2 := h r List.mem_cons_self
  rw [totN, List.length_cons, Nat.succ_mul]
  omega
theorem markII_l : ∀ (l : List (List Int)) (x : Int) (P : List (List Int)), 0 ≤ x → x + totN l + l.length + P.length ≤ 4611686018427387904 → Evt (fun k => laws_markIntSS.l0 k (P ++ l) x (P.length : Int)) (x + totN l, P ++ mkII l x) := by
 intro l
 induction l with
 | nil =>
  intro x P h0 h1
  refine Evt.step ?_
  simp only [laws_markIntSS.l0]
  refine Evt.neg (by simp) ?_
  simpa [mkII, totN] using Evt.ret (x, P)
 | cons u l ih =>
  intro x P h0 h1
  rw [List.length_cons, totN] at h1
  refine Evt.step ?_
  simp only [laws_markIntSS.l0]
  refine Evt.pos (by rw [List.length_append, List.length_cons]; omega) (Evt.pos (by omega) ?_)
  rw [rows_mid]
  refine Evt.bind (markI_ev u x h0 (by omega)) ?_
  rw [Int.toNat_natCast, set_at, w64s (by omega)]
  have h := ih (x + u.length) (P ++ [mkI u.length x]) (by omega) (by rw [List.length_append, List.length_singleton]; omega)
  rw [List.length_append, List.length_singleton, List.append_assoc, List.append_assoc, List.singleton_append, List.singleton_append] at h
  rw [totN, mkII]
  refine h.cast ?_
  rw [show x + (u.length : Int) + (totN l : Int) = x + ((u.length + totN l : Nat) : Int) by omega]
theorem markII_ev (l : List (List Int)) (x : Int) (h0 : 0 ≤ x) (h1 : x + totN l + l.length ≤ 4611686018427387904) : Evt (fun k => laws_markIntSS.f k l x) (x + totN l, mkII l x) := by
 simp only [laws_markIntSS.f]
 exact markII_l l x [] h0 (by simpa using h1)
theorem markText_ok (n : Int) (hn : n ≤ 1000000) : ∃ t, Evt (fun k => laws_markText.f k n) t := by
 simp only [laws_markText.f]
 by_cases h0 : n ≤ 0
 ·exact ⟨_, Evt.pos h0 (Evt.ret _)⟩
 have hh : ∀ (m : Nat) (x : Int) (acc : ByteArray), 0 ≤ x → x ≤ m → acc.size + x ≤ 2000000 → ∃ t, Evt (fun k => laws_markText.l0 k x acc) t := by
  intro m
  induction m with
  | zero =>
   intro x acc h0 h1 h2
   refine ⟨(⟨#[109]⟩ : ByteArray) ++ acc, Evt.step ?_⟩
   simp only [laws_markText.l0]
   have e109 : (⟨#[109]⟩ : ByteArray).size = 1 := rfl
   exact Evt.neg (by omega) (Evt.pos (by omega) (Evt.ret _))
  | succ m ih =>
   intro x acc h0 h1 h2
   by_cases hx : x > 0
   ·have hd : Int.tdiv x 10 = x / 10 := Int.tdiv_eq_ediv_of_nonneg h0
    have hs : (strOfNums [(wrap64 (48 + (Int.tmod x 10))) % 256]).size = 1 := by rw [strOfNums_size]; rfl
    have hq : wrap64 (Int.tdiv x 10) = x / 10 := by rw [hd]; exact w64 (by omega) (by omega)
    obtain ⟨t, ht⟩ := ih (wrap64 (Int.tdiv x 10)) (strOfNums [(wrap64 (48 + (Int.tmod x 10))) % 256] ++ acc) (by rw [hq]; omega) (by rw [hq]; omega) (by rw [hq, ByteArray.size_append, hs]; omega)
    refine ⟨t, Evt.step ?_⟩
    simp only [laws_markText.l0]
    exact Evt.pos hx (Evt.bindc rfl (Evt.pos (by rw [hs]; omega) ht))
   ·refine ⟨(⟨#[109]⟩ : ByteArray) ++ acc, Evt.step ?_⟩
    simp only [laws_markText.l0]
    exact Evt.neg hx (Evt.pos (by omega) (Evt.ret _))
 obtain ⟨t, ht⟩ := hh n.toNat n (⟨#[]⟩ : ByteArray) (by omega) (by omega) (by show ((0 : Nat) : Int) + n ≤ 2000000; omega)
 exact ⟨t, Evt.neg h0 ht⟩
theorem texts_ok : ∃ T : Int → ByteArray, ∀ n : Int, n ≤ 1000000 → Evt (fun k => laws_markText.f k n) (T n) := by
 have : ∀ n : Int, ∃ t, n ≤ 1000000 → Evt (fun k => laws_markText.f k n) t := by
  intro n
  by_cases hn : n ≤ 1000000
  ·obtain ⟨t, ht⟩ := markText_ok n hn
   exact ⟨t, fun _ => ht⟩
  ·exact ⟨⟨#[]⟩, fun h => absurd h hn⟩
 exact ⟨fun n => (this n).choose, fun n hn => (this n).choose_spec hn⟩
def totS : List SSt → Nat
 | [] => 0
 | s :: l => 2 + s.f2.length + totS l
def mkSt (T : Int → ByteArray) : List SSt → Int → List SSt
 | [], _ => []
 | s :: l, x => ⟨T x, T (x + 1), mkI s.f2.length (x + 2)⟩ :: mkSt T l (x + 2 + s.f2.length)
theorem rdSt_mid (P : List SSt) (u : SSt) (r : List SSt) : rdSt (P ++ u :: r) (P.length : Int) = u := by
 unfold rdSt rd_T89
 rw [Int.toNat_natCast, List.getD_eq_getElem?_getD, List.getElem?_append_right (Nat.le_refl _), Nat.sub_self]
 rfl
theorem markSt_l (T : Int → ByteArray) (hT : ∀ n : Int, n ≤ 1000000 → Evt (fun k => laws_markText.f k n) (T n)) : ∀ (l : List SSt) (x : Int) (P : List SSt), 0 ≤ x → x + totS l ≤ 900000 → P.length + l.length ≤ 900000 → Evt (fun k => laws_markStateS.l0 k (P ++ l) x (P.length : Int)) (x + totS l, P ++ mkSt T l x) := by
 intro l
 induction l with
 | nil =>
  intro x P h0 h1 h2
  refine Evt.step ?_
  simp only [laws_markStateS.l0]
  refine Evt.neg (by simp) ?_
  simpa [mkSt, totS] using Evt.ret (x, P)
 | cons u l ih =>
  intro x P h0 h1 h2
  rw [totS] at h1
  rw [List.length_cons] at h2
  refine Evt.step ?_
  simp only [laws_markStateS.l0]
  refine Evt.pos (by rw [List.length_append, List.length_cons]; omega) (Evt.pos (by omega) ?_)
  rw [rdSt_mid, w64 (x := x + 1) (by omega) (by omega), w64 (x := x + 1 + 1) (by omega) (by omega)]
  refine Evt.bind (hT x (by omega)) (Evt.bind (hT (x + 1) (by omega)) (Evt.bind (markI_ev u.f2 (x + 1 + 1) (by omega) (by omega)) ?_))
  rw [Int.toNat_natCast, set_at, w64s (by omega)]
  have h := ih (x + 2 + u.f2.length) (P ++ [⟨T x, T (x + 1), mkI u.f2.length (x + 2)⟩]) (by omega) (by omega) (by rw [List.length_append, List.length_singleton]; omega)
  rw [List.length_append, List.length_singleton, List.append_assoc, List.append_assoc, List.singleton_append, List.singleton_append] at h
  rw [totS, mkSt, show x + 1 + 1 = x + 2 by omega]
  refine h.cast ?_
  rw [show x + 2 + (u.f2.length : Int) + (totS l : Int) = x + ((2 + u.f2.length + totS l : Nat) : Int) by omega]
theorem heldSt_l (T : Int → ByteArray) (hT : ∀ n : Int, n ≤ 1000000 → Evt (fun k => laws_markText.f k n) (T n)) : ∀ (l : List SSt) (x : Int) (P : List SSt), 0 ≤ x → x + totS l ≤ 900000 → P.length + l.length ≤ 900000 → Evt (fun k => laws_heldStateS.l0 k (P ++ mkSt T l x) x (P.length : Int)) (x + totS l) := by
 intro l
 induction l with
 | nil =>
  intro x P h0 h1 h2
  refine Evt.step ?_
  simp only [laws_heldStateS.l0, mkSt]
  refine Evt.neg (by simp) ?_
  simpa [totS] using Evt.ret x
 | cons u l ih =>
  intro x P h0 h1 h2
  rw [totS] at h1
  rw [List.length_cons] at h2
  refine Evt.step ?_
  simp only [laws_heldStateS.l0, mkSt]
  refine Evt.pos (by rw [List.length_append, List.length_cons]; omega) (Evt.pos (by omega) ?_)
  have e := rdSt_mid P ⟨T x, T (x + 1), mkI u.f2.length (x + 2)⟩ (mkSt T l (x + 2 + u.f2.length))
  unfold rdSt at e
  simp only [e, w64 (x := x + 1) (by omega) (by omega), show x + 1 + 1 = x + 2 by omega, w64 (x := x + 2) (by omega) (by omega)]
  refine Evt.bind (hT x (by omega)) (Evt.pos rfl (Evt.bind (hT (x + 1) (by omega)) (Evt.pos rfl (Evt.bind (heldI_ev u.f2.length (x + 2) (by omega) (by omega)) (Evt.neg (by omega) ?_)))))
  rw [w64s (by omega)]
  have h := ih (x + 2 + u.f2.length) (P ++ [⟨T x, T (x + 1), mkI u.f2.length (x + 2)⟩]) (by omega) (by omega) (by rw [List.length_append, List.length_singleton]; omega)
  rw [List.length_append, List.length_singleton, List.append_assoc, List.singleton_append] at h
  rw [totS]
  refine h.cast (by omega)
theorem totS_le : ∀ (l : List SSt) (b : Nat), (∀ r ∈ l, r.f2.length ≤ b) → totS l ≤ l.length * (2 + b)
 | [], _, _ => Nat.zero_le _
 | r :: l, b, h => by
  have h1 := totS_le l b (fun x hx => h x (List.mem_cons_of_mem _ hx))
  have h2 := h r List.mem_cons_self
  rw [totS, List.length_cons, Nat.succ_mul]
  omega
theorem markSt_ok (l : List SSt) (hl : l.length ≤ 400) (h3 : ∀ s ∈ l, s.f2.length ≤ 3) : ∃ (m : Int) (l' : List SSt), Evt (fun k => laws_markStateS.f k l 1) (m, l') ∧ Evt (fun k => laws_heldStateS.f k l' 1) m ∧ 0 ≤ m := by
 obtain ⟨T, hT⟩ := texts_ok
 have ht := totS_le l 3 h3
 refine ⟨1 + totS l, mkSt T l 1, ?_, ?_, by omega⟩
 ·simp only [laws_markStateS.f]
  exact markSt_l T hT l 1 [] (by omega) (by omega) (by rw [List.length_nil]; omega)
 ·simp only [laws_heldStateS.f]
  exact heldSt_l T hT l 1 [] (by omega) (by omega) (by rw [List.length_nil]; omega)
end Go.Proofs.Ytjmfpaalglbbhaa.F
namespace Go.Proofs.Ytjmfpaalglbbhaa.Ext
open Go.RowKit Go.Proofs.YtjmfpaalglbbhaaW.PrintWords Go.Proofs.YtjmfpaalglbbhaaW.PrintLast Go.Proofs.Ytjmfpaalglbbhaa.A Go.Proofs.Ytjmfpaalglbbhaa.F Go.Proofs.Ytjmfpaalglbbhaa.Pl
set_option maxHeartbeats 1000000 in
theorem rows_clo (A B : Option Addr) (c d : Nat) (xs ys : List Int) (r : Bool) (w : World) (hx : Kd.C (Kd.int .i64) w A xs.length xs) (hc : xs.length ≤ c) (hy : Kd.C (Kd.int .i64) w B ys.length ys) (hd : ys.length ≤ d) (hr : decide (xs = ys) = r) :
  Calls Try.prog 117 #[.slice A xs.length c, .slice B ys.length d] w fun e w' => e = .returned (.bool r) ∧ Drawn0 w w' := by
 obtain ⟨k, hk⟩ := Evt.get ((slEq_ev xs ys hx.2.1).cast hr)
 have HK := Aside0.mk hk
 have HX := Aside0.mk hx
 have HC := Aside0.mk hc
 have HY := Aside0.mk hy
 have HD := Aside0.mk hd
 clear hk hx hc hy hd hr
 go_enter Try.func117, Try.ntmps117
 go_wp2_with (go_at_call 70; refine (slices_Equal_int_int.calls k _ _ xs _ _ ys _ _ HX.out HC.out HY.out HD.out HK.out).mono ?_; rintro e w' ⟨rfl, ⟨nd, rfl⟩⟩)
 go_ret
 exact ⟨rfl, Drawn0.step (Drawn0.refl _) _⟩
theorem take_next {α : Type} [DecidableEq α] {xs ys : List α} (z : α) {i : Nat} (hi : i < xs.length) (hi' : i < ys.length) (h : xs.take i = ys.take i) : (xs.take (i + 1) = ys.take (i + 1)) ↔ xs.getD i z = ys.getD i z := by
 have e1 := List.take_succ_eq_append_getElem hi
 have e2 := List.take_succ_eq_append_getElem hi'
 rw [e1, e2, h, List.append_right_inj]
 simp [List.getD, hi, hi']
-- EXT loop.example/g00582/impl.equalRows
def impl_equalRows.f (xs ys : List (List Int)) : Option Bool := some (decide (xs = ys))
set_option maxHeartbeats 4000000 in
theorem rows_func (A B : Option Addr) (c d : Nat) (xs ys : List (List Int)) (w : World) (hx : Kd.C (Kd.slice 3 (Kd.int .i64)) w A xs.length xs) (hy : Kd.C (Kd.slice 3 (Kd.int .i64)) w B ys.length ys) :
  Calls Try.prog 116 #[.slice A xs.length c, .slice B ys.length d, .func (.func 117) #[] #[]] w fun e w' => e = .returned (.bool (decide (xs = ys))) ∧ Drawn0 w w' := by
 have eg := enters_of Try.func117 (by kernel_rfl) rfl
 have HM := Aside0.mk hx.2.1
 have HX := Aside0.mk hx
 have HY := Aside0.mk hy
 clear hx hy
 by_cases hl : xs.length = ys.length
 ·have c3b0 : ((xs.length : Int) == (ys.length : Int)) = true := by rw [hl]; exact beq_self_eq_true _
  have c3b1 : ((xs.length : Int) != (ys.length : Int)) = false := by rw [hl]; exact bne_self_eq_false _
  have c3b2 : (xs.length == ys.length) = true := by rw [hl]; exact beq_self_eq_true _
  have HL := Aside0.mk hl
  clear hl
  go_enter Try.func116, Try.ntmps116
  go_wp2
  go_loopg [17] xs.length (fun gk v wr => ∃ (x : Int), v = .int .i64 x ∧ Aside0 (0 ≤ x) ∧ Aside0 (x ≤ xs.length) ∧ Aside0 ((xs.length : Int) - x ≤ gk) ∧ Aside0 (xs.take x.toNat = ys.take x.toNat) ∧ Drawn0 w wr)
  case atStart => exact ⟨0, rfl, ⟨by omega⟩, ⟨by omega⟩, ⟨by omega⟩, ⟨by simp⟩, by repeat (first | exact Drawn0.refl _ | apply Drawn0.step)⟩
  case round =>
   try clear c3b0
   try clear c3b1
   try clear c3b2
   obtain ⟨x, rfl, H0, H1, HG, HT, ⟨m1, rfl⟩⟩ := hrel
   by_cases hlt : x < (xs.length : Int)
   ·have c4b0 : decide (x < (xs.length : Int)) = true := decide_eq_true hlt
    have hlt2 : x < (ys.length : Int) := by have := HL.out; omega
    obtain ⟨ad, A1, c1, rx, rfl, hx1, hl1, hi1, ERX⟩ := at_rows HX.out x H0.out hlt
    obtain ⟨bd, B1, d1, ry, rfl, hy1, hm1, hj1, ERY⟩ := at_rows HY.out x H0.out hlt2
    have HI := Aside0.mk hi1
    have HJ := Aside0.mk hj1
    have HLI := Aside0.mk hl1
    have HLJ := Aside0.mk hm1
    have hx0 := H0.out
    clear hi1 hj1 hl1 hm1
    by_cases hq : rx = ry
    ·have HQ := Aside0.mk (show decide (rx = ry) = true from decide_eq_true hq)
     have HN := Aside0.mk ((take_next [] (i := x.toNat) (by omega) (by omega) HT.out).2 (ERX.out.trans (hq.trans ERY.out.symm)))
     have P4 := Aside0.mk hlt
     have p4 := eq_true hx0
     have q4 := eq_true hlt
     have q5 := eq_true hlt2
     clear hq hlt hlt2 hx0
     go_wp2_with (go_at_call 117; refine (rows_clo _ _ _ _ rx ry true _ ?s1 HLI.out ?s2 HLJ.out HQ.out).mono ?_; (case s1 => repeat (first | (with_reducible exact HI.out) | (with_reducible refine Kd.C_drewN ?_ _) | (with_reducible refine Kd.C_drew ?_))); (case s2 => repeat (first | (with_reducible exact HJ.out) | (with_reducible refine Kd.C_drewN ?_ _) | (with_reducible refine Kd.C_drew ?_))); rintro e w' ⟨rfl, ⟨nd, rfl⟩⟩)
     have hw : wrap64 (x + 1) = x + 1 := by have := P4.out; have := H0.out; have := HM.out; unfold wrap64; omega
     go_roundg (gk - 1)
     case measure => have := HG.out; have := P4.out; omega
     case rel => exact ⟨wrap64 (x + 1), by first | rfl | (simp; done) | (simp [*]; done), ⟨by rw [hw]; have := H0.out; omega⟩, ⟨by rw [hw]; have := P4.out; omega⟩, ⟨by rw [hw]; have := HG.out; omega⟩, ⟨by rw [hw, show (x + 1).toNat = x.toNat + 1 by have := H0.out; omega]; exact HN.out⟩, by repeat (first | exact Drawn0.refl _ | apply Drawn0.step)⟩
    ·have HQ := Aside0.mk (show decide (rx = ry) = false from decide_eq_false hq)
     have hne : decide (xs = ys) = false := decide_eq_false (fun e => hq (ERX.out.symm.trans ((by rw [e]) : xs.getD x.toNat [] = ys.getD x.toNat []) |>.trans ERY.out))
     have HNE := Aside0.mk hne
     have p4 := eq_true hx0
     have q4 := eq_true hlt
     have q5 := eq_true hlt2
     clear hq hlt hlt2 hx0 hne
     go_wp2_with (go_at_call 117; refine (rows_clo _ _ _ _ rx ry false _ ?s1 HLI.out ?s2 HLJ.out HQ.out).mono ?_; (case s1 => repeat (first | (with_reducible exact HI.out) | (with_reducible refine Kd.C_drewN ?_ _) | (with_reducible refine Kd.C_drew ?_))); (case s2 => repeat (first | (with_reducible exact HJ.out) | (with_reducible refine Kd.C_drewN ?_ _) | (with_reducible refine Kd.C_drew ?_))); rintro e w' ⟨rfl, ⟨nd, rfl⟩⟩)
     go_ret
     exact ⟨congrArg (fun b => Ending.returned (Value.bool b)) HNE.out.symm, by repeat (first | exact Drawn0.refl _ | apply Drawn0.step)⟩
   ·have c4b0 : decide (x < (xs.length : Int)) = false := decide_eq_false hlt
    have hx : x = xs.length := by have := H1.out; omega
    have he : decide (xs = ys) = true := by
     have h := HT.out
     rw [List.take_of_length_le (by omega), List.take_of_length_le (by have := HL.out; omega)] at h
     exact decide_eq_true h
    have HE := Aside0.mk he
    clear he hx hlt
    go_wp2
    go_ret
    exact ⟨congrArg (fun b => Ending.returned (Value.bool b)) HE.out.symm, by repeat (first | exact Drawn0.refl _ | apply Drawn0.step)⟩
 ·have c3b0 : ((xs.length : Int) == (ys.length : Int)) = false := beq_eq_false_iff_ne.mpr (by omega)
  have c3b1 : ((xs.length : Int) != (ys.length : Int)) = true := bne_iff_ne.mpr (by omega)
  have c3b2 : (xs.length == ys.length) = false := beq_eq_false_iff_ne.mpr hl
  have HE := Aside0.mk (show decide (xs = ys) = false from decide_eq_false (fun e => hl (by rw [e])))
  clear hl
  go_enter Try.func116, Try.ntmps116
  go_wp2
  go_ret
  exact ⟨congrArg (fun b => Ending.returned (Value.bool b)) HE.out.symm, by repeat (first | exact Drawn0.refl _ | apply Drawn0.step)⟩
set_option maxHeartbeats 1000000 in
theorem impl_equalRows.calls (A0 : Option Addr) (c0 : Nat) (l0 : List (List Int)) (A1 : Option Addr) (c1 : Nat) (l1 : List (List Int)) (r : Bool) (w : World) (hr0 : Kd.C (Kd.slice 3 (Kd.int .i64)) w A0 l0.length l0) (hc0 : l0.length ≤ c0) (hr1 : Kd.C (Kd.slice 3 (Kd.int .i64)) w A1 l1.length l1) (hc1 : l1.length ≤ c1) (h : impl_equalRows.f l0 l1 = some r) :
  Calls Try.prog 79 #[.slice A0 l0.length c0, .slice A1 l1.length c1] w fun e w' => e = .returned (.bool r) ∧ Drawn0 w w' := by
 obtain rfl := Option.some.inj h
 have H0 := Aside0.mk hr0
 have H1 := Aside0.mk hr1
 clear hr0 hc0 hr1 hc1 h
 go_enter Try.func79, Try.ntmps79
 go_wp2_with (go_at_call 116; refine (rows_func _ _ _ _ l0 l1 _ H0.out H1.out).mono ?_; rintro e w' ⟨rfl, ⟨nd, rfl⟩⟩)
 go_ret
 exact ⟨rfl, by repeat (first | exact Drawn0.refl _ | apply Drawn0.step)⟩
end Go.Proofs.Ytjmfpaalglbbhaa.Ext
namespace Go.Proofs.Ytjmfpaalglbbhaa.F
open Go.RowKit Go.Proofs.YtjmfpaalglbbhaaW.PrintWords Go.Proofs.Ytjmfpaalglbbhaa.Pl Go.Proofs.Ytjmfpaalglbbhaa.A Go.Proofs.Ytjmfpaalglbbhaa.Ext
def RowsWf (l : List (List Int)) : Prop := l.length ≤ 9223372036854775807 ∧ ∀ x ∈ l, x.length ≤ 9223372036854775807
theorem RowsLe.wf {l : List (List Int)} (h : RowsLe l 1048576) : RowsWf l := ⟨by have := h.1; omega, fun x hx => by have := h.2 x hx; omega⟩
theorem szMonoid_ev (x : List (List Int)) (y : List Int) (z : List (List Int)) (a : Int) (ha : 0 ≤ a) (ha' : a ≤ 1048576) (hx : RowsWf x) (hy : y.length ≤ 9223372036854775807) (hz : RowsWf z) :
  ∃ t, Evt (fun k => laws_szMonoid.f k x y z a) t ∧ (t = -1 ∨ (0 ≤ t ∧ t ≤ a ∧ RowsLe x 1048576 ∧ y.length ≤ 1048576 ∧ RowsLe z 1048576)) := by
 simp only [laws_szMonoid.f]
 obtain ⟨t, ht, hc⟩ := szIntSS_ev x a ha ha' hx.1 hx.2
 rcases hc with rfl | ⟨h0, h1, h2⟩
 ·exact ⟨-1, Evt.bind ht (Evt.pos (by decide) (Evt.ret _)), .inl rfl⟩
 obtain ⟨u, hu, hc⟩ := szIntS_eq y t (by omega) (by omega) hy
 rcases hc with rfl | ⟨g0, g1⟩
 ·exact ⟨-1, Evt.bind ht (Evt.neg (by omega) (Evt.bindc hu (Evt.pos (by decide) (Evt.ret _)))), .inl rfl⟩
 obtain ⟨v, hv, hc⟩ := szIntSS_ev z u (by omega) (by omega) hz.1 hz.2
 rcases hc with rfl | ⟨k0, k1, k2⟩
 ·exact ⟨-1, Evt.bind ht (Evt.neg (by omega) (Evt.bindc hu (Evt.neg (by omega) (Evt.bind hv (Evt.pos (by decide) (Evt.ret _)))))), .inl rfl⟩
 ·exact ⟨v, Evt.bind ht (Evt.neg (by omega) (Evt.bindc hu (Evt.neg (by omega) (Evt.bind hv (Evt.neg (by omega) (Evt.ret _)))))), .inr ⟨k0, by omega, h2, by omega, k2⟩⟩
theorem toMonoid_ev (x : List (List Int)) (y : List Int) (z : List (List Int)) (hx : RowsLe x 1048576) (hy : y.length ≤ 1048576) (hz : RowsLe z 1048576) : Evt (fun k => laws_toMonoid.f k x y z) (x, y, z) := by
 simp only [laws_toMonoid.f]
 exact Evt.bind (toIntSS_ev x hx) (Evt.bind (toIntS_ev y (by omega)) (Evt.bind (toIntSS_ev z hz) (Evt.ret _)))
theorem eqMonoid_ev (x : List (List Int)) (y : List Int) (z : List (List Int)) (hx : RowsWf x) (hy : y.length ≤ 9223372036854775807) (hz : RowsWf z) : Evt (fun k => laws_eqMonoid.f k x y z x y z) true := by
 simp only [laws_eqMonoid.f]
 exact Evt.bind (eqIntSS_ev x x hx.1 hx.2) (Evt.pos (by simp) (Evt.bind (eqIntS_ev y y hy) (Evt.pos (by simp) (Evt.bind (eqIntSS_ev z z hz.1 hz.2) (Evt.pos (by simp) (Evt.ret _))))))
end Go.Proofs.Ytjmfpaalglbbhaa.F
namespace Go.Proofs.Ytjmfpaalglbbhaa.F
open Go.RowKit Go.Proofs.YtjmfpaalglbbhaaW.PrintWords Go.Proofs.Ytjmfpaalglbbhaa.Pl Go.Proofs.Ytjmfpaalglbbhaa.A
theorem szEquation_at (a b : ByteArray) (x : Int) (hx : 0 ≤ x) (hx' : x ≤ 1048576) (ha : a.size ≤ 9223372036854775807) (hb : b.size ≤ 9223372036854775807) :
  ∃ t, laws_szEquation.f a b x = some t ∧ (t = -1 ∨ (0 ≤ t ∧ t = x - a.size - b.size)) := by
 unfold laws_szEquation.f
 rw [w64_sub (by omega) (by omega) ha]
 by_cases h1 : x - a.size < 0
 ·exact ⟨-1, by rw [if_pos h1], .inl rfl⟩
 rw [if_neg h1, w64_sub (by omega) (by omega) hb]
 by_cases h2 : x - a.size - b.size < 0
 ·exact ⟨-1, by rw [if_pos h2], .inl rfl⟩
 rw [if_neg h2]
 exact ⟨_, rfl, .inr ⟨by omega, rfl⟩⟩
end Go.Proofs.Ytjmfpaalglbbhaa.F
namespace Go.Proofs.Ytjmfpaalglbbhaa.F
open Go.RowKit Go.Proofs.YtjmfpaalglbbhaaW.PrintWords Go.Proofs.Ytjmfpaalglbbhaa.Pl Go.Proofs.Ytjmfpaalglbbhaa.A Go.Proofs.Ytjmfpaalglbbhaa.Ext
theorem toFrame_ev (a b : ByteArray) (x : List (List Int)) (y : List Int) (z u : List (List Int)) (hx : RowsLe x 1048576) (hy : y.length ≤ 1048576) (hz : RowsLe z 1048576) (hu : RowsLe u 1048576) : Evt (fun k => laws_toFrame.f k a b x y z u) (a, b, x, y, z, u) := by
 simp only [laws_toFrame.f]
 exact Evt.bindc rfl (Evt.bind (toMonoid_ev x y z hx hy hz) (Evt.bind (toIntSS_ev u hu) (Evt.ret _)))
theorem eqFrame_ev (a b : ByteArray) (x : List (List Int)) (y : List Int) (z u : List (List Int)) (hx : RowsWf x) (hy : y.length ≤ 9223372036854775807) (hz : RowsWf z) (hu : RowsWf u) : Evt (fun k => laws_eqFrame.f k a b x y z u a b x y z u) true := by
 simp only [laws_eqFrame.f]
 have h : laws_eqEquation.f a b a b = some true := by simp [laws_eqEquation.f]
 exact Evt.bindc h (Evt.pos rfl (Evt.bind (eqMonoid_ev x y z hx hy hz) (Evt.pos rfl (Evt.bind (eqIntSS_ev u u hu.1 hu.2) (Evt.pos (by simp) (Evt.ret _))))))
end Go.Proofs.Ytjmfpaalglbbhaa.F
namespace Go.Proofs.Ytjmfpaalglbbhaa.F
open Go.RowKit Go.Proofs.YtjmfpaalglbbhaaW.PrintWords Go.Proofs.Ytjmfpaalglbbhaa.Pl Go.Proofs.Ytjmfpaalglbbhaa.A
theorem eqState_ev (a b : ByteArray) (l : List Int) (hl : l.length ≤ 9223372036854775807) : Evt (fun k => laws_eqState.f k a b l a b l) true := by
 simp only [laws_eqState.f]
 exact Evt.pos (by trivial) (Evt.pos (by trivial) (Evt.bind (eqIntS_ev l l hl) (Evt.pos (by simp) (Evt.ret _))))
end Go.Proofs.Ytjmfpaalglbbhaa.F
