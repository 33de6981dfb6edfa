/- FnExactBuildMonoid: what its proof needs, put together by this session's program wip/merge.py out of the texts that wip/xp.py printed and of this session's own. -/
import Derived.Test.YtjmfpaalglbbhaaQFnExactBuildMonoid2
namespace Go.Proofs.Ytjmfpaalglbbhaa.A
open Go.RowKit Go.Proofs.Ytjmfpaalglbbhaa.Ext Go.Proofs.YtjmfpaalglbbhaaW.PrintWords Go.Proofs.YtjmfpaalglbbhaaW.PrintLast Go.Proofs.YtjmfpaalglbbhaaW.PrintMore
attribute [local go_sem] max2_int min2_int max_two min_two max_three min_three max_four min_four   -- for this text's walks alone
set_option linter.unusedVariables false
set_option linter.unusedSimpArgs false

/-! ### spec_BuildMonoid: function 17 -/
theorem V_at_q {α : Type} {d : Kd α} {e base m : Nat} {ok : Nat → Prop} {w w2 : World} {v : Value} {xs : List α} (h : Kd.V d e w base ok v xs) (hq : w.drewN m = w2) : Kd.V d e w2 base ok v xs := hq ▸ Kd.V_drewN h m
theorem N_at_q {α : Type} {d : Kd α} {e base m : Nat} {ok : Nat → Prop} {w w2 : World} {v : Value} {xs : List α} (h : Kd.N d e w base ok v xs) (hq : w.drewN m = w2) : Kd.N d e w2 base ok v xs := hq ▸ Kd.N_drewN h m
theorem R_at_q {α : Type} {d : Kd α} {e base m : Nat} {ok : Nat → Prop} {w w2 : World} {v : Value} {xs : List α} (h : Kd.R d e w base ok v xs) (hq : w.drewN m = w2) : Kd.R d e w2 base ok v xs := hq ▸ Kd.R_drewN h m
mutual
def spec_BuildMonoid.l0 : Nat → List Int → Int → List Bool → List (List Int) → Option ((List (List Int)) × List Int × (List (List Int)) × Bool)
  | 0, _, _, _, _ => none
  | k + 1, x4, x5, x17002000, x17002001 => if x5 < (x17002000.length : Int) then (if x4.length < 17592186044416 then (spec_BuildMonoid.l0 k (x4 ++ [x5]) (wrap64 (x5 + 1)) x17002000 x17002001) else (none)) else ((spec_l13Letters.f k x17002000 x17002001).bind fun t17014 => (spec_BuildMonoid.l1 k t17014 0 (([x4] : List (List Int)))))
def spec_BuildMonoid.l1 : Nat → List (List Int) → Int → List (List Int) → Option ((List (List Int)) × List Int × (List (List Int)) × Bool)
  | 0, _, _, _ => none
  | k + 1, x7, x8, x17014000 => if x8 < (x17014000.length : Int) then (spec_BuildMonoid.l2 k x7 x8 0 x17014000) else (spec_BuildMonoid.l3 k x7 0 x17014000 ([] : List Int))
def spec_BuildMonoid.l2 : Nat → List (List Int) → Int → Int → List (List Int) → Option ((List (List Int)) × List Int × (List (List Int)) × Bool)
  | 0, _, _, _, _ => none
  | k + 1, x7, x8, x9, x17014000 => if x9 < (x7.length : Int) then (if 0 ≤ x8 then (if x8 < (x17014000.length : Int) then (if 0 ≤ x9 then ((spec_l13After.f k (rd_L1 x17014000 x8) (rd_L1 x7 x9)).bind fun t17019 => ((spec_l13Find.f k x17014000 t17019).bind fun t17022 => (if t17022 < 0 then (if x17014000.length < 5864062014805 then (spec_BuildMonoid.l2 k x7 x8 (wrap64 (x9 + 1)) (x17014000 ++ [t17019])) else (none)) else (spec_BuildMonoid.l2 k x7 x8 (wrap64 (x9 + 1)) x17014000)))) else (none)) else (none)) else (none)) else (if (x17014000.length : Int) > 30 then (some (([] : List (List Int)), ([] : List Int), ([] : List (List Int)), false)) else (spec_BuildMonoid.l1 k x7 (wrap64 (x8 + 1)) x17014000))
def spec_BuildMonoid.l3 : Nat → List (List Int) → Int → List (List Int) → List Int → Option ((List (List Int)) × List Int × (List (List Int)) × Bool)
  | 0, _, _, _, _ => none
  | k + 1, x7, x11, x17014000, x17014001 => if x11 < (x7.length : Int) then (if 0 ≤ x11 then ((spec_l13Find.f k x17014000 (rd_L1 x7 x11)).bind fun t17027 => (if x17014001.length < 17592186044416 then (spec_BuildMonoid.l3 k x7 (wrap64 (x11 + 1)) x17014000 (x17014001 ++ [t17027])) else (none))) else (none)) else (spec_BuildMonoid.l4 k 0 x17014000 x17014001 ([] : List (List Int)))
def spec_BuildMonoid.l4 : Nat → Int → List (List Int) → List Int → List (List Int) → Option ((List (List Int)) × List Int × (List (List Int)) × Bool)
  | 0, _, _, _, _ => none
  | k + 1, x12, x17014000, x17014001, x17014002 => if x12 < (x17014000.length : Int) then (spec_BuildMonoid.l5 k x12 (([] : List Int)) 0 x17014000 x17014001 x17014002) else (some (x17014000, x17014001, x17014002, true))
def spec_BuildMonoid.l5 : Nat → Int → List Int → Int → List (List Int) → List Int → List (List Int) → Option ((List (List Int)) × List Int × (List (List Int)) × Bool)
  | 0, _, _, _, _, _, _ => none
  | k + 1, x12, x13, x14, x17014000, x17014001, x17014002 => if x14 < (x17014000.length : Int) then (if 0 ≤ x12 then (if x12 < (x17014000.length : Int) then (if 0 ≤ x14 then ((spec_l13After.f k (rd_L1 x17014000 x12) (rd_L1 x17014000 x14)).bind fun t17036 => ((spec_l13Find.f k x17014000 t17036).bind fun t17039 => (if x13.length < 17592186044416 then (spec_BuildMonoid.l5 k x12 (x13 ++ [t17039]) (wrap64 (x14 + 1)) x17014000 x17014001 x17014002) else (none)))) else (none)) else (none)) else (none)) else (if x17014002.length < 5864062014805 then (spec_BuildMonoid.l4 k (wrap64 (x12 + 1)) x17014000 x17014001 (x17014002 ++ [x13])) else (none))
end
def spec_BuildMonoid.f (k : Nat) (l0_0 : List Bool) (l0_1 : List (List Int)) : Option ((List (List Int)) × List Int × (List (List Int)) × Bool) := (spec_IsValidDfa.f k l0_0 l0_1).bind fun t17003 => (if t17003 = true then (spec_BuildMonoid.l0 k (([] : List Int)) 0 l0_0 l0_1) else (some (([] : List (List Int)), ([] : List Int), ([] : List (List Int)), false)))
theorem spec_BuildMonoid.mono_l : ∀ k, (∀ y0 y1 y2 y3, LeO (spec_BuildMonoid.l0 k y0 y1 y2 y3) (spec_BuildMonoid.l0 (k + 1) y0 y1 y2 y3)) ∧ (∀ y0 y1 y2, LeO (spec_BuildMonoid.l1 k y0 y1 y2) (spec_BuildMonoid.l1 (k + 1) y0 y1 y2)) ∧ (∀ y0 y1 y2 y3, LeO (spec_BuildMonoid.l2 k y0 y1 y2 y3) (spec_BuildMonoid.l2 (k + 1) y0 y1 y2 y3)) ∧ (∀ y0 y1 y2 y3, LeO (spec_BuildMonoid.l3 k y0 y1 y2 y3) (spec_BuildMonoid.l3 (k + 1) y0 y1 y2 y3)) ∧ (∀ y0 y1 y2 y3, LeO (spec_BuildMonoid.l4 k y0 y1 y2 y3) (spec_BuildMonoid.l4 (k + 1) y0 y1 y2 y3)) ∧ (∀ y0 y1 y2 y3 y4 y5, LeO (spec_BuildMonoid.l5 k y0 y1 y2 y3 y4 y5) (spec_BuildMonoid.l5 (k + 1) y0 y1 y2 y3 y4 y5))
  | 0 => ⟨fun _ _ _ _ r h => by simp [spec_BuildMonoid.l0] at h, fun _ _ _ r h => by simp [spec_BuildMonoid.l1] at h, fun _ _ _ _ r h => by simp [spec_BuildMonoid.l2] at h, fun _ _ _ _ r h => by simp [spec_BuildMonoid.l3] at h, fun _ _ _ _ r h => by simp [spec_BuildMonoid.l4] at h, fun _ _ _ _ _ _ r h => by simp [spec_BuildMonoid.l5] at h⟩
  | k + 1 => by
    obtain ⟨ih0, ih1, ih2, ih3, ih4, ih5⟩ := spec_BuildMonoid.mono_l k
    refine ⟨?_, ?_, ?_, ?_, ?_, ?_⟩
    · intro y0 y1 y2 y3
      unfold spec_BuildMonoid.l0
      repeat' first
      | (with_reducible exact ih0 _ _ _ _)
      | (with_reducible exact ih1 _ _ _)
      | (with_reducible exact ih2 _ _ _ _)
      | (with_reducible exact ih3 _ _ _ _)
      | (with_reducible exact ih4 _ _ _ _)
      | (with_reducible exact ih5 _ _ _ _ _ _)
      | (with_reducible exact spec_IsValidDfa.mono _ _ _)
      | (with_reducible exact spec_l13After.mono _ _ _)
      | (with_reducible exact spec_l13Find.mono _ _ _)
      | (with_reducible exact spec_l13Letters.mono _ _ _)
      | (with_reducible exact LeO.refl _)
      | (with_reducible exact LeO.none _)
      | (with_reducible refine LeO.ite ?_ ?_)
      | (with_reducible refine LeO.bind ?_ (fun _ => ?_))
      | exact ih0 _ _ _ _
      | exact ih1 _ _ _
      | exact ih2 _ _ _ _
      | exact ih3 _ _ _ _
      | exact ih4 _ _ _ _
      | exact ih5 _ _ _ _ _ _
      | exact spec_IsValidDfa.mono _ _ _
      | exact spec_l13After.mono _ _ _
      | exact spec_l13Find.mono _ _ _
      | exact spec_l13Letters.mono _ _ _
      | exact LeO.none _
      | refine LeO.ite ?_ ?_
      | refine LeO.bind ?_ (fun _ => ?_)
    · intro y0 y1 y2
      unfold spec_BuildMonoid.l1
      repeat' first
      | (with_reducible exact ih0 _ _ _ _)
      | (with_reducible exact ih1 _ _ _)
      | (with_reducible exact ih2 _ _ _ _)
      | (with_reducible exact ih3 _ _ _ _)
      | (with_reducible exact ih4 _ _ _ _)
      | (with_reducible exact ih5 _ _ _ _ _ _)
      | (with_reducible exact spec_IsValidDfa.mono _ _ _)
      | (with_reducible exact spec_l13After.mono _ _ _)
      | (with_reducible exact spec_l13Find.mono _ _ _)
      | (with_reducible exact spec_l13Letters.mono _ _ _)
      | (with_reducible exact LeO.refl _)
      | (with_reducible exact LeO.none _)
      | (with_reducible refine LeO.ite ?_ ?_)
      | (with_reducible refine LeO.bind ?_ (fun _ => ?_))
      | exact ih0 _ _ _ _
      | exact ih1 _ _ _
      | exact ih2 _ _ _ _
      | exact ih3 _ _ _ _
      | exact ih4 _ _ _ _
      | exact ih5 _ _ _ _ _ _
      | exact spec_IsValidDfa.mono _ _ _
      | exact spec_l13After.mono _ _ _
      | exact spec_l13Find.mono _ _ _
      | exact spec_l13Letters.mono _ _ _
      | exact LeO.none _
      | refine LeO.ite ?_ ?_
      | refine LeO.bind ?_ (fun _ => ?_)
    · intro y0 y1 y2 y3
      unfold spec_BuildMonoid.l2
      repeat' first
      | (with_reducible exact ih0 _ _ _ _)
      | (with_reducible exact ih1 _ _ _)
      | (with_reducible exact ih2 _ _ _ _)
      | (with_reducible exact ih3 _ _ _ _)
      | (with_reducible exact ih4 _ _ _ _)
      | (with_reducible exact ih5 _ _ _ _ _ _)
      | (with_reducible exact spec_IsValidDfa.mono _ _ _)
      | (with_reducible exact spec_l13After.mono _ _ _)
      | (with_reducible exact spec_l13Find.mono _ _ _)
      | (with_reducible exact spec_l13Letters.mono _ _ _)
      | (with_reducible exact LeO.refl _)
      | (with_reducible exact LeO.none _)
      | (with_reducible refine LeO.ite ?_ ?_)
      | (with_reducible refine LeO.bind ?_ (fun _ => ?_))
      | exact ih0 _ _ _ _
      | exact ih1 _ _ _
      | exact ih2 _ _ _ _
      | exact ih3 _ _ _ _
      | exact ih4 _ _ _ _
      | exact ih5 _ _ _ _ _ _
      | exact spec_IsValidDfa.mono _ _ _
      | exact spec_l13After.mono _ _ _
      | exact spec_l13Find.mono _ _ _
      | exact spec_l13Letters.mono _ _ _
      | exact LeO.none _
      | refine LeO.ite ?_ ?_
      | refine LeO.bind ?_ (fun _ => ?_)
    · intro y0 y1 y2 y3
      unfold spec_BuildMonoid.l3
      repeat' first
      | (with_reducible exact ih0 _ _ _ _)
      | (with_reducible exact ih1 _ _ _)
      | (with_reducible exact ih2 _ _ _ _)
      | (with_reducible exact ih3 _ _ _ _)
      | (with_reducible exact ih4 _ _ _ _)
      | (with_reducible exact ih5 _ _ _ _ _ _)
      | (with_reducible exact spec_IsValidDfa.mono _ _ _)
      | (with_reducible exact spec_l13After.mono _ _ _)
      | (with_reducible exact spec_l13Find.mono _ _ _)
      | (with_reducible exact spec_l13Letters.mono _ _ _)
      | (with_reducible exact LeO.refl _)
      | (with_reducible exact LeO.none _)
      | (with_reducible refine LeO.ite ?_ ?_)
      | (with_reducible refine LeO.bind ?_ (fun _ => ?_))
      | exact ih0 _ _ _ _
      | exact ih1 _ _ _
      | exact ih2 _ _ _ _
      | exact ih3 _ _ _ _
      | exact ih4 _ _ _ _
      | exact ih5 _ _ _ _ _ _
      | exact spec_IsValidDfa.mono _ _ _
      | exact spec_l13After.mono _ _ _
      | exact spec_l13Find.mono _ _ _
      | exact spec_l13Letters.mono _ _ _
      | exact LeO.none _
      | refine LeO.ite ?_ ?_
      | refine LeO.bind ?_ (fun _ => ?_)
    · intro y0 y1 y2 y3
      unfold spec_BuildMonoid.l4
      repeat' first
      | (with_reducible exact ih0 _ _ _ _)
      | (with_reducible exact ih1 _ _ _)
      | (with_reducible exact ih2 _ _ _ _)
      | (with_reducible exact ih3 _ _ _ _)
      | (with_reducible exact ih4 _ _ _ _)
      | (with_reducible exact ih5 _ _ _ _ _ _)
      | (with_reducible exact spec_IsValidDfa.mono _ _ _)
      | (with_reducible exact spec_l13After.mono _ _ _)
      | (with_reducible exact spec_l13Find.mono _ _ _)
      | (with_reducible exact spec_l13Letters.mono _ _ _)
      | (with_reducible exact LeO.refl _)
      | (with_reducible exact LeO.none _)
      | (with_reducible refine LeO.ite ?_ ?_)
      | (with_reducible refine LeO.bind ?_ (fun _ => ?_))
      | exact ih0 _ _ _ _
      | exact ih1 _ _ _
      | exact ih2 _ _ _ _
      | exact ih3 _ _ _ _
      | exact ih4 _ _ _ _
      | exact ih5 _ _ _ _ _ _
      | exact spec_IsValidDfa.mono _ _ _
      | exact spec_l13After.mono _ _ _
      | exact spec_l13Find.mono _ _ _
      | exact spec_l13Letters.mono _ _ _
      | exact LeO.none _
      | refine LeO.ite ?_ ?_
      | refine LeO.bind ?_ (fun _ => ?_)
    · intro y0 y1 y2 y3 y4 y5
      unfold spec_BuildMonoid.l5
      repeat' first
      | (with_reducible exact ih0 _ _ _ _)
      | (with_reducible exact ih1 _ _ _)
      | (with_reducible exact ih2 _ _ _ _)
      | (with_reducible exact ih3 _ _ _ _)
      | (with_reducible exact ih4 _ _ _ _)
      | (with_reducible exact ih5 _ _ _ _ _ _)
      | (with_reducible exact spec_IsValidDfa.mono _ _ _)
      | (with_reducible exact spec_l13After.mono _ _ _)
      | (with_reducible exact spec_l13Find.mono _ _ _)
      | (with_reducible exact spec_l13Letters.mono _ _ _)
      | (with_reducible exact LeO.refl _)
      | (with_reducible exact LeO.none _)
      | (with_reducible refine LeO.ite ?_ ?_)
      | (with_reducible refine LeO.bind ?_ (fun _ => ?_))
      | exact ih0 _ _ _ _
      | exact ih1 _ _ _
      | exact ih2 _ _ _ _
      | exact ih3 _ _ _ _
      | exact ih4 _ _ _ _
      | exact ih5 _ _ _ _ _ _
      | exact spec_IsValidDfa.mono _ _ _
      | exact spec_l13After.mono _ _ _
      | exact spec_l13Find.mono _ _ _
      | exact spec_l13Letters.mono _ _ _
      | exact LeO.none _
      | refine LeO.ite ?_ ?_
      | refine LeO.bind ?_ (fun _ => ?_)
theorem spec_BuildMonoid.mono : ∀ a0 a1 k, LeO (spec_BuildMonoid.f k a0 a1) (spec_BuildMonoid.f (k + 1) a0 a1) := by
  intro a0 a1 k
  obtain ⟨ih0, ih1, ih2, ih3, ih4, ih5⟩ := spec_BuildMonoid.mono_l k
  unfold spec_BuildMonoid.f
  repeat' first
      | (with_reducible exact ih0 _ _ _ _)
      | (with_reducible exact ih1 _ _ _)
      | (with_reducible exact ih2 _ _ _ _)
      | (with_reducible exact ih3 _ _ _ _)
      | (with_reducible exact ih4 _ _ _ _)
      | (with_reducible exact ih5 _ _ _ _ _ _)
      | (with_reducible exact spec_IsValidDfa.mono _ _ _)
      | (with_reducible exact spec_l13After.mono _ _ _)
      | (with_reducible exact spec_l13Find.mono _ _ _)
      | (with_reducible exact spec_l13Letters.mono _ _ _)
      | (with_reducible exact LeO.refl _)
      | (with_reducible exact LeO.none _)
      | (with_reducible refine LeO.ite ?_ ?_)
      | (with_reducible refine LeO.bind ?_ (fun _ => ?_))
      | exact ih0 _ _ _ _
      | exact ih1 _ _ _
      | exact ih2 _ _ _ _
      | exact ih3 _ _ _ _
      | exact ih4 _ _ _ _
      | exact ih5 _ _ _ _ _ _
      | exact spec_IsValidDfa.mono _ _ _
      | exact spec_l13After.mono _ _ _
      | exact spec_l13Find.mono _ _ _
      | exact spec_l13Letters.mono _ _ _
      | exact LeO.none _
      | refine LeO.ite ?_ ?_
      | refine LeO.bind ?_ (fun _ => ?_)
def spec_BuildMonoid.T16 : Bool × List (List Nat × List Nat) := (true, [([], []), ([0], [0]), ([], []), ([1, 2], [1, 2]), ([3], [3]), ([], []), ([], []), ([5, 6], [5, 6]), ([7], [7]), ([4, 8], [4, 8]), ([9, 9, 0, 1, 2, 3, 4, 5, 6, 7, 8, 9], [9])])
def spec_BuildMonoid.B16 : List Nat := [0, 1, 0, 7, 15, 0, 0, 96, 224, 511, 1023]
theorem spec_BuildMonoid.tab16 : rtab .any (opsOf Try.f17 16) = spec_BuildMonoid.T16 := by kernel_rfl
theorem spec_BuildMonoid.bits16 : waitsOk spec_BuildMonoid.T16.2 spec_BuildMonoid.B16 = true := by kernel_rfl
def spec_BuildMonoid.T24 : Bool × List (List Nat × List Nat) := (true, [([], []), ([0], [0]), ([], []), ([2], [2]), ([], []), ([], []), ([4, 5], [4, 5]), ([6], [6]), ([3, 7], [3, 7]), ([8], [8]), ([1, 9, 8], [1, 9]), ([0, 1, 2, 3, 4, 5, 6, 7, 8, 9, 10], []), ([11, 10, 10, 0, 1, 2, 3, 4, 5, 6, 7, 8, 9, 10], [10, 11])])
def spec_BuildMonoid.B24 : List Nat := [0, 1, 0, 4, 0, 0, 48, 112, 252, 508, 1023, 2047, 4095]
theorem spec_BuildMonoid.tab24 : rtab .any (opsOf Try.f17 24) = spec_BuildMonoid.T24 := by kernel_rfl
theorem spec_BuildMonoid.bits24 : waitsOk spec_BuildMonoid.T24.2 spec_BuildMonoid.B24 = true := by kernel_rfl
def spec_BuildMonoid.T32 : Bool × List (List Nat × List Nat) := (true, [([], []), ([], []), ([1], [1]), ([], []), ([3], [3]), ([], []), ([4, 5], [4, 5]), ([6], [6]), ([], []), ([8], [8]), ([], []), ([9, 10], [9, 10]), ([11], [11]), ([7, 12], [7, 12]), ([2, 13, 13], [2, 13]), ([14], [14]), ([0, 15, 14], [0, 15]), ([16, 16, 0, 1, 2, 3, 4, 5, 6, 7, 8, 9, 10, 11, 12, 13, 14, 15, 16], [0, 16])])
def spec_BuildMonoid.B32 : List Nat := [0, 0, 2, 0, 8, 0, 56, 120, 0, 256, 0, 1792, 3840, 8184, 16382, 32766, 65535, 131071]
theorem spec_BuildMonoid.tab32 : rtab .any (opsOf Try.f17 32) = spec_BuildMonoid.T32 := by kernel_rfl
theorem spec_BuildMonoid.bits32 : waitsOk spec_BuildMonoid.T32.2 spec_BuildMonoid.B32 = true := by kernel_rfl
set_option maxHeartbeats 8000000 in
set_option maxRecDepth 100000 in
theorem spec_BuildMonoid.calls (k : Nat) (A0_0 : Option Addr) (c0_0 : Nat) (l0_0 : List Bool) (A0_1 : Option Addr) (c0_1 : Nat) (l0_1 : List (List Int)) (r1 : List (List Int)) (r2 : List Int) (r3 : List (List Int)) (r4 : Bool) (w : World) (hr0_0 : Kd.C Kd.bool w A0_0 l0_0.length l0_0) (hc0_0 : l0_0.length ≤ c0_0) (hr0_1 : Kd.C (Kd.slice 3 (Kd.int .i64)) w A0_1 l0_1.length l0_1) (hc0_1 : l0_1.length ≤ c0_1) (h : spec_BuildMonoid.f k l0_0 l0_1 = some (r1, r2, r3, r4)) :
    Calls Try.prog 17 #[.agg #[.slice A0_0 l0_0.length c0_0, .slice A0_1 l0_1.length c0_1]] w fun e w' => ∃ v0_ v1_ v2_ : Value, e = .returned (.tuple #[.agg #[v0_, v1_, v2_], .bool r4]) ∧ Kd.N (Kd.slice 3 (Kd.int .i64)) 25 w' w.heap.size (fun k_ => (w.heap.size ≤ k_) ∧ some k_ ≠ (v1_ : Value).ownBlock ∧ some k_ ≠ (v2_ : Value).ownBlock) v0_ r1 ∧ Kd.R (Kd.int .i64) 3 w' w.heap.size (fun k_ => (w.heap.size ≤ k_)) v1_ r2 ∧ Kd.N (Kd.slice 3 (Kd.int .i64)) 25 w' w.heap.size (fun k_ => (w.heap.size ≤ k_) ∧ some k_ ≠ (v0_ : Value).ownBlock ∧ some k_ ≠ (v1_ : Value).ownBlock) v2_ r3 ∧ Below w.heap.size w w' := by
  have hu49 := Try.underlying49
  have hu34 := Try.underlying34
  have HR0_0 := Aside0.mk hr0_0
  have HC0_0 := Aside0.mk hc0_0
  clear hr0_0 hc0_0
  have HR0_1 := Aside0.mk hr0_1
  have HC0_1 := Aside0.mk hc0_1
  clear hr0_1 hc0_1
  have HB := Aside0.mk (Below.refl w.heap.size w)
  have H : ((spec_IsValidDfa.f k l0_0 l0_1).bind fun t17003 => (if t17003 = true then (spec_BuildMonoid.l0 k (([] : List Int)) 0 l0_0 l0_1) else (some (([] : List (List Int)), ([] : List Int), ([] : List (List Int)), false)))) = some (r1, r2, r3, r4) := h
  clear h
  replace H := Option.bind_eq_some_iff.mp H
  obtain ⟨t17003, A20, H⟩ := H
  replace H : (if t17003 = true then (spec_BuildMonoid.l0 k (([] : List Int)) 0 l0_0 l0_1) else (some (([] : List (List Int)), ([] : List Int), ([] : List (List Int)), false))) = some (r1, r2, r3, r4) := H
  have A2 := Aside0.mk A20
  clear A20
  by_cases c3 : t17003 = true
  · subst c3
    have H1 : (spec_BuildMonoid.l0 k (([] : List Int)) 0 l0_0 l0_1) = some (r1, r2, r3, r4) := by rw [if_pos rfl] at H; exact H
    clear H
    have H := H1
    clear H1
    obtain ⟨y17004, hy17004⟩ : ∃ y_ : List Int, y_ = (([] : List Int)) := ⟨_, rfl⟩
    replace H : (spec_BuildMonoid.l0 k y17004 0 l0_0 l0_1) = some (r1, r2, r3, r4) := by first | (rw [hy17004]; with_reducible exact H) | (have H2_ := (Option.bind_some _ _).symm.trans H; rw [hy17004]; with_reducible exact H2_) | (have H2_ := (Option.bind_some _ _).symm.trans H; with_reducible exact H2_) | with_reducible exact H | (rw [hy17004]; exact H) | exact H
    have Ny17004 := Aside0.mk hy17004
    clear hy17004
    have H' := Aside0.mk H
    clear H
    go_enter Try.func17, Try.ntmps17
    go_wp2_with (first | ((with_reducible refine gate_dst (N := 1) rfl ?_); refine box_event ?hg (N := 1) ?hd (cs := #[.slice A0_0 l0_0.length c0_0, .slice A0_1 l0_1.length c0_1]) (t := 49) ?hr ?_; (case hd => rfl); (case hg => rfl); (case hr => first | (go_simp; done) | (go_simp; rfl)); intro gb17001 hg w4 hbox hb; have n0_ := Aside0.mk (below_step (by repeat (first | (with_reducible first | exact HB.out | apply below_alloc | apply pw_below_drewN | apply below_drew1) | exact HB.out)) hb); have n1_ := Aside0.mk (hbox); have n2_ := Aside0.mk ((by rw [hg]; exact (below_size (by repeat (first | (with_reducible first | exact HB.out | apply below_alloc | apply pw_below_drewN | apply below_drew1) | exact HB.out))) : w.heap.size ≤ gb17001)); have n3_ := Aside0.mk ((by rw [hg]; exact (below_size (by repeat (first | (with_reducible first | exact HB.out | apply below_alloc | apply pw_below_drewN | apply below_drew1) | exact HB.out))) : w.heap.size ≤ gb17001)); clear HB; have HB := n0_; have BK17001 := n1_; have GW17001 := n2_; have GE17001 := n3_; clear n0_ n1_ n2_ n3_; clear hb hbox hg) | ((with_reducible refine gate_dst (N := 2) rfl ?_); refine box_event ?hg (N := 2) ?hd (cs := #[.slice none 0 0, .slice none 0 0, .slice none 0 0]) (t := 34) ?hr ?_; (case hd => rfl); (case hg => rfl); (case hr => first | (go_simp; done) | (go_simp; rfl)); intro gb17002 hg w5 hbox hb; have n0_ := Aside0.mk (blk_below (g := gb17001) (o := .cells #[.slice A0_0 l0_0.length c0_0, .slice A0_1 l0_1.length c0_1] 49 (0, 0)) (by (with_reducible repeat (first | refine blk_drewN ?_ _ | refine blk_drew ?_ | refine blk_alloc ?_ _)); exact BK17001.out) hb); have n1_ := Aside0.mk (below_step (by repeat (first | (with_reducible first | exact HB.out | apply below_alloc | apply pw_below_drewN | apply below_drew1 | refine below_set ?_ GE17001.out) | exact HB.out)) hb); have n2_ := Aside0.mk (hbox); have n3_ := Aside0.mk ((by rw [hg]; exact (below_size (by repeat (first | (with_reducible first | exact HB.out | apply below_alloc | apply pw_below_drewN | apply below_drew1 | refine below_set ?_ GE17001.out) | exact HB.out))) : w.heap.size ≤ gb17002)); have n4_ := Aside0.mk ((by rw [hg]; exact (below_size (by repeat (first | (with_reducible first | exact HB.out | apply below_alloc | apply pw_below_drewN | apply below_drew1 | refine below_set ?_ GE17001.out) | exact HB.out))) : w.heap.size ≤ gb17002)); have n5_ := Aside0.mk ((by rw [hg]; exact Nat.ne_of_lt (blk_lt (g := gb17001) (o := .cells #[.slice A0_0 l0_0.length c0_0, .slice A0_1 l0_1.length c0_1] 49 (0, 0)) (by (with_reducible repeat (first | refine blk_drewN ?_ _ | refine blk_drew ?_ | refine blk_alloc ?_ _)); exact BK17001.out)) : gb17001 ≠ gb17002)); have n6_ := Aside0.mk ((by rw [hg]; exact Nat.ne_of_gt (blk_lt (g := gb17001) (o := .cells #[.slice A0_0 l0_0.length c0_0, .slice A0_1 l0_1.length c0_1] 49 (0, 0)) (by (with_reducible repeat (first | refine blk_drewN ?_ _ | refine blk_drew ?_ | refine blk_alloc ?_ _)); exact BK17001.out)) : gb17002 ≠ gb17001)); clear BK17001; clear HB; have BK17001 := n0_; have HB := n1_; have BK17002 := n2_; have GW17002 := n3_; have GE17002 := n4_; have NB17001_17002 := n5_; have NB17002_17001 := n6_; clear n0_ n1_ n2_ n3_ n4_ n5_ n6_; clear hb hbox hg; have hnb6 := NB17001_17002.out; have hnc6 := NB17002_17001.out; have hcz7_0 : w5.cell? ⟨gb17001, 0, none⟩ = some (.slice A0_0 l0_0.length c0_0) := (blk_cell BK17001.out 0).trans rfl; have hcz7_1 : w5.cell? ⟨gb17001, 1, none⟩ = some (.slice A0_1 l0_1.length c0_1) := (blk_cell BK17001.out 1).trans rfl; have hfz7_0 := blk_frozen BK17001.out 0; have hfz7_1 := blk_frozen BK17001.out 1) | ((with_reducible refine gate_callee (f := 61) rfl ?_); refine goesL_ (some 16) rfl rfl Try.func61 (by kernel_rfl) rfl #[.agg #[.slice A0_0 l0_0.length c0_0, .slice A0_1 l0_1.length c0_1]] rfl (by (try simp only [List.map_toArray, List.map_cons, List.map_nil]); first | done | rfl | (simp only [List.length_drop, List.length_take]; rfl)) ?_; (with_reducible refine (spec_IsValidDfa.calls k _ _ l0_0 _ _ l0_1 true _ ?side1 ?side2 ?side3 ?side4 A2.out).mono ?_); (case side1 => repeat (first | exact (Kd.C_below HR0_0.out HB.out) | (with_reducible refine Kd.C_alloc ?_ _) | (with_reducible refine Kd.C_drewN ?_ _) | (with_reducible refine Kd.C_drew ?_))); (case side2 => exact HC0_0.out); (case side3 => repeat (first | exact (Kd.C_below HR0_1.out HB.out) | (with_reducible refine Kd.C_alloc ?_ _) | (with_reducible refine Kd.C_drewN ?_ _) | (with_reducible refine Kd.C_drew ?_))); (case side4 => exact HC0_1.out); rintro e w8 ⟨rfl, hb⟩; refine ⟨_, rfl, ?_⟩; have n0_ := Aside0.mk (blk_below (g := gb17001) (o := .cells #[.slice A0_0 l0_0.length c0_0, .slice A0_1 l0_1.length c0_1] 49 (0, 0)) (by (with_reducible repeat (first | refine blk_drewN ?_ _ | refine blk_drew ?_ | refine blk_alloc ?_ _)); exact BK17001.out) hb); have n1_ := Aside0.mk (blk_below (g := gb17002) (o := .cells #[.slice none 0 0, .slice none 0 0, .slice none 0 0] 34 (0, 0)) (by (with_reducible repeat (first | refine blk_drewN ?_ _ | refine blk_drew ?_ | refine blk_alloc ?_ _)); exact BK17002.out) hb); have n2_ := Aside0.mk (below_step (by repeat (first | (with_reducible first | exact HB.out | apply below_alloc | apply pw_below_drewN | apply below_drew1 | refine below_set ?_ GE17001.out | refine below_set ?_ GE17002.out) | exact HB.out)) hb); clear BK17001; clear BK17002; clear HB; have BK17001 := n0_; have BK17002 := n1_; have HB := n2_; clear n0_ n1_ n2_; (try clear hb); (try clear hb2); (try clear hk); (try clear hi)) | ((with_reducible refine gate_dst (N := 19) rfl ?_); refine Kd.R_lit (Kd.int .i64) _ 3 ?hg (N := 19) ?hd (xs := ([] : List Int)) (inner := []) (ok := fun _ => True) (okp := fun _ => True) ?hr ?hp (fun _ hk => hk) trivial (Below.refl _ _) (Nat.le_refl _) (by simp) ?_; (case hd => rfl); (case hg => rfl); (case hr => first | (go_simp; done) | (go_simp; rfl)); (case hp => exact (Reps.none _ _)); intro v17005 w9 ho10 hb hg_ hnew_; clear hg_ hnew_; (first | rw [← Ny17004.out] at ho10 | (simp only [Int.reduceToNat] at ho10; rw [← Ny17004.out] at ho10)); have n0_ := Aside0.mk (Kd.R_lower (Kd.R_newM (M := fun k_ => (w.heap.size ≤ k_)) ho10 (below_size (by repeat (first | (with_reducible first | exact HB.out | apply below_alloc | apply pw_below_drewN | apply below_drew1 | refine below_set ?_ GE17001.out | refine below_set ?_ GE17002.out) | exact HB.out))) (fun k_ h_ => h_)) (below_size (by repeat (first | (with_reducible first | exact HB.out | apply below_alloc | apply pw_below_drewN | apply below_drew1 | refine below_set ?_ GE17001.out | refine below_set ?_ GE17002.out) | exact HB.out)))); have n1_ := Aside0.mk (blk_below (g := gb17001) (o := .cells #[.slice A0_0 l0_0.length c0_0, .slice A0_1 l0_1.length c0_1] 49 (0, 0)) (by (with_reducible repeat (first | refine blk_drewN ?_ _ | refine blk_drew ?_ | refine blk_alloc ?_ _)); exact BK17001.out) hb); have n2_ := Aside0.mk (blk_below (g := gb17002) (o := .cells #[.slice none 0 0, .slice none 0 0, .slice none 0 0] 34 (0, 0)) (by (with_reducible repeat (first | refine blk_drewN ?_ _ | refine blk_drew ?_ | refine blk_alloc ?_ _)); exact BK17002.out) hb); have n3_ := Aside0.mk (below_step (by repeat (first | (with_reducible first | exact HB.out | apply below_alloc | apply pw_below_drewN | apply below_drew1 | refine below_set ?_ GE17001.out | refine below_set ?_ GE17002.out) | exact HB.out)) hb); clear BK17001; clear BK17002; clear HB; have HO17006 := n0_; have BK17001 := n1_; have BK17002 := n2_; have HB := n3_; clear n0_ n1_ n2_ n3_; clear hb ho10))
    first | go_loopg [4, 5] k (fun kq v4 v5 w' => ∃ (x4_1 : List Int) (x5_1 : Int), v5 = .int .i64 x5_1 ∧ Aside0 (spec_BuildMonoid.l0 kq x4_1 x5_1 l0_0 l0_1 = some (r1, r2, r3, r4)) ∧ Aside0 (kq ≤ k) ∧ Aside0 (Kd.R (Kd.int .i64) 3 w' w.heap.size (fun k_ => (w.heap.size ≤ k_)) v4 x4_1) ∧ Aside0 (w'.heap[gb17001]? = some (.cells #[(.slice A0_0 l0_0.length c0_0), (.slice A0_1 l0_1.length c0_1)] 49 (0, 0))) ∧ Aside0 (w'.heap[gb17002]? = some (.cells #[(.slice none 0 0), (.slice none 0 0), (.slice none 0 0)] 34 (0, 0))) ∧ Aside0 (Below w.heap.size w w')) | (simp only [Act.put, List.setIfInBounds_toArray, List.set_cons_succ, List.set_cons_zero]; go_loopg [4, 5] k (fun kq v4 v5 w' => ∃ (x4_1 : List Int) (x5_1 : Int), v5 = .int .i64 x5_1 ∧ Aside0 (spec_BuildMonoid.l0 kq x4_1 x5_1 l0_0 l0_1 = some (r1, r2, r3, r4)) ∧ Aside0 (kq ≤ k) ∧ Aside0 (Kd.R (Kd.int .i64) 3 w' w.heap.size (fun k_ => (w.heap.size ≤ k_)) v4 x4_1) ∧ Aside0 (w'.heap[gb17001]? = some (.cells #[(.slice A0_0 l0_0.length c0_0), (.slice A0_1 l0_1.length c0_1)] 49 (0, 0))) ∧ Aside0 (w'.heap[gb17002]? = some (.cells #[(.slice none 0 0), (.slice none 0 0), (.slice none 0 0)] 34 (0, 0))) ∧ Aside0 (Below w.heap.size w w')))
    case atStart => exact ⟨(y17004), (0), (by first | rfl | (simp; done) | (simp [*]; done)), H', ⟨Nat.le_refl _⟩, ⟨by (with_reducible repeat (first | apply Kd.R_alloc | apply Kd.R_drewN | apply Kd.R_drew)); exact Kd.R_mono HO17006.out (fun _ hk => hk.1)⟩, ⟨by (with_reducible repeat (first | refine blk_drewN ?_ _ | refine blk_drew ?_ | refine blk_alloc ?_ _)); exact BK17001.out⟩, ⟨by (with_reducible repeat (first | refine blk_drewN ?_ _ | refine blk_drew ?_ | refine blk_alloc ?_ _)); exact BK17002.out⟩, ⟨by repeat (first | (with_reducible first | exact HB.out | apply below_alloc | apply pw_below_drewN | apply below_drew1 | refine below_set ?_ GE17001.out | refine below_set ?_ GE17002.out) | exact HB.out)⟩⟩
    case round =>
      clear H'
      try clear c1
      try clear p2
      try clear c3
      try clear c6
      try clear hcz7_0
      try clear hcz7_1
      try clear hfz7_0
      try clear hfz7_1
      obtain ⟨x4_1, x5_1, rfl, HA, HK1, HO_4, BK17001, BK17002, HB⟩ := hrel
      cases gk with
      | zero => exact absurd HA.out (by simp [spec_BuildMonoid.l0])
      | succ k1 =>
        have H := HA.out
        clear HA
        simp only [spec_BuildMonoid.l0] at H
        by_cases c11 : x5_1 < (l0_0.length : Int)
        · rw [if_pos c11] at H
          have c11b0 : decide (x5_1 < (l0_0.length : Int)) = true := decide_eq_true c11
          clear c11
          by_cases c12 : x4_1.length < 17592186044416
          · rw [if_pos c12] at H
            have LMc12 := Aside0.mk c12
            clear c12
            obtain ⟨y17007, hy17007⟩ : ∃ y_ : List Int, y_ = (x4_1 ++ [x5_1]) := ⟨_, rfl⟩
            replace H : (spec_BuildMonoid.l0 k1 y17007 (wrap64 (x5_1 + 1)) l0_0 l0_1) = some (r1, r2, r3, r4) := by first | (rw [hy17007]; with_reducible exact H) | (have H2_ := (Option.bind_some _ _).symm.trans H; rw [hy17007]; with_reducible exact H2_) | (have H2_ := (Option.bind_some _ _).symm.trans H; with_reducible exact H2_) | with_reducible exact H | (rw [hy17007]; exact H) | exact H
            have Ny17007 := Aside0.mk hy17007
            clear hy17007
            have H' := Aside0.mk H
            clear H
            have hnb13 := NB17001_17002.out
            have hnc13 := NB17002_17001.out
            have hcz14_0 : wr.cell? ⟨gb17001, 0, none⟩ = some (.slice A0_0 l0_0.length c0_0) := (blk_cell BK17001.out 0).trans rfl
            have hcz14_1 : wr.cell? ⟨gb17001, 1, none⟩ = some (.slice A0_1 l0_1.length c0_1) := (blk_cell BK17001.out 1).trans rfl
            have hfz14_0 := blk_frozen BK17001.out 0
            have hfz14_1 := blk_frozen BK17001.out 1
            go_wp2_with (first | ((with_reducible refine gate_builtin (b := .append) (xs := #[.tmp 27, .tmp 29]) rfl ?_); at_builtin; refine Kd.R_append (Kd.int .i64) (w0 := w) w.heap.size rfl (.tmp 27) (.tmp 29) 25 3 (.int .i64 0) 8 rfl Try.underlying25 info3 rfl (by decide) (by omega) u4 x4_1 x5_1 [.int .i64 x5_1] (fun k_ => (w.heap.size ≤ k_)) (fun _ => False) rfl rfl ?aP (fun _ hk => hk.elim) ?aF ?aO ?aB ?aS ?aL ?_; (case aP => exact rfl); (case aB => exact (by repeat (first | (with_reducible first | exact HB.out | apply below_alloc | apply pw_below_drewN | apply below_drew1 | refine below_set ?_ GE17001.out | refine below_set ?_ GE17002.out) | exact HB.out))); (case aF => exact (fun k_ hk => (Nat.le_trans (below_size (by repeat (first | (with_reducible first | exact HB.out | apply below_alloc | apply pw_below_drewN | apply below_drew1 | refine below_set ?_ GE17001.out | refine below_set ?_ GE17002.out) | exact HB.out))) hk))); (case aO => exact (by (with_reducible repeat (first | apply Kd.R_alloc | apply Kd.R_drewN | apply Kd.R_drew)); exact HO_4.out)); (case aS => exact (below_size (by repeat (first | (with_reducible first | exact HB.out | apply below_alloc | apply pw_below_drewN | apply below_drew1 | refine below_set ?_ GE17001.out | refine below_set ?_ GE17002.out) | exact HB.out)))); (case aL => have := LMc12.out; omega); intro v17008 w15 ho hb hg hat; rw [← Ny17007.out] at ho; have n0_ := Aside0.mk (blk_grown (g := gb17001) (o := .cells #[.slice A0_0 l0_0.length c0_0, .slice A0_1 l0_1.length c0_1] 49 (0, 0)) (by (with_reducible repeat (first | refine blk_drewN ?_ _ | refine blk_drew ?_ | refine blk_alloc ?_ _)); exact BK17001.out) hg (Kd.R_ne HO_4.out BK17001.out (by decide))); have n1_ := Aside0.mk (blk_grown (g := gb17002) (o := .cells #[.slice none 0 0, .slice none 0 0, .slice none 0 0] 34 (0, 0)) (by (with_reducible repeat (first | refine blk_drewN ?_ _ | refine blk_drew ?_ | refine blk_alloc ?_ _)); exact BK17002.out) hg (Kd.R_ne HO_4.out BK17002.out (by decide))); have n2_ := Aside0.mk (hb); have n3_ := Aside0.mk (ho); clear BK17001; clear BK17002; clear HB; clear HO_4; have BK17001 := n0_; have BK17002 := n1_; have HB := n2_; have HO17009 := n3_; clear n0_ n1_ n2_ n3_; clear ho hb hg hat))
            go_roundg k1
            case measure => have := HK1.out; omega
            case rel => exact ⟨(y17007), (wrap64 (x5_1 + 1)), (by first | rfl | (simp; done) | (simp [*]; done)), H', ⟨by have := HK1.out; omega⟩, ⟨by (with_reducible repeat (first | apply Kd.R_alloc | apply Kd.R_drewN | apply Kd.R_drew)); exact HO17009.out⟩, ⟨by (with_reducible repeat (first | refine blk_drewN ?_ _ | refine blk_drew ?_ | refine blk_alloc ?_ _)); exact BK17001.out⟩, ⟨by (with_reducible repeat (first | refine blk_drewN ?_ _ | refine blk_drew ?_ | refine blk_alloc ?_ _)); exact BK17002.out⟩, ⟨by repeat (first | (with_reducible first | exact HB.out | apply below_alloc | apply pw_below_drewN | apply below_drew1 | refine below_set ?_ GE17001.out | refine below_set ?_ GE17002.out) | exact HB.out)⟩⟩
          · rw [if_neg c12] at H
            exact absurd H (by simp)
        · rw [if_neg c11] at H
          have c11b0 : decide (x5_1 < (l0_0.length : Int)) = false := decide_eq_false c11
          clear c11
          obtain ⟨y17010, hy17010⟩ : ∃ y_ : List (List Int), y_ = (([x4_1] : List (List Int))) := ⟨_, rfl⟩
          replace H : ((spec_l13Letters.f k1 l0_0 l0_1).bind fun t17014 => (spec_BuildMonoid.l1 k1 t17014 0 y17010)) = some (r1, r2, r3, r4) := by first | (rw [hy17010]; with_reducible exact H) | (have H2_ := (Option.bind_some _ _).symm.trans H; rw [hy17010]; with_reducible exact H2_) | (have H2_ := (Option.bind_some _ _).symm.trans H; with_reducible exact H2_) | with_reducible exact H | (rw [hy17010]; exact H) | exact H
          have Ny17010 := Aside0.mk hy17010
          clear hy17010
          replace H := Option.bind_eq_some_iff.mp H
          obtain ⟨t17014, A160, H⟩ := H
          replace H : (spec_BuildMonoid.l1 k1 t17014 0 y17010) = some (r1, r2, r3, r4) := H
          have A16 := Aside0.mk A160
          clear A160
          have H' := Aside0.mk H
          clear H
          have hnb17 := NB17001_17002.out
          have hnc17 := NB17002_17001.out
          have hcz18_0 : wr.cell? ⟨gb17001, 0, none⟩ = some (.slice A0_0 l0_0.length c0_0) := (blk_cell BK17001.out 0).trans rfl
          have hcz18_1 : wr.cell? ⟨gb17001, 1, none⟩ = some (.slice A0_1 l0_1.length c0_1) := (blk_cell BK17001.out 1).trans rfl
          have hfz18_0 := blk_frozen BK17001.out 0
          have hfz18_1 := blk_frozen BK17001.out 1
          obtain ⟨Ao19, co19, eo19⟩ := Kd.R_slice HO_4.out
          subst eo19
          go_wp2_with (first | ((with_reducible refine gate_dst (N := 32) rfl ?_); refine Kd.N_lit (Kd.slice 3 (Kd.int .i64)) _ 25 ?hg (N' := 32) ?hd (xs := ([x4_1] : List (List Int))) (inner := [.slice Ao19 x4_1.length co19]) (ok := (fun k_ => (w.heap.size ≤ k_) ∧ k_ ≠ gb17001 ∧ k_ ≠ gb17002)) (okp := (fun k_ => (w.heap.size ≤ k_) ∧ k_ ≠ gb17001 ∧ k_ ≠ gb17002)) ?hr ?hp (fun _ hk => hk) ((show ∀ k_, wr.heap.size ≤ k_ → (fun k_ => (w.heap.size ≤ k_) ∧ k_ ≠ gb17001 ∧ k_ ≠ gb17002) k_ from fun k_ hk => ⟨(Nat.le_trans (below_size (by repeat (first | (with_reducible first | exact HB.out | apply below_alloc | apply pw_below_drewN | apply below_drew1 | refine below_set ?_ GE17001.out | refine below_set ?_ GE17002.out) | exact HB.out))) hk), Kd.freshB (g := gb17001) (o := .cells #[.slice A0_0 l0_0.length c0_0, .slice A0_1 l0_1.length c0_1] 49 (0, 0)) (by (with_reducible repeat (first | refine blk_drewN ?_ _ | refine blk_drew ?_ | refine blk_alloc ?_ _)); exact BK17001.out) k_ hk, Kd.freshB (g := gb17002) (o := .cells #[.slice none 0 0, .slice none 0 0, .slice none 0 0] 34 (0, 0)) (by (with_reducible repeat (first | refine blk_drewN ?_ _ | refine blk_drew ?_ | refine blk_alloc ?_ _)); exact BK17002.out) k_ hk⟩) _ (Nat.le_refl _)) (Below.refl _ _) (Nat.le_refl _) (by simp) ?_; (case hd => rfl); (case hg => rfl); (case hr => first | (go_simp; done) | (go_simp; rfl)); (case hp => exact (Reps.one (show Kd.FK (Kd.slice 3 (Kd.int .i64)) _ _ x4_1 [.slice Ao19 x4_1.length co19] from (Kd.FK_slice_mk (Kd.R_reads' (Kd.R_mono (ok' := (fun k_ => (w.heap.size ≤ k_) ∧ k_ ≠ gb17001 ∧ k_ ≠ gb17002)) (Kd.R_types (Kd.R_types (HO_4.out) BK17001.out (by decide)) BK17002.out (by decide)) (fun k_ hk => ⟨hk.1.1, ⟨hk.1.2, hk.2⟩⟩))).2.1 (Kd.R_F (Kd.R_mono (ok' := (fun k_ => (w.heap.size ≤ k_) ∧ k_ ≠ gb17001 ∧ k_ ≠ gb17002)) (Kd.R_types (Kd.R_types (HO_4.out) BK17001.out (by decide)) BK17002.out (by decide)) (fun k_ hk => ⟨hk.1.1, ⟨hk.1.2, hk.2⟩⟩))))) (Reps.none _ _))); intro v17011 w20 ho21 hb hg_ hnew_; clear hg_ hnew_; (first | rw [← Ny17010.out] at ho21 | (simp only [Int.reduceToNat] at ho21; rw [← Ny17010.out] at ho21)); have n0_ := Aside0.mk (Kd.N_lower ho21 (below_size (by repeat (first | (with_reducible first | exact HB.out | apply below_alloc | apply pw_below_drewN | apply below_drew1 | refine below_set ?_ GE17001.out | refine below_set ?_ GE17002.out) | exact HB.out)))); have n1_ := Aside0.mk (blk_below (g := gb17001) (o := .cells #[.slice A0_0 l0_0.length c0_0, .slice A0_1 l0_1.length c0_1] 49 (0, 0)) (by (with_reducible repeat (first | refine blk_drewN ?_ _ | refine blk_drew ?_ | refine blk_alloc ?_ _)); exact BK17001.out) hb); have n2_ := Aside0.mk (blk_below (g := gb17002) (o := .cells #[.slice none 0 0, .slice none 0 0, .slice none 0 0] 34 (0, 0)) (by (with_reducible repeat (first | refine blk_drewN ?_ _ | refine blk_drew ?_ | refine blk_alloc ?_ _)); exact BK17002.out) hb); have n3_ := Aside0.mk (below_step (by repeat (first | (with_reducible first | exact HB.out | apply below_alloc | apply pw_below_drewN | apply below_drew1 | refine below_set ?_ GE17001.out | refine below_set ?_ GE17002.out) | exact HB.out)) hb); clear BK17001; clear BK17002; clear HB; clear HO_4; have HO17012 := n0_; have BK17001 := n1_; have BK17002 := n2_; have HB := n3_; clear n0_ n1_ n2_ n3_; clear hb ho21; obtain ⟨Ao22, co22, eo22⟩ := Kd.N_slice HO17012.out; subst eo22) | ((with_reducible refine gate_dst (N := 6) rfl ?_); refine box_event ?hg (N := 6) ?hd (cs := #[.slice none 0 0, .slice none 0 0, .slice none 0 0]) (t := 34) ?hr ?_; (case hd => rfl); (case hg => rfl); (case hr => first | (go_simp; done) | (go_simp; rfl)); intro gb17013 hg w23 hbox hb; have n0_ := Aside0.mk (Kd.N_below (Kd.N_elderB (by (with_reducible repeat (first | apply Kd.N_alloc | apply Kd.N_drewN | apply Kd.N_drew)); exact HO17012.out) gb17013 (Nat.le_of_eq hg.symm)) hb); have n1_ := Aside0.mk (blk_below (g := gb17001) (o := .cells #[.slice A0_0 l0_0.length c0_0, .slice A0_1 l0_1.length c0_1] 49 (0, 0)) (by (with_reducible repeat (first | refine blk_drewN ?_ _ | refine blk_drew ?_ | refine blk_alloc ?_ _)); exact BK17001.out) hb); have n2_ := Aside0.mk (blk_below (g := gb17002) (o := .cells #[.slice none 0 0, .slice none 0 0, .slice none 0 0] 34 (0, 0)) (by (with_reducible repeat (first | refine blk_drewN ?_ _ | refine blk_drew ?_ | refine blk_alloc ?_ _)); exact BK17002.out) hb); have n3_ := Aside0.mk (below_step (by repeat (first | (with_reducible first | exact HB.out | apply below_alloc | apply pw_below_drewN | apply below_drew1 | refine below_set ?_ GE17001.out | refine below_set ?_ GE17002.out) | exact HB.out)) hb); have n4_ := Aside0.mk (hbox); have n5_ := Aside0.mk ((by rw [hg]; exact (below_size (by repeat (first | (with_reducible first | exact HB.out | apply below_alloc | apply pw_below_drewN | apply below_drew1 | refine below_set ?_ GE17001.out | refine below_set ?_ GE17002.out) | exact HB.out))) : w.heap.size ≤ gb17013)); have n6_ := Aside0.mk ((by rw [hg]; exact (below_size (by repeat (first | (with_reducible first | exact HB.out | apply below_alloc | apply pw_below_drewN | apply below_drew1 | refine below_set ?_ GE17001.out | refine below_set ?_ GE17002.out) | exact HB.out))) : w.heap.size ≤ gb17013)); have n7_ := Aside0.mk ((by rw [hg]; exact Nat.ne_of_lt (blk_lt (g := gb17001) (o := .cells #[.slice A0_0 l0_0.length c0_0, .slice A0_1 l0_1.length c0_1] 49 (0, 0)) (by (with_reducible repeat (first | refine blk_drewN ?_ _ | refine blk_drew ?_ | refine blk_alloc ?_ _)); exact BK17001.out)) : gb17001 ≠ gb17013)); have n8_ := Aside0.mk ((by rw [hg]; exact Nat.ne_of_gt (blk_lt (g := gb17001) (o := .cells #[.slice A0_0 l0_0.length c0_0, .slice A0_1 l0_1.length c0_1] 49 (0, 0)) (by (with_reducible repeat (first | refine blk_drewN ?_ _ | refine blk_drew ?_ | refine blk_alloc ?_ _)); exact BK17001.out)) : gb17013 ≠ gb17001)); have n9_ := Aside0.mk ((by rw [hg]; exact Nat.ne_of_lt (blk_lt (g := gb17002) (o := .cells #[.slice none 0 0, .slice none 0 0, .slice none 0 0] 34 (0, 0)) (by (with_reducible repeat (first | refine blk_drewN ?_ _ | refine blk_drew ?_ | refine blk_alloc ?_ _)); exact BK17002.out)) : gb17002 ≠ gb17013)); have n10_ := Aside0.mk ((by rw [hg]; exact Nat.ne_of_gt (blk_lt (g := gb17002) (o := .cells #[.slice none 0 0, .slice none 0 0, .slice none 0 0] 34 (0, 0)) (by (with_reducible repeat (first | refine blk_drewN ?_ _ | refine blk_drew ?_ | refine blk_alloc ?_ _)); exact BK17002.out)) : gb17013 ≠ gb17002)); clear HO17012; clear BK17001; clear BK17002; clear HB; have HO17012 := n0_; have BK17001 := n1_; have BK17002 := n2_; have HB := n3_; have BK17013 := n4_; have GW17013 := n5_; have GE17013 := n6_; have NB17001_17013 := n7_; have NB17013_17001 := n8_; have NB17002_17013 := n9_; have NB17013_17002 := n10_; clear n0_ n1_ n2_ n3_ n4_ n5_ n6_ n7_ n8_ n9_ n10_; clear hb hbox hg; have hnb24 := NB17013_17001.out; have hnc24 := NB17001_17013.out; have hnb25 := NB17013_17002.out; have hnc25 := NB17002_17013.out; have hcz26_0 : w23.cell? ⟨gb17013, 0, none⟩ = some (.slice none 0 0) := (blk_cell BK17013.out 0).trans rfl; have hcz26_1 : w23.cell? ⟨gb17013, 1, none⟩ = some (.slice none 0 0) := (blk_cell BK17013.out 1).trans rfl; have hcz26_2 : w23.cell? ⟨gb17013, 2, none⟩ = some (.slice none 0 0) := (blk_cell BK17013.out 2).trans rfl; have hfz26_0 := blk_frozen BK17013.out 0; have hfz26_1 := blk_frozen BK17013.out 1; have hfz26_2 := blk_frozen BK17013.out 2; have hcz27_0 : w23.cell? ⟨gb17001, 0, none⟩ = some (.slice A0_0 l0_0.length c0_0) := (blk_cell BK17001.out 0).trans rfl; have hcz27_1 : w23.cell? ⟨gb17001, 1, none⟩ = some (.slice A0_1 l0_1.length c0_1) := (blk_cell BK17001.out 1).trans rfl; have hfz27_0 := blk_frozen BK17001.out 0; have hfz27_1 := blk_frozen BK17001.out 1) | ((with_reducible refine gate_callee (f := 62) rfl ?_); refine goesL_ (some 35) rfl rfl Try.func62 (by kernel_rfl) rfl #[.agg #[.slice A0_0 l0_0.length c0_0, .slice A0_1 l0_1.length c0_1]] rfl (by (try simp only [List.map_toArray, List.map_cons, List.map_nil]); first | done | rfl | (simp only [List.length_drop, List.length_take]; rfl)) ?_; (with_reducible refine (spec_l13Letters.calls k1 _ _ l0_0 _ _ l0_1 t17014 _ ?side1 ?side2 ?side3 ?side4 A16.out).mono ?_); (case side1 => exact Kd.C_below HR0_0.out (by repeat (first | (with_reducible first | exact HB.out | apply below_alloc | apply pw_below_drewN | apply below_drew1 | refine below_set ?_ GE17001.out | refine below_set ?_ GE17002.out | refine below_set ?_ GE17013.out) | exact HB.out))); (case side2 => exact HC0_0.out); (case side3 => exact Kd.C_below HR0_1.out (by repeat (first | (with_reducible first | exact HB.out | apply below_alloc | apply pw_below_drewN | apply below_drew1 | refine below_set ?_ GE17001.out | refine below_set ?_ GE17002.out | refine below_set ?_ GE17013.out) | exact HB.out))); (case side4 => exact HC0_1.out); rintro e w28 ⟨v17015, rfl, ho0, hb⟩; refine ⟨_, rfl, ?_⟩; have n0_ := Aside0.mk (Kd.N_elder' (by (with_reducible repeat (first | apply Kd.N_alloc | apply Kd.N_drewN | apply Kd.N_drew)); exact (Kd.N_mono (Kd.N_far (p := ⟨gb17013, 2, none⟩) (Kd.N_far (p := ⟨gb17013, 1, none⟩) (Kd.N_far (p := ⟨gb17013, 0, none⟩) (Kd.N_mono HO17012.out (fun k_ hk => (⟨hk, hk.2⟩ : _ ∧ k_ ≠ gb17013))) (fun _ hk => hk.2) (.slice Ao22 y17010.length co22)) (fun _ hk => hk.2) (.slice none 0 0)) (fun _ hk => hk.2) (.slice none 0 0)) (fun _ h_ => h_.1))) (Kd.S_base ho0) hb); have n1_ := Aside0.mk (Kd.N_lower (Kd.N_mono (ok' := fun k_ => (w.heap.size ≤ k_) ∧ some k_ ≠ (.slice Ao22 y17010.length co22 : Value).ownBlock ∧ k_ ≠ gb17001 ∧ k_ ≠ gb17002 ∧ k_ ≠ gb17013) (Kd.S_N (Kd.S_bound ho0)) (fun k_ hk_ => ⟨(Nat.le_trans (below_size (by repeat (first | (with_reducible first | exact HB.out | apply below_alloc | apply pw_below_drewN | apply below_drew1 | refine below_set ?_ GE17001.out | refine below_set ?_ GE17002.out | refine below_set ?_ GE17013.out) | exact HB.out))) hk_.2.1), (Kd.fresh' (Kd.N_lt (by (with_reducible repeat (first | apply Kd.N_alloc | apply Kd.N_drewN | apply Kd.N_drew)); exact (Kd.N_mono (Kd.N_far (p := ⟨gb17013, 2, none⟩) (Kd.N_far (p := ⟨gb17013, 1, none⟩) (Kd.N_far (p := ⟨gb17013, 0, none⟩) (Kd.N_mono HO17012.out (fun k_ hk => (⟨hk, hk.2⟩ : _ ∧ k_ ≠ gb17013))) (fun _ hk => hk.2) (.slice Ao22 y17010.length co22)) (fun _ hk => hk.2) (.slice none 0 0)) (fun _ hk => hk.2) (.slice none 0 0)) (fun _ h_ => h_.1)))) k_ hk_.2.1), (Kd.freshB (g := gb17001) (o := .cells #[.slice A0_0 l0_0.length c0_0, .slice A0_1 l0_1.length c0_1] 49 (0, 0)) (by (with_reducible repeat (first | refine blk_drewN ?_ _ | refine blk_drew ?_ | refine blk_alloc ?_ _)); refine blk_far ?_ NB17001_17013.out _; (with_reducible repeat (first | refine blk_drewN ?_ _ | refine blk_drew ?_ | refine blk_alloc ?_ _)); refine blk_far ?_ NB17001_17013.out _; (with_reducible repeat (first | refine blk_drewN ?_ _ | refine blk_drew ?_ | refine blk_alloc ?_ _)); refine blk_far ?_ NB17001_17013.out _; (with_reducible repeat (first | refine blk_drewN ?_ _ | refine blk_drew ?_ | refine blk_alloc ?_ _)); exact BK17001.out) k_ hk_.2.1), (Kd.freshB (g := gb17002) (o := .cells #[.slice none 0 0, .slice none 0 0, .slice none 0 0] 34 (0, 0)) (by (with_reducible repeat (first | refine blk_drewN ?_ _ | refine blk_drew ?_ | refine blk_alloc ?_ _)); refine blk_far ?_ NB17002_17013.out _; (with_reducible repeat (first | refine blk_drewN ?_ _ | refine blk_drew ?_ | refine blk_alloc ?_ _)); refine blk_far ?_ NB17002_17013.out _; (with_reducible repeat (first | refine blk_drewN ?_ _ | refine blk_drew ?_ | refine blk_alloc ?_ _)); refine blk_far ?_ NB17002_17013.out _; (with_reducible repeat (first | refine blk_drewN ?_ _ | refine blk_drew ?_ | refine blk_alloc ?_ _)); exact BK17002.out) k_ hk_.2.1), (Kd.freshB (g := gb17013) (o := .cells #[.slice Ao22 y17010.length co22, .slice none 0 0, .slice none 0 0] 34 (0, 0)) (by (with_reducible repeat (first | refine blk_drewN ?_ _ | refine blk_drew ?_ | refine blk_alloc ?_ _)); refine blk_put (cs := #[.slice Ao22 y17010.length co22, .slice none 0 0, .slice none 0 0]) ?_ 2 _ rfl; (with_reducible repeat (first | refine blk_drewN ?_ _ | refine blk_drew ?_ | refine blk_alloc ?_ _)); refine blk_put (cs := #[.slice Ao22 y17010.length co22, .slice none 0 0, .slice none 0 0]) ?_ 1 _ rfl; (with_reducible repeat (first | refine blk_drewN ?_ _ | refine blk_drew ?_ | refine blk_alloc ?_ _)); refine blk_put (cs := #[.slice none 0 0, .slice none 0 0, .slice none 0 0]) ?_ 0 _ rfl; (with_reducible repeat (first | refine blk_drewN ?_ _ | refine blk_drew ?_ | refine blk_alloc ?_ _)); exact BK17013.out) k_ hk_.2.1)⟩)) (below_size (by repeat (first | (with_reducible first | exact HB.out | apply below_alloc | apply pw_below_drewN | apply below_drew1 | refine below_set ?_ GE17001.out | refine below_set ?_ GE17002.out | refine below_set ?_ GE17013.out) | exact HB.out)))); have n2_ := Aside0.mk (blk_below (g := gb17001) (o := .cells #[.slice A0_0 l0_0.length c0_0, .slice A0_1 l0_1.length c0_1] 49 (0, 0)) (by (with_reducible repeat (first | refine blk_drewN ?_ _ | refine blk_drew ?_ | refine blk_alloc ?_ _)); refine blk_far ?_ NB17001_17013.out _; (with_reducible repeat (first | refine blk_drewN ?_ _ | refine blk_drew ?_ | refine blk_alloc ?_ _)); refine blk_far ?_ NB17001_17013.out _; (with_reducible repeat (first | refine blk_drewN ?_ _ | refine blk_drew ?_ | refine blk_alloc ?_ _)); refine blk_far ?_ NB17001_17013.out _; (with_reducible repeat (first | refine blk_drewN ?_ _ | refine blk_drew ?_ | refine blk_alloc ?_ _)); exact BK17001.out) hb); have n3_ := Aside0.mk (blk_below (g := gb17002) (o := .cells #[.slice none 0 0, .slice none 0 0, .slice none 0 0] 34 (0, 0)) (by (with_reducible repeat (first | refine blk_drewN ?_ _ | refine blk_drew ?_ | refine blk_alloc ?_ _)); refine blk_far ?_ NB17002_17013.out _; (with_reducible repeat (first | refine blk_drewN ?_ _ | refine blk_drew ?_ | refine blk_alloc ?_ _)); refine blk_far ?_ NB17002_17013.out _; (with_reducible repeat (first | refine blk_drewN ?_ _ | refine blk_drew ?_ | refine blk_alloc ?_ _)); refine blk_far ?_ NB17002_17013.out _; (with_reducible repeat (first | refine blk_drewN ?_ _ | refine blk_drew ?_ | refine blk_alloc ?_ _)); exact BK17002.out) hb); have n4_ := Aside0.mk (blk_below (g := gb17013) (o := .cells #[.slice Ao22 y17010.length co22, .slice none 0 0, .slice none 0 0] 34 (0, 0)) (by (with_reducible repeat (first | refine blk_drewN ?_ _ | refine blk_drew ?_ | refine blk_alloc ?_ _)); refine blk_put (cs := #[.slice Ao22 y17010.length co22, .slice none 0 0, .slice none 0 0]) ?_ 2 _ rfl; (with_reducible repeat (first | refine blk_drewN ?_ _ | refine blk_drew ?_ | refine blk_alloc ?_ _)); refine blk_put (cs := #[.slice Ao22 y17010.length co22, .slice none 0 0, .slice none 0 0]) ?_ 1 _ rfl; (with_reducible repeat (first | refine blk_drewN ?_ _ | refine blk_drew ?_ | refine blk_alloc ?_ _)); refine blk_put (cs := #[.slice none 0 0, .slice none 0 0, .slice none 0 0]) ?_ 0 _ rfl; (with_reducible repeat (first | refine blk_drewN ?_ _ | refine blk_drew ?_ | refine blk_alloc ?_ _)); exact BK17013.out) hb); have n5_ := Aside0.mk (below_step (by repeat (first | (with_reducible first | exact HB.out | apply below_alloc | apply pw_below_drewN | apply below_drew1 | refine below_set ?_ GE17001.out | refine below_set ?_ GE17002.out | refine below_set ?_ GE17013.out) | exact HB.out)) hb); clear HO17012; clear BK17001; clear BK17002; clear BK17013; clear HB; have HO17012 := n0_; have HO17016 := n1_; have BK17001 := n2_; have BK17002 := n3_; have BK17013 := n4_; have HB := n5_; clear n0_ n1_ n2_ n3_ n4_ n5_; (try clear hb); (try clear hb2); (try clear hk); (try clear hi); (try clear ho0)))
          first | go_loopg [8] k1 (fun kq v8 w' => ∃ (x8_2 : Int) (x17014000_2 : List (List Int)) (u17014000 : Value), v8 = .int .i64 x8_2 ∧ Aside0 (spec_BuildMonoid.l1 kq t17014 x8_2 x17014000_2 = some (r1, r2, r3, r4)) ∧ Aside0 (kq ≤ k1) ∧ Aside0 (Kd.N (Kd.slice 3 (Kd.int .i64)) 25 w' w.heap.size (fun k_ => (w.heap.size ≤ k_) ∧ some k_ ≠ (u17014000 : Value).ownBlock ∧ k_ ≠ gb17001 ∧ k_ ≠ gb17002 ∧ k_ ≠ gb17013) v17015 t17014) ∧ Aside0 (Kd.N (Kd.slice 3 (Kd.int .i64)) 25 w' w.heap.size (fun k_ => (w.heap.size ≤ k_) ∧ some k_ ≠ (v17015 : Value).ownBlock ∧ k_ ≠ gb17001 ∧ k_ ≠ gb17002 ∧ k_ ≠ gb17013) u17014000 x17014000_2) ∧ Aside0 (w'.heap[gb17001]? = some (.cells #[(.slice A0_0 l0_0.length c0_0), (.slice A0_1 l0_1.length c0_1)] 49 (0, 0))) ∧ Aside0 (w'.heap[gb17002]? = some (.cells #[(.slice none 0 0), (.slice none 0 0), (.slice none 0 0)] 34 (0, 0))) ∧ Aside0 (w'.heap[gb17013]? = some (.cells #[u17014000, (.slice none 0 0), (.slice none 0 0)] 34 (0, 0))) ∧ Aside0 (Below w.heap.size w w')) | (simp only [Act.put, List.setIfInBounds_toArray, List.set_cons_succ, List.set_cons_zero]; go_loopg [8] k1 (fun kq v8 w' => ∃ (x8_2 : Int) (x17014000_2 : List (List Int)) (u17014000 : Value), v8 = .int .i64 x8_2 ∧ Aside0 (spec_BuildMonoid.l1 kq t17014 x8_2 x17014000_2 = some (r1, r2, r3, r4)) ∧ Aside0 (kq ≤ k1) ∧ Aside0 (Kd.N (Kd.slice 3 (Kd.int .i64)) 25 w' w.heap.size (fun k_ => (w.heap.size ≤ k_) ∧ some k_ ≠ (u17014000 : Value).ownBlock ∧ k_ ≠ gb17001 ∧ k_ ≠ gb17002 ∧ k_ ≠ gb17013) v17015 t17014) ∧ Aside0 (Kd.N (Kd.slice 3 (Kd.int .i64)) 25 w' w.heap.size (fun k_ => (w.heap.size ≤ k_) ∧ some k_ ≠ (v17015 : Value).ownBlock ∧ k_ ≠ gb17001 ∧ k_ ≠ gb17002 ∧ k_ ≠ gb17013) u17014000 x17014000_2) ∧ Aside0 (w'.heap[gb17001]? = some (.cells #[(.slice A0_0 l0_0.length c0_0), (.slice A0_1 l0_1.length c0_1)] 49 (0, 0))) ∧ Aside0 (w'.heap[gb17002]? = some (.cells #[(.slice none 0 0), (.slice none 0 0), (.slice none 0 0)] 34 (0, 0))) ∧ Aside0 (w'.heap[gb17013]? = some (.cells #[u17014000, (.slice none 0 0), (.slice none 0 0)] 34 (0, 0))) ∧ Aside0 (Below w.heap.size w w')))
          case atStart => exact ⟨(0), (y17010), (.slice Ao22 y17010.length co22), (by first | rfl | (simp; done) | (simp [*]; done)), H', ⟨Nat.le_refl _⟩, ⟨by (with_reducible repeat (first | apply Kd.N_alloc | apply Kd.N_drewN | apply Kd.N_drew)); exact HO17016.out⟩, ⟨by (with_reducible repeat (first | apply Kd.N_alloc | apply Kd.N_drewN | apply Kd.N_drew)); exact Kd.N_mono HO17012.out (fun _ hk => ⟨hk.1.1.1, ⟨hk.2, ⟨hk.1.1.2.1, ⟨hk.1.1.2.2, hk.1.2⟩⟩⟩⟩)⟩, ⟨by (with_reducible repeat (first | refine blk_drewN ?_ _ | refine blk_drew ?_ | refine blk_alloc ?_ _)); exact BK17001.out⟩, ⟨by (with_reducible repeat (first | refine blk_drewN ?_ _ | refine blk_drew ?_ | refine blk_alloc ?_ _)); exact BK17002.out⟩, ⟨by (with_reducible repeat (first | refine blk_drewN ?_ _ | refine blk_drew ?_ | refine blk_alloc ?_ _)); exact BK17013.out⟩, ⟨by repeat (first | (with_reducible first | exact HB.out | apply below_alloc | apply pw_below_drewN | apply below_drew1 | refine below_set ?_ GE17001.out | refine below_set ?_ GE17002.out | refine below_set ?_ GE17013.out) | exact HB.out)⟩⟩
          case round =>
            clear H'
            try clear c1
            try clear c2
            try clear p2
            try clear c3
            try clear c6
            try clear p6
            try clear c11
            try clear c11b0
            try clear c12
            try clear c13
            try clear c17
            try clear c24
            try clear c25
            try clear hcz14_0
            try clear hcz14_1
            try clear hcz18_0
            try clear hcz18_1
            try clear hcz26_0
            try clear hcz26_1
            try clear hcz26_2
            try clear hcz27_0
            try clear hcz27_1
            try clear hcz7_0
            try clear hcz7_1
            try clear hfz14_0
            try clear hfz14_1
            try clear hfz18_0
            try clear hfz18_1
            try clear hfz26_0
            try clear hfz26_1
            try clear hfz26_2
            try clear hfz27_0
            try clear hfz27_1
            try clear hfz7_0
            try clear hfz7_1
            try clear p2
            obtain ⟨x8_2, x17014000_2, u17014000, rfl, HA, HK2, HO_7, HO_17014000, BK17001, BK17002, BK17013, HB⟩ := hrel
            cases gk with
            | zero => exact absurd HA.out (by simp [spec_BuildMonoid.l1])
            | succ k2 =>
              have H := HA.out
              clear HA
              simp only [spec_BuildMonoid.l1] at H
              by_cases c29 : x8_2 < (x17014000_2.length : Int)
              · rw [if_pos c29] at H
                have c29b0 : decide (x8_2 < (x17014000_2.length : Int)) = true := decide_eq_true c29
                clear c29
                have H' := Aside0.mk H
                clear H
                have hnb30 := NB17013_17001.out
                have hnc30 := NB17001_17013.out
                have hnb31 := NB17013_17002.out
                have hnc31 := NB17002_17013.out
                have hcz32_0 : wr.cell? ⟨gb17013, 0, none⟩ = some (u17014000) := (blk_cell BK17013.out 0).trans rfl
                have hcz32_1 : wr.cell? ⟨gb17013, 1, none⟩ = some (.slice none 0 0) := (blk_cell BK17013.out 1).trans rfl
                have hcz32_2 : wr.cell? ⟨gb17013, 2, none⟩ = some (.slice none 0 0) := (blk_cell BK17013.out 2).trans rfl
                have hfz32_0 := blk_frozen BK17013.out 0
                have hfz32_1 := blk_frozen BK17013.out 1
                have hfz32_2 := blk_frozen BK17013.out 2
                obtain ⟨Ao33, co33, eo33⟩ := Kd.N_slice HO_17014000.out
                subst eo33
                go_wp2
                first | go_loopg [9] k2 (fun kq v9 w' => ∃ (x9_3 : Int) (x17014000_3 : List (List Int)) (u17014000 : Value), v9 = .int .i64 x9_3 ∧ Aside0 (spec_BuildMonoid.l2 kq t17014 x8_2 x9_3 x17014000_3 = some (r1, r2, r3, r4)) ∧ Aside0 (kq ≤ k2) ∧ Aside0 (Kd.N (Kd.slice 3 (Kd.int .i64)) 25 w' w.heap.size (fun k_ => (w.heap.size ≤ k_) ∧ some k_ ≠ (u17014000 : Value).ownBlock ∧ k_ ≠ gb17001 ∧ k_ ≠ gb17002 ∧ k_ ≠ gb17013) v17015 t17014) ∧ Aside0 (Kd.N (Kd.slice 3 (Kd.int .i64)) 25 w' w.heap.size (fun k_ => (w.heap.size ≤ k_) ∧ some k_ ≠ (v17015 : Value).ownBlock ∧ k_ ≠ gb17001 ∧ k_ ≠ gb17002 ∧ k_ ≠ gb17013) u17014000 x17014000_3) ∧ Aside0 (w'.heap[gb17001]? = some (.cells #[(.slice A0_0 l0_0.length c0_0), (.slice A0_1 l0_1.length c0_1)] 49 (0, 0))) ∧ Aside0 (w'.heap[gb17002]? = some (.cells #[(.slice none 0 0), (.slice none 0 0), (.slice none 0 0)] 34 (0, 0))) ∧ Aside0 (w'.heap[gb17013]? = some (.cells #[u17014000, (.slice none 0 0), (.slice none 0 0)] 34 (0, 0))) ∧ Aside0 (Below w.heap.size w w')) | (simp only [Act.put, List.setIfInBounds_toArray, List.set_cons_succ, List.set_cons_zero]; go_loopg [9] k2 (fun kq v9 w' => ∃ (x9_3 : Int) (x17014000_3 : List (List Int)) (u17014000 : Value), v9 = .int .i64 x9_3 ∧ Aside0 (spec_BuildMonoid.l2 kq t17014 x8_2 x9_3 x17014000_3 = some (r1, r2, r3, r4)) ∧ Aside0 (kq ≤ k2) ∧ Aside0 (Kd.N (Kd.slice 3 (Kd.int .i64)) 25 w' w.heap.size (fun k_ => (w.heap.size ≤ k_) ∧ some k_ ≠ (u17014000 : Value).ownBlock ∧ k_ ≠ gb17001 ∧ k_ ≠ gb17002 ∧ k_ ≠ gb17013) v17015 t17014) ∧ Aside0 (Kd.N (Kd.slice 3 (Kd.int .i64)) 25 w' w.heap.size (fun k_ => (w.heap.size ≤ k_) ∧ some k_ ≠ (v17015 : Value).ownBlock ∧ k_ ≠ gb17001 ∧ k_ ≠ gb17002 ∧ k_ ≠ gb17013) u17014000 x17014000_3) ∧ Aside0 (w'.heap[gb17001]? = some (.cells #[(.slice A0_0 l0_0.length c0_0), (.slice A0_1 l0_1.length c0_1)] 49 (0, 0))) ∧ Aside0 (w'.heap[gb17002]? = some (.cells #[(.slice none 0 0), (.slice none 0 0), (.slice none 0 0)] 34 (0, 0))) ∧ Aside0 (w'.heap[gb17013]? = some (.cells #[u17014000, (.slice none 0 0), (.slice none 0 0)] 34 (0, 0))) ∧ Aside0 (Below w.heap.size w w')))
                case atStart => exact ⟨(0), (x17014000_2), (.slice Ao33 x17014000_2.length co33), (by first | rfl | (simp; done) | (simp [*]; done)), H', ⟨Nat.le_refl _⟩, ⟨by (with_reducible repeat (first | apply Kd.N_alloc | apply Kd.N_drewN | apply Kd.N_drew)); exact HO_7.out⟩, ⟨by (with_reducible repeat (first | apply Kd.N_alloc | apply Kd.N_drewN | apply Kd.N_drew)); exact HO_17014000.out⟩, ⟨by (with_reducible repeat (first | refine blk_drewN ?_ _ | refine blk_drew ?_ | refine blk_alloc ?_ _)); exact BK17001.out⟩, ⟨by (with_reducible repeat (first | refine blk_drewN ?_ _ | refine blk_drew ?_ | refine blk_alloc ?_ _)); exact BK17002.out⟩, ⟨by (with_reducible repeat (first | refine blk_drewN ?_ _ | refine blk_drew ?_ | refine blk_alloc ?_ _)); exact BK17013.out⟩, ⟨by repeat (first | (with_reducible first | exact HB.out | apply below_alloc | apply pw_below_drewN | apply below_drew1 | refine below_set ?_ GE17001.out | refine below_set ?_ GE17002.out | refine below_set ?_ GE17013.out) | exact HB.out)⟩⟩
                case round =>
                  clear H'
                  try clear c1
                  try clear c2
                  try clear p2
                  try clear c3
                  try clear c6
                  try clear p6
                  try clear c11
                  try clear c11b0
                  try clear c12
                  try clear c13
                  try clear c17
                  try clear c24
                  try clear c25
                  try clear c29
                  try clear c29b0
                  try clear c30
                  try clear c31
                  try clear hcz14_0
                  try clear hcz14_1
                  try clear hcz18_0
                  try clear hcz18_1
                  try clear hcz26_0
                  try clear hcz26_1
                  try clear hcz26_2
                  try clear hcz27_0
                  try clear hcz27_1
                  try clear hcz32_0
                  try clear hcz32_1
                  try clear hcz32_2
                  try clear hcz7_0
                  try clear hcz7_1
                  try clear hfz14_0
                  try clear hfz14_1
                  try clear hfz18_0
                  try clear hfz18_1
                  try clear hfz26_0
                  try clear hfz26_1
                  try clear hfz26_2
                  try clear hfz27_0
                  try clear hfz27_1
                  try clear hfz32_0
                  try clear hfz32_1
                  try clear hfz32_2
                  try clear hfz7_0
                  try clear hfz7_1
                  try clear p2
                  try clear p6
                  obtain ⟨x9_3, x17014000_3, u17014000, rfl, HA, HK3, HO_7, HO_17014000, BK17001, BK17002, BK17013, HB⟩ := hrel
                  cases gk with
                  | zero => exact absurd HA.out (by simp [spec_BuildMonoid.l2])
                  | succ k3 =>
                    have H := HA.out
                    clear HA
                    simp only [spec_BuildMonoid.l2] at H
                    by_cases c34 : x9_3 < (t17014.length : Int)
                    · rw [if_pos c34] at H
                      have c34b0 : decide (x9_3 < (t17014.length : Int)) = true := decide_eq_true c34
                      clear c34
                      by_cases c35 : 0 ≤ x8_2
                      · rw [if_pos c35] at H
                        have c35b0 : decide (0 ≤ x8_2) = true := decide_eq_true c35
                        clear c35
                        by_cases c36 : x8_2 < (x17014000_3.length : Int)
                        · rw [if_pos c36] at H
                          have c36b0 : decide (x8_2 < (x17014000_3.length : Int)) = true := decide_eq_true c36
                          clear c36
                          by_cases c37 : 0 ≤ x9_3
                          · rw [if_pos c37] at H
                            have c37b0 : decide (0 ≤ x9_3) = true := decide_eq_true c37
                            clear c37
                            replace H := Option.bind_eq_some_iff.mp H
                            obtain ⟨t17019, A380, H⟩ := H
                            replace H : ((spec_l13Find.f k3 x17014000_3 t17019).bind fun t17022 => (if t17022 < 0 then (if x17014000_3.length < 5864062014805 then (spec_BuildMonoid.l2 k3 t17014 x8_2 (wrap64 (x9_3 + 1)) (x17014000_3 ++ [t17019])) else (none)) else (spec_BuildMonoid.l2 k3 t17014 x8_2 (wrap64 (x9_3 + 1)) x17014000_3))) = some (r1, r2, r3, r4) := H
                            have A38 := Aside0.mk A380
                            clear A380
                            replace H := Option.bind_eq_some_iff.mp H
                            obtain ⟨t17022, A390, H⟩ := H
                            replace H : (if t17022 < 0 then (if x17014000_3.length < 5864062014805 then (spec_BuildMonoid.l2 k3 t17014 x8_2 (wrap64 (x9_3 + 1)) (x17014000_3 ++ [t17019])) else (none)) else (spec_BuildMonoid.l2 k3 t17014 x8_2 (wrap64 (x9_3 + 1)) x17014000_3)) = some (r1, r2, r3, r4) := H
                            have A39 := Aside0.mk A390
                            clear A390
                            by_cases c40 : t17022 < 0
                            · rw [if_pos c40] at H
                              have c40b0 : decide (t17022 < 0) = true := decide_eq_true c40
                              clear c40
                              by_cases c41 : x17014000_3.length < 5864062014805
                              · rw [if_pos c41] at H
                                have LMc41 := Aside0.mk c41
                                clear c41
                                obtain ⟨y17023, hy17023⟩ : ∃ y_ : List (List Int), y_ = (x17014000_3 ++ [t17019]) := ⟨_, rfl⟩
                                replace H : (spec_BuildMonoid.l2 k3 t17014 x8_2 (wrap64 (x9_3 + 1)) y17023) = some (r1, r2, r3, r4) := by first | (rw [hy17023]; with_reducible exact H) | (have H2_ := (Option.bind_some _ _).symm.trans H; rw [hy17023]; with_reducible exact H2_) | (have H2_ := (Option.bind_some _ _).symm.trans H; with_reducible exact H2_) | with_reducible exact H | (rw [hy17023]; exact H) | exact H
                                have Ny17023 := Aside0.mk hy17023
                                clear hy17023
                                have H' := Aside0.mk H
                                clear H
                                obtain ⟨Ao42, co42, eo42⟩ := Kd.N_slice HO_7.out
                                subst eo42
                                try go_wp2
                                have n0_ := Aside0.mk (Kd.N_drew HO_7.out)
                                have n1_ := Aside0.mk (Kd.N_drew HO_17014000.out)
                                have n2_ := Aside0.mk (blk_drew BK17001.out)
                                have n3_ := Aside0.mk (blk_drew BK17002.out)
                                have n4_ := Aside0.mk (blk_drew BK17013.out)
                                have n5_ := Aside0.mk (below_drew1 HB.out)
                                clear HO_7
                                clear HO_17014000
                                clear BK17001
                                clear BK17002
                                clear BK17013
                                clear HB
                                have HO_7 := n0_
                                have HO_17014000 := n1_
                                have BK17001 := n2_
                                have BK17002 := n3_
                                have BK17013 := n4_
                                have HB := n5_
                                clear n0_ n1_ n2_ n3_ n4_ n5_
                                obtain ⟨Ao44, co44, eo44⟩ := Kd.N_slice HO_17014000.out
                                (first | subst eo44 | (injection eo44 with f1_ f2_ f3_; have f4_ := f1_.symm; have f5_ := f3_.symm; clear f1_ f2_ f3_; subst f4_; subst f5_))
                                have p17017 : 0 ≤ (x8_2 : Int) := of_decide_eq_true (by first | (with_reducible assumption) | assumption)
                                have q17017 : x8_2 < (x17014000_3.length : Int) := of_decide_eq_true (by first | (with_reducible assumption) | assumption)
                                obtain ⟨ad17017, A17017_0, c17017_0, e17017, hx17017_0, hl17017_0, hi17017_0⟩ := at_L1 (Kd.N_reads' HO_17014000.out).2.2 x8_2 p17017 q17017
                                cases e17017
                                obtain ⟨ce17017, hce17017, hMe17017, hcc17017⟩ := Kd.N_get HO_17014000.out [] x8_2 p17017 (by first | exact q17017 | exact of_decide_eq_true (by first | (with_reducible assumption) | assumption) | (have e_ := (Kd.N_reads' HO_17014000.out).1; omega))
                                obtain ⟨ua17017_0, uc17017_0, rfl, ul17017_0, ge17017_0⟩ := Kd.FK_slice_open hMe17017
                                have hv17017_0 := hcc17017 0 _ rfl
                                rw [Nat.add_zero, show ((Kd.slice 3 (Kd.int .i64))).sz = 1 from rfl, Nat.mul_one] at hv17017_0
                                replace hv17017_0 := Option.some.inj (hv17017_0.symm.trans hx17017_0)
                                injection hv17017_0 with hva_ hvn_ hvc_
                                rw [hva_] at ge17017_0
                                rw [hvc_] at ul17017_0
                                have HL17017_0 := Aside0.mk (show Kd.V (Kd.int .i64) 3 _ w.heap.size _ _ (rd_L1 x17014000_3 x8_2) from Kd.V_mk ul17017_0 ge17017_0)
                                clear hva_ hvn_ hvc_ ge17017_0 ul17017_0
                                clear hcc17017 hce17017
                                have HR17017_0 := Aside0.mk hi17017_0
                                have HC17017_0 := Aside0.mk hl17017_0
                                clear hi17017_0 hl17017_0
                                replace p17017 := eq_true p17017
                                replace q17017 := eq_true q17017
                                have p17018 : 0 ≤ (x9_3 : Int) := of_decide_eq_true (by first | (with_reducible assumption) | assumption)
                                have q17018 : x9_3 < (t17014.length : Int) := of_decide_eq_true (by first | (with_reducible assumption) | assumption)
                                obtain ⟨ad17018, A17018_0, c17018_0, e17018, hx17018_0, hl17018_0, hi17018_0⟩ := at_L1 (Kd.N_reads' HO_7.out).2.2 x9_3 p17018 q17018
                                cases e17018
                                obtain ⟨ce17018, hce17018, hMe17018, hcc17018⟩ := Kd.N_get HO_7.out [] x9_3 p17018 (by first | exact q17018 | exact of_decide_eq_true (by first | (with_reducible assumption) | assumption) | (have e_ := (Kd.N_reads' HO_7.out).1; omega))
                                obtain ⟨ua17018_0, uc17018_0, rfl, ul17018_0, ge17018_0⟩ := Kd.FK_slice_open hMe17018
                                have hv17018_0 := hcc17018 0 _ rfl
                                rw [Nat.add_zero, show ((Kd.slice 3 (Kd.int .i64))).sz = 1 from rfl, Nat.mul_one] at hv17018_0
                                replace hv17018_0 := Option.some.inj (hv17018_0.symm.trans hx17018_0)
                                injection hv17018_0 with hva_ hvn_ hvc_
                                rw [hva_] at ge17018_0
                                rw [hvc_] at ul17018_0
                                have HL17018_0 := Aside0.mk (show Kd.V (Kd.int .i64) 3 _ w.heap.size _ _ (rd_L1 t17014 x9_3) from Kd.V_mk ul17018_0 ge17018_0)
                                clear hva_ hvn_ hvc_ ge17018_0 ul17018_0
                                clear hcc17018 hce17018
                                have HR17018_0 := Aside0.mk hi17018_0
                                have HC17018_0 := Aside0.mk hl17018_0
                                clear hi17018_0 hl17018_0
                                replace p17018 := eq_true p17018
                                replace q17018 := eq_true q17018
                                refine start_ (n := 11) (S := fun w' => w'.cell? ⟨gb17013, 0, none⟩ = some (.slice (some ad17017) x17014000_3.length co44) ∧ w'.cell? ⟨gb17013, 1, none⟩ = some (.slice none 0 0) ∧ w'.cell? ⟨gb17013, 2, none⟩ = some (.slice none 0 0) ∧ w'.cell? (ad17017.add (x8_2).toNat) = some (.slice A17017_0 (rd_L1 x17014000_3 x8_2).length c17017_0) ∧ w'.cell? (ad17018.add (x9_3).toNat) = some (.slice A17018_0 (rd_L1 t17014 x9_3).length c17018_0)) (ds := []) #[false, false, false, false, false, false, false, false, false, false, false] (by kernel_rfl) rfl rfl ⟨(blk_cell BK17013.out 0).trans rfl, (blk_cell BK17013.out 1).trans rfl, (blk_cell BK17013.out 2).trans rfl, hx17017_0, hx17018_0⟩ (fun hHeld => ?_); refine with_tabW spec_BuildMonoid.tab16 spec_BuildMonoid.bits16 (fun HT_ HW_ => ?_)
                                generalize wr.drew = w43 at HO_7 HO_17014000 BK17001 BK17002 BK17013 HB HL17017_0 HL17018_0 HR17017_0 HR17018_0 hx17017_0 hx17018_0 hHeld ⊢
                                refine pure_ (i := 0) (N := some 49) (v := ?_) (a' := ?_) #[true, false, false, false, false, false, false, false, false, false, false] rfl rfl (any_of HT_.out (by kernel_rfl)) (fun _ _ _ h => h) (Or.inl ⟨by rfl, ?_⟩) ?_ ?_
                                rotate_left
                                · intro w'
                                  go_simp
                                  first | with_reducible rfl | (rw [if_neg (by omega)]; done) | (rw [if_neg (by (try simp only [decide_eq_true_eq, decide_eq_false_iff_not, eq_iff_iff, iff_true, iff_false] at *); (try simp only [ByteArray.size_extract, ByteArray.size_append, show (⟨#[97, 98, 99]⟩ : ByteArray).size = 3 from rfl, show (⟨#[88, 89, 90]⟩ : ByteArray).size = 3 from rfl, show (⟨#[61]⟩ : ByteArray).size = 1 from rfl] at *); omega)]; done)
                                rotate_left
                                · simp only [Act.put, List.setIfInBounds_toArray, List.set_cons_zero, List.set_cons_succ, i64_w, i32_w]
                                  rfl
                                refine pure_ (i := 2) (N := some 51) (v := ?_) (a' := ?_) #[true, false, true, false, false, false, false, false, false, false, false] rfl rfl (any_of HT_.out (by kernel_rfl)) (fun _ _ _ h => h) (Or.inl ⟨by rfl, ?_⟩) ?_ ?_
                                rotate_left
                                · intro w'
                                  go_simp
                                  first | with_reducible rfl | (rw [if_neg (by omega)]; done) | (rw [if_neg (by (try simp only [decide_eq_true_eq, decide_eq_false_iff_not, eq_iff_iff, iff_true, iff_false] at *); (try simp only [ByteArray.size_extract, ByteArray.size_append, show (⟨#[97, 98, 99]⟩ : ByteArray).size = 3 from rfl, show (⟨#[88, 89, 90]⟩ : ByteArray).size = 3 from rfl, show (⟨#[61]⟩ : ByteArray).size = 1 from rfl] at *); omega)]; done)
                                rotate_left
                                · simp only [Act.put, List.setIfInBounds_toArray, List.set_cons_zero, List.set_cons_succ, i64_w, i32_w]
                                  rfl
                                refine pure_ (i := 5) (N := some 54) (v := ?_) (a' := ?_) #[true, false, true, false, false, true, false, false, false, false, false] rfl rfl (any_of HT_.out (by kernel_rfl)) (fun _ _ _ h => h) (Or.inl ⟨by rfl, ?_⟩) ?_ ?_
                                rotate_left
                                · intro w'
                                  go_simp
                                  first | with_reducible rfl | (rw [if_neg (by omega)]; done) | (rw [if_neg (by (try simp only [decide_eq_true_eq, decide_eq_false_iff_not, eq_iff_iff, iff_true, iff_false] at *); (try simp only [ByteArray.size_extract, ByteArray.size_append, show (⟨#[97, 98, 99]⟩ : ByteArray).size = 3 from rfl, show (⟨#[88, 89, 90]⟩ : ByteArray).size = 3 from rfl, show (⟨#[61]⟩ : ByteArray).size = 1 from rfl] at *); omega)]; done)
                                rotate_left
                                · simp only [Act.put, List.setIfInBounds_toArray, List.set_cons_zero, List.set_cons_succ, i64_w, i32_w]
                                  rfl
                                refine pure_ (i := 6) (N := some 55) (v := ?_) (a' := ?_) #[true, false, true, false, false, true, true, false, false, false, false] rfl rfl (any_of HT_.out (by kernel_rfl)) (fun _ _ _ h => h) (Or.inl ⟨by rfl, ?_⟩) ?_ ?_
                                rotate_left
                                · intro w'
                                  go_simp
                                  first | with_reducible rfl | (rw [if_neg (by omega)]; done) | (rw [if_neg (by (try simp only [decide_eq_true_eq, decide_eq_false_iff_not, eq_iff_iff, iff_true, iff_false] at *); (try simp only [ByteArray.size_extract, ByteArray.size_append, show (⟨#[97, 98, 99]⟩ : ByteArray).size = 3 from rfl, show (⟨#[88, 89, 90]⟩ : ByteArray).size = 3 from rfl, show (⟨#[61]⟩ : ByteArray).size = 1 from rfl] at *); omega)]; done)
                                rotate_left
                                · simp only [Act.put, List.setIfInBounds_toArray, List.set_cons_zero, List.set_cons_succ, i64_w, i32_w]
                                  rfl
                                refine pure_ (i := 7) (N := some 56) (v := ?_) (a' := ?_) #[true, false, true, false, false, true, true, true, false, false, false] rfl rfl (any_of HT_.out (by kernel_rfl)) (fun _ _ _ h => h) (Or.inl ⟨by rfl, ?_⟩) ?_ ?_
                                rotate_left
                                · intro w'
                                  go_simp
                                  first | with_reducible rfl | (rw [if_neg (by omega)]; done) | (rw [if_neg (by (try simp only [decide_eq_true_eq, decide_eq_false_iff_not, eq_iff_iff, iff_true, iff_false] at *); (try simp only [ByteArray.size_extract, ByteArray.size_append, show (⟨#[97, 98, 99]⟩ : ByteArray).size = 3 from rfl, show (⟨#[88, 89, 90]⟩ : ByteArray).size = 3 from rfl, show (⟨#[61]⟩ : ByteArray).size = 1 from rfl] at *); omega)]; done)
                                rotate_left
                                · simp only [Act.put, List.setIfInBounds_toArray, List.set_cons_zero, List.set_cons_succ, i64_w, i32_w]
                                  rfl
                                refine take_ (i := 1) (N := some 50) (v := ?_) (a' := ?_) #[true, true, true, false, false, true, true, true, false, false, false] rfl rfl (take_ofW HT_.out HW_.out (by kernel_rfl)) (fun _ _ _ h => h) (Or.inl ⟨by rfl, ?_⟩) hHeld ?_ ?_
                                rotate_left
                                · rintro w' ⟨s0, s1, s2, s3, s4⟩
                                  go_simp
                                  first | with_reducible rfl | (rw [if_neg (by omega)]; done) | (rw [if_neg (by (try simp only [decide_eq_true_eq, decide_eq_false_iff_not, eq_iff_iff, iff_true, iff_false] at *); (try simp only [ByteArray.size_extract, ByteArray.size_append, show (⟨#[97, 98, 99]⟩ : ByteArray).size = 3 from rfl, show (⟨#[88, 89, 90]⟩ : ByteArray).size = 3 from rfl, show (⟨#[61]⟩ : ByteArray).size = 1 from rfl] at *); omega)]; done)
                                rotate_left
                                · simp only [Act.put, List.setIfInBounds_toArray, List.set_cons_zero, List.set_cons_succ, i64_w, i32_w]
                                  rfl
                                refine pure_ (i := 3) (N := some 52) (v := ?_) (a' := ?_) #[true, true, true, true, false, true, true, true, false, false, false] rfl rfl (any_of HT_.out (by kernel_rfl)) (fun _ _ _ h => h) (Or.inl ⟨by rfl, ?_⟩) ?_ ?_
                                rotate_left
                                · intro w'
                                  go_simp
                                  first | with_reducible rfl | (rw [if_neg (by omega)]; done) | (rw [if_neg (by (try simp only [decide_eq_true_eq, decide_eq_false_iff_not, eq_iff_iff, iff_true, iff_false] at *); (try simp only [ByteArray.size_extract, ByteArray.size_append, show (⟨#[97, 98, 99]⟩ : ByteArray).size = 3 from rfl, show (⟨#[88, 89, 90]⟩ : ByteArray).size = 3 from rfl, show (⟨#[61]⟩ : ByteArray).size = 1 from rfl] at *); omega)]; done)
                                rotate_left
                                · simp only [Act.put, List.setIfInBounds_toArray, List.set_cons_zero, List.set_cons_succ, i64_w, i32_w]
                                  rfl
                                refine take_ (i := 4) (N := some 53) (v := ?_) (a' := ?_) #[true, true, true, true, true, true, true, true, false, false, false] rfl rfl (take_ofW HT_.out HW_.out (by kernel_rfl)) (fun _ _ _ h => h) (Or.inl ⟨by rfl, ?_⟩) hHeld ?_ ?_
                                rotate_left
                                · rintro w' ⟨s0, s1, s2, s3, s4⟩
                                  go_simp
                                  first | with_reducible rfl | (rw [if_neg (by omega)]; done) | (rw [if_neg (by (try simp only [decide_eq_true_eq, decide_eq_false_iff_not, eq_iff_iff, iff_true, iff_false] at *); (try simp only [ByteArray.size_extract, ByteArray.size_append, show (⟨#[97, 98, 99]⟩ : ByteArray).size = 3 from rfl, show (⟨#[88, 89, 90]⟩ : ByteArray).size = 3 from rfl, show (⟨#[61]⟩ : ByteArray).size = 1 from rfl] at *); omega)]; done)
                                rotate_left
                                · simp only [Act.put, List.setIfInBounds_toArray, List.set_cons_zero, List.set_cons_succ, i64_w, i32_w]
                                  rfl
                                refine take_ (i := 8) (N := some 57) (v := ?_) (a' := ?_) #[true, true, true, true, true, true, true, true, true, false, false] rfl rfl (take_ofW HT_.out HW_.out (by kernel_rfl)) (fun _ _ _ h => h) (Or.inl ⟨by rfl, ?_⟩) hHeld ?_ ?_
                                rotate_left
                                · rintro w' ⟨s0, s1, s2, s3, s4⟩
                                  go_simp
                                  first | with_reducible rfl | (rw [if_neg (by omega)]; done) | (rw [if_neg (by (try simp only [decide_eq_true_eq, decide_eq_false_iff_not, eq_iff_iff, iff_true, iff_false] at *); (try simp only [ByteArray.size_extract, ByteArray.size_append, show (⟨#[97, 98, 99]⟩ : ByteArray).size = 3 from rfl, show (⟨#[88, 89, 90]⟩ : ByteArray).size = 3 from rfl, show (⟨#[61]⟩ : ByteArray).size = 1 from rfl] at *); omega)]; done)
                                rotate_left
                                · simp only [Act.put, List.setIfInBounds_toArray, List.set_cons_zero, List.set_cons_succ, i64_w, i32_w]
                                  rfl
                                refine one_ (i := 9) (N := some 58) #[true, true, true, true, true, true, true, true, true, true, false] rfl rfl (one_of HT_.out (by kernel_rfl)) (by decide) (fun K hK => ?_)
                                refine goes_ Try.func63 (by kernel_rfl) rfl #[.slice A17017_0 (rd_L1 x17014000_3 x8_2).length c17017_0, .slice A17018_0 (rd_L1 t17014 x9_3).length c17018_0] (by rfl) rfl rfl (by (try simp only [List.map_toArray, List.map_cons, List.map_nil]); first | done | rfl | (simp only [List.length_drop, List.length_take]; rfl)) ?_
                                with_reducible refine (spec_l13After.calls k3 _ _ (rd_L1 x17014000_3 x8_2) _ _ (rd_L1 t17014 x9_3) t17019 _ ?side1 ?side2 ?side3 ?side4 A38.out).mono ?_
                                (case side1 => repeat (first | exact (by repeat (first | (with_reducible exact HR17017_0.out) | (with_reducible refine Kd.C_alloc ?_ _) | (with_reducible refine Kd.C_drewN ?_ _) | (with_reducible refine Kd.C_drew ?_) | exact HR17017_0.out)) | (with_reducible refine Kd.C_alloc ?_ _) | (with_reducible refine Kd.C_drewN ?_ _) | (with_reducible refine Kd.C_drew ?_)))
                                (case side2 => exact HC17017_0.out)
                                (case side3 => repeat (first | exact (by repeat (first | (with_reducible exact HR17018_0.out) | (with_reducible refine Kd.C_alloc ?_ _) | (with_reducible refine Kd.C_drewN ?_ _) | (with_reducible refine Kd.C_drew ?_) | exact HR17018_0.out)) | (with_reducible refine Kd.C_alloc ?_ _) | (with_reducible refine Kd.C_drewN ?_ _) | (with_reducible refine Kd.C_drew ?_)))
                                (case side4 => exact HC17018_0.out)
                                rintro e w45 ⟨v17020, rfl, ho0, hb⟩
                                have HS3_ := (hb.cell (World.block_lt_of_cell? _ _ (hHeld.2.2.2.1))).trans (hHeld.2.2.2.1)
                                have HS4_ := (hb.cell (World.block_lt_of_cell? _ _ (hHeld.2.2.2.2))).trans (hHeld.2.2.2.2)
                                refine ⟨_, rfl, ?_⟩
                                have n0_ := Aside0.mk (Kd.N_elder' (by (with_reducible repeat (first | apply Kd.N_alloc | apply Kd.N_drewN | apply Kd.N_drew)); exact HO_7.out) (Kd.R_base ho0) hb)
                                have n1_ := Aside0.mk (Kd.N_elder' (by (with_reducible repeat (first | apply Kd.N_alloc | apply Kd.N_drewN | apply Kd.N_drew)); exact HO_17014000.out) (Kd.R_base ho0) hb)
                                have n2_ := Aside0.mk (Kd.V_elder' (by (with_reducible repeat (first | apply Kd.V_alloc | apply Kd.V_drewN | apply Kd.V_drew)); exact HL17017_0.out) (Kd.R_base ho0) hb)
                                have n3_ := Aside0.mk (Kd.V_elder' (by (with_reducible repeat (first | apply Kd.V_alloc | apply Kd.V_drewN | apply Kd.V_drew)); exact HL17018_0.out) (Kd.R_base ho0) hb)
                                have n4_ := Aside0.mk (Kd.R_lower (Kd.R_newM (M := fun k_ => (w.heap.size ≤ k_)) ho0 (below_size (by repeat (first | (with_reducible first | exact HB.out | apply below_alloc | apply pw_below_drewN | apply below_drew1 | refine below_set ?_ GE17001.out | refine below_set ?_ GE17002.out | refine below_set ?_ GE17013.out) | exact HB.out))) (fun k_ h_ => h_)) (below_size (by repeat (first | (with_reducible first | exact HB.out | apply below_alloc | apply pw_below_drewN | apply below_drew1 | refine below_set ?_ GE17001.out | refine below_set ?_ GE17002.out | refine below_set ?_ GE17013.out) | exact HB.out))))
                                have n5_ := Aside0.mk (blk_below (g := gb17001) (o := .cells #[.slice A0_0 l0_0.length c0_0, .slice A0_1 l0_1.length c0_1] 49 (0, 0)) (by (with_reducible repeat (first | refine blk_drewN ?_ _ | refine blk_drew ?_ | refine blk_alloc ?_ _)); exact BK17001.out) hb)
                                have n6_ := Aside0.mk (blk_below (g := gb17002) (o := .cells #[.slice none 0 0, .slice none 0 0, .slice none 0 0] 34 (0, 0)) (by (with_reducible repeat (first | refine blk_drewN ?_ _ | refine blk_drew ?_ | refine blk_alloc ?_ _)); exact BK17002.out) hb)
                                have n7_ := Aside0.mk (blk_below (g := gb17013) (o := .cells #[.slice (some ad17017) x17014000_3.length co44, .slice none 0 0, .slice none 0 0] 34 (0, 0)) (by (with_reducible repeat (first | refine blk_drewN ?_ _ | refine blk_drew ?_ | refine blk_alloc ?_ _)); exact BK17013.out) hb)
                                have n8_ := Aside0.mk (Kd.C_below (by repeat (first | (with_reducible exact HR17017_0.out) | (with_reducible refine Kd.C_alloc ?_ _) | (with_reducible refine Kd.C_drewN ?_ _) | (with_reducible refine Kd.C_drew ?_) | exact HR17017_0.out)) hb)
                                have n9_ := Aside0.mk (Kd.C_below (by repeat (first | (with_reducible exact HR17018_0.out) | (with_reducible refine Kd.C_alloc ?_ _) | (with_reducible refine Kd.C_drewN ?_ _) | (with_reducible refine Kd.C_drew ?_) | exact HR17018_0.out)) hb)
                                have n10_ := Aside0.mk (below_step (by repeat (first | (with_reducible first | exact HB.out | apply below_alloc | apply pw_below_drewN | apply below_drew1 | refine below_set ?_ GE17001.out | refine below_set ?_ GE17002.out | refine below_set ?_ GE17013.out) | exact HB.out)) hb)
                                clear HO_7
                                clear HO_17014000
                                clear HL17017_0
                                clear HL17018_0
                                clear BK17001
                                clear BK17002
                                clear BK17013
                                clear HR17017_0
                                clear HR17018_0
                                clear HB
                                have HO_7 := n0_
                                have HO_17014000 := n1_
                                have HL17017_0 := n2_
                                have HL17018_0 := n3_
                                have HO17021 := n4_
                                have BK17001 := n5_
                                have BK17002 := n6_
                                have BK17013 := n7_
                                have HR17017_0 := n8_
                                have HR17018_0 := n9_
                                have HB := n10_
                                clear n0_ n1_ n2_ n3_ n4_ n5_ n6_ n7_ n8_ n9_ n10_
                                (try clear hb)
                                (try clear hb2)
                                (try clear hk)
                                (try clear hi)
                                (try clear ho0)
                                refine hK.out _ _ ⟨(blk_cell BK17013.out 0).trans rfl, (blk_cell BK17013.out 1).trans rfl, (blk_cell BK17013.out 2).trans rfl, HS3_, HS4_⟩ (fun hHeld => ?_)
                                clear hK K
                                refine norm_ (a' := ?_) ?_ ?_
                                rotate_left
                                · show Act.put _ (some 58) _ = _
                                  simp only [Act.put, List.setIfInBounds_toArray, List.set_cons_zero, List.set_cons_succ, i64_w, i32_w]
                                  rfl
                                refine pure_ (i := 10) (N := some 10) (v := ?_) (a' := ?_) #[true, true, true, true, true, true, true, true, true, true, true] rfl rfl (any_of HT_.out (by kernel_rfl)) (fun _ _ _ h => h) (Or.inl ⟨by rfl, ?_⟩) ?_ ?_
                                rotate_left
                                · intro w'
                                  go_simp
                                  first | with_reducible rfl | (rw [if_neg (by omega)]; done) | (rw [if_neg (by (try simp only [decide_eq_true_eq, decide_eq_false_iff_not, eq_iff_iff, iff_true, iff_false] at *); (try simp only [ByteArray.size_extract, ByteArray.size_append, show (⟨#[97, 98, 99]⟩ : ByteArray).size = 3 from rfl, show (⟨#[88, 89, 90]⟩ : ByteArray).size = 3 from rfl, show (⟨#[61]⟩ : ByteArray).size = 1 from rfl] at *); omega)]; done)
                                rotate_left
                                · simp only [Act.put, List.setIfInBounds_toArray, List.set_cons_zero, List.set_cons_succ, i64_w, i32_w]
                                  rfl
                                refine done_ (done_of HT_.out (by kernel_rfl)) ?_
                                have hnb46 := NB17013_17001.out
                                have hnc46 := NB17001_17013.out
                                have hnb47 := NB17013_17002.out
                                have hnc47 := NB17002_17013.out
                                have hcz48_0 : w45.cell? ⟨gb17013, 0, none⟩ = some (.slice (some ad17017) x17014000_3.length co44) := (blk_cell BK17013.out 0).trans rfl
                                have hcz48_1 : w45.cell? ⟨gb17013, 1, none⟩ = some (.slice none 0 0) := (blk_cell BK17013.out 1).trans rfl
                                have hcz48_2 : w45.cell? ⟨gb17013, 2, none⟩ = some (.slice none 0 0) := (blk_cell BK17013.out 2).trans rfl
                                have hfz48_0 := blk_frozen BK17013.out 0
                                have hfz48_1 := blk_frozen BK17013.out 1
                                have hfz48_2 := blk_frozen BK17013.out 2
                                obtain ⟨Ao49, co49, eo49⟩ := Kd.R_slice HO17021.out
                                subst eo49
                                try go_wp2_with (first | ((with_reducible refine gate_callee (f := 64) rfl ?_); refine goesL_ (some 62) rfl rfl Try.func64 (by kernel_rfl) rfl #[.slice (some ad17017) x17014000_3.length co44, .slice Ao49 t17019.length co49] rfl (by (try simp only [List.map_toArray, List.map_cons, List.map_nil]); first | done | rfl | (simp only [List.length_drop, List.length_take]; rfl)) ?_; (with_reducible refine (spec_l13Find.calls k3 _ _ x17014000_3 _ _ t17019 t17022 _ ?side1 ?side2 ?side3 ?side4 A39.out).mono ?_); (case side1 => repeat (first | exact (Kd.N_reads' HO_17014000.out).2.2 | (with_reducible refine Kd.C_alloc ?_ _) | (with_reducible refine Kd.C_drewN ?_ _) | (with_reducible refine Kd.C_drew ?_))); (case side2 => exact (Kd.N_reads' HO_17014000.out).2.1); (case side3 => repeat (first | exact (Kd.R_reads' HO17021.out).2.2 | (with_reducible refine Kd.C_alloc ?_ _) | (with_reducible refine Kd.C_drewN ?_ _) | (with_reducible refine Kd.C_drew ?_))); (case side4 => exact (Kd.R_reads' HO17021.out).2.1); rintro e w' ⟨rfl, ⟨nd, rfl⟩⟩; refine ⟨_, rfl, ?_⟩; (try (rw [drewN_self w45]; generalize hq_ : World.drewN w45 _ = w45; have n0_ := Aside0.mk (V_at_q HL17017_0.out hq_); have n1_ := Aside0.mk (V_at_q HL17018_0.out hq_); have n2_ := Aside0.mk (R_at_q HO17021.out hq_); have n3_ := Aside0.mk (N_at_q HO_17014000.out hq_); have n4_ := Aside0.mk (N_at_q HO_7.out hq_); have n5_ : Aside0 (w45.heap[gb17001]? = some (.cells #[.slice A0_0 l0_0.length c0_0, .slice A0_1 l0_1.length c0_1] 49 (0, 0))) := ⟨by rw [← hq_]; exact (by (with_reducible repeat (first | refine blk_drewN ?_ _ | refine blk_drew ?_ | refine blk_alloc ?_ _)); exact BK17001.out)⟩; have n6_ : Aside0 (w45.heap[gb17002]? = some (.cells #[.slice none 0 0, .slice none 0 0, .slice none 0 0] 34 (0, 0))) := ⟨by rw [← hq_]; exact (by (with_reducible repeat (first | refine blk_drewN ?_ _ | refine blk_drew ?_ | refine blk_alloc ?_ _)); exact BK17002.out)⟩; have n7_ : Aside0 (w45.heap[gb17013]? = some (.cells #[.slice (some ad17017) x17014000_3.length co44, .slice none 0 0, .slice none 0 0] 34 (0, 0))) := ⟨by rw [← hq_]; exact (by (with_reducible repeat (first | refine blk_drewN ?_ _ | refine blk_drew ?_ | refine blk_alloc ?_ _)); exact BK17013.out)⟩; have n8_ : Aside0 (Below w.heap.size w w45) := ⟨by rw [← hq_]; exact (by repeat (first | (with_reducible first | exact HB.out | apply below_alloc | apply pw_below_drewN | apply below_drew1 | refine below_set ?_ GE17001.out | refine below_set ?_ GE17002.out | refine below_set ?_ GE17013.out) | exact HB.out))⟩; have n9_ : Aside0 (Kd.C (Kd.int .i64) w45 A17017_0 (rd_L1 x17014000_3 x8_2).length (rd_L1 x17014000_3 x8_2)) := ⟨Kd.F_now (Kd.V_at (base := w.heap.size) n0_.out).2.2⟩; have n10_ : Aside0 (Kd.C (Kd.int .i64) w45 A17018_0 (rd_L1 t17014 x9_3).length (rd_L1 t17014 x9_3)) := ⟨Kd.F_now (Kd.V_at (base := w.heap.size) n1_.out).2.2⟩; clear HL17017_0 HL17018_0 HO17021 HO_17014000 HO_7 BK17001 BK17002 BK17013 HB HR17017_0 HR17018_0 hq_; have HL17017_0 := n0_; have HL17018_0 := n1_; have HO17021 := n2_; have HO_17014000 := n3_; have HO_7 := n4_; have BK17001 := n5_; have BK17002 := n6_; have BK17013 := n7_; have HB := n8_; have HR17017_0 := n9_; have HR17018_0 := n10_; clear n0_ n1_ n2_ n3_ n4_ n5_ n6_ n7_ n8_ n9_ n10_; have hcz48_0 : w45.cell? ⟨gb17013, 0, none⟩ = some (.slice (some ad17017) x17014000_3.length co44) := (blk_cell BK17013.out 0).trans rfl; have hcz48_1 : w45.cell? ⟨gb17013, 1, none⟩ = some (.slice none 0 0) := (blk_cell BK17013.out 1).trans rfl; have hcz48_2 : w45.cell? ⟨gb17013, 2, none⟩ = some (.slice none 0 0) := (blk_cell BK17013.out 2).trans rfl))) | ((with_reducible refine gate_builtin (b := .append) (xs := #[.tmp 65, .tmp 67]) rfl ?_); at_builtin; refine Kd.N_append (Kd.slice 3 (Kd.int .i64)) (w0 := w) w.heap.size rfl (.tmp 65) (.tmp 67) 24 25 (.slice none 0 0) 24 rfl Try.underlying24 info25 rfl (by decide) (by omega) (.slice (some ad17017) x17014000_3.length co44) x17014000_3 t17019 [.slice Ao49 t17019.length co49] (fun k_ => (w.heap.size ≤ k_) ∧ some k_ ≠ (.slice (some ad17018) t17014.length co42 : Value).ownBlock ∧ k_ ≠ gb17001 ∧ k_ ≠ gb17002 ∧ k_ ≠ gb17013) (fun k_ => ((fun k_ => (w.heap.size ≤ k_) ∧ some k_ ≠ (.slice (some ad17018) t17014.length co42 : Value).ownBlock ∧ k_ ≠ gb17001 ∧ k_ ≠ gb17002 ∧ k_ ≠ gb17013)) k_ ∧ some k_ ≠ (.slice (some ad17017) x17014000_3.length co44 : Value).ownBlock) rfl rfl ?aP (fun _ hk => hk) ?aF ?aO ?aB ?aS ?aL ?_; (case aP => exact (Kd.FK_slice_mk (Kd.R_reads' (Kd.R_mono (ok' := (fun k_ => ((fun k_ => (w.heap.size ≤ k_) ∧ some k_ ≠ (.slice (some ad17018) t17014.length co42 : Value).ownBlock ∧ k_ ≠ gb17001 ∧ k_ ≠ gb17002 ∧ k_ ≠ gb17013)) k_ ∧ some k_ ≠ (.slice (some ad17017) x17014000_3.length co44 : Value).ownBlock)) (Kd.R_types (Kd.R_types (Kd.R_types (Kd.R_apart' (Kd.R_apart' (HO17021.out) (Kd.N_typed HO_7.out) (by decide)) (Kd.N_typed HO_17014000.out) (by decide)) BK17001.out (by decide)) BK17002.out (by decide)) BK17013.out (by decide)) (fun k_ hk => ⟨⟨hk.1.1.1.1.1.1, ⟨hk.1.1.1.1.2, ⟨hk.1.1.2, ⟨hk.1.2, hk.2⟩⟩⟩⟩, hk.1.1.1.2⟩))).2.1 (Kd.R_F (Kd.R_mono (ok' := (fun k_ => ((fun k_ => (w.heap.size ≤ k_) ∧ some k_ ≠ (.slice (some ad17018) t17014.length co42 : Value).ownBlock ∧ k_ ≠ gb17001 ∧ k_ ≠ gb17002 ∧ k_ ≠ gb17013)) k_ ∧ some k_ ≠ (.slice (some ad17017) x17014000_3.length co44 : Value).ownBlock)) (Kd.R_types (Kd.R_types (Kd.R_types (Kd.R_apart' (Kd.R_apart' (HO17021.out) (Kd.N_typed HO_7.out) (by decide)) (Kd.N_typed HO_17014000.out) (by decide)) BK17001.out (by decide)) BK17002.out (by decide)) BK17013.out (by decide)) (fun k_ hk => ⟨⟨hk.1.1.1.1.1.1, ⟨hk.1.1.1.1.2, ⟨hk.1.1.2, ⟨hk.1.2, hk.2⟩⟩⟩⟩, hk.1.1.1.2⟩))))); (case aB => exact (by repeat (first | (with_reducible first | exact HB.out | apply below_alloc | apply pw_below_drewN | apply below_drew1 | refine below_set ?_ GE17001.out | refine below_set ?_ GE17002.out | refine below_set ?_ GE17013.out) | exact HB.out))); (case aF => exact (fun k_ hk => ⟨(Nat.le_trans (below_size (by repeat (first | (with_reducible first | exact HB.out | apply below_alloc | apply pw_below_drewN | apply below_drew1 | refine below_set ?_ GE17001.out | refine below_set ?_ GE17002.out | refine below_set ?_ GE17013.out) | exact HB.out))) hk), Kd.fresh' (Kd.N_lt (by (with_reducible repeat (first | apply Kd.N_alloc | apply Kd.N_drewN | apply Kd.N_drew)); exact HO_7.out)) k_ hk, Kd.freshB (g := gb17001) (o := .cells #[.slice A0_0 l0_0.length c0_0, .slice A0_1 l0_1.length c0_1] 49 (0, 0)) (by (with_reducible repeat (first | refine blk_drewN ?_ _ | refine blk_drew ?_ | refine blk_alloc ?_ _)); exact BK17001.out) k_ hk, Kd.freshB (g := gb17002) (o := .cells #[.slice none 0 0, .slice none 0 0, .slice none 0 0] 34 (0, 0)) (by (with_reducible repeat (first | refine blk_drewN ?_ _ | refine blk_drew ?_ | refine blk_alloc ?_ _)); exact BK17002.out) k_ hk, Kd.freshB (g := gb17013) (o := .cells #[.slice (some ad17017) x17014000_3.length co44, .slice none 0 0, .slice none 0 0] 34 (0, 0)) (by (with_reducible repeat (first | refine blk_drewN ?_ _ | refine blk_drew ?_ | refine blk_alloc ?_ _)); exact BK17013.out) k_ hk⟩)); (case aO => exact (by (with_reducible repeat (first | apply Kd.N_alloc | apply Kd.N_drewN | apply Kd.N_drew)); exact Kd.N_mono HO_17014000.out (fun _ hk => ⟨hk.1.1, ⟨hk.1.2.1, ⟨hk.1.2.2.1, ⟨hk.1.2.2.2.1, hk.1.2.2.2.2⟩⟩⟩⟩))); (case aS => exact (below_size (by repeat (first | (with_reducible first | exact HB.out | apply below_alloc | apply pw_below_drewN | apply below_drew1 | refine below_set ?_ GE17001.out | refine below_set ?_ GE17002.out | refine below_set ?_ GE17013.out) | exact HB.out)))); (case aL => have := LMc41.out; omega); intro v17024 w50 ho hb hg hat; rw [← Ny17023.out] at ho; have n0_ := Aside0.mk (Kd.N_afterv (ok := (fun k_ => (w.heap.size ≤ k_) ∧ some k_ ≠ (.slice Ao49 t17019.length co49 : Value).ownBlock ∧ k_ ≠ gb17001 ∧ k_ ≠ gb17002 ∧ k_ ≠ gb17013)) (by (with_reducible repeat (first | apply Kd.N_alloc | apply Kd.N_drewN | apply Kd.N_drew)); exact Kd.N_mono HO_7.out (fun _ hk => ⟨⟨hk.1.1, ⟨hk.2, ⟨hk.1.2.2.1, ⟨hk.1.2.2.2.1, hk.1.2.2.2.2⟩⟩⟩⟩, hk.1.2.1⟩)) hg hat); have n1_ := Aside0.mk (blk_grown (g := gb17001) (o := .cells #[.slice A0_0 l0_0.length c0_0, .slice A0_1 l0_1.length c0_1] 49 (0, 0)) (by (with_reducible repeat (first | refine blk_drewN ?_ _ | refine blk_drew ?_ | refine blk_alloc ?_ _)); exact BK17001.out) hg (Kd.N_ne HO_17014000.out BK17001.out (by decide))); have n2_ := Aside0.mk (blk_grown (g := gb17002) (o := .cells #[.slice none 0 0, .slice none 0 0, .slice none 0 0] 34 (0, 0)) (by (with_reducible repeat (first | refine blk_drewN ?_ _ | refine blk_drew ?_ | refine blk_alloc ?_ _)); exact BK17002.out) hg (Kd.N_ne HO_17014000.out BK17002.out (by decide))); have n3_ := Aside0.mk (blk_grown (g := gb17013) (o := .cells #[.slice (some ad17017) x17014000_3.length co44, .slice none 0 0, .slice none 0 0] 34 (0, 0)) (by (with_reducible repeat (first | refine blk_drewN ?_ _ | refine blk_drew ?_ | refine blk_alloc ?_ _)); exact BK17013.out) hg (Kd.N_ne HO_17014000.out BK17013.out (by decide))); have n4_ := Aside0.mk (Kd.V_afterv (ok := (fun k_ => (w.heap.size ≤ k_) ∧ some k_ ≠ (.slice (some ad17018) t17014.length co42 : Value).ownBlock ∧ some k_ ≠ (.slice Ao49 t17019.length co49 : Value).ownBlock ∧ k_ ≠ gb17001 ∧ k_ ≠ gb17002 ∧ k_ ≠ gb17013)) (by (with_reducible repeat (first | apply Kd.V_alloc | apply Kd.V_drewN | apply Kd.V_drew)); exact Kd.V_mono HL17017_0.out (fun _ hk => ⟨⟨hk.1.1.1, ⟨hk.1.1.2.1, ⟨hk.2, ⟨hk.1.1.2.2.1, ⟨hk.1.1.2.2.2.1, hk.1.1.2.2.2.2⟩⟩⟩⟩⟩, hk.1.2⟩)) hg hat); have n5_ := Aside0.mk (Kd.V_afterv (ok := (fun k_ => (w.heap.size ≤ k_) ∧ some k_ ≠ (.slice (some ad17018) t17014.length co42 : Value).ownBlock ∧ some k_ ≠ (.slice Ao49 t17019.length co49 : Value).ownBlock ∧ k_ ≠ gb17001 ∧ k_ ≠ gb17002 ∧ k_ ≠ gb17013)) (by (with_reducible repeat (first | apply Kd.V_alloc | apply Kd.V_drewN | apply Kd.V_drew)); exact Kd.V_mono HL17018_0.out (fun _ hk => ⟨⟨hk.1.1.1, ⟨hk.1.2, ⟨hk.2, ⟨hk.1.1.2.2.1, ⟨hk.1.1.2.2.2.1, hk.1.1.2.2.2.2⟩⟩⟩⟩⟩, hk.1.1.2.1⟩)) hg hat); have n6_ := Aside0.mk (hb); have n7_ := Aside0.mk (ho); clear HO_7; clear BK17001; clear BK17002; clear BK17013; clear HL17017_0; clear HL17018_0; clear HB; clear HO_17014000; clear HO17021; have HO_7 := n0_; have BK17001 := n1_; have BK17002 := n2_; have BK17013 := n3_; have HL17017_0 := n4_; have HL17018_0 := n5_; have HB := n6_; have HO17025 := n7_; clear n0_ n1_ n2_ n3_ n4_ n5_ n6_ n7_; clear ho hb hg hat; obtain ⟨Ao51, co51, eo51⟩ := Kd.N_slice HO17025.out; subst eo51; have hcz52_0 : w50.cell? ⟨gb17013, 0, none⟩ = some (.slice (some ad17017) x17014000_3.length co44) := (blk_cell BK17013.out 0).trans rfl; have hcz52_1 : w50.cell? ⟨gb17013, 1, none⟩ = some (.slice none 0 0) := (blk_cell BK17013.out 1).trans rfl; have hcz52_2 : w50.cell? ⟨gb17013, 2, none⟩ = some (.slice none 0 0) := (blk_cell BK17013.out 2).trans rfl; have hfz52_0 := blk_frozen BK17013.out 0; have hfz52_1 := blk_frozen BK17013.out 1; have hfz52_2 := blk_frozen BK17013.out 2))
                                go_roundg k3
                                case measure => have := HK1.out; have := HK2.out; have := HK3.out; omega
                                case rel => exact ⟨(wrap64 (x9_3 + 1)), (y17023), (.slice Ao51 y17023.length co51), (by first | rfl | (simp; done) | (simp [*]; done)), H', ⟨by have := HK1.out; have := HK2.out; have := HK3.out; omega⟩, ⟨by (with_reducible repeat (first | apply Kd.N_alloc | apply Kd.N_drewN | apply Kd.N_drew)); exact Kd.N_mono (Kd.N_far (p := ⟨gb17013, 0, none⟩) (Kd.N_mono HO_7.out (fun k_ hk => (⟨hk, hk.1.2.2.2.2⟩ : _ ∧ k_ ≠ gb17013))) (fun _ hk => hk.2) (.slice Ao51 y17023.length co51)) (fun _ hk => ⟨hk.1.1.1, ⟨hk.1.2, ⟨hk.1.1.2.2.1, ⟨hk.1.1.2.2.2.1, hk.1.1.2.2.2.2⟩⟩⟩⟩)⟩, ⟨by (with_reducible repeat (first | apply Kd.N_alloc | apply Kd.N_drewN | apply Kd.N_drew)); exact Kd.N_mono (Kd.N_far (p := ⟨gb17013, 0, none⟩) (Kd.N_mono HO17025.out (fun k_ hk => (⟨hk, hk.2.2.2.2⟩ : _ ∧ k_ ≠ gb17013))) (fun _ hk => hk.2) (.slice Ao51 y17023.length co51)) (fun _ hk => ⟨hk.1.1, ⟨hk.1.2.1, ⟨hk.1.2.2.1, ⟨hk.1.2.2.2.1, hk.1.2.2.2.2⟩⟩⟩⟩)⟩, ⟨by (with_reducible repeat (first | refine blk_drewN ?_ _ | refine blk_drew ?_ | refine blk_alloc ?_ _)); refine blk_far ?_ NB17001_17013.out _; (with_reducible repeat (first | refine blk_drewN ?_ _ | refine blk_drew ?_ | refine blk_alloc ?_ _)); exact BK17001.out⟩, ⟨by (with_reducible repeat (first | refine blk_drewN ?_ _ | refine blk_drew ?_ | refine blk_alloc ?_ _)); refine blk_far ?_ NB17002_17013.out _; (with_reducible repeat (first | refine blk_drewN ?_ _ | refine blk_drew ?_ | refine blk_alloc ?_ _)); exact BK17002.out⟩, ⟨by (with_reducible repeat (first | refine blk_drewN ?_ _ | refine blk_drew ?_ | refine blk_alloc ?_ _)); refine blk_put (cs := #[.slice (some ad17017) x17014000_3.length co44, .slice none 0 0, .slice none 0 0]) ?_ 0 _ rfl; (with_reducible repeat (first | refine blk_drewN ?_ _ | refine blk_drew ?_ | refine blk_alloc ?_ _)); exact BK17013.out⟩, ⟨by repeat (first | (with_reducible first | exact HB.out | apply below_alloc | apply pw_below_drewN | apply below_drew1 | refine below_set ?_ GE17001.out | refine below_set ?_ GE17002.out | refine below_set ?_ GE17013.out) | exact HB.out)⟩⟩
                              · rw [if_neg c41] at H
                                exact absurd H (by simp)
                            · rw [if_neg c40] at H
                              have c40b0 : decide (t17022 < 0) = false := decide_eq_false c40
                              clear c40
                              have H' := Aside0.mk H
                              clear H
                              obtain ⟨Ao53, co53, eo53⟩ := Kd.N_slice HO_7.out
                              subst eo53
                              try go_wp2
                              have n0_ := Aside0.mk (Kd.N_drew HO_7.out)
                              have n1_ := Aside0.mk (Kd.N_drew HO_17014000.out)
                              have n2_ := Aside0.mk (blk_drew BK17001.out)
                              have n3_ := Aside0.mk (blk_drew BK17002.out)
                              have n4_ := Aside0.mk (blk_drew BK17013.out)
                              have n5_ := Aside0.mk (below_drew1 HB.out)
                              clear HO_7
                              clear HO_17014000
                              clear BK17001
                              clear BK17002
                              clear BK17013
                              clear HB
                              have HO_7 := n0_
                              have HO_17014000 := n1_
                              have BK17001 := n2_
                              have BK17002 := n3_
                              have BK17013 := n4_
                              have HB := n5_
                              clear n0_ n1_ n2_ n3_ n4_ n5_
                              obtain ⟨Ao55, co55, eo55⟩ := Kd.N_slice HO_17014000.out
                              (first | subst eo55 | (injection eo55 with f1_ f2_ f3_; have f4_ := f1_.symm; have f5_ := f3_.symm; clear f1_ f2_ f3_; subst f4_; subst f5_))
                              have p17017 : 0 ≤ (x8_2 : Int) := of_decide_eq_true (by first | (with_reducible assumption) | assumption)
                              have q17017 : x8_2 < (x17014000_3.length : Int) := of_decide_eq_true (by first | (with_reducible assumption) | assumption)
                              obtain ⟨ad17017, A17017_0, c17017_0, e17017, hx17017_0, hl17017_0, hi17017_0⟩ := at_L1 (Kd.N_reads' HO_17014000.out).2.2 x8_2 p17017 q17017
                              cases e17017
                              obtain ⟨ce17017, hce17017, hMe17017, hcc17017⟩ := Kd.N_get HO_17014000.out [] x8_2 p17017 (by first | exact q17017 | exact of_decide_eq_true (by first | (with_reducible assumption) | assumption) | (have e_ := (Kd.N_reads' HO_17014000.out).1; omega))
                              obtain ⟨ua17017_0, uc17017_0, rfl, ul17017_0, ge17017_0⟩ := Kd.FK_slice_open hMe17017
                              have hv17017_0 := hcc17017 0 _ rfl
                              rw [Nat.add_zero, show ((Kd.slice 3 (Kd.int .i64))).sz = 1 from rfl, Nat.mul_one] at hv17017_0
                              replace hv17017_0 := Option.some.inj (hv17017_0.symm.trans hx17017_0)
                              injection hv17017_0 with hva_ hvn_ hvc_
                              rw [hva_] at ge17017_0
                              rw [hvc_] at ul17017_0
                              have HL17017_0 := Aside0.mk (show Kd.V (Kd.int .i64) 3 _ w.heap.size _ _ (rd_L1 x17014000_3 x8_2) from Kd.V_mk ul17017_0 ge17017_0)
                              clear hva_ hvn_ hvc_ ge17017_0 ul17017_0
                              clear hcc17017 hce17017
                              have HR17017_0 := Aside0.mk hi17017_0
                              have HC17017_0 := Aside0.mk hl17017_0
                              clear hi17017_0 hl17017_0
                              replace p17017 := eq_true p17017
                              replace q17017 := eq_true q17017
                              have p17018 : 0 ≤ (x9_3 : Int) := of_decide_eq_true (by first | (with_reducible assumption) | assumption)
                              have q17018 : x9_3 < (t17014.length : Int) := of_decide_eq_true (by first | (with_reducible assumption) | assumption)
                              obtain ⟨ad17018, A17018_0, c17018_0, e17018, hx17018_0, hl17018_0, hi17018_0⟩ := at_L1 (Kd.N_reads' HO_7.out).2.2 x9_3 p17018 q17018
                              cases e17018
                              obtain ⟨ce17018, hce17018, hMe17018, hcc17018⟩ := Kd.N_get HO_7.out [] x9_3 p17018 (by first | exact q17018 | exact of_decide_eq_true (by first | (with_reducible assumption) | assumption) | (have e_ := (Kd.N_reads' HO_7.out).1; omega))
                              obtain ⟨ua17018_0, uc17018_0, rfl, ul17018_0, ge17018_0⟩ := Kd.FK_slice_open hMe17018
                              have hv17018_0 := hcc17018 0 _ rfl
                              rw [Nat.add_zero, show ((Kd.slice 3 (Kd.int .i64))).sz = 1 from rfl, Nat.mul_one] at hv17018_0
                              replace hv17018_0 := Option.some.inj (hv17018_0.symm.trans hx17018_0)
                              injection hv17018_0 with hva_ hvn_ hvc_
                              rw [hva_] at ge17018_0
                              rw [hvc_] at ul17018_0
                              have HL17018_0 := Aside0.mk (show Kd.V (Kd.int .i64) 3 _ w.heap.size _ _ (rd_L1 t17014 x9_3) from Kd.V_mk ul17018_0 ge17018_0)
                              clear hva_ hvn_ hvc_ ge17018_0 ul17018_0
                              clear hcc17018 hce17018
                              have HR17018_0 := Aside0.mk hi17018_0
                              have HC17018_0 := Aside0.mk hl17018_0
                              clear hi17018_0 hl17018_0
                              replace p17018 := eq_true p17018
                              replace q17018 := eq_true q17018
                              refine start_ (n := 11) (S := fun w' => w'.cell? ⟨gb17013, 0, none⟩ = some (.slice (some ad17017) x17014000_3.length co55) ∧ w'.cell? ⟨gb17013, 1, none⟩ = some (.slice none 0 0) ∧ w'.cell? ⟨gb17013, 2, none⟩ = some (.slice none 0 0) ∧ w'.cell? (ad17017.add (x8_2).toNat) = some (.slice A17017_0 (rd_L1 x17014000_3 x8_2).length c17017_0) ∧ w'.cell? (ad17018.add (x9_3).toNat) = some (.slice A17018_0 (rd_L1 t17014 x9_3).length c17018_0)) (ds := []) #[false, false, false, false, false, false, false, false, false, false, false] (by kernel_rfl) rfl rfl ⟨(blk_cell BK17013.out 0).trans rfl, (blk_cell BK17013.out 1).trans rfl, (blk_cell BK17013.out 2).trans rfl, hx17017_0, hx17018_0⟩ (fun hHeld => ?_); refine with_tabW spec_BuildMonoid.tab16 spec_BuildMonoid.bits16 (fun HT_ HW_ => ?_)
                              generalize wr.drew = w54 at HO_7 HO_17014000 BK17001 BK17002 BK17013 HB HL17017_0 HL17018_0 HR17017_0 HR17018_0 hx17017_0 hx17018_0 hHeld ⊢
                              refine pure_ (i := 0) (N := some 49) (v := ?_) (a' := ?_) #[true, false, false, false, false, false, false, false, false, false, false] rfl rfl (any_of HT_.out (by kernel_rfl)) (fun _ _ _ h => h) (Or.inl ⟨by rfl, ?_⟩) ?_ ?_
                              rotate_left
                              · intro w'
                                go_simp
                                first | with_reducible rfl | (rw [if_neg (by omega)]; done) | (rw [if_neg (by (try simp only [decide_eq_true_eq, decide_eq_false_iff_not, eq_iff_iff, iff_true, iff_false] at *); (try simp only [ByteArray.size_extract, ByteArray.size_append, show (⟨#[97, 98, 99]⟩ : ByteArray).size = 3 from rfl, show (⟨#[88, 89, 90]⟩ : ByteArray).size = 3 from rfl, show (⟨#[61]⟩ : ByteArray).size = 1 from rfl] at *); omega)]; done)
                              rotate_left
                              · simp only [Act.put, List.setIfInBounds_toArray, List.set_cons_zero, List.set_cons_succ, i64_w, i32_w]
                                rfl
                              refine pure_ (i := 2) (N := some 51) (v := ?_) (a' := ?_) #[true, false, true, false, false, false, false, false, false, false, false] rfl rfl (any_of HT_.out (by kernel_rfl)) (fun _ _ _ h => h) (Or.inl ⟨by rfl, ?_⟩) ?_ ?_
                              rotate_left
                              · intro w'
                                go_simp
                                first | with_reducible rfl | (rw [if_neg (by omega)]; done) | (rw [if_neg (by (try simp only [decide_eq_true_eq, decide_eq_false_iff_not, eq_iff_iff, iff_true, iff_false] at *); (try simp only [ByteArray.size_extract, ByteArray.size_append, show (⟨#[97, 98, 99]⟩ : ByteArray).size = 3 from rfl, show (⟨#[88, 89, 90]⟩ : ByteArray).size = 3 from rfl, show (⟨#[61]⟩ : ByteArray).size = 1 from rfl] at *); omega)]; done)
                              rotate_left
                              · simp only [Act.put, List.setIfInBounds_toArray, List.set_cons_zero, List.set_cons_succ, i64_w, i32_w]
                                rfl
                              refine pure_ (i := 5) (N := some 54) (v := ?_) (a' := ?_) #[true, false, true, false, false, true, false, false, false, false, false] rfl rfl (any_of HT_.out (by kernel_rfl)) (fun _ _ _ h => h) (Or.inl ⟨by rfl, ?_⟩) ?_ ?_
                              rotate_left
                              · intro w'
                                go_simp
                                first | with_reducible rfl | (rw [if_neg (by omega)]; done) | (rw [if_neg (by (try simp only [decide_eq_true_eq, decide_eq_false_iff_not, eq_iff_iff, iff_true, iff_false] at *); (try simp only [ByteArray.size_extract, ByteArray.size_append, show (⟨#[97, 98, 99]⟩ : ByteArray).size = 3 from rfl, show (⟨#[88, 89, 90]⟩ : ByteArray).size = 3 from rfl, show (⟨#[61]⟩ : ByteArray).size = 1 from rfl] at *); omega)]; done)
                              rotate_left
                              · simp only [Act.put, List.setIfInBounds_toArray, List.set_cons_zero, List.set_cons_succ, i64_w, i32_w]
                                rfl
                              refine pure_ (i := 6) (N := some 55) (v := ?_) (a' := ?_) #[true, false, true, false, false, true, true, false, false, false, false] rfl rfl (any_of HT_.out (by kernel_rfl)) (fun _ _ _ h => h) (Or.inl ⟨by rfl, ?_⟩) ?_ ?_
                              rotate_left
                              · intro w'
                                go_simp
                                first | with_reducible rfl | (rw [if_neg (by omega)]; done) | (rw [if_neg (by (try simp only [decide_eq_true_eq, decide_eq_false_iff_not, eq_iff_iff, iff_true, iff_false] at *); (try simp only [ByteArray.size_extract, ByteArray.size_append, show (⟨#[97, 98, 99]⟩ : ByteArray).size = 3 from rfl, show (⟨#[88, 89, 90]⟩ : ByteArray).size = 3 from rfl, show (⟨#[61]⟩ : ByteArray).size = 1 from rfl] at *); omega)]; done)
                              rotate_left
                              · simp only [Act.put, List.setIfInBounds_toArray, List.set_cons_zero, List.set_cons_succ, i64_w, i32_w]
                                rfl
                              refine pure_ (i := 7) (N := some 56) (v := ?_) (a' := ?_) #[true, false, true, false, false, true, true, true, false, false, false] rfl rfl (any_of HT_.out (by kernel_rfl)) (fun _ _ _ h => h) (Or.inl ⟨by rfl, ?_⟩) ?_ ?_
                              rotate_left
                              · intro w'
                                go_simp
                                first | with_reducible rfl | (rw [if_neg (by omega)]; done) | (rw [if_neg (by (try simp only [decide_eq_true_eq, decide_eq_false_iff_not, eq_iff_iff, iff_true, iff_false] at *); (try simp only [ByteArray.size_extract, ByteArray.size_append, show (⟨#[97, 98, 99]⟩ : ByteArray).size = 3 from rfl, show (⟨#[88, 89, 90]⟩ : ByteArray).size = 3 from rfl, show (⟨#[61]⟩ : ByteArray).size = 1 from rfl] at *); omega)]; done)
                              rotate_left
                              · simp only [Act.put, List.setIfInBounds_toArray, List.set_cons_zero, List.set_cons_succ, i64_w, i32_w]
                                rfl
                              refine take_ (i := 1) (N := some 50) (v := ?_) (a' := ?_) #[true, true, true, false, false, true, true, true, false, false, false] rfl rfl (take_ofW HT_.out HW_.out (by kernel_rfl)) (fun _ _ _ h => h) (Or.inl ⟨by rfl, ?_⟩) hHeld ?_ ?_
                              rotate_left
                              · rintro w' ⟨s0, s1, s2, s3, s4⟩
                                go_simp
                                first | with_reducible rfl | (rw [if_neg (by omega)]; done) | (rw [if_neg (by (try simp only [decide_eq_true_eq, decide_eq_false_iff_not, eq_iff_iff, iff_true, iff_false] at *); (try simp only [ByteArray.size_extract, ByteArray.size_append, show (⟨#[97, 98, 99]⟩ : ByteArray).size = 3 from rfl, show (⟨#[88, 89, 90]⟩ : ByteArray).size = 3 from rfl, show (⟨#[61]⟩ : ByteArray).size = 1 from rfl] at *); omega)]; done)
                              rotate_left
                              · simp only [Act.put, List.setIfInBounds_toArray, List.set_cons_zero, List.set_cons_succ, i64_w, i32_w]
                                rfl
                              refine pure_ (i := 3) (N := some 52) (v := ?_) (a' := ?_) #[true, true, true, true, false, true, true, true, false, false, false] rfl rfl (any_of HT_.out (by kernel_rfl)) (fun _ _ _ h => h) (Or.inl ⟨by rfl, ?_⟩) ?_ ?_
                              rotate_left
                              · intro w'
                                go_simp
                                first | with_reducible rfl | (rw [if_neg (by omega)]; done) | (rw [if_neg (by (try simp only [decide_eq_true_eq, decide_eq_false_iff_not, eq_iff_iff, iff_true, iff_false] at *); (try simp only [ByteArray.size_extract, ByteArray.size_append, show (⟨#[97, 98, 99]⟩ : ByteArray).size = 3 from rfl, show (⟨#[88, 89, 90]⟩ : ByteArray).size = 3 from rfl, show (⟨#[61]⟩ : ByteArray).size = 1 from rfl] at *); omega)]; done)
                              rotate_left
                              · simp only [Act.put, List.setIfInBounds_toArray, List.set_cons_zero, List.set_cons_succ, i64_w, i32_w]
                                rfl
                              refine take_ (i := 4) (N := some 53) (v := ?_) (a' := ?_) #[true, true, true, true, true, true, true, true, false, false, false] rfl rfl (take_ofW HT_.out HW_.out (by kernel_rfl)) (fun _ _ _ h => h) (Or.inl ⟨by rfl, ?_⟩) hHeld ?_ ?_
                              rotate_left
                              · rintro w' ⟨s0, s1, s2, s3, s4⟩
                                go_simp
                                first | with_reducible rfl | (rw [if_neg (by omega)]; done) | (rw [if_neg (by (try simp only [decide_eq_true_eq, decide_eq_false_iff_not, eq_iff_iff, iff_true, iff_false] at *); (try simp only [ByteArray.size_extract, ByteArray.size_append, show (⟨#[97, 98, 99]⟩ : ByteArray).size = 3 from rfl, show (⟨#[88, 89, 90]⟩ : ByteArray).size = 3 from rfl, show (⟨#[61]⟩ : ByteArray).size = 1 from rfl] at *); omega)]; done)
                              rotate_left
                              · simp only [Act.put, List.setIfInBounds_toArray, List.set_cons_zero, List.set_cons_succ, i64_w, i32_w]
                                rfl
                              refine take_ (i := 8) (N := some 57) (v := ?_) (a' := ?_) #[true, true, true, true, true, true, true, true, true, false, false] rfl rfl (take_ofW HT_.out HW_.out (by kernel_rfl)) (fun _ _ _ h => h) (Or.inl ⟨by rfl, ?_⟩) hHeld ?_ ?_
                              rotate_left
                              · rintro w' ⟨s0, s1, s2, s3, s4⟩
                                go_simp
                                first | with_reducible rfl | (rw [if_neg (by omega)]; done) | (rw [if_neg (by (try simp only [decide_eq_true_eq, decide_eq_false_iff_not, eq_iff_iff, iff_true, iff_false] at *); (try simp only [ByteArray.size_extract, ByteArray.size_append, show (⟨#[97, 98, 99]⟩ : ByteArray).size = 3 from rfl, show (⟨#[88, 89, 90]⟩ : ByteArray).size = 3 from rfl, show (⟨#[61]⟩ : ByteArray).size = 1 from rfl] at *); omega)]; done)
                              rotate_left
                              · simp only [Act.put, List.setIfInBounds_toArray, List.set_cons_zero, List.set_cons_succ, i64_w, i32_w]
                                rfl
                              refine one_ (i := 9) (N := some 58) #[true, true, true, true, true, true, true, true, true, true, false] rfl rfl (one_of HT_.out (by kernel_rfl)) (by decide) (fun K hK => ?_)
                              refine goes_ Try.func63 (by kernel_rfl) rfl #[.slice A17017_0 (rd_L1 x17014000_3 x8_2).length c17017_0, .slice A17018_0 (rd_L1 t17014 x9_3).length c17018_0] (by rfl) rfl rfl (by (try simp only [List.map_toArray, List.map_cons, List.map_nil]); first | done | rfl | (simp only [List.length_drop, List.length_take]; rfl)) ?_
                              with_reducible refine (spec_l13After.calls k3 _ _ (rd_L1 x17014000_3 x8_2) _ _ (rd_L1 t17014 x9_3) t17019 _ ?side1 ?side2 ?side3 ?side4 A38.out).mono ?_
                              (case side1 => repeat (first | exact (by repeat (first | (with_reducible exact HR17017_0.out) | (with_reducible refine Kd.C_alloc ?_ _) | (with_reducible refine Kd.C_drewN ?_ _) | (with_reducible refine Kd.C_drew ?_) | exact HR17017_0.out)) | (with_reducible refine Kd.C_alloc ?_ _) | (with_reducible refine Kd.C_drewN ?_ _) | (with_reducible refine Kd.C_drew ?_)))
                              (case side2 => exact HC17017_0.out)
                              (case side3 => repeat (first | exact (by repeat (first | (with_reducible exact HR17018_0.out) | (with_reducible refine Kd.C_alloc ?_ _) | (with_reducible refine Kd.C_drewN ?_ _) | (with_reducible refine Kd.C_drew ?_) | exact HR17018_0.out)) | (with_reducible refine Kd.C_alloc ?_ _) | (with_reducible refine Kd.C_drewN ?_ _) | (with_reducible refine Kd.C_drew ?_)))
                              (case side4 => exact HC17018_0.out)
                              rintro e w56 ⟨v17020, rfl, ho0, hb⟩
                              have HS3_ := (hb.cell (World.block_lt_of_cell? _ _ (hHeld.2.2.2.1))).trans (hHeld.2.2.2.1)
                              have HS4_ := (hb.cell (World.block_lt_of_cell? _ _ (hHeld.2.2.2.2))).trans (hHeld.2.2.2.2)
                              refine ⟨_, rfl, ?_⟩
                              have n0_ := Aside0.mk (Kd.N_elder' (by (with_reducible repeat (first | apply Kd.N_alloc | apply Kd.N_drewN | apply Kd.N_drew)); exact HO_7.out) (Kd.R_base ho0) hb)
                              have n1_ := Aside0.mk (Kd.N_elder' (by (with_reducible repeat (first | apply Kd.N_alloc | apply Kd.N_drewN | apply Kd.N_drew)); exact HO_17014000.out) (Kd.R_base ho0) hb)
                              have n2_ := Aside0.mk (Kd.V_elder' (by (with_reducible repeat (first | apply Kd.V_alloc | apply Kd.V_drewN | apply Kd.V_drew)); exact HL17017_0.out) (Kd.R_base ho0) hb)
                              have n3_ := Aside0.mk (Kd.V_elder' (by (with_reducible repeat (first | apply Kd.V_alloc | apply Kd.V_drewN | apply Kd.V_drew)); exact HL17018_0.out) (Kd.R_base ho0) hb)
                              have n4_ := Aside0.mk (Kd.R_lower (Kd.R_newM (M := fun k_ => (w.heap.size ≤ k_)) ho0 (below_size (by repeat (first | (with_reducible first | exact HB.out | apply below_alloc | apply pw_below_drewN | apply below_drew1 | refine below_set ?_ GE17001.out | refine below_set ?_ GE17002.out | refine below_set ?_ GE17013.out) | exact HB.out))) (fun k_ h_ => h_)) (below_size (by repeat (first | (with_reducible first | exact HB.out | apply below_alloc | apply pw_below_drewN | apply below_drew1 | refine below_set ?_ GE17001.out | refine below_set ?_ GE17002.out | refine below_set ?_ GE17013.out) | exact HB.out))))
                              have n5_ := Aside0.mk (blk_below (g := gb17001) (o := .cells #[.slice A0_0 l0_0.length c0_0, .slice A0_1 l0_1.length c0_1] 49 (0, 0)) (by (with_reducible repeat (first | refine blk_drewN ?_ _ | refine blk_drew ?_ | refine blk_alloc ?_ _)); exact BK17001.out) hb)
                              have n6_ := Aside0.mk (blk_below (g := gb17002) (o := .cells #[.slice none 0 0, .slice none 0 0, .slice none 0 0] 34 (0, 0)) (by (with_reducible repeat (first | refine blk_drewN ?_ _ | refine blk_drew ?_ | refine blk_alloc ?_ _)); exact BK17002.out) hb)
                              have n7_ := Aside0.mk (blk_below (g := gb17013) (o := .cells #[.slice (some ad17017) x17014000_3.length co55, .slice none 0 0, .slice none 0 0] 34 (0, 0)) (by (with_reducible repeat (first | refine blk_drewN ?_ _ | refine blk_drew ?_ | refine blk_alloc ?_ _)); exact BK17013.out) hb)
                              have n8_ := Aside0.mk (Kd.C_below (by repeat (first | (with_reducible exact HR17017_0.out) | (with_reducible refine Kd.C_alloc ?_ _) | (with_reducible refine Kd.C_drewN ?_ _) | (with_reducible refine Kd.C_drew ?_) | exact HR17017_0.out)) hb)
                              have n9_ := Aside0.mk (Kd.C_below (by repeat (first | (with_reducible exact HR17018_0.out) | (with_reducible refine Kd.C_alloc ?_ _) | (with_reducible refine Kd.C_drewN ?_ _) | (with_reducible refine Kd.C_drew ?_) | exact HR17018_0.out)) hb)
                              have n10_ := Aside0.mk (below_step (by repeat (first | (with_reducible first | exact HB.out | apply below_alloc | apply pw_below_drewN | apply below_drew1 | refine below_set ?_ GE17001.out | refine below_set ?_ GE17002.out | refine below_set ?_ GE17013.out) | exact HB.out)) hb)
                              clear HO_7
                              clear HO_17014000
                              clear HL17017_0
                              clear HL17018_0
                              clear BK17001
                              clear BK17002
                              clear BK17013
                              clear HR17017_0
                              clear HR17018_0
                              clear HB
                              have HO_7 := n0_
                              have HO_17014000 := n1_
                              have HL17017_0 := n2_
                              have HL17018_0 := n3_
                              have HO17021 := n4_
                              have BK17001 := n5_
                              have BK17002 := n6_
                              have BK17013 := n7_
                              have HR17017_0 := n8_
                              have HR17018_0 := n9_
                              have HB := n10_
                              clear n0_ n1_ n2_ n3_ n4_ n5_ n6_ n7_ n8_ n9_ n10_
                              (try clear hb)
                              (try clear hb2)
                              (try clear hk)
                              (try clear hi)
                              (try clear ho0)
                              refine hK.out _ _ ⟨(blk_cell BK17013.out 0).trans rfl, (blk_cell BK17013.out 1).trans rfl, (blk_cell BK17013.out 2).trans rfl, HS3_, HS4_⟩ (fun hHeld => ?_)
                              clear hK K
                              refine norm_ (a' := ?_) ?_ ?_
                              rotate_left
                              · show Act.put _ (some 58) _ = _
                                simp only [Act.put, List.setIfInBounds_toArray, List.set_cons_zero, List.set_cons_succ, i64_w, i32_w]
                                rfl
                              refine pure_ (i := 10) (N := some 10) (v := ?_) (a' := ?_) #[true, true, true, true, true, true, true, true, true, true, true] rfl rfl (any_of HT_.out (by kernel_rfl)) (fun _ _ _ h => h) (Or.inl ⟨by rfl, ?_⟩) ?_ ?_
                              rotate_left
                              · intro w'
                                go_simp
                                first | with_reducible rfl | (rw [if_neg (by omega)]; done) | (rw [if_neg (by (try simp only [decide_eq_true_eq, decide_eq_false_iff_not, eq_iff_iff, iff_true, iff_false] at *); (try simp only [ByteArray.size_extract, ByteArray.size_append, show (⟨#[97, 98, 99]⟩ : ByteArray).size = 3 from rfl, show (⟨#[88, 89, 90]⟩ : ByteArray).size = 3 from rfl, show (⟨#[61]⟩ : ByteArray).size = 1 from rfl] at *); omega)]; done)
                              rotate_left
                              · simp only [Act.put, List.setIfInBounds_toArray, List.set_cons_zero, List.set_cons_succ, i64_w, i32_w]
                                rfl
                              refine done_ (done_of HT_.out (by kernel_rfl)) ?_
                              have hnb57 := NB17013_17001.out
                              have hnc57 := NB17001_17013.out
                              have hnb58 := NB17013_17002.out
                              have hnc58 := NB17002_17013.out
                              have hcz59_0 : w56.cell? ⟨gb17013, 0, none⟩ = some (.slice (some ad17017) x17014000_3.length co55) := (blk_cell BK17013.out 0).trans rfl
                              have hcz59_1 : w56.cell? ⟨gb17013, 1, none⟩ = some (.slice none 0 0) := (blk_cell BK17013.out 1).trans rfl
                              have hcz59_2 : w56.cell? ⟨gb17013, 2, none⟩ = some (.slice none 0 0) := (blk_cell BK17013.out 2).trans rfl
                              have hfz59_0 := blk_frozen BK17013.out 0
                              have hfz59_1 := blk_frozen BK17013.out 1
                              have hfz59_2 := blk_frozen BK17013.out 2
                              obtain ⟨Ao60, co60, eo60⟩ := Kd.R_slice HO17021.out
                              subst eo60
                              try go_wp2_with (first | ((with_reducible refine gate_callee (f := 64) rfl ?_); refine goesL_ (some 62) rfl rfl Try.func64 (by kernel_rfl) rfl #[.slice (some ad17017) x17014000_3.length co55, .slice Ao60 t17019.length co60] rfl (by (try simp only [List.map_toArray, List.map_cons, List.map_nil]); first | done | rfl | (simp only [List.length_drop, List.length_take]; rfl)) ?_; (with_reducible refine (spec_l13Find.calls k3 _ _ x17014000_3 _ _ t17019 t17022 _ ?side1 ?side2 ?side3 ?side4 A39.out).mono ?_); (case side1 => repeat (first | exact (Kd.N_reads' HO_17014000.out).2.2 | (with_reducible refine Kd.C_alloc ?_ _) | (with_reducible refine Kd.C_drewN ?_ _) | (with_reducible refine Kd.C_drew ?_))); (case side2 => exact (Kd.N_reads' HO_17014000.out).2.1); (case side3 => repeat (first | exact (Kd.R_reads' HO17021.out).2.2 | (with_reducible refine Kd.C_alloc ?_ _) | (with_reducible refine Kd.C_drewN ?_ _) | (with_reducible refine Kd.C_drew ?_))); (case side4 => exact (Kd.R_reads' HO17021.out).2.1); rintro e w' ⟨rfl, ⟨nd, rfl⟩⟩; refine ⟨_, rfl, ?_⟩))
                              go_roundg k3
                              case measure => have := HK1.out; have := HK2.out; have := HK3.out; omega
                              case rel => exact ⟨(wrap64 (x9_3 + 1)), (x17014000_3), (.slice (some ad17017) x17014000_3.length co55), (by first | rfl | (simp; done) | (simp [*]; done)), H', ⟨by have := HK1.out; have := HK2.out; have := HK3.out; omega⟩, ⟨by (with_reducible repeat (first | apply Kd.N_alloc | apply Kd.N_drewN | apply Kd.N_drew)); exact Kd.N_mono HO_7.out (fun _ hk => ⟨hk.1.1, ⟨hk.1.2.1, ⟨hk.1.2.2.1, ⟨hk.1.2.2.2.1, hk.1.2.2.2.2⟩⟩⟩⟩)⟩, ⟨by (with_reducible repeat (first | apply Kd.N_alloc | apply Kd.N_drewN | apply Kd.N_drew)); exact Kd.N_mono HO_17014000.out (fun _ hk => ⟨hk.1.1, ⟨hk.1.2.1, ⟨hk.1.2.2.1, ⟨hk.1.2.2.2.1, hk.1.2.2.2.2⟩⟩⟩⟩)⟩, ⟨by (with_reducible repeat (first | refine blk_drewN ?_ _ | refine blk_drew ?_ | refine blk_alloc ?_ _)); exact BK17001.out⟩, ⟨by (with_reducible repeat (first | refine blk_drewN ?_ _ | refine blk_drew ?_ | refine blk_alloc ?_ _)); exact BK17002.out⟩, ⟨by (with_reducible repeat (first | refine blk_drewN ?_ _ | refine blk_drew ?_ | refine blk_alloc ?_ _)); exact BK17013.out⟩, ⟨by repeat (first | (with_reducible first | exact HB.out | apply below_alloc | apply pw_below_drewN | apply below_drew1 | refine below_set ?_ GE17001.out | refine below_set ?_ GE17002.out | refine below_set ?_ GE17013.out) | exact HB.out)⟩⟩
                          · rw [if_neg c37] at H
                            exact absurd H (by simp)
                        · rw [if_neg c36] at H
                          exact absurd H (by simp)
                      · rw [if_neg c35] at H
                        exact absurd H (by simp)
                    · rw [if_neg c34] at H
                      have c34b0 : decide (x9_3 < (t17014.length : Int)) = false := decide_eq_false c34
                      clear c34
                      by_cases c61 : (x17014000_3.length : Int) > 30
                      · rw [if_pos c61] at H
                        have c61b0 : decide (30 < (x17014000_3.length : Int)) = true := decide_eq_true c61
                        have c61b1 : decide (30 < x17014000_3.length) = true := decide_eq_true (by omega)
                        clear c61
                        simp only [Option.some.injEq, Prod.mk.injEq] at H
                        obtain ⟨rfl, rfl, rfl, rfl⟩ := H
                        obtain ⟨Ao62, co62, eo62⟩ := Kd.N_slice HO_7.out
                        subst eo62
                        have hnb63 := NB17013_17001.out
                        have hnc63 := NB17001_17013.out
                        have hnb64 := NB17013_17002.out
                        have hnc64 := NB17002_17013.out
                        have hcz65_0 : wr.cell? ⟨gb17013, 0, none⟩ = some (u17014000) := (blk_cell BK17013.out 0).trans rfl
                        have hcz65_1 : wr.cell? ⟨gb17013, 1, none⟩ = some (.slice none 0 0) := (blk_cell BK17013.out 1).trans rfl
                        have hcz65_2 : wr.cell? ⟨gb17013, 2, none⟩ = some (.slice none 0 0) := (blk_cell BK17013.out 2).trans rfl
                        have hfz65_0 := blk_frozen BK17013.out 0
                        have hfz65_1 := blk_frozen BK17013.out 1
                        have hfz65_2 := blk_frozen BK17013.out 2
                        obtain ⟨Ao66, co66, eo66⟩ := Kd.N_slice HO_17014000.out
                        subst eo66
                        have hnb67 := NB17002_17001.out
                        have hnc67 := NB17001_17002.out
                        have hcz68_0 : wr.cell? ⟨gb17002, 0, none⟩ = some (.slice none 0 0) := (blk_cell BK17002.out 0).trans rfl
                        have hcz68_1 : wr.cell? ⟨gb17002, 1, none⟩ = some (.slice none 0 0) := (blk_cell BK17002.out 1).trans rfl
                        have hcz68_2 : wr.cell? ⟨gb17002, 2, none⟩ = some (.slice none 0 0) := (blk_cell BK17002.out 2).trans rfl
                        have hfz68_0 := blk_frozen BK17002.out 0
                        have hfz68_1 := blk_frozen BK17002.out 1
                        have hfz68_2 := blk_frozen BK17002.out 2
                        go_wp2
                        refine bodyPost_ret (results_ct rfl _ _ gb17002 34 #[.slice none 0 0, .slice none 0 0, .slice none 0 0] (0, 0) _ rfl (by (with_reducible repeat (first | refine blk_drewN ?_ _ | refine blk_drew ?_ | refine blk_alloc ?_ _)); refine blk_put (cs := #[.slice none 0 0, .slice none 0 0, .slice none 0 0]) ?_ 2 _ rfl; (with_reducible repeat (first | refine blk_drewN ?_ _ | refine blk_drew ?_ | refine blk_alloc ?_ _)); refine blk_put (cs := #[.slice none 0 0, .slice none 0 0, .slice none 0 0]) ?_ 1 _ rfl; (with_reducible repeat (first | refine blk_drewN ?_ _ | refine blk_drew ?_ | refine blk_alloc ?_ _)); refine blk_put (cs := #[.slice none 0 0, .slice none 0 0, .slice none 0 0]) ?_ 0 _ rfl; (with_reducible repeat (first | refine blk_drewN ?_ _ | refine blk_drew ?_ | refine blk_alloc ?_ _)); exact BK17002.out) Try.underlying34 rfl (by kernel_rfl)) rfl ?_
                        exact ⟨_, _, _, by first | rfl | (simp [errW_none, errW_some] <;> rfl) | (simp [*, errW_none, errW_some] <;> rfl), by first | exact Kd.S_nil _ _ _ _ _ | exact Kd.N_nil _ _ _ _ _ | exact Kd.V_nil _ _ _ _ _ | exact Kd.Q_nil _ _ _ _ _ | exact Kd.R_nil _ _ _ _ _, by first | exact Kd.R_nil _ _ _ _ _ | exact Kd.N_nil _ _ _ _ _ | exact Kd.V_nil _ _ _ _ _ | exact Kd.Q_nil _ _ _ _ _ | exact Kd.S_nil _ _ _ _ _, by first | exact Kd.S_nil _ _ _ _ _ | exact Kd.N_nil _ _ _ _ _ | exact Kd.V_nil _ _ _ _ _ | exact Kd.Q_nil _ _ _ _ _ | exact Kd.R_nil _ _ _ _ _, by repeat (first | (with_reducible first | exact HB.out | apply below_alloc | apply pw_below_drewN | apply below_drew1 | refine below_set ?_ GE17001.out | refine below_set ?_ GE17002.out | refine below_set ?_ GE17013.out) | exact HB.out)⟩
                      · rw [if_neg c61] at H
                        have c61b0 : decide (30 < (x17014000_3.length : Int)) = false := decide_eq_false c61
                        have c61b1 : decide (30 < x17014000_3.length) = false := decide_eq_false (by omega)
                        clear c61
                        have H' := Aside0.mk H
                        clear H
                        obtain ⟨Ao69, co69, eo69⟩ := Kd.N_slice HO_7.out
                        subst eo69
                        have hnb70 := NB17013_17001.out
                        have hnc70 := NB17001_17013.out
                        have hnb71 := NB17013_17002.out
                        have hnc71 := NB17002_17013.out
                        have hcz72_0 : wr.cell? ⟨gb17013, 0, none⟩ = some (u17014000) := (blk_cell BK17013.out 0).trans rfl
                        have hcz72_1 : wr.cell? ⟨gb17013, 1, none⟩ = some (.slice none 0 0) := (blk_cell BK17013.out 1).trans rfl
                        have hcz72_2 : wr.cell? ⟨gb17013, 2, none⟩ = some (.slice none 0 0) := (blk_cell BK17013.out 2).trans rfl
                        have hfz72_0 := blk_frozen BK17013.out 0
                        have hfz72_1 := blk_frozen BK17013.out 1
                        have hfz72_2 := blk_frozen BK17013.out 2
                        obtain ⟨Ao73, co73, eo73⟩ := Kd.N_slice HO_17014000.out
                        subst eo73
                        go_wp2
                        go_roundg k3
                        case measure => have := HK1.out; have := HK2.out; have := HK3.out; omega
                        case rel => exact ⟨(wrap64 (x8_2 + 1)), (x17014000_3), (.slice Ao73 x17014000_3.length co73), (by first | rfl | (simp; done) | (simp [*]; done)), H', ⟨by have := HK1.out; have := HK2.out; have := HK3.out; omega⟩, ⟨by (with_reducible repeat (first | apply Kd.N_alloc | apply Kd.N_drewN | apply Kd.N_drew)); exact HO_7.out⟩, ⟨by (with_reducible repeat (first | apply Kd.N_alloc | apply Kd.N_drewN | apply Kd.N_drew)); exact HO_17014000.out⟩, ⟨by (with_reducible repeat (first | refine blk_drewN ?_ _ | refine blk_drew ?_ | refine blk_alloc ?_ _)); exact BK17001.out⟩, ⟨by (with_reducible repeat (first | refine blk_drewN ?_ _ | refine blk_drew ?_ | refine blk_alloc ?_ _)); exact BK17002.out⟩, ⟨by (with_reducible repeat (first | refine blk_drewN ?_ _ | refine blk_drew ?_ | refine blk_alloc ?_ _)); exact BK17013.out⟩, ⟨by repeat (first | (with_reducible first | exact HB.out | apply below_alloc | apply pw_below_drewN | apply below_drew1 | refine below_set ?_ GE17001.out | refine below_set ?_ GE17002.out | refine below_set ?_ GE17013.out) | exact HB.out)⟩⟩
              · rw [if_neg c29] at H
                have c29b0 : decide (x8_2 < (x17014000_2.length : Int)) = false := decide_eq_false c29
                clear c29
                have H' := Aside0.mk H
                clear H
                have hnb74 := NB17013_17001.out
                have hnc74 := NB17001_17013.out
                have hnb75 := NB17013_17002.out
                have hnc75 := NB17002_17013.out
                have hcz76_0 : wr.cell? ⟨gb17013, 0, none⟩ = some (u17014000) := (blk_cell BK17013.out 0).trans rfl
                have hcz76_1 : wr.cell? ⟨gb17013, 1, none⟩ = some (.slice none 0 0) := (blk_cell BK17013.out 1).trans rfl
                have hcz76_2 : wr.cell? ⟨gb17013, 2, none⟩ = some (.slice none 0 0) := (blk_cell BK17013.out 2).trans rfl
                have hfz76_0 := blk_frozen BK17013.out 0
                have hfz76_1 := blk_frozen BK17013.out 1
                have hfz76_2 := blk_frozen BK17013.out 2
                obtain ⟨Ao77, co77, eo77⟩ := Kd.N_slice HO_17014000.out
                subst eo77
                go_wp2
                first | go_loopg [11] k2 (fun kq v11 w' => ∃ (x11_3 : Int) (x17014001_3 : List Int) (u17014001 : Value), v11 = .int .i64 x11_3 ∧ Aside0 (spec_BuildMonoid.l3 kq t17014 x11_3 x17014000_2 x17014001_3 = some (r1, r2, r3, r4)) ∧ Aside0 (kq ≤ k2) ∧ Aside0 (Kd.N (Kd.slice 3 (Kd.int .i64)) 25 w' w.heap.size (fun k_ => (w.heap.size ≤ k_) ∧ some k_ ≠ ((.slice Ao77 x17014000_2.length co77) : Value).ownBlock ∧ some k_ ≠ (u17014001 : Value).ownBlock ∧ k_ ≠ gb17001 ∧ k_ ≠ gb17002 ∧ k_ ≠ gb17013) v17015 t17014) ∧ Aside0 (Kd.N (Kd.slice 3 (Kd.int .i64)) 25 w' w.heap.size (fun k_ => (w.heap.size ≤ k_) ∧ some k_ ≠ (v17015 : Value).ownBlock ∧ some k_ ≠ (u17014001 : Value).ownBlock ∧ k_ ≠ gb17001 ∧ k_ ≠ gb17002 ∧ k_ ≠ gb17013) (.slice Ao77 x17014000_2.length co77) x17014000_2) ∧ Aside0 (Kd.R (Kd.int .i64) 3 w' w.heap.size (fun k_ => (w.heap.size ≤ k_)) u17014001 x17014001_3) ∧ Aside0 (w'.heap[gb17001]? = some (.cells #[(.slice A0_0 l0_0.length c0_0), (.slice A0_1 l0_1.length c0_1)] 49 (0, 0))) ∧ Aside0 (w'.heap[gb17002]? = some (.cells #[(.slice none 0 0), (.slice none 0 0), (.slice none 0 0)] 34 (0, 0))) ∧ Aside0 (w'.heap[gb17013]? = some (.cells #[(.slice Ao77 x17014000_2.length co77), u17014001, (.slice none 0 0)] 34 (0, 0))) ∧ Aside0 (Below w.heap.size w w')) | (simp only [Act.put, List.setIfInBounds_toArray, List.set_cons_succ, List.set_cons_zero]; go_loopg [11] k2 (fun kq v11 w' => ∃ (x11_3 : Int) (x17014001_3 : List Int) (u17014001 : Value), v11 = .int .i64 x11_3 ∧ Aside0 (spec_BuildMonoid.l3 kq t17014 x11_3 x17014000_2 x17014001_3 = some (r1, r2, r3, r4)) ∧ Aside0 (kq ≤ k2) ∧ Aside0 (Kd.N (Kd.slice 3 (Kd.int .i64)) 25 w' w.heap.size (fun k_ => (w.heap.size ≤ k_) ∧ some k_ ≠ ((.slice Ao77 x17014000_2.length co77) : Value).ownBlock ∧ some k_ ≠ (u17014001 : Value).ownBlock ∧ k_ ≠ gb17001 ∧ k_ ≠ gb17002 ∧ k_ ≠ gb17013) v17015 t17014) ∧ Aside0 (Kd.N (Kd.slice 3 (Kd.int .i64)) 25 w' w.heap.size (fun k_ => (w.heap.size ≤ k_) ∧ some k_ ≠ (v17015 : Value).ownBlock ∧ some k_ ≠ (u17014001 : Value).ownBlock ∧ k_ ≠ gb17001 ∧ k_ ≠ gb17002 ∧ k_ ≠ gb17013) (.slice Ao77 x17014000_2.length co77) x17014000_2) ∧ Aside0 (Kd.R (Kd.int .i64) 3 w' w.heap.size (fun k_ => (w.heap.size ≤ k_)) u17014001 x17014001_3) ∧ Aside0 (w'.heap[gb17001]? = some (.cells #[(.slice A0_0 l0_0.length c0_0), (.slice A0_1 l0_1.length c0_1)] 49 (0, 0))) ∧ Aside0 (w'.heap[gb17002]? = some (.cells #[(.slice none 0 0), (.slice none 0 0), (.slice none 0 0)] 34 (0, 0))) ∧ Aside0 (w'.heap[gb17013]? = some (.cells #[(.slice Ao77 x17014000_2.length co77), u17014001, (.slice none 0 0)] 34 (0, 0))) ∧ Aside0 (Below w.heap.size w w')))
                case atStart => exact ⟨(0), (([] : List Int)), (.slice none 0 0), (by first | rfl | (simp; done) | (simp [*]; done)), H', ⟨Nat.le_refl _⟩, ⟨by (with_reducible repeat (first | apply Kd.N_alloc | apply Kd.N_drewN | apply Kd.N_drew)); exact Kd.N_mono HO_7.out (fun _ hk => ⟨hk.1, ⟨hk.2.1, ⟨(by simp [Value.ownBlock]), ⟨hk.2.2.1, ⟨hk.2.2.2.1, hk.2.2.2.2⟩⟩⟩⟩⟩)⟩, ⟨by (with_reducible repeat (first | apply Kd.N_alloc | apply Kd.N_drewN | apply Kd.N_drew)); exact Kd.N_mono HO_17014000.out (fun _ hk => ⟨hk.1, ⟨hk.2.1, ⟨(by simp [Value.ownBlock]), ⟨hk.2.2.1, ⟨hk.2.2.2.1, hk.2.2.2.2⟩⟩⟩⟩⟩)⟩, ⟨by first | exact Kd.R_nil _ _ _ _ _ | exact Kd.N_nil _ _ _ _ _ | exact Kd.V_nil _ _ _ _ _ | exact Kd.Q_nil _ _ _ _ _ | exact Kd.S_nil _ _ _ _ _⟩, ⟨by (with_reducible repeat (first | refine blk_drewN ?_ _ | refine blk_drew ?_ | refine blk_alloc ?_ _)); exact BK17001.out⟩, ⟨by (with_reducible repeat (first | refine blk_drewN ?_ _ | refine blk_drew ?_ | refine blk_alloc ?_ _)); exact BK17002.out⟩, ⟨by (with_reducible repeat (first | refine blk_drewN ?_ _ | refine blk_drew ?_ | refine blk_alloc ?_ _)); exact BK17013.out⟩, ⟨by repeat (first | (with_reducible first | exact HB.out | apply below_alloc | apply pw_below_drewN | apply below_drew1 | refine below_set ?_ GE17001.out | refine below_set ?_ GE17002.out | refine below_set ?_ GE17013.out) | exact HB.out)⟩⟩
                case round =>
                  clear H'
                  try clear c1
                  try clear p1
                  try clear q1
                  try clear hx1
                  try clear c2
                  try clear p2
                  try clear c3
                  try clear c4
                  try clear c5
                  try clear c6
                  try clear p6
                  try clear c7
                  try clear c17
                  try clear p17
                  try clear q17
                  try clear hx17
                  try clear c29
                  try clear c29b0
                  try clear c34
                  try clear c34b0
                  try clear c35
                  try clear c35b0
                  try clear c36
                  try clear c36b0
                  try clear c37
                  try clear c37b0
                  try clear c40
                  try clear c40b0
                  try clear c41
                  try clear c46
                  try clear c47
                  try clear c57
                  try clear c58
                  try clear c61
                  try clear c61b0
                  try clear c61b1
                  try clear c63
                  try clear c64
                  try clear p64
                  try clear c67
                  try clear c70
                  try clear c71
                  try clear c74
                  try clear c75
                  try clear hcz32_0
                  try clear hcz32_1
                  try clear hcz32_2
                  try clear hcz48_0
                  try clear hcz48_1
                  try clear hcz48_2
                  try clear hcz52_0
                  try clear hcz52_1
                  try clear hcz52_2
                  try clear hcz59_0
                  try clear hcz59_1
                  try clear hcz59_2
                  try clear hcz65_0
                  try clear hcz65_1
                  try clear hcz65_2
                  try clear hcz68_0
                  try clear hcz68_1
                  try clear hcz68_2
                  try clear hcz72_0
                  try clear hcz72_1
                  try clear hcz72_2
                  try clear hcz76_0
                  try clear hcz76_1
                  try clear hcz76_2
                  try clear hcz7_0
                  try clear hcz7_1
                  try clear hfz14_0
                  try clear hfz14_1
                  try clear hfz18_0
                  try clear hfz18_1
                  try clear hfz26_0
                  try clear hfz26_1
                  try clear hfz26_2
                  try clear hfz27_0
                  try clear hfz27_1
                  try clear hfz32_0
                  try clear hfz32_1
                  try clear hfz32_2
                  try clear hfz48_0
                  try clear hfz48_1
                  try clear hfz48_2
                  try clear hfz52_0
                  try clear hfz52_1
                  try clear hfz52_2
                  try clear hfz59_0
                  try clear hfz59_1
                  try clear hfz59_2
                  try clear hfz65_0
                  try clear hfz65_1
                  try clear hfz65_2
                  try clear hfz68_0
                  try clear hfz68_1
                  try clear hfz68_2
                  try clear hfz72_0
                  try clear hfz72_1
                  try clear hfz72_2
                  try clear hfz76_0
                  try clear hfz76_1
                  try clear hfz76_2
                  try clear hfz7_0
                  try clear hfz7_1
                  try clear hx17017_0
                  try clear hx17018_0
                  try clear p17017
                  try clear p17018
                  try clear p2
                  try clear p6
                  try clear q17017
                  try clear q17018
                  obtain ⟨x11_3, x17014001_3, u17014001, rfl, HA, HK3, HO_7, HO_17014000, HO_17014001, BK17001, BK17002, BK17013, HB⟩ := hrel
                  cases gk with
                  | zero => exact absurd HA.out (by simp [spec_BuildMonoid.l3])
                  | succ k3 =>
                    have H := HA.out
                    clear HA
                    simp only [spec_BuildMonoid.l3] at H
                    by_cases c78 : x11_3 < (t17014.length : Int)
                    · rw [if_pos c78] at H
                      have c78b0 : decide (x11_3 < (t17014.length : Int)) = true := decide_eq_true c78
                      clear c78
                      by_cases c79 : 0 ≤ x11_3
                      · rw [if_pos c79] at H
                        have c79b0 : decide (0 ≤ x11_3) = true := decide_eq_true c79
                        clear c79
                        replace H := Option.bind_eq_some_iff.mp H
                        obtain ⟨t17027, A800, H⟩ := H
                        replace H : (if x17014001_3.length < 17592186044416 then (spec_BuildMonoid.l3 k3 t17014 (wrap64 (x11_3 + 1)) x17014000_2 (x17014001_3 ++ [t17027])) else (none)) = some (r1, r2, r3, r4) := H
                        have A80 := Aside0.mk A800
                        clear A800
                        by_cases c81 : x17014001_3.length < 17592186044416
                        · rw [if_pos c81] at H
                          have LMc81 := Aside0.mk c81
                          clear c81
                          obtain ⟨y17028, hy17028⟩ : ∃ y_ : List Int, y_ = (x17014001_3 ++ [t17027]) := ⟨_, rfl⟩
                          replace H : (spec_BuildMonoid.l3 k3 t17014 (wrap64 (x11_3 + 1)) x17014000_2 y17028) = some (r1, r2, r3, r4) := by first | (rw [hy17028]; with_reducible exact H) | (have H2_ := (Option.bind_some _ _).symm.trans H; rw [hy17028]; with_reducible exact H2_) | (have H2_ := (Option.bind_some _ _).symm.trans H; with_reducible exact H2_) | with_reducible exact H | (rw [hy17028]; exact H) | exact H
                          have Ny17028 := Aside0.mk hy17028
                          clear hy17028
                          have H' := Aside0.mk H
                          clear H
                          obtain ⟨Ao82, co82, eo82⟩ := Kd.N_slice HO_7.out
                          subst eo82
                          try go_wp2
                          have n0_ := Aside0.mk (Kd.N_drew HO_7.out)
                          have n1_ := Aside0.mk (Kd.N_drew HO_17014000.out)
                          have n2_ := Aside0.mk (Kd.R_drew HO_17014001.out)
                          have n3_ := Aside0.mk (blk_drew BK17001.out)
                          have n4_ := Aside0.mk (blk_drew BK17002.out)
                          have n5_ := Aside0.mk (blk_drew BK17013.out)
                          have n6_ := Aside0.mk (below_drew1 HB.out)
                          clear HO_7
                          clear HO_17014000
                          clear HO_17014001
                          clear BK17001
                          clear BK17002
                          clear BK17013
                          clear HB
                          have HO_7 := n0_
                          have HO_17014000 := n1_
                          have HO_17014001 := n2_
                          have BK17001 := n3_
                          have BK17002 := n4_
                          have BK17013 := n5_
                          have HB := n6_
                          clear n0_ n1_ n2_ n3_ n4_ n5_ n6_
                          have p17026 : 0 ≤ (x11_3 : Int) := of_decide_eq_true (by first | (with_reducible assumption) | assumption)
                          have q17026 : x11_3 < (t17014.length : Int) := of_decide_eq_true (by first | (with_reducible assumption) | assumption)
                          obtain ⟨ad17026, A17026_0, c17026_0, e17026, hx17026_0, hl17026_0, hi17026_0⟩ := at_L1 (Kd.N_reads' HO_7.out).2.2 x11_3 p17026 q17026
                          cases e17026
                          obtain ⟨ce17026, hce17026, hMe17026, hcc17026⟩ := Kd.N_get HO_7.out [] x11_3 p17026 (by first | exact q17026 | exact of_decide_eq_true (by first | (with_reducible assumption) | assumption) | (have e_ := (Kd.N_reads' HO_7.out).1; omega))
                          obtain ⟨ua17026_0, uc17026_0, rfl, ul17026_0, ge17026_0⟩ := Kd.FK_slice_open hMe17026
                          have hv17026_0 := hcc17026 0 _ rfl
                          rw [Nat.add_zero, show ((Kd.slice 3 (Kd.int .i64))).sz = 1 from rfl, Nat.mul_one] at hv17026_0
                          replace hv17026_0 := Option.some.inj (hv17026_0.symm.trans hx17026_0)
                          injection hv17026_0 with hva_ hvn_ hvc_
                          rw [hva_] at ge17026_0
                          rw [hvc_] at ul17026_0
                          have HL17026_0 := Aside0.mk (show Kd.V (Kd.int .i64) 3 _ w.heap.size _ _ (rd_L1 t17014 x11_3) from Kd.V_mk ul17026_0 ge17026_0)
                          clear hva_ hvn_ hvc_ ge17026_0 ul17026_0
                          clear hcc17026 hce17026
                          have HR17026_0 := Aside0.mk hi17026_0
                          have HC17026_0 := Aside0.mk hl17026_0
                          clear hi17026_0 hl17026_0
                          replace p17026 := eq_true p17026
                          replace q17026 := eq_true q17026
                          refine start_ (n := 13) (S := fun w' => w'.cell? ⟨gb17013, 0, none⟩ = some (.slice Ao77 x17014000_2.length co77) ∧ w'.cell? ⟨gb17013, 1, none⟩ = some (u17014001) ∧ w'.cell? ⟨gb17013, 2, none⟩ = some (.slice none 0 0) ∧ w'.cell? (ad17026.add (x11_3).toNat) = some (.slice A17026_0 (rd_L1 t17014 x11_3).length c17026_0)) (ds := [10, 12]) #[false, false, false, false, false, false, false, false, false, false, false, false, false] (by kernel_rfl) rfl rfl ⟨(blk_cell BK17013.out 0).trans rfl, (blk_cell BK17013.out 1).trans rfl, (blk_cell BK17013.out 2).trans rfl, hx17026_0⟩ (fun hHeld => ?_); refine with_tabW spec_BuildMonoid.tab24 spec_BuildMonoid.bits24 (fun HT_ HW_ => ?_)
                          generalize wr.drew = w83 at HO_7 HO_17014000 HO_17014001 BK17001 BK17002 BK17013 HB HL17026_0 HR17026_0 hx17026_0 hHeld ⊢
                          refine pure_ (i := 0) (N := some 81) (v := ?_) (a' := ?_) #[true, false, false, false, false, false, false, false, false, false, false, false, false] rfl rfl (any_of HT_.out (by kernel_rfl)) (fun _ _ _ h => h) (Or.inl ⟨by rfl, ?_⟩) ?_ ?_
                          rotate_left
                          · intro w'
                            go_simp
                            first | with_reducible rfl | (rw [if_neg (by omega)]; done) | (rw [if_neg (by (try simp only [decide_eq_true_eq, decide_eq_false_iff_not, eq_iff_iff, iff_true, iff_false] at *); (try simp only [ByteArray.size_extract, ByteArray.size_append, show (⟨#[97, 98, 99]⟩ : ByteArray).size = 3 from rfl, show (⟨#[88, 89, 90]⟩ : ByteArray).size = 3 from rfl, show (⟨#[61]⟩ : ByteArray).size = 1 from rfl] at *); omega)]; done)
                          rotate_left
                          · simp only [Act.put, List.setIfInBounds_toArray, List.set_cons_zero, List.set_cons_succ, i64_w, i32_w]
                            rfl
                          refine pure_ (i := 2) (N := some 83) (v := ?_) (a' := ?_) #[true, false, true, false, false, false, false, false, false, false, false, false, false] rfl rfl (any_of HT_.out (by kernel_rfl)) (fun _ _ _ h => h) (Or.inl ⟨by rfl, ?_⟩) ?_ ?_
                          rotate_left
                          · intro w'
                            go_simp
                            first | with_reducible rfl | (rw [if_neg (by omega)]; done) | (rw [if_neg (by (try simp only [decide_eq_true_eq, decide_eq_false_iff_not, eq_iff_iff, iff_true, iff_false] at *); (try simp only [ByteArray.size_extract, ByteArray.size_append, show (⟨#[97, 98, 99]⟩ : ByteArray).size = 3 from rfl, show (⟨#[88, 89, 90]⟩ : ByteArray).size = 3 from rfl, show (⟨#[61]⟩ : ByteArray).size = 1 from rfl] at *); omega)]; done)
                          rotate_left
                          · simp only [Act.put, List.setIfInBounds_toArray, List.set_cons_zero, List.set_cons_succ, i64_w, i32_w]
                            rfl
                          refine pure_ (i := 4) (N := some 85) (v := ?_) (a' := ?_) #[true, false, true, false, true, false, false, false, false, false, false, false, false] rfl rfl (any_of HT_.out (by kernel_rfl)) (fun _ _ _ h => h) (Or.inl ⟨by rfl, ?_⟩) ?_ ?_
                          rotate_left
                          · intro w'
                            go_simp
                            first | with_reducible rfl | (rw [if_neg (by omega)]; done) | (rw [if_neg (by (try simp only [decide_eq_true_eq, decide_eq_false_iff_not, eq_iff_iff, iff_true, iff_false] at *); (try simp only [ByteArray.size_extract, ByteArray.size_append, show (⟨#[97, 98, 99]⟩ : ByteArray).size = 3 from rfl, show (⟨#[88, 89, 90]⟩ : ByteArray).size = 3 from rfl, show (⟨#[61]⟩ : ByteArray).size = 1 from rfl] at *); omega)]; done)
                          rotate_left
                          · simp only [Act.put, List.setIfInBounds_toArray, List.set_cons_zero, List.set_cons_succ, i64_w, i32_w]
                            rfl
                          refine pure_ (i := 5) (N := some 86) (v := ?_) (a' := ?_) #[true, false, true, false, true, true, false, false, false, false, false, false, false] rfl rfl (any_of HT_.out (by kernel_rfl)) (fun _ _ _ h => h) (Or.inl ⟨by rfl, ?_⟩) ?_ ?_
                          rotate_left
                          · intro w'
                            go_simp
                            first | with_reducible rfl | (rw [if_neg (by omega)]; done) | (rw [if_neg (by (try simp only [decide_eq_true_eq, decide_eq_false_iff_not, eq_iff_iff, iff_true, iff_false] at *); (try simp only [ByteArray.size_extract, ByteArray.size_append, show (⟨#[97, 98, 99]⟩ : ByteArray).size = 3 from rfl, show (⟨#[88, 89, 90]⟩ : ByteArray).size = 3 from rfl, show (⟨#[61]⟩ : ByteArray).size = 1 from rfl] at *); omega)]; done)
                          rotate_left
                          · simp only [Act.put, List.setIfInBounds_toArray, List.set_cons_zero, List.set_cons_succ, i64_w, i32_w]
                            rfl
                          refine pure_ (i := 6) (N := some 87) (v := ?_) (a' := ?_) #[true, false, true, false, true, true, true, false, false, false, false, false, false] rfl rfl (any_of HT_.out (by kernel_rfl)) (fun _ _ _ h => h) (Or.inl ⟨by rfl, ?_⟩) ?_ ?_
                          rotate_left
                          · intro w'
                            go_simp
                            first | with_reducible rfl | (rw [if_neg (by omega)]; done) | (rw [if_neg (by (try simp only [decide_eq_true_eq, decide_eq_false_iff_not, eq_iff_iff, iff_true, iff_false] at *); (try simp only [ByteArray.size_extract, ByteArray.size_append, show (⟨#[97, 98, 99]⟩ : ByteArray).size = 3 from rfl, show (⟨#[88, 89, 90]⟩ : ByteArray).size = 3 from rfl, show (⟨#[61]⟩ : ByteArray).size = 1 from rfl] at *); omega)]; done)
                          rotate_left
                          · simp only [Act.put, List.setIfInBounds_toArray, List.set_cons_zero, List.set_cons_succ, i64_w, i32_w]
                            rfl
                          refine take_ (i := 1) (N := some 82) (v := ?_) (a' := ?_) #[true, true, true, false, true, true, true, false, false, false, false, false, false] rfl rfl (take_ofW HT_.out HW_.out (by kernel_rfl)) (fun _ _ _ h => h) (Or.inl ⟨by rfl, ?_⟩) hHeld ?_ ?_
                          rotate_left
                          · rintro w' ⟨s0, s1, s2, s3⟩
                            go_simp
                            first | with_reducible rfl | (rw [if_neg (by omega)]; done) | (rw [if_neg (by (try simp only [decide_eq_true_eq, decide_eq_false_iff_not, eq_iff_iff, iff_true, iff_false] at *); (try simp only [ByteArray.size_extract, ByteArray.size_append, show (⟨#[97, 98, 99]⟩ : ByteArray).size = 3 from rfl, show (⟨#[88, 89, 90]⟩ : ByteArray).size = 3 from rfl, show (⟨#[61]⟩ : ByteArray).size = 1 from rfl] at *); omega)]; done)
                          rotate_left
                          · simp only [Act.put, List.setIfInBounds_toArray, List.set_cons_zero, List.set_cons_succ, i64_w, i32_w]
                            rfl
                          refine take_ (i := 3) (N := some 84) (v := ?_) (a' := ?_) #[true, true, true, true, true, true, true, false, false, false, false, false, false] rfl rfl (take_ofW HT_.out HW_.out (by kernel_rfl)) (fun _ _ _ h => h) (Or.inl ⟨by rfl, ?_⟩) hHeld ?_ ?_
                          rotate_left
                          · rintro w' ⟨s0, s1, s2, s3⟩
                            go_simp
                            first | with_reducible rfl | (rw [if_neg (by omega)]; done) | (rw [if_neg (by (try simp only [decide_eq_true_eq, decide_eq_false_iff_not, eq_iff_iff, iff_true, iff_false] at *); (try simp only [ByteArray.size_extract, ByteArray.size_append, show (⟨#[97, 98, 99]⟩ : ByteArray).size = 3 from rfl, show (⟨#[88, 89, 90]⟩ : ByteArray).size = 3 from rfl, show (⟨#[61]⟩ : ByteArray).size = 1 from rfl] at *); omega)]; done)
                          rotate_left
                          · simp only [Act.put, List.setIfInBounds_toArray, List.set_cons_zero, List.set_cons_succ, i64_w, i32_w]
                            rfl
                          refine take_ (i := 7) (N := some 88) (v := ?_) (a' := ?_) #[true, true, true, true, true, true, true, true, false, false, false, false, false] rfl rfl (take_ofW HT_.out HW_.out (by kernel_rfl)) (fun _ _ _ h => h) (Or.inl ⟨by rfl, ?_⟩) hHeld ?_ ?_
                          rotate_left
                          · rintro w' ⟨s0, s1, s2, s3⟩
                            go_simp
                            first | with_reducible rfl | (rw [if_neg (by omega)]; done) | (rw [if_neg (by (try simp only [decide_eq_true_eq, decide_eq_false_iff_not, eq_iff_iff, iff_true, iff_false] at *); (try simp only [ByteArray.size_extract, ByteArray.size_append, show (⟨#[97, 98, 99]⟩ : ByteArray).size = 3 from rfl, show (⟨#[88, 89, 90]⟩ : ByteArray).size = 3 from rfl, show (⟨#[61]⟩ : ByteArray).size = 1 from rfl] at *); omega)]; done)
                          rotate_left
                          · simp only [Act.put, List.setIfInBounds_toArray, List.set_cons_zero, List.set_cons_succ, i64_w, i32_w]
                            rfl
                          refine one_ (i := 8) (N := some 89) #[true, true, true, true, true, true, true, true, true, false, false, false, false] rfl rfl (one_of HT_.out (by kernel_rfl)) (by decide) (fun K hK => ?_)
                          refine goes_ Try.func64 (by kernel_rfl) rfl #[.slice Ao77 x17014000_2.length co77, .slice A17026_0 (rd_L1 t17014 x11_3).length c17026_0] (by rfl) rfl rfl (by (try simp only [List.map_toArray, List.map_cons, List.map_nil]); first | done | rfl | (simp only [List.length_drop, List.length_take]; rfl)) ?_
                          with_reducible refine (spec_l13Find.calls k3 _ _ x17014000_2 _ _ (rd_L1 t17014 x11_3) t17027 _ ?side1 ?side2 ?side3 ?side4 A80.out).mono ?_
                          (case side1 => repeat (first | exact (Kd.N_reads' HO_17014000.out).2.2 | (with_reducible refine Kd.C_alloc ?_ _) | (with_reducible refine Kd.C_drewN ?_ _) | (with_reducible refine Kd.C_drew ?_)))
                          (case side2 => exact (Kd.N_reads' HO_17014000.out).2.1)
                          (case side3 => repeat (first | exact (by repeat (first | (with_reducible exact HR17026_0.out) | (with_reducible refine Kd.C_alloc ?_ _) | (with_reducible refine Kd.C_drewN ?_ _) | (with_reducible refine Kd.C_drew ?_) | exact HR17026_0.out)) | (with_reducible refine Kd.C_alloc ?_ _) | (with_reducible refine Kd.C_drewN ?_ _) | (with_reducible refine Kd.C_drew ?_)))
                          (case side4 => exact HC17026_0.out)
                          rintro e w' ⟨rfl, ⟨nd, rfl⟩⟩
                          refine ⟨_, rfl, ?_⟩
                          refine hK.out _ _ ⟨(blk_cell BK17013.out 0).trans rfl, (blk_cell BK17013.out 1).trans rfl, (blk_cell BK17013.out 2).trans rfl, hHeld.2.2.2⟩ (fun hHeld => ?_)
                          clear hK K
                          refine norm_ (a' := ?_) ?_ ?_
                          rotate_left
                          · show Act.put _ (some 89) _ = _
                            simp only [Act.put, List.setIfInBounds_toArray, List.set_cons_zero, List.set_cons_succ, i64_w, i32_w]
                            rfl
                          refine one_ (i := 9) (N := some 90) #[true, true, true, true, true, true, true, true, true, true, false, false, false] rfl rfl (one_of HT_.out (by kernel_rfl)) (by decide) (fun K hK => ?_)
                          refine value_ (w1 := ?_) (v := ?_) (by rfl) rfl ?_ ?_
                          rotate_left 2
                          · go_simp
                            constructor
                            · rfl
                            · rfl
                          refine hK.out _ _ ⟨(blk_cell (blk_alloc BK17013.out _) 0).trans rfl, (blk_cell (blk_alloc BK17013.out _) 1).trans rfl, (blk_cell (blk_alloc BK17013.out _) 2).trans rfl, (World.cell?_alloc_lt _ _ _ (World.block_lt_of_cell? _ _ (hHeld.2.2.2))).trans (hHeld.2.2.2)⟩ (fun hHeld => ?_)
                          clear hK K
                          refine norm_ (a' := ?_) ?_ ?_
                          rotate_left
                          · show Act.put _ (some 90) _ = _
                            simp only [Act.put, List.setIfInBounds_toArray, List.set_cons_zero, List.set_cons_succ, i64_w, i32_w]
                            rfl
                          refine last_ (i := 10) (N := some 91) #[true, true, true, true, true, true, true, true, true, true, true, false, false] rfl rfl (one_of HT_.out (by kernel_rfl)) (by decide) (fun K hK => ?_)
                          refine Kd.R_append_step (Kd.int .i64) (w0 := w) w.heap.size (by rfl) (.tmp 82) (.tmp 90) 25 3 (.int .i64 0) 8 rfl Try.underlying25 info3 rfl (by decide) (by omega) u17014001 x17014001_3 t17027 [.int .i64 t17027] (fun k_ => (w.heap.size ≤ k_)) (fun _ => False) rfl rfl ?aP (fun _ hk => hk.elim) ?aF ?aO ?aB ?aS ?aL ?_
                          (case aP => exact rfl)
                          (case aB => exact (by repeat (first | (with_reducible first | exact HB.out | apply below_alloc | apply pw_below_drewN | apply below_drew1 | refine below_set ?_ GE17001.out | refine below_set ?_ GE17002.out | refine below_set ?_ GE17013.out) | exact HB.out)))
                          (case aF => exact (fun k_ hk => (Nat.le_trans (below_size (by repeat (first | (with_reducible first | exact HB.out | apply below_alloc | apply pw_below_drewN | apply below_drew1 | refine below_set ?_ GE17001.out | refine below_set ?_ GE17002.out | refine below_set ?_ GE17013.out) | exact HB.out))) hk)))
                          (case aO => exact (by (with_reducible repeat (first | apply Kd.R_alloc | apply Kd.R_drewN | apply Kd.R_drew)); exact HO_17014001.out))
                          (case aS => exact (below_size (by repeat (first | (with_reducible first | exact HB.out | apply below_alloc | apply pw_below_drewN | apply below_drew1 | refine below_set ?_ GE17001.out | refine below_set ?_ GE17002.out | refine below_set ?_ GE17013.out) | exact HB.out))))
                          (case aL => have := LMc81.out; omega)
                          intro v17029 w84 ho hb hg hat
                          rw [← Ny17028.out] at ho
                          have n0_ := Aside0.mk (Kd.N_afterv (ok := (fun k_ => (w.heap.size ≤ k_) ∧ some k_ ≠ (.slice Ao77 x17014000_2.length co77 : Value).ownBlock ∧ k_ ≠ gb17001 ∧ k_ ≠ gb17002 ∧ k_ ≠ gb17013)) (by (with_reducible repeat (first | apply Kd.N_alloc | apply Kd.N_drewN | apply Kd.N_drew)); exact Kd.N_mono HO_7.out (fun _ hk => ⟨⟨hk.1, ⟨hk.2.1, ⟨hk.2.2.2.1, ⟨hk.2.2.2.2.1, hk.2.2.2.2.2⟩⟩⟩⟩, hk.2.2.1⟩)) hg hat)
                          have n1_ := Aside0.mk (Kd.N_afterv (ok := (fun k_ => (w.heap.size ≤ k_) ∧ some k_ ≠ (.slice (some ad17026) t17014.length co82 : Value).ownBlock ∧ k_ ≠ gb17001 ∧ k_ ≠ gb17002 ∧ k_ ≠ gb17013)) (by (with_reducible repeat (first | apply Kd.N_alloc | apply Kd.N_drewN | apply Kd.N_drew)); exact Kd.N_mono HO_17014000.out (fun _ hk => ⟨⟨hk.1, ⟨hk.2.1, ⟨hk.2.2.2.1, ⟨hk.2.2.2.2.1, hk.2.2.2.2.2⟩⟩⟩⟩, hk.2.2.1⟩)) hg hat)
                          have n2_ := Aside0.mk (blk_grown (g := gb17001) (o := .cells #[.slice A0_0 l0_0.length c0_0, .slice A0_1 l0_1.length c0_1] 49 (0, 0)) (by (with_reducible repeat (first | refine blk_drewN ?_ _ | refine blk_drew ?_ | refine blk_alloc ?_ _)); exact BK17001.out) hg (Kd.R_ne HO_17014001.out BK17001.out (by decide)))
                          have n3_ := Aside0.mk (blk_grown (g := gb17002) (o := .cells #[.slice none 0 0, .slice none 0 0, .slice none 0 0] 34 (0, 0)) (by (with_reducible repeat (first | refine blk_drewN ?_ _ | refine blk_drew ?_ | refine blk_alloc ?_ _)); exact BK17002.out) hg (Kd.R_ne HO_17014001.out BK17002.out (by decide)))
                          have n4_ := Aside0.mk (blk_grown (g := gb17013) (o := .cells #[.slice Ao77 x17014000_2.length co77, u17014001, .slice none 0 0] 34 (0, 0)) (by (with_reducible repeat (first | refine blk_drewN ?_ _ | refine blk_drew ?_ | refine blk_alloc ?_ _)); exact BK17013.out) hg (Kd.R_ne HO_17014001.out BK17013.out (by decide)))
                          have n5_ := Aside0.mk (Kd.V_afterv (ok := (fun k_ => (w.heap.size ≤ k_) ∧ some k_ ≠ (.slice (some ad17026) t17014.length co82 : Value).ownBlock ∧ some k_ ≠ (.slice Ao77 x17014000_2.length co77 : Value).ownBlock ∧ k_ ≠ gb17001 ∧ k_ ≠ gb17002 ∧ k_ ≠ gb17013)) (by (with_reducible repeat (first | apply Kd.V_alloc | apply Kd.V_drewN | apply Kd.V_drew)); exact Kd.V_mono HL17026_0.out (fun _ hk => ⟨⟨hk.1.1, ⟨hk.2, ⟨hk.1.2.1, ⟨hk.1.2.2.2.1, ⟨hk.1.2.2.2.2.1, hk.1.2.2.2.2.2⟩⟩⟩⟩⟩, hk.1.2.2.1⟩)) hg hat)
                          have n6_ := Aside0.mk (hb)
                          have n7_ := Aside0.mk (ho)
                          clear HO_7
                          clear HO_17014000
                          clear BK17001
                          clear BK17002
                          clear BK17013
                          clear HL17026_0
                          clear HB
                          clear HO_17014001
                          have HO_7 := n0_
                          have HO_17014000 := n1_
                          have BK17001 := n2_
                          have BK17002 := n3_
                          have BK17013 := n4_
                          have HL17026_0 := n5_
                          have HB := n6_
                          have HO17030 := n7_
                          clear n0_ n1_ n2_ n3_ n4_ n5_ n6_ n7_
                          clear ho hb hg hat
                          obtain ⟨Ao85, co85, eo85⟩ := Kd.R_slice HO17030.out
                          (first | subst eo85 | (injection eo85 with f1_ f2_ f3_; have f4_ := f1_.symm; have f5_ := f3_.symm; clear f1_ f2_ f3_; subst f4_; subst f5_))
                          refine hK.out _ _ ?_
                          clear hK K
                          refine norm_ (a' := ?_) ?_ ?_
                          rotate_left
                          · show Act.put _ (some 91) _ = _
                            simp only [Act.put, List.setIfInBounds_toArray, List.set_cons_zero, List.set_cons_succ, i64_w, i32_w]
                            rfl
                          refine pure_ (i := 11) (N := some 92) (v := ?_) (a' := ?_) #[true, true, true, true, true, true, true, true, true, true, true, true, false] rfl rfl (any_of HT_.out (by kernel_rfl)) (fun _ _ _ h => h) (Or.inl ⟨by rfl, ?_⟩) ?_ ?_
                          rotate_left
                          · intro w'
                            go_simp
                            first | with_reducible rfl | (rw [if_neg (by omega)]; done) | (rw [if_neg (by (try simp only [decide_eq_true_eq, decide_eq_false_iff_not, eq_iff_iff, iff_true, iff_false] at *); (try simp only [ByteArray.size_extract, ByteArray.size_append, show (⟨#[97, 98, 99]⟩ : ByteArray).size = 3 from rfl, show (⟨#[88, 89, 90]⟩ : ByteArray).size = 3 from rfl, show (⟨#[61]⟩ : ByteArray).size = 1 from rfl] at *); omega)]; done)
                          rotate_left
                          · simp only [Act.put, List.setIfInBounds_toArray, List.set_cons_zero, List.set_cons_succ, i64_w, i32_w]
                            rfl
                          refine last_ (i := 12) (N := none) #[true, true, true, true, true, true, true, true, true, true, true, true, true] rfl rfl (one_of HT_.out (by kernel_rfl)) (by decide) (fun K hK => ?_)
                          have hs86 : w84.cell? ⟨gb17013, 1, none⟩ = some (u17014001) := (blk_cell BK17013.out 1).trans rfl
                          have hfs86 := blk_frozen BK17013.out 1
                          have hns86_0 := NB17001_17013.out
                          have hns86_1 := NB17002_17013.out
                          have hms86_0 := NB17013_17001.out
                          have hms86_1 := NB17013_17002.out
                          refine skip_ (w1 := ?_) (by rfl) rfl ?_ ?_
                          rotate_left
                          · go_simp
                            rfl
                          refine hK.out _ _ ?_
                          clear hK K
                          refine done_ (done_of HT_.out (by kernel_rfl)) ?_
                          try go_wp2
                          go_roundg k3
                          case measure => have := HK1.out; have := HK2.out; have := HK3.out; omega
                          case rel => exact ⟨(wrap64 (x11_3 + 1)), (y17028), (.slice Ao85 y17028.length co85), (by first | rfl | (simp; done) | (simp [*]; done)), H', ⟨by have := HK1.out; have := HK2.out; have := HK3.out; omega⟩, ⟨by (with_reducible repeat (first | apply Kd.N_alloc | apply Kd.N_drewN | apply Kd.N_drew)); exact Kd.N_mono (Kd.N_far (p := ⟨gb17013, 1, none⟩) (Kd.N_mono HO_7.out (fun k_ hk => (⟨hk, hk.1.2.2.2.2⟩ : _ ∧ k_ ≠ gb17013))) (fun _ hk => hk.2) (.slice Ao85 y17028.length co85)) (fun _ hk => ⟨hk.1.1.1, ⟨hk.1.1.2.1, ⟨hk.1.2, ⟨hk.1.1.2.2.1, ⟨hk.1.1.2.2.2.1, hk.1.1.2.2.2.2⟩⟩⟩⟩⟩)⟩, ⟨by (with_reducible repeat (first | apply Kd.N_alloc | apply Kd.N_drewN | apply Kd.N_drew)); exact Kd.N_mono (Kd.N_far (p := ⟨gb17013, 1, none⟩) (Kd.N_mono HO_17014000.out (fun k_ hk => (⟨hk, hk.1.2.2.2.2⟩ : _ ∧ k_ ≠ gb17013))) (fun _ hk => hk.2) (.slice Ao85 y17028.length co85)) (fun _ hk => ⟨hk.1.1.1, ⟨hk.1.1.2.1, ⟨hk.1.2, ⟨hk.1.1.2.2.1, ⟨hk.1.1.2.2.2.1, hk.1.1.2.2.2.2⟩⟩⟩⟩⟩)⟩, ⟨by (with_reducible repeat (first | apply Kd.R_alloc | apply Kd.R_drewN | apply Kd.R_drew)); exact Kd.R_mono (Kd.R_far (p := ⟨gb17013, 1, none⟩) (Kd.R_types HO17030.out BK17013.out (by decide)) (fun _ hk => hk.2) (.slice Ao85 y17028.length co85)) (fun _ hk => hk.1)⟩, ⟨by (with_reducible repeat (first | refine blk_drewN ?_ _ | refine blk_drew ?_ | refine blk_alloc ?_ _)); refine blk_far ?_ NB17001_17013.out _; (with_reducible repeat (first | refine blk_drewN ?_ _ | refine blk_drew ?_ | refine blk_alloc ?_ _)); exact BK17001.out⟩, ⟨by (with_reducible repeat (first | refine blk_drewN ?_ _ | refine blk_drew ?_ | refine blk_alloc ?_ _)); refine blk_far ?_ NB17002_17013.out _; (with_reducible repeat (first | refine blk_drewN ?_ _ | refine blk_drew ?_ | refine blk_alloc ?_ _)); exact BK17002.out⟩, ⟨by (with_reducible repeat (first | refine blk_drewN ?_ _ | refine blk_drew ?_ | refine blk_alloc ?_ _)); refine blk_put (cs := #[.slice Ao77 x17014000_2.length co77, u17014001, .slice none 0 0]) ?_ 1 _ rfl; (with_reducible repeat (first | refine blk_drewN ?_ _ | refine blk_drew ?_ | refine blk_alloc ?_ _)); exact BK17013.out⟩, ⟨by repeat (first | (with_reducible first | exact HB.out | apply below_alloc | apply pw_below_drewN | apply below_drew1 | refine below_set ?_ GE17001.out | refine below_set ?_ GE17002.out | refine below_set ?_ GE17013.out) | exact HB.out)⟩⟩
                        · rw [if_neg c81] at H
                          exact absurd H (by simp)
                      · rw [if_neg c79] at H
                        exact absurd H (by simp)
                    · rw [if_neg c78] at H
                      have c78b0 : decide (x11_3 < (t17014.length : Int)) = false := decide_eq_false c78
                      clear c78
                      have H' := Aside0.mk H
                      clear H
                      obtain ⟨Ao87, co87, eo87⟩ := Kd.N_slice HO_7.out
                      subst eo87
                      go_wp2
                      first | go_loopg [12] k3 (fun kq v12 w' => ∃ (x12_4 : Int) (x17014002_4 : List (List Int)) (u17014002 : Value), v12 = .int .i64 x12_4 ∧ Aside0 (spec_BuildMonoid.l4 kq x12_4 x17014000_2 x17014001_3 x17014002_4 = some (r1, r2, r3, r4)) ∧ Aside0 (kq ≤ k3) ∧ Aside0 (Kd.N (Kd.slice 3 (Kd.int .i64)) 25 w' w.heap.size (fun k_ => (w.heap.size ≤ k_) ∧ some k_ ≠ (u17014001 : Value).ownBlock ∧ some k_ ≠ (u17014002 : Value).ownBlock ∧ k_ ≠ gb17001 ∧ k_ ≠ gb17002 ∧ k_ ≠ gb17013) (.slice Ao77 x17014000_2.length co77) x17014000_2) ∧ Aside0 (Kd.R (Kd.int .i64) 3 w' w.heap.size (fun k_ => (w.heap.size ≤ k_)) u17014001 x17014001_3) ∧ Aside0 (Kd.N (Kd.slice 3 (Kd.int .i64)) 25 w' w.heap.size (fun k_ => (w.heap.size ≤ k_) ∧ some k_ ≠ ((.slice Ao77 x17014000_2.length co77) : Value).ownBlock ∧ some k_ ≠ (u17014001 : Value).ownBlock ∧ k_ ≠ gb17001 ∧ k_ ≠ gb17002 ∧ k_ ≠ gb17013) u17014002 x17014002_4) ∧ Aside0 (w'.heap[gb17001]? = some (.cells #[(.slice A0_0 l0_0.length c0_0), (.slice A0_1 l0_1.length c0_1)] 49 (0, 0))) ∧ Aside0 (w'.heap[gb17002]? = some (.cells #[(.slice none 0 0), (.slice none 0 0), (.slice none 0 0)] 34 (0, 0))) ∧ Aside0 (w'.heap[gb17013]? = some (.cells #[(.slice Ao77 x17014000_2.length co77), u17014001, u17014002] 34 (0, 0))) ∧ Aside0 (Below w.heap.size w w')) | (simp only [Act.put, List.setIfInBounds_toArray, List.set_cons_succ, List.set_cons_zero]; go_loopg [12] k3 (fun kq v12 w' => ∃ (x12_4 : Int) (x17014002_4 : List (List Int)) (u17014002 : Value), v12 = .int .i64 x12_4 ∧ Aside0 (spec_BuildMonoid.l4 kq x12_4 x17014000_2 x17014001_3 x17014002_4 = some (r1, r2, r3, r4)) ∧ Aside0 (kq ≤ k3) ∧ Aside0 (Kd.N (Kd.slice 3 (Kd.int .i64)) 25 w' w.heap.size (fun k_ => (w.heap.size ≤ k_) ∧ some k_ ≠ (u17014001 : Value).ownBlock ∧ some k_ ≠ (u17014002 : Value).ownBlock ∧ k_ ≠ gb17001 ∧ k_ ≠ gb17002 ∧ k_ ≠ gb17013) (.slice Ao77 x17014000_2.length co77) x17014000_2) ∧ Aside0 (Kd.R (Kd.int .i64) 3 w' w.heap.size (fun k_ => (w.heap.size ≤ k_)) u17014001 x17014001_3) ∧ Aside0 (Kd.N (Kd.slice 3 (Kd.int .i64)) 25 w' w.heap.size (fun k_ => (w.heap.size ≤ k_) ∧ some k_ ≠ ((.slice Ao77 x17014000_2.length co77) : Value).ownBlock ∧ some k_ ≠ (u17014001 : Value).ownBlock ∧ k_ ≠ gb17001 ∧ k_ ≠ gb17002 ∧ k_ ≠ gb17013) u17014002 x17014002_4) ∧ Aside0 (w'.heap[gb17001]? = some (.cells #[(.slice A0_0 l0_0.length c0_0), (.slice A0_1 l0_1.length c0_1)] 49 (0, 0))) ∧ Aside0 (w'.heap[gb17002]? = some (.cells #[(.slice none 0 0), (.slice none 0 0), (.slice none 0 0)] 34 (0, 0))) ∧ Aside0 (w'.heap[gb17013]? = some (.cells #[(.slice Ao77 x17014000_2.length co77), u17014001, u17014002] 34 (0, 0))) ∧ Aside0 (Below w.heap.size w w')))
                      case atStart => exact ⟨(0), (([] : List (List Int))), (.slice none 0 0), (by first | rfl | (simp; done) | (simp [*]; done)), H', ⟨Nat.le_refl _⟩, ⟨by (with_reducible repeat (first | apply Kd.N_alloc | apply Kd.N_drewN | apply Kd.N_drew)); exact Kd.N_mono HO_17014000.out (fun _ hk => ⟨hk.1, ⟨hk.2.2.1, ⟨(by simp [Value.ownBlock]), ⟨hk.2.2.2.1, ⟨hk.2.2.2.2.1, hk.2.2.2.2.2⟩⟩⟩⟩⟩)⟩, ⟨by (with_reducible repeat (first | apply Kd.R_alloc | apply Kd.R_drewN | apply Kd.R_drew)); exact HO_17014001.out⟩, ⟨by first | exact Kd.S_nil _ _ _ _ _ | exact Kd.N_nil _ _ _ _ _ | exact Kd.V_nil _ _ _ _ _ | exact Kd.Q_nil _ _ _ _ _ | exact Kd.R_nil _ _ _ _ _⟩, ⟨by (with_reducible repeat (first | refine blk_drewN ?_ _ | refine blk_drew ?_ | refine blk_alloc ?_ _)); exact BK17001.out⟩, ⟨by (with_reducible repeat (first | refine blk_drewN ?_ _ | refine blk_drew ?_ | refine blk_alloc ?_ _)); exact BK17002.out⟩, ⟨by (with_reducible repeat (first | refine blk_drewN ?_ _ | refine blk_drew ?_ | refine blk_alloc ?_ _)); exact BK17013.out⟩, ⟨by repeat (first | (with_reducible first | exact HB.out | apply below_alloc | apply pw_below_drewN | apply below_drew1 | refine below_set ?_ GE17001.out | refine below_set ?_ GE17002.out | refine below_set ?_ GE17013.out) | exact HB.out)⟩⟩
                      case round =>
                        clear H'
                        try clear c1
                        try clear p1
                        try clear q1
                        try clear hx1
                        try clear c2
                        try clear p2
                        try clear c3
                        try clear c4
                        try clear c5
                        try clear c6
                        try clear p6
                        try clear c7
                        try clear c8
                        try clear c17
                        try clear p17
                        try clear q17
                        try clear hx17
                        try clear c29
                        try clear c29b0
                        try clear c34
                        try clear c34b0
                        try clear c35
                        try clear c35b0
                        try clear c36
                        try clear c36b0
                        try clear c37
                        try clear c37b0
                        try clear c40
                        try clear c40b0
                        try clear c41
                        try clear c46
                        try clear c47
                        try clear c57
                        try clear c58
                        try clear c61
                        try clear c61b0
                        try clear c61b1
                        try clear c63
                        try clear c64
                        try clear p64
                        try clear c67
                        try clear c70
                        try clear c71
                        try clear c74
                        try clear c75
                        try clear c78
                        try clear c78b0
                        try clear c79
                        try clear c79b0
                        try clear c81
                        try clear hcz32_0
                        try clear hcz32_1
                        try clear hcz32_2
                        try clear hcz48_0
                        try clear hcz48_1
                        try clear hcz48_2
                        try clear hcz52_0
                        try clear hcz52_1
                        try clear hcz52_2
                        try clear hcz59_0
                        try clear hcz59_1
                        try clear hcz59_2
                        try clear hcz65_0
                        try clear hcz65_1
                        try clear hcz65_2
                        try clear hcz68_0
                        try clear hcz68_1
                        try clear hcz68_2
                        try clear hcz72_0
                        try clear hcz72_1
                        try clear hcz72_2
                        try clear hcz76_0
                        try clear hcz76_1
                        try clear hcz76_2
                        try clear hcz7_0
                        try clear hcz7_1
                        try clear hfz14_0
                        try clear hfz14_1
                        try clear hfz18_0
                        try clear hfz18_1
                        try clear hfz26_0
                        try clear hfz26_1
                        try clear hfz26_2
                        try clear hfz27_0
                        try clear hfz27_1
                        try clear hfz32_0
                        try clear hfz32_1
                        try clear hfz32_2
                        try clear hfz48_0
                        try clear hfz48_1
                        try clear hfz48_2
                        try clear hfz52_0
                        try clear hfz52_1
                        try clear hfz52_2
                        try clear hfz59_0
                        try clear hfz59_1
                        try clear hfz59_2
                        try clear hfz65_0
                        try clear hfz65_1
                        try clear hfz65_2
                        try clear hfz68_0
                        try clear hfz68_1
                        try clear hfz68_2
                        try clear hfz72_0
                        try clear hfz72_1
                        try clear hfz72_2
                        try clear hfz76_0
                        try clear hfz76_1
                        try clear hfz76_2
                        try clear hfz7_0
                        try clear hfz7_1
                        try clear hx17017_0
                        try clear hx17018_0
                        try clear hx17026_0
                        try clear p1
                        try clear p17
                        try clear p17017
                        try clear p17018
                        try clear p17026
                        try clear p2
                        try clear p6
                        try clear p64
                        try clear q1
                        try clear q17
                        try clear q17017
                        try clear q17018
                        try clear q17026
                        obtain ⟨x12_4, x17014002_4, u17014002, rfl, HA, HK4, HO_17014000, HO_17014001, HO_17014002, BK17001, BK17002, BK17013, HB⟩ := hrel
                        cases gk with
                        | zero => exact absurd HA.out (by simp [spec_BuildMonoid.l4])
                        | succ k4 =>
                          have H := HA.out
                          clear HA
                          simp only [spec_BuildMonoid.l4] at H
                          by_cases c88 : x12_4 < (x17014000_2.length : Int)
                          · rw [if_pos c88] at H
                            have c88b0 : decide (x12_4 < (x17014000_2.length : Int)) = true := decide_eq_true c88
                            clear c88
                            obtain ⟨y17031, hy17031⟩ : ∃ y_ : List Int, y_ = (([] : List Int)) := ⟨_, rfl⟩
                            replace H : (spec_BuildMonoid.l5 k4 x12_4 y17031 0 x17014000_2 x17014001_3 x17014002_4) = some (r1, r2, r3, r4) := by first | (rw [hy17031]; with_reducible exact H) | (have H2_ := (Option.bind_some _ _).symm.trans H; rw [hy17031]; with_reducible exact H2_) | (have H2_ := (Option.bind_some _ _).symm.trans H; with_reducible exact H2_) | with_reducible exact H | (rw [hy17031]; exact H) | exact H
                            have Ny17031 := Aside0.mk hy17031
                            clear hy17031
                            have H' := Aside0.mk H
                            clear H
                            have hnb89 := NB17013_17001.out
                            have hnc89 := NB17001_17013.out
                            have hnb90 := NB17013_17002.out
                            have hnc90 := NB17002_17013.out
                            have hcz91_0 : wr.cell? ⟨gb17013, 0, none⟩ = some (.slice Ao77 x17014000_2.length co77) := (blk_cell BK17013.out 0).trans rfl
                            have hcz91_1 : wr.cell? ⟨gb17013, 1, none⟩ = some (u17014001) := (blk_cell BK17013.out 1).trans rfl
                            have hcz91_2 : wr.cell? ⟨gb17013, 2, none⟩ = some (u17014002) := (blk_cell BK17013.out 2).trans rfl
                            have hfz91_0 := blk_frozen BK17013.out 0
                            have hfz91_1 := blk_frozen BK17013.out 1
                            have hfz91_2 := blk_frozen BK17013.out 2
                            go_wp2_with (first | ((with_reducible refine gate_dst (N := 100) rfl ?_); refine Kd.R_lit (Kd.int .i64) _ 3 ?hg (N := 100) ?hd (xs := ([] : List Int)) (inner := []) (ok := fun _ => True) (okp := fun _ => True) ?hr ?hp (fun _ hk => hk) trivial (Below.refl _ _) (Nat.le_refl _) (by simp) ?_; (case hd => rfl); (case hg => rfl); (case hr => first | (go_simp; done) | (go_simp; rfl)); (case hp => exact (Reps.none _ _)); intro v17032 w92 ho93 hb hg_ hnew_; clear hg_ hnew_; (first | rw [← Ny17031.out] at ho93 | (simp only [Int.reduceToNat] at ho93; rw [← Ny17031.out] at ho93)); have n0_ := Aside0.mk (Kd.N_elder' (by (with_reducible repeat (first | apply Kd.N_alloc | apply Kd.N_drewN | apply Kd.N_drew)); exact HO_17014000.out) (Kd.R_base ho93) hb); have n1_ := Aside0.mk (Kd.R_elder' (by (with_reducible repeat (first | apply Kd.R_alloc | apply Kd.R_drewN | apply Kd.R_drew)); exact HO_17014001.out) (Kd.R_base ho93) hb); have n2_ := Aside0.mk (Kd.N_elder' (by (with_reducible repeat (first | apply Kd.N_alloc | apply Kd.N_drewN | apply Kd.N_drew)); exact HO_17014002.out) (Kd.R_base ho93) hb); have n3_ := Aside0.mk (Kd.R_lower (Kd.R_new' (Kd.R_newM (M := fun k_ => (w.heap.size ≤ k_)) ho93 (below_size (by repeat (first | (with_reducible first | exact HB.out | apply below_alloc | apply pw_below_drewN | apply below_drew1 | refine below_set ?_ GE17001.out | refine below_set ?_ GE17002.out | refine below_set ?_ GE17013.out) | exact HB.out))) (fun k_ h_ => h_)) (Kd.R_lt (by (with_reducible repeat (first | apply Kd.R_alloc | apply Kd.R_drewN | apply Kd.R_drew)); exact HO_17014001.out))) (below_size (by repeat (first | (with_reducible first | exact HB.out | apply below_alloc | apply pw_below_drewN | apply below_drew1 | refine below_set ?_ GE17001.out | refine below_set ?_ GE17002.out | refine below_set ?_ GE17013.out) | exact HB.out)))); have n4_ := Aside0.mk (blk_below (g := gb17001) (o := .cells #[.slice A0_0 l0_0.length c0_0, .slice A0_1 l0_1.length c0_1] 49 (0, 0)) (by (with_reducible repeat (first | refine blk_drewN ?_ _ | refine blk_drew ?_ | refine blk_alloc ?_ _)); exact BK17001.out) hb); have n5_ := Aside0.mk (blk_below (g := gb17002) (o := .cells #[.slice none 0 0, .slice none 0 0, .slice none 0 0] 34 (0, 0)) (by (with_reducible repeat (first | refine blk_drewN ?_ _ | refine blk_drew ?_ | refine blk_alloc ?_ _)); exact BK17002.out) hb); have n6_ := Aside0.mk (blk_below (g := gb17013) (o := .cells #[.slice Ao77 x17014000_2.length co77, u17014001, u17014002] 34 (0, 0)) (by (with_reducible repeat (first | refine blk_drewN ?_ _ | refine blk_drew ?_ | refine blk_alloc ?_ _)); exact BK17013.out) hb); have n7_ := Aside0.mk (below_step (by repeat (first | (with_reducible first | exact HB.out | apply below_alloc | apply pw_below_drewN | apply below_drew1 | refine below_set ?_ GE17001.out | refine below_set ?_ GE17002.out | refine below_set ?_ GE17013.out) | exact HB.out)) hb); clear HO_17014000; clear HO_17014001; clear HO_17014002; clear BK17001; clear BK17002; clear BK17013; clear HB; have HO_17014000 := n0_; have HO_17014001 := n1_; have HO_17014002 := n2_; have HO17033 := n3_; have BK17001 := n4_; have BK17002 := n5_; have BK17013 := n6_; have HB := n7_; clear n0_ n1_ n2_ n3_ n4_ n5_ n6_ n7_; clear hb ho93))
                            first | go_loopg [13, 14] k4 (fun kq v13 v14 w' => ∃ (x13_5 : List Int) (x14_5 : Int), v14 = .int .i64 x14_5 ∧ Aside0 (spec_BuildMonoid.l5 kq x12_4 x13_5 x14_5 x17014000_2 x17014001_3 x17014002_4 = some (r1, r2, r3, r4)) ∧ Aside0 (kq ≤ k4) ∧ Aside0 (Kd.R (Kd.int .i64) 3 w' w.heap.size (fun k_ => (w.heap.size ≤ k_) ∧ some k_ ≠ (u17014001 : Value).ownBlock) v13 x13_5) ∧ Aside0 (Kd.N (Kd.slice 3 (Kd.int .i64)) 25 w' w.heap.size (fun k_ => (w.heap.size ≤ k_) ∧ some k_ ≠ (v13 : Value).ownBlock ∧ some k_ ≠ (u17014001 : Value).ownBlock ∧ some k_ ≠ (u17014002 : Value).ownBlock ∧ k_ ≠ gb17001 ∧ k_ ≠ gb17002 ∧ k_ ≠ gb17013) (.slice Ao77 x17014000_2.length co77) x17014000_2) ∧ Aside0 (Kd.R (Kd.int .i64) 3 w' w.heap.size (fun k_ => (w.heap.size ≤ k_) ∧ some k_ ≠ (v13 : Value).ownBlock) u17014001 x17014001_3) ∧ Aside0 (Kd.N (Kd.slice 3 (Kd.int .i64)) 25 w' w.heap.size (fun k_ => (w.heap.size ≤ k_) ∧ some k_ ≠ (v13 : Value).ownBlock ∧ some k_ ≠ ((.slice Ao77 x17014000_2.length co77) : Value).ownBlock ∧ some k_ ≠ (u17014001 : Value).ownBlock ∧ k_ ≠ gb17001 ∧ k_ ≠ gb17002 ∧ k_ ≠ gb17013) u17014002 x17014002_4) ∧ Aside0 (w'.heap[gb17001]? = some (.cells #[(.slice A0_0 l0_0.length c0_0), (.slice A0_1 l0_1.length c0_1)] 49 (0, 0))) ∧ Aside0 (w'.heap[gb17002]? = some (.cells #[(.slice none 0 0), (.slice none 0 0), (.slice none 0 0)] 34 (0, 0))) ∧ Aside0 (w'.heap[gb17013]? = some (.cells #[(.slice Ao77 x17014000_2.length co77), u17014001, u17014002] 34 (0, 0))) ∧ Aside0 (Below w.heap.size w w')) | (simp only [Act.put, List.setIfInBounds_toArray, List.set_cons_succ, List.set_cons_zero]; go_loopg [13, 14] k4 (fun kq v13 v14 w' => ∃ (x13_5 : List Int) (x14_5 : Int), v14 = .int .i64 x14_5 ∧ Aside0 (spec_BuildMonoid.l5 kq x12_4 x13_5 x14_5 x17014000_2 x17014001_3 x17014002_4 = some (r1, r2, r3, r4)) ∧ Aside0 (kq ≤ k4) ∧ Aside0 (Kd.R (Kd.int .i64) 3 w' w.heap.size (fun k_ => (w.heap.size ≤ k_) ∧ some k_ ≠ (u17014001 : Value).ownBlock) v13 x13_5) ∧ Aside0 (Kd.N (Kd.slice 3 (Kd.int .i64)) 25 w' w.heap.size (fun k_ => (w.heap.size ≤ k_) ∧ some k_ ≠ (v13 : Value).ownBlock ∧ some k_ ≠ (u17014001 : Value).ownBlock ∧ some k_ ≠ (u17014002 : Value).ownBlock ∧ k_ ≠ gb17001 ∧ k_ ≠ gb17002 ∧ k_ ≠ gb17013) (.slice Ao77 x17014000_2.length co77) x17014000_2) ∧ Aside0 (Kd.R (Kd.int .i64) 3 w' w.heap.size (fun k_ => (w.heap.size ≤ k_) ∧ some k_ ≠ (v13 : Value).ownBlock) u17014001 x17014001_3) ∧ Aside0 (Kd.N (Kd.slice 3 (Kd.int .i64)) 25 w' w.heap.size (fun k_ => (w.heap.size ≤ k_) ∧ some k_ ≠ (v13 : Value).ownBlock ∧ some k_ ≠ ((.slice Ao77 x17014000_2.length co77) : Value).ownBlock ∧ some k_ ≠ (u17014001 : Value).ownBlock ∧ k_ ≠ gb17001 ∧ k_ ≠ gb17002 ∧ k_ ≠ gb17013) u17014002 x17014002_4) ∧ Aside0 (w'.heap[gb17001]? = some (.cells #[(.slice A0_0 l0_0.length c0_0), (.slice A0_1 l0_1.length c0_1)] 49 (0, 0))) ∧ Aside0 (w'.heap[gb17002]? = some (.cells #[(.slice none 0 0), (.slice none 0 0), (.slice none 0 0)] 34 (0, 0))) ∧ Aside0 (w'.heap[gb17013]? = some (.cells #[(.slice Ao77 x17014000_2.length co77), u17014001, u17014002] 34 (0, 0))) ∧ Aside0 (Below w.heap.size w w')))
                            case atStart => exact ⟨(y17031), (0), (by first | rfl | (simp; done) | (simp [*]; done)), H', ⟨Nat.le_refl _⟩, ⟨by (with_reducible repeat (first | apply Kd.R_alloc | apply Kd.R_drewN | apply Kd.R_drew)); exact Kd.R_mono HO17033.out (fun _ hk => ⟨hk.1.1, hk.2⟩)⟩, ⟨by (with_reducible repeat (first | apply Kd.N_alloc | apply Kd.N_drewN | apply Kd.N_drew)); exact Kd.N_mono HO_17014000.out (fun _ hk => ⟨hk.1.1, ⟨hk.2, ⟨hk.1.2.1, ⟨hk.1.2.2.1, ⟨hk.1.2.2.2.1, ⟨hk.1.2.2.2.2.1, hk.1.2.2.2.2.2⟩⟩⟩⟩⟩⟩)⟩, ⟨by (with_reducible repeat (first | apply Kd.R_alloc | apply Kd.R_drewN | apply Kd.R_drew)); exact HO_17014001.out⟩, ⟨by (with_reducible repeat (first | apply Kd.N_alloc | apply Kd.N_drewN | apply Kd.N_drew)); exact Kd.N_mono HO_17014002.out (fun _ hk => ⟨hk.1.1, ⟨hk.2, ⟨hk.1.2.1, ⟨hk.1.2.2.1, ⟨hk.1.2.2.2.1, ⟨hk.1.2.2.2.2.1, hk.1.2.2.2.2.2⟩⟩⟩⟩⟩⟩)⟩, ⟨by (with_reducible repeat (first | refine blk_drewN ?_ _ | refine blk_drew ?_ | refine blk_alloc ?_ _)); exact BK17001.out⟩, ⟨by (with_reducible repeat (first | refine blk_drewN ?_ _ | refine blk_drew ?_ | refine blk_alloc ?_ _)); exact BK17002.out⟩, ⟨by (with_reducible repeat (first | refine blk_drewN ?_ _ | refine blk_drew ?_ | refine blk_alloc ?_ _)); exact BK17013.out⟩, ⟨by repeat (first | (with_reducible first | exact HB.out | apply below_alloc | apply pw_below_drewN | apply below_drew1 | refine below_set ?_ GE17001.out | refine below_set ?_ GE17002.out | refine below_set ?_ GE17013.out) | exact HB.out)⟩⟩
                            case round =>
                              clear H'
                              try clear c1
                              try clear p1
                              try clear q1
                              try clear hx1
                              try clear c2
                              try clear p2
                              try clear c3
                              try clear c4
                              try clear c5
                              try clear c6
                              try clear p6
                              try clear c7
                              try clear c8
                              try clear c9
                              try clear c17
                              try clear p17
                              try clear q17
                              try clear hx17
                              try clear c29
                              try clear c29b0
                              try clear c34
                              try clear c34b0
                              try clear c35
                              try clear c35b0
                              try clear c36
                              try clear c36b0
                              try clear c37
                              try clear c37b0
                              try clear c40
                              try clear c40b0
                              try clear c41
                              try clear c46
                              try clear c47
                              try clear c57
                              try clear c58
                              try clear c61
                              try clear c61b0
                              try clear c61b1
                              try clear c63
                              try clear c64
                              try clear p64
                              try clear c67
                              try clear c70
                              try clear c71
                              try clear c74
                              try clear c75
                              try clear c78
                              try clear c78b0
                              try clear c79
                              try clear c79b0
                              try clear c81
                              try clear c88
                              try clear c88b0
                              try clear c89
                              try clear c90
                              try clear hcz32_0
                              try clear hcz32_1
                              try clear hcz32_2
                              try clear hcz48_0
                              try clear hcz48_1
                              try clear hcz48_2
                              try clear hcz52_0
                              try clear hcz52_1
                              try clear hcz52_2
                              try clear hcz59_0
                              try clear hcz59_1
                              try clear hcz59_2
                              try clear hcz65_0
                              try clear hcz65_1
                              try clear hcz65_2
                              try clear hcz68_0
                              try clear hcz68_1
                              try clear hcz68_2
                              try clear hcz72_0
                              try clear hcz72_1
                              try clear hcz72_2
                              try clear hcz76_0
                              try clear hcz76_1
                              try clear hcz76_2
                              try clear hcz7_0
                              try clear hcz7_1
                              try clear hcz91_0
                              try clear hcz91_1
                              try clear hcz91_2
                              try clear hfz14_0
                              try clear hfz14_1
                              try clear hfz18_0
                              try clear hfz18_1
                              try clear hfz26_0
                              try clear hfz26_1
                              try clear hfz26_2
                              try clear hfz27_0
                              try clear hfz27_1
                              try clear hfz32_0
                              try clear hfz32_1
                              try clear hfz32_2
                              try clear hfz48_0
                              try clear hfz48_1
                              try clear hfz48_2
                              try clear hfz52_0
                              try clear hfz52_1
                              try clear hfz52_2
                              try clear hfz59_0
                              try clear hfz59_1
                              try clear hfz59_2
                              try clear hfz65_0
                              try clear hfz65_1
                              try clear hfz65_2
                              try clear hfz68_0
                              try clear hfz68_1
                              try clear hfz68_2
                              try clear hfz72_0
                              try clear hfz72_1
                              try clear hfz72_2
                              try clear hfz76_0
                              try clear hfz76_1
                              try clear hfz76_2
                              try clear hfz7_0
                              try clear hfz7_1
                              try clear hfz91_0
                              try clear hfz91_1
                              try clear hfz91_2
                              try clear hx17017_0
                              try clear hx17018_0
                              try clear hx17026_0
                              try clear p1
                              try clear p17
                              try clear p17017
                              try clear p17018
                              try clear p17026
                              try clear p2
                              try clear p6
                              try clear p64
                              try clear q1
                              try clear q17
                              try clear q17017
                              try clear q17018
                              try clear q17026
                              obtain ⟨x13_5, x14_5, rfl, HA, HK5, HO_13, HO_17014000, HO_17014001, HO_17014002, BK17001, BK17002, BK17013, HB⟩ := hrel
                              cases gk with
                              | zero => exact absurd HA.out (by simp [spec_BuildMonoid.l5])
                              | succ k5 =>
                                have H := HA.out
                                clear HA
                                simp only [spec_BuildMonoid.l5] at H
                                by_cases c94 : x14_5 < (x17014000_2.length : Int)
                                · rw [if_pos c94] at H
                                  have c94b0 : decide (x14_5 < (x17014000_2.length : Int)) = true := decide_eq_true c94
                                  clear c94
                                  by_cases c95 : 0 ≤ x12_4
                                  · rw [if_pos c95] at H
                                    have c95b0 : decide (0 ≤ x12_4) = true := decide_eq_true c95
                                    clear c95
                                    by_cases c96 : x12_4 < (x17014000_2.length : Int)
                                    · rw [if_pos c96] at H
                                      have c96b0 : decide (x12_4 < (x17014000_2.length : Int)) = true := decide_eq_true c96
                                      clear c96
                                      by_cases c97 : 0 ≤ x14_5
                                      · rw [if_pos c97] at H
                                        have c97b0 : decide (0 ≤ x14_5) = true := decide_eq_true c97
                                        clear c97
                                        replace H := Option.bind_eq_some_iff.mp H
                                        obtain ⟨t17036, A980, H⟩ := H
                                        replace H : ((spec_l13Find.f k5 x17014000_2 t17036).bind fun t17039 => (if x13_5.length < 17592186044416 then (spec_BuildMonoid.l5 k5 x12_4 (x13_5 ++ [t17039]) (wrap64 (x14_5 + 1)) x17014000_2 x17014001_3 x17014002_4) else (none))) = some (r1, r2, r3, r4) := H
                                        have A98 := Aside0.mk A980
                                        clear A980
                                        replace H := Option.bind_eq_some_iff.mp H
                                        obtain ⟨t17039, A990, H⟩ := H
                                        replace H : (if x13_5.length < 17592186044416 then (spec_BuildMonoid.l5 k5 x12_4 (x13_5 ++ [t17039]) (wrap64 (x14_5 + 1)) x17014000_2 x17014001_3 x17014002_4) else (none)) = some (r1, r2, r3, r4) := H
                                        have A99 := Aside0.mk A990
                                        clear A990
                                        by_cases c100 : x13_5.length < 17592186044416
                                        · rw [if_pos c100] at H
                                          have LMc100 := Aside0.mk c100
                                          clear c100
                                          obtain ⟨y17040, hy17040⟩ : ∃ y_ : List Int, y_ = (x13_5 ++ [t17039]) := ⟨_, rfl⟩
                                          replace H : (spec_BuildMonoid.l5 k5 x12_4 y17040 (wrap64 (x14_5 + 1)) x17014000_2 x17014001_3 x17014002_4) = some (r1, r2, r3, r4) := by first | (rw [hy17040]; with_reducible exact H) | (have H2_ := (Option.bind_some _ _).symm.trans H; rw [hy17040]; with_reducible exact H2_) | (have H2_ := (Option.bind_some _ _).symm.trans H; with_reducible exact H2_) | with_reducible exact H | (rw [hy17040]; exact H) | exact H
                                          have Ny17040 := Aside0.mk hy17040
                                          clear hy17040
                                          have H' := Aside0.mk H
                                          clear H
                                          have hnb101 := NB17013_17001.out
                                          have hnc101 := NB17001_17013.out
                                          have hnb102 := NB17013_17002.out
                                          have hnc102 := NB17002_17013.out
                                          have hcz103_0 : wr.cell? ⟨gb17013, 0, none⟩ = some (.slice Ao77 x17014000_2.length co77) := (blk_cell BK17013.out 0).trans rfl
                                          have hcz103_1 : wr.cell? ⟨gb17013, 1, none⟩ = some (u17014001) := (blk_cell BK17013.out 1).trans rfl
                                          have hcz103_2 : wr.cell? ⟨gb17013, 2, none⟩ = some (u17014002) := (blk_cell BK17013.out 2).trans rfl
                                          have hfz103_0 := blk_frozen BK17013.out 0
                                          have hfz103_1 := blk_frozen BK17013.out 1
                                          have hfz103_2 := blk_frozen BK17013.out 2
                                          try go_wp2
                                          have n0_ := Aside0.mk (Kd.R_drew HO_13.out)
                                          have n1_ := Aside0.mk (Kd.N_drew HO_17014000.out)
                                          have n2_ := Aside0.mk (Kd.R_drew HO_17014001.out)
                                          have n3_ := Aside0.mk (Kd.N_drew HO_17014002.out)
                                          have n4_ := Aside0.mk (blk_drew BK17001.out)
                                          have n5_ := Aside0.mk (blk_drew BK17002.out)
                                          have n6_ := Aside0.mk (blk_drew BK17013.out)
                                          have n7_ := Aside0.mk (below_drew1 HB.out)
                                          clear HO_13
                                          clear HO_17014000
                                          clear HO_17014001
                                          clear HO_17014002
                                          clear BK17001
                                          clear BK17002
                                          clear BK17013
                                          clear HB
                                          have HO_13 := n0_
                                          have HO_17014000 := n1_
                                          have HO_17014001 := n2_
                                          have HO_17014002 := n3_
                                          have BK17001 := n4_
                                          have BK17002 := n5_
                                          have BK17013 := n6_
                                          have HB := n7_
                                          clear n0_ n1_ n2_ n3_ n4_ n5_ n6_ n7_
                                          have p17034 : 0 ≤ (x12_4 : Int) := of_decide_eq_true (by first | (with_reducible assumption) | assumption)
                                          have q17034 : x12_4 < (x17014000_2.length : Int) := of_decide_eq_true (by first | (with_reducible assumption) | assumption)
                                          obtain ⟨ad17034, A17034_0, c17034_0, e17034, hx17034_0, hl17034_0, hi17034_0⟩ := at_L1 (Kd.N_reads' HO_17014000.out).2.2 x12_4 p17034 q17034
                                          cases e17034
                                          obtain ⟨ce17034, hce17034, hMe17034, hcc17034⟩ := Kd.N_get HO_17014000.out [] x12_4 p17034 (by first | exact q17034 | exact of_decide_eq_true (by first | (with_reducible assumption) | assumption) | (have e_ := (Kd.N_reads' HO_17014000.out).1; omega))
                                          obtain ⟨ua17034_0, uc17034_0, rfl, ul17034_0, ge17034_0⟩ := Kd.FK_slice_open hMe17034
                                          have hv17034_0 := hcc17034 0 _ rfl
                                          rw [Nat.add_zero, show ((Kd.slice 3 (Kd.int .i64))).sz = 1 from rfl, Nat.mul_one] at hv17034_0
                                          replace hv17034_0 := Option.some.inj (hv17034_0.symm.trans hx17034_0)
                                          injection hv17034_0 with hva_ hvn_ hvc_
                                          rw [hva_] at ge17034_0
                                          rw [hvc_] at ul17034_0
                                          have HL17034_0 := Aside0.mk (show Kd.V (Kd.int .i64) 3 _ w.heap.size _ _ (rd_L1 x17014000_2 x12_4) from Kd.V_mk ul17034_0 ge17034_0)
                                          clear hva_ hvn_ hvc_ ge17034_0 ul17034_0
                                          clear hcc17034 hce17034
                                          have HR17034_0 := Aside0.mk hi17034_0
                                          have HC17034_0 := Aside0.mk hl17034_0
                                          clear hi17034_0 hl17034_0
                                          replace p17034 := eq_true p17034
                                          replace q17034 := eq_true q17034
                                          have p17035 : 0 ≤ (x14_5 : Int) := of_decide_eq_true (by first | (with_reducible assumption) | assumption)
                                          have q17035 : x14_5 < (x17014000_2.length : Int) := of_decide_eq_true (by first | (with_reducible assumption) | assumption)
                                          obtain ⟨ad17035, A17035_0, c17035_0, e17035, hx17035_0, hl17035_0, hi17035_0⟩ := at_L1 (Kd.N_reads' HO_17014000.out).2.2 x14_5 p17035 q17035
                                          obtain rfl : ad17034 = ad17035 := (by injection e17035)
                                          obtain ⟨ce17035, hce17035, hMe17035, hcc17035⟩ := Kd.N_get HO_17014000.out [] x14_5 p17035 (by first | exact q17035 | exact of_decide_eq_true (by first | (with_reducible assumption) | assumption) | (have e_ := (Kd.N_reads' HO_17014000.out).1; omega))
                                          obtain ⟨ua17035_0, uc17035_0, rfl, ul17035_0, ge17035_0⟩ := Kd.FK_slice_open hMe17035
                                          have hv17035_0 := hcc17035 0 _ rfl
                                          rw [Nat.add_zero, show ((Kd.slice 3 (Kd.int .i64))).sz = 1 from rfl, Nat.mul_one] at hv17035_0
                                          replace hv17035_0 := Option.some.inj (hv17035_0.symm.trans hx17035_0)
                                          injection hv17035_0 with hva_ hvn_ hvc_
                                          rw [hva_] at ge17035_0
                                          rw [hvc_] at ul17035_0
                                          have HL17035_0 := Aside0.mk (show Kd.V (Kd.int .i64) 3 _ w.heap.size _ _ (rd_L1 x17014000_2 x14_5) from Kd.V_mk ul17035_0 ge17035_0)
                                          clear hva_ hvn_ hvc_ ge17035_0 ul17035_0
                                          clear hcc17035 hce17035
                                          have HR17035_0 := Aside0.mk hi17035_0
                                          have HC17035_0 := Aside0.mk hl17035_0
                                          clear hi17035_0 hl17035_0
                                          replace p17035 := eq_true p17035
                                          replace q17035 := eq_true q17035
                                          refine start_ (n := 18) (S := fun w' => w'.cell? ⟨gb17013, 0, none⟩ = some (.slice (some ad17034) x17014000_2.length co77) ∧ w'.cell? ⟨gb17013, 1, none⟩ = some (u17014001) ∧ w'.cell? ⟨gb17013, 2, none⟩ = some (u17014002) ∧ w'.cell? (ad17034.add (x12_4).toNat) = some (.slice A17034_0 (rd_L1 x17014000_2 x12_4).length c17034_0) ∧ w'.cell? (ad17034.add (x14_5).toNat) = some (.slice A17035_0 (rd_L1 x17014000_2 x14_5).length c17035_0)) (ds := [15, 16]) #[false, false, false, false, false, false, false, false, false, false, false, false, false, false, false, false, false, false] (by kernel_rfl) rfl rfl ⟨(blk_cell BK17013.out 0).trans rfl, (blk_cell BK17013.out 1).trans rfl, (blk_cell BK17013.out 2).trans rfl, hx17034_0, hx17035_0⟩ (fun hHeld => ?_); refine with_tabW spec_BuildMonoid.tab32 spec_BuildMonoid.bits32 (fun HT_ HW_ => ?_)
                                          generalize wr.drew = w104 at HO_13 HO_17014000 HO_17014001 HO_17014002 BK17001 BK17002 BK17013 HB HL17034_0 HL17035_0 HR17034_0 HR17035_0 hx17034_0 hx17035_0 hHeld ⊢
                                          refine pure_ (i := 0) (N := some 108) (v := ?_) (a' := ?_) #[true, false, false, false, false, false, false, false, false, false, false, false, false, false, false, false, false, false] rfl rfl (any_of HT_.out (by kernel_rfl)) (fun _ _ _ h => h) (Or.inl ⟨by rfl, ?_⟩) ?_ ?_
                                          rotate_left
                                          · intro w'
                                            go_simp
                                            first | with_reducible rfl | (rw [if_neg (by omega)]; done) | (rw [if_neg (by (try simp only [decide_eq_true_eq, decide_eq_false_iff_not, eq_iff_iff, iff_true, iff_false] at *); (try simp only [ByteArray.size_extract, ByteArray.size_append, show (⟨#[97, 98, 99]⟩ : ByteArray).size = 3 from rfl, show (⟨#[88, 89, 90]⟩ : ByteArray).size = 3 from rfl, show (⟨#[61]⟩ : ByteArray).size = 1 from rfl] at *); omega)]; done)
                                          rotate_left
                                          · simp only [Act.put, List.setIfInBounds_toArray, List.set_cons_zero, List.set_cons_succ, i64_w, i32_w]
                                            rfl
                                          refine pure_ (i := 1) (N := some 109) (v := ?_) (a' := ?_) #[true, true, false, false, false, false, false, false, false, false, false, false, false, false, false, false, false, false] rfl rfl (any_of HT_.out (by kernel_rfl)) (fun _ _ _ h => h) (Or.inl ⟨by rfl, ?_⟩) ?_ ?_
                                          rotate_left
                                          · intro w'
                                            go_simp
                                            first | with_reducible rfl | (rw [if_neg (by omega)]; done) | (rw [if_neg (by (try simp only [decide_eq_true_eq, decide_eq_false_iff_not, eq_iff_iff, iff_true, iff_false] at *); (try simp only [ByteArray.size_extract, ByteArray.size_append, show (⟨#[97, 98, 99]⟩ : ByteArray).size = 3 from rfl, show (⟨#[88, 89, 90]⟩ : ByteArray).size = 3 from rfl, show (⟨#[61]⟩ : ByteArray).size = 1 from rfl] at *); omega)]; done)
                                          rotate_left
                                          · simp only [Act.put, List.setIfInBounds_toArray, List.set_cons_zero, List.set_cons_succ, i64_w, i32_w]
                                            rfl
                                          refine pure_ (i := 3) (N := some 111) (v := ?_) (a' := ?_) #[true, true, false, true, false, false, false, false, false, false, false, false, false, false, false, false, false, false] rfl rfl (any_of HT_.out (by kernel_rfl)) (fun _ _ _ h => h) (Or.inl ⟨by rfl, ?_⟩) ?_ ?_
                                          rotate_left
                                          · intro w'
                                            go_simp
                                            first | with_reducible rfl | (rw [if_neg (by omega)]; done) | (rw [if_neg (by (try simp only [decide_eq_true_eq, decide_eq_false_iff_not, eq_iff_iff, iff_true, iff_false] at *); (try simp only [ByteArray.size_extract, ByteArray.size_append, show (⟨#[97, 98, 99]⟩ : ByteArray).size = 3 from rfl, show (⟨#[88, 89, 90]⟩ : ByteArray).size = 3 from rfl, show (⟨#[61]⟩ : ByteArray).size = 1 from rfl] at *); omega)]; done)
                                          rotate_left
                                          · simp only [Act.put, List.setIfInBounds_toArray, List.set_cons_zero, List.set_cons_succ, i64_w, i32_w]
                                            rfl
                                          refine pure_ (i := 5) (N := some 113) (v := ?_) (a' := ?_) #[true, true, false, true, false, true, false, false, false, false, false, false, false, false, false, false, false, false] rfl rfl (any_of HT_.out (by kernel_rfl)) (fun _ _ _ h => h) (Or.inl ⟨by rfl, ?_⟩) ?_ ?_
                                          rotate_left
                                          · intro w'
                                            go_simp
                                            first | with_reducible rfl | (rw [if_neg (by omega)]; done) | (rw [if_neg (by (try simp only [decide_eq_true_eq, decide_eq_false_iff_not, eq_iff_iff, iff_true, iff_false] at *); (try simp only [ByteArray.size_extract, ByteArray.size_append, show (⟨#[97, 98, 99]⟩ : ByteArray).size = 3 from rfl, show (⟨#[88, 89, 90]⟩ : ByteArray).size = 3 from rfl, show (⟨#[61]⟩ : ByteArray).size = 1 from rfl] at *); omega)]; done)
                                          rotate_left
                                          · simp only [Act.put, List.setIfInBounds_toArray, List.set_cons_zero, List.set_cons_succ, i64_w, i32_w]
                                            rfl
                                          refine pure_ (i := 8) (N := some 116) (v := ?_) (a' := ?_) #[true, true, false, true, false, true, false, false, true, false, false, false, false, false, false, false, false, false] rfl rfl (any_of HT_.out (by kernel_rfl)) (fun _ _ _ h => h) (Or.inl ⟨by rfl, ?_⟩) ?_ ?_
                                          rotate_left
                                          · intro w'
                                            go_simp
                                            first | with_reducible rfl | (rw [if_neg (by omega)]; done) | (rw [if_neg (by (try simp only [decide_eq_true_eq, decide_eq_false_iff_not, eq_iff_iff, iff_true, iff_false] at *); (try simp only [ByteArray.size_extract, ByteArray.size_append, show (⟨#[97, 98, 99]⟩ : ByteArray).size = 3 from rfl, show (⟨#[88, 89, 90]⟩ : ByteArray).size = 3 from rfl, show (⟨#[61]⟩ : ByteArray).size = 1 from rfl] at *); omega)]; done)
                                          rotate_left
                                          · simp only [Act.put, List.setIfInBounds_toArray, List.set_cons_zero, List.set_cons_succ, i64_w, i32_w]
                                            rfl
                                          refine pure_ (i := 10) (N := some 118) (v := ?_) (a' := ?_) #[true, true, false, true, false, true, false, false, true, false, true, false, false, false, false, false, false, false] rfl rfl (any_of HT_.out (by kernel_rfl)) (fun _ _ _ h => h) (Or.inl ⟨by rfl, ?_⟩) ?_ ?_
                                          rotate_left
                                          · intro w'
                                            go_simp
                                            first | with_reducible rfl | (rw [if_neg (by omega)]; done) | (rw [if_neg (by (try simp only [decide_eq_true_eq, decide_eq_false_iff_not, eq_iff_iff, iff_true, iff_false] at *); (try simp only [ByteArray.size_extract, ByteArray.size_append, show (⟨#[97, 98, 99]⟩ : ByteArray).size = 3 from rfl, show (⟨#[88, 89, 90]⟩ : ByteArray).size = 3 from rfl, show (⟨#[61]⟩ : ByteArray).size = 1 from rfl] at *); omega)]; done)
                                          rotate_left
                                          · simp only [Act.put, List.setIfInBounds_toArray, List.set_cons_zero, List.set_cons_succ, i64_w, i32_w]
                                            rfl
                                          refine take_ (i := 2) (N := some 110) (v := ?_) (a' := ?_) #[true, true, true, true, false, true, false, false, true, false, true, false, false, false, false, false, false, false] rfl rfl (take_ofW HT_.out HW_.out (by kernel_rfl)) (fun _ _ _ h => h) (Or.inl ⟨by rfl, ?_⟩) hHeld ?_ ?_
                                          rotate_left
                                          · rintro w' ⟨s0, s1, s2, s3, s4⟩
                                            go_simp
                                            first | with_reducible rfl | (rw [if_neg (by omega)]; done) | (rw [if_neg (by (try simp only [decide_eq_true_eq, decide_eq_false_iff_not, eq_iff_iff, iff_true, iff_false] at *); (try simp only [ByteArray.size_extract, ByteArray.size_append, show (⟨#[97, 98, 99]⟩ : ByteArray).size = 3 from rfl, show (⟨#[88, 89, 90]⟩ : ByteArray).size = 3 from rfl, show (⟨#[61]⟩ : ByteArray).size = 1 from rfl] at *); omega)]; done)
                                          rotate_left
                                          · simp only [Act.put, List.setIfInBounds_toArray, List.set_cons_zero, List.set_cons_succ, i64_w, i32_w]
                                            rfl
                                          refine take_ (i := 4) (N := some 112) (v := ?_) (a' := ?_) #[true, true, true, true, true, true, false, false, true, false, true, false, false, false, false, false, false, false] rfl rfl (take_ofW HT_.out HW_.out (by kernel_rfl)) (fun _ _ _ h => h) (Or.inl ⟨by rfl, ?_⟩) hHeld ?_ ?_
                                          rotate_left
                                          · rintro w' ⟨s0, s1, s2, s3, s4⟩
                                            go_simp
                                            first | with_reducible rfl | (rw [if_neg (by omega)]; done) | (rw [if_neg (by (try simp only [decide_eq_true_eq, decide_eq_false_iff_not, eq_iff_iff, iff_true, iff_false] at *); (try simp only [ByteArray.size_extract, ByteArray.size_append, show (⟨#[97, 98, 99]⟩ : ByteArray).size = 3 from rfl, show (⟨#[88, 89, 90]⟩ : ByteArray).size = 3 from rfl, show (⟨#[61]⟩ : ByteArray).size = 1 from rfl] at *); omega)]; done)
                                          rotate_left
                                          · simp only [Act.put, List.setIfInBounds_toArray, List.set_cons_zero, List.set_cons_succ, i64_w, i32_w]
                                            rfl
                                          refine pure_ (i := 6) (N := some 114) (v := ?_) (a' := ?_) #[true, true, true, true, true, true, true, false, true, false, true, false, false, false, false, false, false, false] rfl rfl (any_of HT_.out (by kernel_rfl)) (fun _ _ _ h => h) (Or.inl ⟨by rfl, ?_⟩) ?_ ?_
                                          rotate_left
                                          · intro w'
                                            go_simp
                                            first | with_reducible rfl | (rw [if_neg (by omega)]; done) | (rw [if_neg (by (try simp only [decide_eq_true_eq, decide_eq_false_iff_not, eq_iff_iff, iff_true, iff_false] at *); (try simp only [ByteArray.size_extract, ByteArray.size_append, show (⟨#[97, 98, 99]⟩ : ByteArray).size = 3 from rfl, show (⟨#[88, 89, 90]⟩ : ByteArray).size = 3 from rfl, show (⟨#[61]⟩ : ByteArray).size = 1 from rfl] at *); omega)]; done)
                                          rotate_left
                                          · simp only [Act.put, List.setIfInBounds_toArray, List.set_cons_zero, List.set_cons_succ, i64_w, i32_w]
                                            rfl
                                          refine take_ (i := 7) (N := some 115) (v := ?_) (a' := ?_) #[true, true, true, true, true, true, true, true, true, false, true, false, false, false, false, false, false, false] rfl rfl (take_ofW HT_.out HW_.out (by kernel_rfl)) (fun _ _ _ h => h) (Or.inl ⟨by rfl, ?_⟩) hHeld ?_ ?_
                                          rotate_left
                                          · rintro w' ⟨s0, s1, s2, s3, s4⟩
                                            go_simp
                                            first | with_reducible rfl | (rw [if_neg (by omega)]; done) | (rw [if_neg (by (try simp only [decide_eq_true_eq, decide_eq_false_iff_not, eq_iff_iff, iff_true, iff_false] at *); (try simp only [ByteArray.size_extract, ByteArray.size_append, show (⟨#[97, 98, 99]⟩ : ByteArray).size = 3 from rfl, show (⟨#[88, 89, 90]⟩ : ByteArray).size = 3 from rfl, show (⟨#[61]⟩ : ByteArray).size = 1 from rfl] at *); omega)]; done)
                                          rotate_left
                                          · simp only [Act.put, List.setIfInBounds_toArray, List.set_cons_zero, List.set_cons_succ, i64_w, i32_w]
                                            rfl
                                          refine take_ (i := 9) (N := some 117) (v := ?_) (a' := ?_) #[true, true, true, true, true, true, true, true, true, true, true, false, false, false, false, false, false, false] rfl rfl (take_ofW HT_.out HW_.out (by kernel_rfl)) (fun _ _ _ h => h) (Or.inl ⟨by rfl, ?_⟩) hHeld ?_ ?_
                                          rotate_left
                                          · rintro w' ⟨s0, s1, s2, s3, s4⟩
                                            go_simp
                                            first | with_reducible rfl | (rw [if_neg (by omega)]; done) | (rw [if_neg (by (try simp only [decide_eq_true_eq, decide_eq_false_iff_not, eq_iff_iff, iff_true, iff_false] at *); (try simp only [ByteArray.size_extract, ByteArray.size_append, show (⟨#[97, 98, 99]⟩ : ByteArray).size = 3 from rfl, show (⟨#[88, 89, 90]⟩ : ByteArray).size = 3 from rfl, show (⟨#[61]⟩ : ByteArray).size = 1 from rfl] at *); omega)]; done)
                                          rotate_left
                                          · simp only [Act.put, List.setIfInBounds_toArray, List.set_cons_zero, List.set_cons_succ, i64_w, i32_w]
                                            rfl
                                          refine pure_ (i := 11) (N := some 119) (v := ?_) (a' := ?_) #[true, true, true, true, true, true, true, true, true, true, true, true, false, false, false, false, false, false] rfl rfl (any_of HT_.out (by kernel_rfl)) (fun _ _ _ h => h) (Or.inl ⟨by rfl, ?_⟩) ?_ ?_
                                          rotate_left
                                          · intro w'
                                            go_simp
                                            first | with_reducible rfl | (rw [if_neg (by omega)]; done) | (rw [if_neg (by (try simp only [decide_eq_true_eq, decide_eq_false_iff_not, eq_iff_iff, iff_true, iff_false] at *); (try simp only [ByteArray.size_extract, ByteArray.size_append, show (⟨#[97, 98, 99]⟩ : ByteArray).size = 3 from rfl, show (⟨#[88, 89, 90]⟩ : ByteArray).size = 3 from rfl, show (⟨#[61]⟩ : ByteArray).size = 1 from rfl] at *); omega)]; done)
                                          rotate_left
                                          · simp only [Act.put, List.setIfInBounds_toArray, List.set_cons_zero, List.set_cons_succ, i64_w, i32_w]
                                            rfl
                                          refine take_ (i := 12) (N := some 120) (v := ?_) (a' := ?_) #[true, true, true, true, true, true, true, true, true, true, true, true, true, false, false, false, false, false] rfl rfl (take_ofW HT_.out HW_.out (by kernel_rfl)) (fun _ _ _ h => h) (Or.inl ⟨by rfl, ?_⟩) hHeld ?_ ?_
                                          rotate_left
                                          · rintro w' ⟨s0, s1, s2, s3, s4⟩
                                            go_simp
                                            first | with_reducible rfl | (rw [if_neg (by omega)]; done) | (rw [if_neg (by (try simp only [decide_eq_true_eq, decide_eq_false_iff_not, eq_iff_iff, iff_true, iff_false] at *); (try simp only [ByteArray.size_extract, ByteArray.size_append, show (⟨#[97, 98, 99]⟩ : ByteArray).size = 3 from rfl, show (⟨#[88, 89, 90]⟩ : ByteArray).size = 3 from rfl, show (⟨#[61]⟩ : ByteArray).size = 1 from rfl] at *); omega)]; done)
                                          rotate_left
                                          · simp only [Act.put, List.setIfInBounds_toArray, List.set_cons_zero, List.set_cons_succ, i64_w, i32_w]
                                            rfl
                                          refine one_ (i := 13) (N := some 121) #[true, true, true, true, true, true, true, true, true, true, true, true, true, true, false, false, false, false] rfl rfl (one_of HT_.out (by kernel_rfl)) (by decide) (fun K hK => ?_)
                                          refine goes_ Try.func63 (by kernel_rfl) rfl #[.slice A17034_0 (rd_L1 x17014000_2 x12_4).length c17034_0, .slice A17035_0 (rd_L1 x17014000_2 x14_5).length c17035_0] (by rfl) rfl rfl (by (try simp only [List.map_toArray, List.map_cons, List.map_nil]); first | done | rfl | (simp only [List.length_drop, List.length_take]; rfl)) ?_
                                          with_reducible refine (spec_l13After.calls k5 _ _ (rd_L1 x17014000_2 x12_4) _ _ (rd_L1 x17014000_2 x14_5) t17036 _ ?side1 ?side2 ?side3 ?side4 A98.out).mono ?_
                                          (case side1 => repeat (first | exact (by repeat (first | (with_reducible exact HR17034_0.out) | (with_reducible refine Kd.C_alloc ?_ _) | (with_reducible refine Kd.C_drewN ?_ _) | (with_reducible refine Kd.C_drew ?_) | exact HR17034_0.out)) | (with_reducible refine Kd.C_alloc ?_ _) | (with_reducible refine Kd.C_drewN ?_ _) | (with_reducible refine Kd.C_drew ?_)))
                                          (case side2 => exact HC17034_0.out)
                                          (case side3 => repeat (first | exact (by repeat (first | (with_reducible exact HR17035_0.out) | (with_reducible refine Kd.C_alloc ?_ _) | (with_reducible refine Kd.C_drewN ?_ _) | (with_reducible refine Kd.C_drew ?_) | exact HR17035_0.out)) | (with_reducible refine Kd.C_alloc ?_ _) | (with_reducible refine Kd.C_drewN ?_ _) | (with_reducible refine Kd.C_drew ?_)))
                                          (case side4 => exact HC17035_0.out)
                                          rintro e w105 ⟨v17037, rfl, ho0, hb⟩
                                          have HS3_ := (hb.cell (World.block_lt_of_cell? _ _ (hHeld.2.2.2.1))).trans (hHeld.2.2.2.1)
                                          have HS4_ := (hb.cell (World.block_lt_of_cell? _ _ (hHeld.2.2.2.2))).trans (hHeld.2.2.2.2)
                                          refine ⟨_, rfl, ?_⟩
                                          have n0_ := Aside0.mk (Kd.R_elder' (by (with_reducible repeat (first | apply Kd.R_alloc | apply Kd.R_drewN | apply Kd.R_drew)); exact HO_13.out) (Kd.R_base ho0) hb)
                                          have n1_ := Aside0.mk (Kd.N_elder' (by (with_reducible repeat (first | apply Kd.N_alloc | apply Kd.N_drewN | apply Kd.N_drew)); exact HO_17014000.out) (Kd.R_base ho0) hb)
                                          have n2_ := Aside0.mk (Kd.R_elder' (by (with_reducible repeat (first | apply Kd.R_alloc | apply Kd.R_drewN | apply Kd.R_drew)); exact HO_17014001.out) (Kd.R_base ho0) hb)
                                          have n3_ := Aside0.mk (Kd.N_elder' (by (with_reducible repeat (first | apply Kd.N_alloc | apply Kd.N_drewN | apply Kd.N_drew)); exact HO_17014002.out) (Kd.R_base ho0) hb)
                                          have n4_ := Aside0.mk (Kd.V_elder' (by (with_reducible repeat (first | apply Kd.V_alloc | apply Kd.V_drewN | apply Kd.V_drew)); exact HL17034_0.out) (Kd.R_base ho0) hb)
                                          have n5_ := Aside0.mk (Kd.V_elder' (by (with_reducible repeat (first | apply Kd.V_alloc | apply Kd.V_drewN | apply Kd.V_drew)); exact HL17035_0.out) (Kd.R_base ho0) hb)
                                          have n6_ := Aside0.mk (Kd.R_lower (Kd.R_new' (Kd.R_new' (Kd.R_newM (M := fun k_ => (w.heap.size ≤ k_)) ho0 (below_size (by repeat (first | (with_reducible first | exact HB.out | apply below_alloc | apply pw_below_drewN | apply below_drew1 | refine below_set ?_ GE17001.out | refine below_set ?_ GE17002.out | refine below_set ?_ GE17013.out) | exact HB.out))) (fun k_ h_ => h_)) (Kd.R_lt (by (with_reducible repeat (first | apply Kd.R_alloc | apply Kd.R_drewN | apply Kd.R_drew)); exact HO_13.out))) (Kd.R_lt (by (with_reducible repeat (first | apply Kd.R_alloc | apply Kd.R_drewN | apply Kd.R_drew)); exact HO_17014001.out))) (below_size (by repeat (first | (with_reducible first | exact HB.out | apply below_alloc | apply pw_below_drewN | apply below_drew1 | refine below_set ?_ GE17001.out | refine below_set ?_ GE17002.out | refine below_set ?_ GE17013.out) | exact HB.out))))
                                          have n7_ := Aside0.mk (blk_below (g := gb17001) (o := .cells #[.slice A0_0 l0_0.length c0_0, .slice A0_1 l0_1.length c0_1] 49 (0, 0)) (by (with_reducible repeat (first | refine blk_drewN ?_ _ | refine blk_drew ?_ | refine blk_alloc ?_ _)); exact BK17001.out) hb)
                                          have n8_ := Aside0.mk (blk_below (g := gb17002) (o := .cells #[.slice none 0 0, .slice none 0 0, .slice none 0 0] 34 (0, 0)) (by (with_reducible repeat (first | refine blk_drewN ?_ _ | refine blk_drew ?_ | refine blk_alloc ?_ _)); exact BK17002.out) hb)
                                          have n9_ := Aside0.mk (blk_below (g := gb17013) (o := .cells #[.slice (some ad17034) x17014000_2.length co77, u17014001, u17014002] 34 (0, 0)) (by (with_reducible repeat (first | refine blk_drewN ?_ _ | refine blk_drew ?_ | refine blk_alloc ?_ _)); exact BK17013.out) hb)
                                          have n10_ := Aside0.mk (Kd.C_below (by repeat (first | (with_reducible exact HR17034_0.out) | (with_reducible refine Kd.C_alloc ?_ _) | (with_reducible refine Kd.C_drewN ?_ _) | (with_reducible refine Kd.C_drew ?_) | exact HR17034_0.out)) hb)
                                          have n11_ := Aside0.mk (Kd.C_below (by repeat (first | (with_reducible exact HR17035_0.out) | (with_reducible refine Kd.C_alloc ?_ _) | (with_reducible refine Kd.C_drewN ?_ _) | (with_reducible refine Kd.C_drew ?_) | exact HR17035_0.out)) hb)
                                          have n12_ := Aside0.mk (below_step (by repeat (first | (with_reducible first | exact HB.out | apply below_alloc | apply pw_below_drewN | apply below_drew1 | refine below_set ?_ GE17001.out | refine below_set ?_ GE17002.out | refine below_set ?_ GE17013.out) | exact HB.out)) hb)
                                          clear HO_13
                                          clear HO_17014000
                                          clear HO_17014001
                                          clear HO_17014002
                                          clear HL17034_0
                                          clear HL17035_0
                                          clear BK17001
                                          clear BK17002
                                          clear BK17013
                                          clear HR17034_0
                                          clear HR17035_0
                                          clear HB
                                          have HO_13 := n0_
                                          have HO_17014000 := n1_
                                          have HO_17014001 := n2_
                                          have HO_17014002 := n3_
                                          have HL17034_0 := n4_
                                          have HL17035_0 := n5_
                                          have HO17038 := n6_
                                          have BK17001 := n7_
                                          have BK17002 := n8_
                                          have BK17013 := n9_
                                          have HR17034_0 := n10_
                                          have HR17035_0 := n11_
                                          have HB := n12_
                                          clear n0_ n1_ n2_ n3_ n4_ n5_ n6_ n7_ n8_ n9_ n10_ n11_ n12_
                                          (try clear hb)
                                          (try clear hb2)
                                          (try clear hk)
                                          (try clear hi)
                                          (try clear ho0)
                                          obtain ⟨Ao106, co106, eo106⟩ := Kd.R_slice HO17038.out
                                          (first | subst eo106 | (injection eo106 with f1_ f2_ f3_; have f4_ := f1_.symm; have f5_ := f3_.symm; clear f1_ f2_ f3_; subst f4_; subst f5_))
                                          refine hK.out _ _ ⟨(blk_cell BK17013.out 0).trans rfl, (blk_cell BK17013.out 1).trans rfl, (blk_cell BK17013.out 2).trans rfl, HS3_, HS4_⟩ (fun hHeld => ?_)
                                          clear hK K
                                          refine norm_ (a' := ?_) ?_ ?_
                                          rotate_left
                                          · show Act.put _ (some 121) _ = _
                                            simp only [Act.put, List.setIfInBounds_toArray, List.set_cons_zero, List.set_cons_succ, i64_w, i32_w]
                                            rfl
                                          refine one_ (i := 14) (N := some 122) #[true, true, true, true, true, true, true, true, true, true, true, true, true, true, true, false, false, false] rfl rfl (one_of HT_.out (by kernel_rfl)) (by decide) (fun K hK => ?_)
                                          refine goes_ Try.func64 (by kernel_rfl) rfl #[.slice (some ad17034) x17014000_2.length co77, .slice Ao106 t17036.length co106] (by rfl) rfl rfl (by (try simp only [List.map_toArray, List.map_cons, List.map_nil]); first | done | rfl | (simp only [List.length_drop, List.length_take]; rfl)) ?_
                                          with_reducible refine (spec_l13Find.calls k5 _ _ x17014000_2 _ _ t17036 t17039 _ ?side1 ?side2 ?side3 ?side4 A99.out).mono ?_
                                          (case side1 => repeat (first | exact (Kd.N_reads' HO_17014000.out).2.2 | (with_reducible refine Kd.C_alloc ?_ _) | (with_reducible refine Kd.C_drewN ?_ _) | (with_reducible refine Kd.C_drew ?_)))
                                          (case side2 => exact (Kd.N_reads' HO_17014000.out).2.1)
                                          (case side3 => repeat (first | exact (Kd.R_reads' HO17038.out).2.2 | (with_reducible refine Kd.C_alloc ?_ _) | (with_reducible refine Kd.C_drewN ?_ _) | (with_reducible refine Kd.C_drew ?_)))
                                          (case side4 => exact (Kd.R_reads' HO17038.out).2.1)
                                          rintro e w' ⟨rfl, ⟨nd, rfl⟩⟩
                                          refine ⟨_, rfl, ?_⟩
                                          refine hK.out _ _ ⟨(blk_cell BK17013.out 0).trans rfl, (blk_cell BK17013.out 1).trans rfl, (blk_cell BK17013.out 2).trans rfl, hHeld.2.2.2.1, hHeld.2.2.2.2⟩ (fun hHeld => ?_)
                                          clear hK K
                                          refine norm_ (a' := ?_) ?_ ?_
                                          rotate_left
                                          · show Act.put _ (some 122) _ = _
                                            simp only [Act.put, List.setIfInBounds_toArray, List.set_cons_zero, List.set_cons_succ, i64_w, i32_w]
                                            rfl
                                          refine last_ (i := 15) (N := some 123) #[true, true, true, true, true, true, true, true, true, true, true, true, true, true, true, true, false, false] rfl rfl (one_of HT_.out (by kernel_rfl)) (by decide) (fun K hK => ?_)
                                          refine value_ (w1 := ?_) (v := ?_) (by rfl) rfl ?_ ?_
                                          rotate_left 2
                                          · go_simp
                                            constructor
                                            · rfl
                                            · rfl
                                          refine hK.out _ _ ?_
                                          clear hK K
                                          refine norm_ (a' := ?_) ?_ ?_
                                          rotate_left
                                          · show Act.put _ (some 123) _ = _
                                            simp only [Act.put, List.setIfInBounds_toArray, List.set_cons_zero, List.set_cons_succ, i64_w, i32_w]
                                            rfl
                                          refine last_ (i := 16) (N := some 124) #[true, true, true, true, true, true, true, true, true, true, true, true, true, true, true, true, true, false] rfl rfl (one_of HT_.out (by kernel_rfl)) (by decide) (fun K hK => ?_)
                                          refine Kd.R_append_step (Kd.int .i64) (w0 := w) w.heap.size (by rfl) (.tmp 108) (.tmp 123) 25 3 (.int .i64 0) 8 rfl Try.underlying25 info3 rfl (by decide) (by omega) u13 x13_5 t17039 [.int .i64 t17039] (fun k_ => (w.heap.size ≤ k_) ∧ some k_ ≠ (u17014001 : Value).ownBlock ∧ some k_ ≠ (.slice Ao106 t17036.length co106 : Value).ownBlock) (fun _ => False) rfl rfl ?aP (fun _ hk => hk.elim) ?aF ?aO ?aB ?aS ?aL ?_
                                          (case aP => exact rfl)
                                          (case aB => exact (by repeat (first | (with_reducible first | exact HB.out | apply below_alloc | apply pw_below_drewN | apply below_drew1 | refine below_set ?_ GE17001.out | refine below_set ?_ GE17002.out | refine below_set ?_ GE17013.out) | exact HB.out)))
                                          (case aF => exact (fun k_ hk => ⟨(Nat.le_trans (below_size (by repeat (first | (with_reducible first | exact HB.out | apply below_alloc | apply pw_below_drewN | apply below_drew1 | refine below_set ?_ GE17001.out | refine below_set ?_ GE17002.out | refine below_set ?_ GE17013.out) | exact HB.out))) hk), Kd.fresh' (Kd.R_lt (by (with_reducible repeat (first | apply Kd.R_alloc | apply Kd.R_drewN | apply Kd.R_drew)); exact HO_17014001.out)) k_ hk, Kd.fresh' (Kd.R_lt (by (with_reducible repeat (first | apply Kd.R_alloc | apply Kd.R_drewN | apply Kd.R_drew)); exact HO17038.out)) k_ hk⟩))
                                          (case aO => exact (by (with_reducible repeat (first | apply Kd.R_alloc | apply Kd.R_drewN | apply Kd.R_drew)); exact Kd.R_mono HO_13.out (fun _ hk => ⟨hk.1.1, ⟨hk.1.2, hk.2⟩⟩)))
                                          (case aS => exact (below_size (by repeat (first | (with_reducible first | exact HB.out | apply below_alloc | apply pw_below_drewN | apply below_drew1 | refine below_set ?_ GE17001.out | refine below_set ?_ GE17002.out | refine below_set ?_ GE17013.out) | exact HB.out))))
                                          (case aL => have := LMc100.out; omega)
                                          intro v17041 w107 ho hb hg hat
                                          rw [← Ny17040.out] at ho
                                          have n0_ := Aside0.mk (Kd.N_afterv (ok := (fun k_ => (w.heap.size ≤ k_) ∧ some k_ ≠ (u17014001 : Value).ownBlock ∧ some k_ ≠ (u17014002 : Value).ownBlock ∧ some k_ ≠ (.slice Ao106 t17036.length co106 : Value).ownBlock ∧ k_ ≠ gb17001 ∧ k_ ≠ gb17002 ∧ k_ ≠ gb17013)) (by (with_reducible repeat (first | apply Kd.N_alloc | apply Kd.N_drewN | apply Kd.N_drew)); exact Kd.N_mono HO_17014000.out (fun _ hk => ⟨⟨hk.1.1, ⟨hk.1.2.2.1, ⟨hk.1.2.2.2.1, ⟨hk.2, ⟨hk.1.2.2.2.2.1, ⟨hk.1.2.2.2.2.2.1, hk.1.2.2.2.2.2.2⟩⟩⟩⟩⟩⟩, hk.1.2.1⟩)) hg hat)
                                          have n1_ := Aside0.mk (Kd.R_after (ok := (fun k_ => (w.heap.size ≤ k_) ∧ some k_ ≠ (.slice Ao106 t17036.length co106 : Value).ownBlock)) (by (with_reducible repeat (first | apply Kd.R_alloc | apply Kd.R_drewN | apply Kd.R_drew)); exact Kd.R_mono HO_17014001.out (fun _ hk => ⟨⟨hk.1.1, hk.2⟩, hk.1.2⟩)) hg hat)
                                          have n2_ := Aside0.mk (Kd.N_afterv (ok := (fun k_ => (w.heap.size ≤ k_) ∧ some k_ ≠ (.slice (some ad17034) x17014000_2.length co77 : Value).ownBlock ∧ some k_ ≠ (u17014001 : Value).ownBlock ∧ some k_ ≠ (.slice Ao106 t17036.length co106 : Value).ownBlock ∧ k_ ≠ gb17001 ∧ k_ ≠ gb17002 ∧ k_ ≠ gb17013)) (by (with_reducible repeat (first | apply Kd.N_alloc | apply Kd.N_drewN | apply Kd.N_drew)); exact Kd.N_mono HO_17014002.out (fun _ hk => ⟨⟨hk.1.1, ⟨hk.1.2.2.1, ⟨hk.1.2.2.2.1, ⟨hk.2, ⟨hk.1.2.2.2.2.1, ⟨hk.1.2.2.2.2.2.1, hk.1.2.2.2.2.2.2⟩⟩⟩⟩⟩⟩, hk.1.2.1⟩)) hg hat)
                                          have n3_ := Aside0.mk (blk_grown (g := gb17001) (o := .cells #[.slice A0_0 l0_0.length c0_0, .slice A0_1 l0_1.length c0_1] 49 (0, 0)) (by (with_reducible repeat (first | refine blk_drewN ?_ _ | refine blk_drew ?_ | refine blk_alloc ?_ _)); exact BK17001.out) hg (Kd.R_ne HO_13.out BK17001.out (by decide)))
                                          have n4_ := Aside0.mk (blk_grown (g := gb17002) (o := .cells #[.slice none 0 0, .slice none 0 0, .slice none 0 0] 34 (0, 0)) (by (with_reducible repeat (first | refine blk_drewN ?_ _ | refine blk_drew ?_ | refine blk_alloc ?_ _)); exact BK17002.out) hg (Kd.R_ne HO_13.out BK17002.out (by decide)))
                                          have n5_ := Aside0.mk (blk_grown (g := gb17013) (o := .cells #[.slice (some ad17034) x17014000_2.length co77, u17014001, u17014002] 34 (0, 0)) (by (with_reducible repeat (first | refine blk_drewN ?_ _ | refine blk_drew ?_ | refine blk_alloc ?_ _)); exact BK17013.out) hg (Kd.R_ne HO_13.out BK17013.out (by decide)))
                                          have n6_ := Aside0.mk (Kd.V_afterv (ok := (fun k_ => (w.heap.size ≤ k_) ∧ some k_ ≠ (.slice (some ad17034) x17014000_2.length co77 : Value).ownBlock ∧ some k_ ≠ (u17014001 : Value).ownBlock ∧ some k_ ≠ (u17014002 : Value).ownBlock ∧ some k_ ≠ (.slice Ao106 t17036.length co106 : Value).ownBlock ∧ k_ ≠ gb17001 ∧ k_ ≠ gb17002 ∧ k_ ≠ gb17013)) (by (with_reducible repeat (first | apply Kd.V_alloc | apply Kd.V_drewN | apply Kd.V_drew)); exact Kd.V_mono HL17034_0.out (fun _ hk => ⟨⟨hk.1.1.1, ⟨hk.1.2, ⟨hk.1.1.2.2.1, ⟨hk.1.1.2.2.2.1, ⟨hk.2, ⟨hk.1.1.2.2.2.2.1, ⟨hk.1.1.2.2.2.2.2.1, hk.1.1.2.2.2.2.2.2⟩⟩⟩⟩⟩⟩⟩, hk.1.1.2.1⟩)) hg hat)
                                          have n7_ := Aside0.mk (Kd.V_afterv (ok := (fun k_ => (w.heap.size ≤ k_) ∧ some k_ ≠ (.slice (some ad17034) x17014000_2.length co77 : Value).ownBlock ∧ some k_ ≠ (u17014001 : Value).ownBlock ∧ some k_ ≠ (u17014002 : Value).ownBlock ∧ some k_ ≠ (.slice Ao106 t17036.length co106 : Value).ownBlock ∧ k_ ≠ gb17001 ∧ k_ ≠ gb17002 ∧ k_ ≠ gb17013)) (by (with_reducible repeat (first | apply Kd.V_alloc | apply Kd.V_drewN | apply Kd.V_drew)); exact Kd.V_mono HL17035_0.out (fun _ hk => ⟨⟨hk.1.1.1, ⟨hk.1.2, ⟨hk.1.1.2.2.1, ⟨hk.1.1.2.2.2.1, ⟨hk.2, ⟨hk.1.1.2.2.2.2.1, ⟨hk.1.1.2.2.2.2.2.1, hk.1.1.2.2.2.2.2.2⟩⟩⟩⟩⟩⟩⟩, hk.1.1.2.1⟩)) hg hat)
                                          have n8_ := Aside0.mk (Kd.R_after (ok := (fun k_ => (w.heap.size ≤ k_) ∧ some k_ ≠ (u17014001 : Value).ownBlock)) (by (with_reducible repeat (first | apply Kd.R_alloc | apply Kd.R_drewN | apply Kd.R_drew)); exact Kd.R_mono HO17038.out (fun _ hk => ⟨⟨hk.1.1.1, hk.2⟩, hk.1.2⟩)) hg hat)
                                          have n9_ := Aside0.mk (hb)
                                          have n10_ := Aside0.mk (ho)
                                          clear HO_17014000
                                          clear HO_17014001
                                          clear HO_17014002
                                          clear BK17001
                                          clear BK17002
                                          clear BK17013
                                          clear HL17034_0
                                          clear HL17035_0
                                          clear HO17038
                                          clear HB
                                          clear HO_13
                                          have HO_17014000 := n0_
                                          have HO_17014001 := n1_
                                          have HO_17014002 := n2_
                                          have BK17001 := n3_
                                          have BK17002 := n4_
                                          have BK17013 := n5_
                                          have HL17034_0 := n6_
                                          have HL17035_0 := n7_
                                          have HO17038 := n8_
                                          have HB := n9_
                                          have HO17042 := n10_
                                          clear n0_ n1_ n2_ n3_ n4_ n5_ n6_ n7_ n8_ n9_ n10_
                                          clear ho hb hg hat
                                          refine hK.out _ _ ?_
                                          clear hK K
                                          refine norm_ (a' := ?_) ?_ ?_
                                          rotate_left
                                          · show Act.put _ (some 124) _ = _
                                            simp only [Act.put, List.setIfInBounds_toArray, List.set_cons_zero, List.set_cons_succ, i64_w, i32_w]
                                            rfl
                                          refine pure_ (i := 17) (N := some 13) (v := ?_) (a' := ?_) #[true, true, true, true, true, true, true, true, true, true, true, true, true, true, true, true, true, true] rfl rfl (any_of HT_.out (by kernel_rfl)) (fun _ _ _ h => h) (Or.inl ⟨by rfl, ?_⟩) ?_ ?_
                                          rotate_left
                                          · intro w'
                                            go_simp
                                            first | with_reducible rfl | (rw [if_neg (by omega)]; done) | (rw [if_neg (by (try simp only [decide_eq_true_eq, decide_eq_false_iff_not, eq_iff_iff, iff_true, iff_false] at *); (try simp only [ByteArray.size_extract, ByteArray.size_append, show (⟨#[97, 98, 99]⟩ : ByteArray).size = 3 from rfl, show (⟨#[88, 89, 90]⟩ : ByteArray).size = 3 from rfl, show (⟨#[61]⟩ : ByteArray).size = 1 from rfl] at *); omega)]; done)
                                          rotate_left
                                          · simp only [Act.put, List.setIfInBounds_toArray, List.set_cons_zero, List.set_cons_succ, i64_w, i32_w]
                                            rfl
                                          refine done_ (done_of HT_.out (by kernel_rfl)) ?_
                                          try go_wp2
                                          go_roundg k5
                                          case measure => have := HK1.out; have := HK2.out; have := HK3.out; have := HK4.out; have := HK5.out; omega
                                          case rel => exact ⟨(y17040), (wrap64 (x14_5 + 1)), (by first | rfl | (simp; done) | (simp [*]; done)), H', ⟨by have := HK1.out; have := HK2.out; have := HK3.out; have := HK4.out; have := HK5.out; omega⟩, ⟨by (with_reducible repeat (first | apply Kd.R_alloc | apply Kd.R_drewN | apply Kd.R_drew)); exact Kd.R_mono HO17042.out (fun _ hk => ⟨hk.1, hk.2.1⟩)⟩, ⟨by (with_reducible repeat (first | apply Kd.N_alloc | apply Kd.N_drewN | apply Kd.N_drew)); exact Kd.N_mono HO_17014000.out (fun _ hk => ⟨hk.1.1, ⟨hk.2, ⟨hk.1.2.1, ⟨hk.1.2.2.1, ⟨hk.1.2.2.2.2.1, ⟨hk.1.2.2.2.2.2.1, hk.1.2.2.2.2.2.2⟩⟩⟩⟩⟩⟩)⟩, ⟨by (with_reducible repeat (first | apply Kd.R_alloc | apply Kd.R_drewN | apply Kd.R_drew)); exact Kd.R_mono HO_17014001.out (fun _ hk => ⟨hk.1.1, hk.2⟩)⟩, ⟨by (with_reducible repeat (first | apply Kd.N_alloc | apply Kd.N_drewN | apply Kd.N_drew)); exact Kd.N_mono HO_17014002.out (fun _ hk => ⟨hk.1.1, ⟨hk.2, ⟨hk.1.2.1, ⟨hk.1.2.2.1, ⟨hk.1.2.2.2.2.1, ⟨hk.1.2.2.2.2.2.1, hk.1.2.2.2.2.2.2⟩⟩⟩⟩⟩⟩)⟩, ⟨by (with_reducible repeat (first | refine blk_drewN ?_ _ | refine blk_drew ?_ | refine blk_alloc ?_ _)); exact BK17001.out⟩, ⟨by (with_reducible repeat (first | refine blk_drewN ?_ _ | refine blk_drew ?_ | refine blk_alloc ?_ _)); exact BK17002.out⟩, ⟨by (with_reducible repeat (first | refine blk_drewN ?_ _ | refine blk_drew ?_ | refine blk_alloc ?_ _)); exact BK17013.out⟩, ⟨by repeat (first | (with_reducible first | exact HB.out | apply below_alloc | apply pw_below_drewN | apply below_drew1 | refine below_set ?_ GE17001.out | refine below_set ?_ GE17002.out | refine below_set ?_ GE17013.out) | exact HB.out)⟩⟩
                                        · rw [if_neg c100] at H
                                          exact absurd H (by simp)
                                      · rw [if_neg c97] at H
                                        exact absurd H (by simp)
                                    · rw [if_neg c96] at H
                                      exact absurd H (by simp)
                                  · rw [if_neg c95] at H
                                    exact absurd H (by simp)
                                · rw [if_neg c94] at H
                                  have c94b0 : decide (x14_5 < (x17014000_2.length : Int)) = false := decide_eq_false c94
                                  clear c94
                                  by_cases c108 : x17014002_4.length < 5864062014805
                                  · rw [if_pos c108] at H
                                    have LMc108 := Aside0.mk c108
                                    clear c108
                                    obtain ⟨y17043, hy17043⟩ : ∃ y_ : List (List Int), y_ = (x17014002_4 ++ [x13_5]) := ⟨_, rfl⟩
                                    replace H : (spec_BuildMonoid.l4 k5 (wrap64 (x12_4 + 1)) x17014000_2 x17014001_3 y17043) = some (r1, r2, r3, r4) := by first | (rw [hy17043]; with_reducible exact H) | (have H2_ := (Option.bind_some _ _).symm.trans H; rw [hy17043]; with_reducible exact H2_) | (have H2_ := (Option.bind_some _ _).symm.trans H; with_reducible exact H2_) | with_reducible exact H | (rw [hy17043]; exact H) | exact H
                                    have Ny17043 := Aside0.mk hy17043
                                    clear hy17043
                                    have H' := Aside0.mk H
                                    clear H
                                    have hnb109 := NB17013_17001.out
                                    have hnc109 := NB17001_17013.out
                                    have hnb110 := NB17013_17002.out
                                    have hnc110 := NB17002_17013.out
                                    have hcz111_0 : wr.cell? ⟨gb17013, 0, none⟩ = some (.slice Ao77 x17014000_2.length co77) := (blk_cell BK17013.out 0).trans rfl
                                    have hcz111_1 : wr.cell? ⟨gb17013, 1, none⟩ = some (u17014001) := (blk_cell BK17013.out 1).trans rfl
                                    have hcz111_2 : wr.cell? ⟨gb17013, 2, none⟩ = some (u17014002) := (blk_cell BK17013.out 2).trans rfl
                                    have hfz111_0 := blk_frozen BK17013.out 0
                                    have hfz111_1 := blk_frozen BK17013.out 1
                                    have hfz111_2 := blk_frozen BK17013.out 2
                                    obtain ⟨Ao113, co113, eo113⟩ := Kd.R_slice HO_13.out
                                    subst eo113
                                    go_wp2_with (first | ((with_reducible refine gate_builtin (b := .append) (xs := #[.tmp 126, .tmp 128]) rfl ?_); at_builtin; refine Kd.N_append (Kd.slice 3 (Kd.int .i64)) (w0 := w) w.heap.size rfl (.tmp 126) (.tmp 128) 24 25 (.slice none 0 0) 24 rfl Try.underlying24 info25 rfl (by decide) (by omega) u17014002 x17014002_4 x13_5 [.slice Ao113 x13_5.length co113] (fun k_ => (w.heap.size ≤ k_) ∧ some k_ ≠ (.slice Ao77 x17014000_2.length co77 : Value).ownBlock ∧ some k_ ≠ (u17014001 : Value).ownBlock ∧ k_ ≠ gb17001 ∧ k_ ≠ gb17002 ∧ k_ ≠ gb17013) (fun k_ => ((fun k_ => (w.heap.size ≤ k_) ∧ some k_ ≠ (.slice Ao77 x17014000_2.length co77 : Value).ownBlock ∧ some k_ ≠ (u17014001 : Value).ownBlock ∧ k_ ≠ gb17001 ∧ k_ ≠ gb17002 ∧ k_ ≠ gb17013)) k_ ∧ some k_ ≠ (u17014002 : Value).ownBlock) rfl rfl ?aP (fun _ hk => hk) ?aF ?aO ?aB ?aS ?aL ?_; (case aP => exact (Kd.FK_slice_mk (Kd.R_reads' (Kd.R_mono (ok' := (fun k_ => ((fun k_ => (w.heap.size ≤ k_) ∧ some k_ ≠ (.slice Ao77 x17014000_2.length co77 : Value).ownBlock ∧ some k_ ≠ (u17014001 : Value).ownBlock ∧ k_ ≠ gb17001 ∧ k_ ≠ gb17002 ∧ k_ ≠ gb17013)) k_ ∧ some k_ ≠ (u17014002 : Value).ownBlock)) (Kd.R_types (Kd.R_types (Kd.R_types (Kd.R_apart' (Kd.R_apart' (HO_13.out) (Kd.N_typed HO_17014000.out) (by decide)) (Kd.N_typed HO_17014002.out) (by decide)) BK17001.out (by decide)) BK17002.out (by decide)) BK17013.out (by decide)) (fun k_ hk => ⟨⟨hk.1.1.1.1.1.1, ⟨hk.1.1.1.1.2, ⟨hk.1.1.1.1.1.2, ⟨hk.1.1.2, ⟨hk.1.2, hk.2⟩⟩⟩⟩⟩, hk.1.1.1.2⟩))).2.1 (Kd.R_F (Kd.R_mono (ok' := (fun k_ => ((fun k_ => (w.heap.size ≤ k_) ∧ some k_ ≠ (.slice Ao77 x17014000_2.length co77 : Value).ownBlock ∧ some k_ ≠ (u17014001 : Value).ownBlock ∧ k_ ≠ gb17001 ∧ k_ ≠ gb17002 ∧ k_ ≠ gb17013)) k_ ∧ some k_ ≠ (u17014002 : Value).ownBlock)) (Kd.R_types (Kd.R_types (Kd.R_types (Kd.R_apart' (Kd.R_apart' (HO_13.out) (Kd.N_typed HO_17014000.out) (by decide)) (Kd.N_typed HO_17014002.out) (by decide)) BK17001.out (by decide)) BK17002.out (by decide)) BK17013.out (by decide)) (fun k_ hk => ⟨⟨hk.1.1.1.1.1.1, ⟨hk.1.1.1.1.2, ⟨hk.1.1.1.1.1.2, ⟨hk.1.1.2, ⟨hk.1.2, hk.2⟩⟩⟩⟩⟩, hk.1.1.1.2⟩))))); (case aB => exact (by repeat (first | (with_reducible first | exact HB.out | apply below_alloc | apply pw_below_drewN | apply below_drew1 | refine below_set ?_ GE17001.out | refine below_set ?_ GE17002.out | refine below_set ?_ GE17013.out) | exact HB.out))); (case aF => exact (fun k_ hk => ⟨(Nat.le_trans (below_size (by repeat (first | (with_reducible first | exact HB.out | apply below_alloc | apply pw_below_drewN | apply below_drew1 | refine below_set ?_ GE17001.out | refine below_set ?_ GE17002.out | refine below_set ?_ GE17013.out) | exact HB.out))) hk), Kd.fresh' (Kd.N_lt (by (with_reducible repeat (first | apply Kd.N_alloc | apply Kd.N_drewN | apply Kd.N_drew)); exact HO_17014000.out)) k_ hk, Kd.fresh' (Kd.R_lt (by (with_reducible repeat (first | apply Kd.R_alloc | apply Kd.R_drewN | apply Kd.R_drew)); exact HO_17014001.out)) k_ hk, Kd.freshB (g := gb17001) (o := .cells #[.slice A0_0 l0_0.length c0_0, .slice A0_1 l0_1.length c0_1] 49 (0, 0)) (by (with_reducible repeat (first | refine blk_drewN ?_ _ | refine blk_drew ?_ | refine blk_alloc ?_ _)); exact BK17001.out) k_ hk, Kd.freshB (g := gb17002) (o := .cells #[.slice none 0 0, .slice none 0 0, .slice none 0 0] 34 (0, 0)) (by (with_reducible repeat (first | refine blk_drewN ?_ _ | refine blk_drew ?_ | refine blk_alloc ?_ _)); exact BK17002.out) k_ hk, Kd.freshB (g := gb17013) (o := .cells #[.slice Ao77 x17014000_2.length co77, u17014001, u17014002] 34 (0, 0)) (by (with_reducible repeat (first | refine blk_drewN ?_ _ | refine blk_drew ?_ | refine blk_alloc ?_ _)); exact BK17013.out) k_ hk⟩)); (case aO => exact (by (with_reducible repeat (first | apply Kd.N_alloc | apply Kd.N_drewN | apply Kd.N_drew)); exact Kd.N_mono HO_17014002.out (fun _ hk => ⟨hk.1, ⟨hk.2.2.1, ⟨hk.2.2.2.1, ⟨hk.2.2.2.2.1, ⟨hk.2.2.2.2.2.1, hk.2.2.2.2.2.2⟩⟩⟩⟩⟩))); (case aS => exact (below_size (by repeat (first | (with_reducible first | exact HB.out | apply below_alloc | apply pw_below_drewN | apply below_drew1 | refine below_set ?_ GE17001.out | refine below_set ?_ GE17002.out | refine below_set ?_ GE17013.out) | exact HB.out)))); (case aL => have := LMc108.out; omega); intro v17044 w112 ho hb hg hat; rw [← Ny17043.out] at ho; have n0_ := Aside0.mk (Kd.N_afterv (ok := (fun k_ => (w.heap.size ≤ k_) ∧ some k_ ≠ (.slice Ao113 x13_5.length co113 : Value).ownBlock ∧ some k_ ≠ (u17014001 : Value).ownBlock ∧ k_ ≠ gb17001 ∧ k_ ≠ gb17002 ∧ k_ ≠ gb17013)) (by (with_reducible repeat (first | apply Kd.N_alloc | apply Kd.N_drewN | apply Kd.N_drew)); exact Kd.N_mono HO_17014000.out (fun _ hk => ⟨⟨hk.1, ⟨hk.2.1, ⟨hk.2.2.1, ⟨hk.2.2.2.2.1, ⟨hk.2.2.2.2.2.1, hk.2.2.2.2.2.2⟩⟩⟩⟩⟩, hk.2.2.2.1⟩)) hg hat); have n1_ := Aside0.mk (Kd.R_over' (by (with_reducible repeat (first | apply Kd.R_alloc | apply Kd.R_drewN | apply Kd.R_drew)); exact HO_17014001.out) (Kd.N_typed (by (with_reducible repeat (first | apply Kd.N_alloc | apply Kd.N_drewN | apply Kd.N_drew)); exact HO_17014002.out)) (by decide) hg); have n2_ := Aside0.mk (blk_grown (g := gb17001) (o := .cells #[.slice A0_0 l0_0.length c0_0, .slice A0_1 l0_1.length c0_1] 49 (0, 0)) (by (with_reducible repeat (first | refine blk_drewN ?_ _ | refine blk_drew ?_ | refine blk_alloc ?_ _)); exact BK17001.out) hg (Kd.N_ne HO_17014002.out BK17001.out (by decide))); have n3_ := Aside0.mk (blk_grown (g := gb17002) (o := .cells #[.slice none 0 0, .slice none 0 0, .slice none 0 0] 34 (0, 0)) (by (with_reducible repeat (first | refine blk_drewN ?_ _ | refine blk_drew ?_ | refine blk_alloc ?_ _)); exact BK17002.out) hg (Kd.N_ne HO_17014002.out BK17002.out (by decide))); have n4_ := Aside0.mk (blk_grown (g := gb17013) (o := .cells #[.slice Ao77 x17014000_2.length co77, u17014001, u17014002] 34 (0, 0)) (by (with_reducible repeat (first | refine blk_drewN ?_ _ | refine blk_drew ?_ | refine blk_alloc ?_ _)); exact BK17013.out) hg (Kd.N_ne HO_17014002.out BK17013.out (by decide))); have n5_ := Aside0.mk (hb); have n6_ := Aside0.mk (ho); clear HO_17014000; clear HO_17014001; clear BK17001; clear BK17002; clear BK17013; clear HB; clear HO_17014002; clear HO_13; have HO_17014000 := n0_; have HO_17014001 := n1_; have BK17001 := n2_; have BK17002 := n3_; have BK17013 := n4_; have HB := n5_; have HO17045 := n6_; clear n0_ n1_ n2_ n3_ n4_ n5_ n6_; clear ho hb hg hat; obtain ⟨Ao114, co114, eo114⟩ := Kd.N_slice HO17045.out; subst eo114; have hcz115_0 : w112.cell? ⟨gb17013, 0, none⟩ = some (.slice Ao77 x17014000_2.length co77) := (blk_cell BK17013.out 0).trans rfl; have hcz115_1 : w112.cell? ⟨gb17013, 1, none⟩ = some (u17014001) := (blk_cell BK17013.out 1).trans rfl; have hcz115_2 : w112.cell? ⟨gb17013, 2, none⟩ = some (u17014002) := (blk_cell BK17013.out 2).trans rfl; have hfz115_0 := blk_frozen BK17013.out 0; have hfz115_1 := blk_frozen BK17013.out 1; have hfz115_2 := blk_frozen BK17013.out 2))
                                    go_roundg k5
                                    case measure => have := HK1.out; have := HK2.out; have := HK3.out; have := HK4.out; have := HK5.out; omega
                                    case rel => exact ⟨(wrap64 (x12_4 + 1)), (y17043), (.slice Ao114 y17043.length co114), (by first | rfl | (simp; done) | (simp [*]; done)), H', ⟨by have := HK1.out; have := HK2.out; have := HK3.out; have := HK4.out; have := HK5.out; omega⟩, ⟨by (with_reducible repeat (first | apply Kd.N_alloc | apply Kd.N_drewN | apply Kd.N_drew)); exact Kd.N_mono (Kd.N_far (p := ⟨gb17013, 2, none⟩) (Kd.N_mono HO_17014000.out (fun k_ hk => (⟨hk, hk.1.2.2.2.2.2⟩ : _ ∧ k_ ≠ gb17013))) (fun _ hk => hk.2) (.slice Ao114 y17043.length co114)) (fun _ hk => ⟨hk.1.1.1, ⟨hk.1.1.2.2.1, ⟨hk.1.2, ⟨hk.1.1.2.2.2.1, ⟨hk.1.1.2.2.2.2.1, hk.1.1.2.2.2.2.2⟩⟩⟩⟩⟩)⟩, ⟨by (with_reducible repeat (first | apply Kd.R_alloc | apply Kd.R_drewN | apply Kd.R_drew)); exact Kd.R_mono (Kd.R_far (p := ⟨gb17013, 2, none⟩) (Kd.R_types HO_17014001.out BK17013.out (by decide)) (fun _ hk => hk.2) (.slice Ao114 y17043.length co114)) (fun _ hk => hk.1.1)⟩, ⟨by (with_reducible repeat (first | apply Kd.N_alloc | apply Kd.N_drewN | apply Kd.N_drew)); exact Kd.N_mono (Kd.N_far (p := ⟨gb17013, 2, none⟩) (Kd.N_mono HO17045.out (fun k_ hk => (⟨hk, hk.2.2.2.2.2⟩ : _ ∧ k_ ≠ gb17013))) (fun _ hk => hk.2) (.slice Ao114 y17043.length co114)) (fun _ hk => ⟨hk.1.1, ⟨hk.1.2.1, ⟨hk.1.2.2.1, ⟨hk.1.2.2.2.1, ⟨hk.1.2.2.2.2.1, hk.1.2.2.2.2.2⟩⟩⟩⟩⟩)⟩, ⟨by (with_reducible repeat (first | refine blk_drewN ?_ _ | refine blk_drew ?_ | refine blk_alloc ?_ _)); refine blk_far ?_ NB17001_17013.out _; (with_reducible repeat (first | refine blk_drewN ?_ _ | refine blk_drew ?_ | refine blk_alloc ?_ _)); exact BK17001.out⟩, ⟨by (with_reducible repeat (first | refine blk_drewN ?_ _ | refine blk_drew ?_ | refine blk_alloc ?_ _)); refine blk_far ?_ NB17002_17013.out _; (with_reducible repeat (first | refine blk_drewN ?_ _ | refine blk_drew ?_ | refine blk_alloc ?_ _)); exact BK17002.out⟩, ⟨by (with_reducible repeat (first | refine blk_drewN ?_ _ | refine blk_drew ?_ | refine blk_alloc ?_ _)); refine blk_put (cs := #[.slice Ao77 x17014000_2.length co77, u17014001, u17014002]) ?_ 2 _ rfl; (with_reducible repeat (first | refine blk_drewN ?_ _ | refine blk_drew ?_ | refine blk_alloc ?_ _)); exact BK17013.out⟩, ⟨by repeat (first | (with_reducible first | exact HB.out | apply below_alloc | apply pw_below_drewN | apply below_drew1 | refine below_set ?_ GE17001.out | refine below_set ?_ GE17002.out | refine below_set ?_ GE17013.out) | exact HB.out)⟩⟩
                                  · rw [if_neg c108] at H
                                    exact absurd H (by simp)
                          · rw [if_neg c88] at H
                            have c88b0 : decide (x12_4 < (x17014000_2.length : Int)) = false := decide_eq_false c88
                            clear c88
                            simp only [Option.some.injEq, Prod.mk.injEq] at H
                            obtain ⟨rfl, rfl, rfl, rfl⟩ := H
                            have hnb116 := NB17013_17001.out
                            have hnc116 := NB17001_17013.out
                            have hnb117 := NB17013_17002.out
                            have hnc117 := NB17002_17013.out
                            have hcz118_0 : wr.cell? ⟨gb17013, 0, none⟩ = some (.slice Ao77 x17014000_2.length co77) := (blk_cell BK17013.out 0).trans rfl
                            have hcz118_1 : wr.cell? ⟨gb17013, 1, none⟩ = some (u17014001) := (blk_cell BK17013.out 1).trans rfl
                            have hcz118_2 : wr.cell? ⟨gb17013, 2, none⟩ = some (u17014002) := (blk_cell BK17013.out 2).trans rfl
                            have hfz118_0 := blk_frozen BK17013.out 0
                            have hfz118_1 := blk_frozen BK17013.out 1
                            have hfz118_2 := blk_frozen BK17013.out 2
                            have hnb119 := NB17002_17001.out
                            have hnc119 := NB17001_17002.out
                            have hcz120_0 : wr.cell? ⟨gb17002, 0, none⟩ = some (.slice none 0 0) := (blk_cell BK17002.out 0).trans rfl
                            have hcz120_1 : wr.cell? ⟨gb17002, 1, none⟩ = some (.slice none 0 0) := (blk_cell BK17002.out 1).trans rfl
                            have hcz120_2 : wr.cell? ⟨gb17002, 2, none⟩ = some (.slice none 0 0) := (blk_cell BK17002.out 2).trans rfl
                            have hfz120_0 := blk_frozen BK17002.out 0
                            have hfz120_1 := blk_frozen BK17002.out 1
                            have hfz120_2 := blk_frozen BK17002.out 2
                            obtain ⟨Ao121, co121, eo121⟩ := Kd.R_slice HO_17014001.out
                            subst eo121
                            obtain ⟨Ao122, co122, eo122⟩ := Kd.N_slice HO_17014002.out
                            subst eo122
                            go_wp2
                            refine bodyPost_ret (results_ct rfl _ _ gb17002 34 #[.slice Ao77 x17014000_2.length co77, .slice Ao121 x17014001_3.length co121, .slice Ao122 x17014002_4.length co122] (0, 0) _ rfl (by (with_reducible repeat (first | refine blk_drewN ?_ _ | refine blk_drew ?_ | refine blk_alloc ?_ _)); refine blk_put (cs := #[.slice Ao77 x17014000_2.length co77, .slice Ao121 x17014001_3.length co121, .slice none 0 0]) ?_ 2 _ rfl; (with_reducible repeat (first | refine blk_drewN ?_ _ | refine blk_drew ?_ | refine blk_alloc ?_ _)); refine blk_put (cs := #[.slice Ao77 x17014000_2.length co77, .slice none 0 0, .slice none 0 0]) ?_ 1 _ rfl; (with_reducible repeat (first | refine blk_drewN ?_ _ | refine blk_drew ?_ | refine blk_alloc ?_ _)); refine blk_put (cs := #[.slice none 0 0, .slice none 0 0, .slice none 0 0]) ?_ 0 _ rfl; (with_reducible repeat (first | refine blk_drewN ?_ _ | refine blk_drew ?_ | refine blk_alloc ?_ _)); exact BK17002.out) Try.underlying34 rfl (by kernel_rfl)) rfl ?_
                            exact ⟨_, _, _, by first | rfl | (simp [errW_none, errW_some] <;> rfl) | (simp [*, errW_none, errW_some] <;> rfl), by (with_reducible repeat (first | apply Kd.N_alloc | apply Kd.N_drewN | apply Kd.N_drew)); exact Kd.N_mono (Kd.N_far (p := ⟨gb17002, 2, none⟩) (Kd.N_far (p := ⟨gb17002, 1, none⟩) (Kd.N_far (p := ⟨gb17002, 0, none⟩) (Kd.N_mono HO_17014000.out (fun k_ hk => (⟨hk, hk.2.2.2.2.1⟩ : _ ∧ k_ ≠ gb17002))) (fun _ hk => hk.2) (.slice Ao77 x17014000_2.length co77)) (fun _ hk => hk.2) (.slice Ao121 x17014001_3.length co121)) (fun _ hk => hk.2) (.slice Ao122 x17014002_4.length co122)) (fun _ hk => ⟨hk.1.1, ⟨hk.1.2.1, hk.1.2.2.1⟩⟩), by (with_reducible repeat (first | apply Kd.R_alloc | apply Kd.R_drewN | apply Kd.R_drew)); exact Kd.R_mono (Kd.R_far (p := ⟨gb17002, 2, none⟩) (Kd.R_far (p := ⟨gb17002, 1, none⟩) (Kd.R_far (p := ⟨gb17002, 0, none⟩) (Kd.R_types HO_17014001.out BK17002.out (by decide)) (fun _ hk => hk.2) (.slice Ao77 x17014000_2.length co77)) (fun _ hk => hk.2) (.slice Ao121 x17014001_3.length co121)) (fun _ hk => hk.2) (.slice Ao122 x17014002_4.length co122)) (fun _ hk => hk.1), by (with_reducible repeat (first | apply Kd.N_alloc | apply Kd.N_drewN | apply Kd.N_drew)); exact Kd.N_mono (Kd.N_far (p := ⟨gb17002, 2, none⟩) (Kd.N_far (p := ⟨gb17002, 1, none⟩) (Kd.N_far (p := ⟨gb17002, 0, none⟩) (Kd.N_mono HO_17014002.out (fun k_ hk => (⟨hk, hk.2.2.2.2.1⟩ : _ ∧ k_ ≠ gb17002))) (fun _ hk => hk.2) (.slice Ao77 x17014000_2.length co77)) (fun _ hk => hk.2) (.slice Ao121 x17014001_3.length co121)) (fun _ hk => hk.2) (.slice Ao122 x17014002_4.length co122)) (fun _ hk => ⟨hk.1.1, ⟨hk.1.2.1, hk.1.2.2.1⟩⟩), by repeat (first | (with_reducible first | exact HB.out | apply below_alloc | apply pw_below_drewN | apply below_drew1 | refine below_set ?_ GE17001.out | refine below_set ?_ GE17002.out | refine below_set ?_ GE17013.out) | exact HB.out)⟩
  · replace c3 := Bool.eq_false_iff.mpr c3
    subst c3
    have H1 : (some (([] : List (List Int)), ([] : List Int), ([] : List (List Int)), false)) = some (r1, r2, r3, r4) := by rw [if_neg (show ¬ (false = true) by decide)] at H; exact H
    clear H
    have H := H1
    clear H1
    simp only [Option.some.injEq, Prod.mk.injEq] at H
    obtain ⟨rfl, rfl, rfl, rfl⟩ := H
    go_enter Try.func17, Try.ntmps17
    go_wp2_with (first | ((with_reducible refine gate_dst (N := 1) rfl ?_); refine box_event ?hg (N := 1) ?hd (cs := #[.slice A0_0 l0_0.length c0_0, .slice A0_1 l0_1.length c0_1]) (t := 49) ?hr ?_; (case hd => rfl); (case hg => rfl); (case hr => first | (go_simp; done) | (go_simp; rfl)); intro gb17001 hg w123 hbox hb; have n0_ := Aside0.mk (below_step (by repeat (first | (with_reducible first | exact HB.out | apply below_alloc | apply pw_below_drewN | apply below_drew1) | exact HB.out)) hb); have n1_ := Aside0.mk (hbox); have n2_ := Aside0.mk ((by rw [hg]; exact (below_size (by repeat (first | (with_reducible first | exact HB.out | apply below_alloc | apply pw_below_drewN | apply below_drew1) | exact HB.out))) : w.heap.size ≤ gb17001)); have n3_ := Aside0.mk ((by rw [hg]; exact (below_size (by repeat (first | (with_reducible first | exact HB.out | apply below_alloc | apply pw_below_drewN | apply below_drew1) | exact HB.out))) : w.heap.size ≤ gb17001)); clear HB; have HB := n0_; have BK17001 := n1_; have GW17001 := n2_; have GE17001 := n3_; clear n0_ n1_ n2_ n3_; clear hb hbox hg) | ((with_reducible refine gate_dst (N := 2) rfl ?_); refine box_event ?hg (N := 2) ?hd (cs := #[.slice none 0 0, .slice none 0 0, .slice none 0 0]) (t := 34) ?hr ?_; (case hd => rfl); (case hg => rfl); (case hr => first | (go_simp; done) | (go_simp; rfl)); intro gb17002 hg w124 hbox hb; have n0_ := Aside0.mk (blk_below (g := gb17001) (o := .cells #[.slice A0_0 l0_0.length c0_0, .slice A0_1 l0_1.length c0_1] 49 (0, 0)) (by (with_reducible repeat (first | refine blk_drewN ?_ _ | refine blk_drew ?_ | refine blk_alloc ?_ _)); exact BK17001.out) hb); have n1_ := Aside0.mk (below_step (by repeat (first | (with_reducible first | exact HB.out | apply below_alloc | apply pw_below_drewN | apply below_drew1 | refine below_set ?_ GE17001.out) | exact HB.out)) hb); have n2_ := Aside0.mk (hbox); have n3_ := Aside0.mk ((by rw [hg]; exact (below_size (by repeat (first | (with_reducible first | exact HB.out | apply below_alloc | apply pw_below_drewN | apply below_drew1 | refine below_set ?_ GE17001.out) | exact HB.out))) : w.heap.size ≤ gb17002)); have n4_ := Aside0.mk ((by rw [hg]; exact (below_size (by repeat (first | (with_reducible first | exact HB.out | apply below_alloc | apply pw_below_drewN | apply below_drew1 | refine below_set ?_ GE17001.out) | exact HB.out))) : w.heap.size ≤ gb17002)); have n5_ := Aside0.mk ((by rw [hg]; exact Nat.ne_of_lt (blk_lt (g := gb17001) (o := .cells #[.slice A0_0 l0_0.length c0_0, .slice A0_1 l0_1.length c0_1] 49 (0, 0)) (by (with_reducible repeat (first | refine blk_drewN ?_ _ | refine blk_drew ?_ | refine blk_alloc ?_ _)); exact BK17001.out)) : gb17001 ≠ gb17002)); have n6_ := Aside0.mk ((by rw [hg]; exact Nat.ne_of_gt (blk_lt (g := gb17001) (o := .cells #[.slice A0_0 l0_0.length c0_0, .slice A0_1 l0_1.length c0_1] 49 (0, 0)) (by (with_reducible repeat (first | refine blk_drewN ?_ _ | refine blk_drew ?_ | refine blk_alloc ?_ _)); exact BK17001.out)) : gb17002 ≠ gb17001)); clear BK17001; clear HB; have BK17001 := n0_; have HB := n1_; have BK17002 := n2_; have GW17002 := n3_; have GE17002 := n4_; have NB17001_17002 := n5_; have NB17002_17001 := n6_; clear n0_ n1_ n2_ n3_ n4_ n5_ n6_; clear hb hbox hg; have hnb125 := NB17001_17002.out; have hnc125 := NB17002_17001.out; have hcz126_0 : w124.cell? ⟨gb17001, 0, none⟩ = some (.slice A0_0 l0_0.length c0_0) := (blk_cell BK17001.out 0).trans rfl; have hcz126_1 : w124.cell? ⟨gb17001, 1, none⟩ = some (.slice A0_1 l0_1.length c0_1) := (blk_cell BK17001.out 1).trans rfl; have hfz126_0 := blk_frozen BK17001.out 0; have hfz126_1 := blk_frozen BK17001.out 1) | ((with_reducible refine gate_callee (f := 61) rfl ?_); refine goesL_ (some 16) rfl rfl Try.func61 (by kernel_rfl) rfl #[.agg #[.slice A0_0 l0_0.length c0_0, .slice A0_1 l0_1.length c0_1]] rfl (by (try simp only [List.map_toArray, List.map_cons, List.map_nil]); first | done | rfl | (simp only [List.length_drop, List.length_take]; rfl)) ?_; (with_reducible refine (spec_IsValidDfa.calls k _ _ l0_0 _ _ l0_1 false _ ?side1 ?side2 ?side3 ?side4 A2.out).mono ?_); (case side1 => repeat (first | exact (Kd.C_below HR0_0.out HB.out) | (with_reducible refine Kd.C_alloc ?_ _) | (with_reducible refine Kd.C_drewN ?_ _) | (with_reducible refine Kd.C_drew ?_))); (case side2 => exact HC0_0.out); (case side3 => repeat (first | exact (Kd.C_below HR0_1.out HB.out) | (with_reducible refine Kd.C_alloc ?_ _) | (with_reducible refine Kd.C_drewN ?_ _) | (with_reducible refine Kd.C_drew ?_))); (case side4 => exact HC0_1.out); rintro e w127 ⟨rfl, hb⟩; refine ⟨_, rfl, ?_⟩; have n0_ := Aside0.mk (blk_below (g := gb17001) (o := .cells #[.slice A0_0 l0_0.length c0_0, .slice A0_1 l0_1.length c0_1] 49 (0, 0)) (by (with_reducible repeat (first | refine blk_drewN ?_ _ | refine blk_drew ?_ | refine blk_alloc ?_ _)); exact BK17001.out) hb); have n1_ := Aside0.mk (blk_below (g := gb17002) (o := .cells #[.slice none 0 0, .slice none 0 0, .slice none 0 0] 34 (0, 0)) (by (with_reducible repeat (first | refine blk_drewN ?_ _ | refine blk_drew ?_ | refine blk_alloc ?_ _)); exact BK17002.out) hb); have n2_ := Aside0.mk (below_step (by repeat (first | (with_reducible first | exact HB.out | apply below_alloc | apply pw_below_drewN | apply below_drew1 | refine below_set ?_ GE17001.out | refine below_set ?_ GE17002.out) | exact HB.out)) hb); clear BK17001; clear BK17002; clear HB; have BK17001 := n0_; have BK17002 := n1_; have HB := n2_; clear n0_ n1_ n2_; (try clear hb); (try clear hb2); (try clear hk); (try clear hi); have hcz128_0 : w127.cell? ⟨gb17002, 0, none⟩ = some (.slice none 0 0) := (blk_cell BK17002.out 0).trans rfl; have hcz128_1 : w127.cell? ⟨gb17002, 1, none⟩ = some (.slice none 0 0) := (blk_cell BK17002.out 1).trans rfl; have hcz128_2 : w127.cell? ⟨gb17002, 2, none⟩ = some (.slice none 0 0) := (blk_cell BK17002.out 2).trans rfl; have hfz128_0 := blk_frozen BK17002.out 0; have hfz128_1 := blk_frozen BK17002.out 1; have hfz128_2 := blk_frozen BK17002.out 2))
    refine bodyPost_ret (results_ct rfl _ _ gb17002 34 #[.slice none 0 0, .slice none 0 0, .slice none 0 0] (0, 0) _ rfl (by (with_reducible repeat (first | refine blk_drewN ?_ _ | refine blk_drew ?_ | refine blk_alloc ?_ _)); refine blk_put (cs := #[.slice none 0 0, .slice none 0 0, .slice none 0 0]) ?_ 2 _ rfl; (with_reducible repeat (first | refine blk_drewN ?_ _ | refine blk_drew ?_ | refine blk_alloc ?_ _)); refine blk_put (cs := #[.slice none 0 0, .slice none 0 0, .slice none 0 0]) ?_ 1 _ rfl; (with_reducible repeat (first | refine blk_drewN ?_ _ | refine blk_drew ?_ | refine blk_alloc ?_ _)); refine blk_put (cs := #[.slice none 0 0, .slice none 0 0, .slice none 0 0]) ?_ 0 _ rfl; (with_reducible repeat (first | refine blk_drewN ?_ _ | refine blk_drew ?_ | refine blk_alloc ?_ _)); exact BK17002.out) Try.underlying34 rfl (by kernel_rfl)) rfl ?_
    exact ⟨_, _, _, by first | rfl | (simp [errW_none, errW_some] <;> rfl) | (simp [*, errW_none, errW_some] <;> rfl), by first | exact Kd.S_nil _ _ _ _ _ | exact Kd.N_nil _ _ _ _ _ | exact Kd.V_nil _ _ _ _ _ | exact Kd.Q_nil _ _ _ _ _ | exact Kd.R_nil _ _ _ _ _, by first | exact Kd.R_nil _ _ _ _ _ | exact Kd.N_nil _ _ _ _ _ | exact Kd.V_nil _ _ _ _ _ | exact Kd.Q_nil _ _ _ _ _ | exact Kd.S_nil _ _ _ _ _, by first | exact Kd.S_nil _ _ _ _ _ | exact Kd.N_nil _ _ _ _ _ | exact Kd.V_nil _ _ _ _ _ | exact Kd.Q_nil _ _ _ _ _ | exact Kd.R_nil _ _ _ _ _, by repeat (first | (with_reducible first | exact HB.out | apply below_alloc | apply pw_below_drewN | apply below_drew1 | refine below_set ?_ GE17001.out | refine below_set ?_ GE17002.out) | exact HB.out)⟩


end Go.Proofs.Ytjmfpaalglbbhaa.A

