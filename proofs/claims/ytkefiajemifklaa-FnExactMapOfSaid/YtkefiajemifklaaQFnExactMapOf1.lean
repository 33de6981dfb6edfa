/- FnExactMapOf: what its proof needs, put together by this session's program wip/merge.py out of the texts that wip/xp.py printed and of this session's own. -/
import Derived.Test.YtkefiajemifklaaQFnExactMapOf0
import Derived.Test.YtkefiajemifklaaWMore
import Derived.ChangeArms
import Derived.ChangeReads
import Derived.DataReads
import Derived.DataElems
import Derived.Test.YtkefiajemifklaaRows
import Derived.WalkKit
import Derived.ProofKit
import Derived.OpenShut
import Derived.ShutString
import Derived.ChangeOld
import Derived.Below
import Derived.SizedLaws
import Derived.Lib.SmallJoins
namespace Go.Proofs.Ytkefiajemifklaa.A
open Go.RowKit Go.Proofs.Ytkefiajemifklaa.Ext Go.Proofs.YtkefiajemifklaaW.PrintWords Go.Proofs.YtkefiajemifklaaW.PrintLast Go.Proofs.YtkefiajemifklaaW.PrintMore
attribute [local go_sem] max2_int min2_int max_two min_two max_three min_three max_four min_four   -- for this text's walks alone
set_option linter.unusedVariables false
set_option linter.unusedSimpArgs false

/-! ### spec_l13Numbers: function 147 -/
def spec_l13Numbers.l0 : Nat → List Int → Int → Int → Option (Bool)
  | 0, _, _, _ => none
  | k + 1, x0, x1, x5 => if x5 < (x0.length : Int) then (if 0 ≤ x5 then ((spec_l1In.f (rd x0 x5) 0 (wrap64 (x1 - 1))).bind fun t147002 => (if t147002 = true then (spec_l13Numbers.l0 k x0 x1 (wrap64 (x5 + 1))) else (some false))) else (none)) else (some true)
def spec_l13Numbers.f (k : Nat) (l0 : List Int) (a1 : Int) : Option (Bool) := spec_l13Numbers.l0 k l0 a1 0
theorem spec_l13Numbers.mono_l : ∀ k, (∀ y0 y1 y2, LeO (spec_l13Numbers.l0 k y0 y1 y2) (spec_l13Numbers.l0 (k + 1) y0 y1 y2))
  | 0 => fun _ _ _ r h => by simp [spec_l13Numbers.l0] at h
  | k + 1 => by
    have ih0 := spec_l13Numbers.mono_l k
    · intro y0 y1 y2
      unfold spec_l13Numbers.l0
      repeat' first
      | (with_reducible exact ih0 _ _ _)
      | (with_reducible exact LeO.refl _)
      | (with_reducible exact LeO.none _)
      | (with_reducible refine LeO.ite ?_ ?_)
      | (with_reducible refine LeO.bind ?_ (fun _ => ?_))
      | exact ih0 _ _ _
      | exact LeO.none _
      | refine LeO.ite ?_ ?_
      | refine LeO.bind ?_ (fun _ => ?_)
theorem spec_l13Numbers.mono : ∀ a0 a1 k, LeO (spec_l13Numbers.f k a0 a1) (spec_l13Numbers.f (k + 1) a0 a1) := by
  intro a0 a1 k
  have ih0 := spec_l13Numbers.mono_l k
  unfold spec_l13Numbers.f
  repeat' first
      | (with_reducible exact ih0 _ _ _)
      | (with_reducible exact LeO.refl _)
      | (with_reducible exact LeO.none _)
      | (with_reducible refine LeO.ite ?_ ?_)
      | (with_reducible refine LeO.bind ?_ (fun _ => ?_))
      | exact ih0 _ _ _
      | exact LeO.none _
      | refine LeO.ite ?_ ?_
      | refine LeO.bind ?_ (fun _ => ?_)
set_option maxHeartbeats 8000000 in
set_option maxRecDepth 100000 in
theorem spec_l13Numbers.calls (k : Nat) (A0 : Option Addr) (c0 : Nat) (l0 : List Int) (a1 : Int) (r : Bool) (w : World) (hr0 : Kd.C (Kd.int .i64) w A0 l0.length l0) (hc0 : l0.length ≤ c0) (h : spec_l13Numbers.f k l0 a1 = some r) :
    Calls Try.prog 147 #[.slice A0 l0.length c0, .int .i64 a1] w fun e w' => e = .returned (.bool r) ∧ Drawn0 w w' := by
  have HR0 := Aside0.mk hr0
  have HC0 := Aside0.mk hc0
  clear hr0 hc0
  have H : (spec_l13Numbers.l0 k l0 a1 0) = some r := h
  clear h
  have H' := Aside0.mk H
  clear H
  go_enter Try.func147, Try.ntmps147
  go_wp2
  first | go_loopg [5] k (fun kq v5 w' => ∃ (x5_1 : Int), v5 = .int .i64 x5_1 ∧ Aside0 (spec_l13Numbers.l0 kq l0 a1 x5_1 = some r) ∧ Aside0 (kq ≤ k) ∧ Drawn0 w w') | (simp only [Act.put, List.setIfInBounds_toArray, List.set_cons_succ, List.set_cons_zero]; go_loopg [5] k (fun kq v5 w' => ∃ (x5_1 : Int), v5 = .int .i64 x5_1 ∧ Aside0 (spec_l13Numbers.l0 kq l0 a1 x5_1 = some r) ∧ Aside0 (kq ≤ k) ∧ Drawn0 w w'))
  case atStart => exact ⟨(0), (by first | rfl | (simp; done) | (simp [*]; done)), H', ⟨Nat.le_refl _⟩, by repeat (first | exact Drawn0.refl _ | apply Drawn0.step)⟩
  case round =>
    clear H'
    try clear c1
    try clear p2
    obtain ⟨x5_1, rfl, HA, HK1, ⟨m1, rfl⟩⟩ := hrel
    cases gk with
    | zero => exact absurd HA.out (by simp [spec_l13Numbers.l0])
    | succ k1 =>
      have H := HA.out
      clear HA
      simp only [spec_l13Numbers.l0] at H
      by_cases c3 : x5_1 < (l0.length : Int)
      · rw [if_pos c3] at H
        have c3b0 : decide (x5_1 < (l0.length : Int)) = true := decide_eq_true c3
        clear c3
        by_cases c4 : 0 ≤ x5_1
        · rw [if_pos c4] at H
          have c4b0 : decide (0 ≤ x5_1) = true := decide_eq_true c4
          clear c4
          replace H := Option.bind_eq_some_iff.mp H
          obtain ⟨t147002, A50, H⟩ := H
          replace H : (if t147002 = true then (spec_l13Numbers.l0 k1 l0 a1 (wrap64 (x5_1 + 1))) else (some false)) = some r := H
          have A5 := Aside0.mk A50
          clear A50
          by_cases c6 : t147002 = true
          · subst c6
            have H1 : (spec_l13Numbers.l0 k1 l0 a1 (wrap64 (x5_1 + 1))) = some r := by rw [if_pos rfl] at H; exact H
            clear H
            have H := H1
            clear H1
            have H' := Aside0.mk H
            clear H
            have p147001 : 0 ≤ (x5_1 : Int) := of_decide_eq_true (by first | (with_reducible assumption) | assumption)
            have q147001 : x5_1 < (l0.length : Int) := of_decide_eq_true (by first | (with_reducible assumption) | assumption)
            obtain ⟨ad147001, e147001, hx147001_0⟩ := Kd.at_int HR0.out x5_1 p147001 q147001
            cases e147001
            replace p147001 := eq_true p147001
            replace q147001 := eq_true q147001
            go_wp2_with (first | ((with_reducible refine gate_callee (f := 86) rfl ?_); refine goesL_ (some 18) rfl rfl Try.func86 (by kernel_rfl) rfl #[.int .i64 (rd l0 x5_1), .int .i64 0, .int .i64 (wrap64 (a1 - 1))] rfl (by (try simp only [List.map_toArray, List.map_cons, List.map_nil]); first | done | rfl | (simp only [List.length_drop, List.length_take]; rfl)) ?_; (with_reducible refine (spec_l1In.calls (rd l0 x5_1) 0 (wrap64 (a1 - 1)) true _ A5.out).mono ?_); rintro e w' ⟨rfl, ⟨nd, rfl⟩⟩; refine ⟨_, rfl, ?_⟩))
            go_roundg k1
            case measure => have := HK1.out; omega
            case rel => exact ⟨(wrap64 (x5_1 + 1)), (by first | rfl | (simp; done) | (simp [*]; done)), H', ⟨by have := HK1.out; omega⟩, by repeat (first | exact Drawn0.refl _ | apply Drawn0.step)⟩
          · replace c6 := Bool.eq_false_iff.mpr c6
            subst c6
            have H1 : (some false) = some r := by rw [if_neg (show ¬ (false = true) by decide)] at H; exact H
            clear H
            have H := H1
            clear H1
            obtain rfl := Option.some.inj H
            have p147001 : 0 ≤ (x5_1 : Int) := of_decide_eq_true (by first | (with_reducible assumption) | assumption)
            have q147001 : x5_1 < (l0.length : Int) := of_decide_eq_true (by first | (with_reducible assumption) | assumption)
            obtain ⟨ad147001, e147001, hx147001_0⟩ := Kd.at_int HR0.out x5_1 p147001 q147001
            cases e147001
            replace p147001 := eq_true p147001
            replace q147001 := eq_true q147001
            go_wp2_with (first | ((with_reducible refine gate_callee (f := 86) rfl ?_); refine goesL_ (some 18) rfl rfl Try.func86 (by kernel_rfl) rfl #[.int .i64 (rd l0 x5_1), .int .i64 0, .int .i64 (wrap64 (a1 - 1))] rfl (by (try simp only [List.map_toArray, List.map_cons, List.map_nil]); first | done | rfl | (simp only [List.length_drop, List.length_take]; rfl)) ?_; (with_reducible refine (spec_l1In.calls (rd l0 x5_1) 0 (wrap64 (a1 - 1)) false _ A5.out).mono ?_); rintro e w' ⟨rfl, ⟨nd, rfl⟩⟩; refine ⟨_, rfl, ?_⟩))
            go_ret
            exact ⟨by first | rfl | (simp; done) | (simp [*]; done), by repeat (first | exact Drawn0.refl _ | apply Drawn0.step)⟩
        · rw [if_neg c4] at H
          exact absurd H (by simp)
      · rw [if_neg c3] at H
        have c3b0 : decide (x5_1 < (l0.length : Int)) = false := decide_eq_false c3
        clear c3
        obtain rfl := Option.some.inj H
        go_wp2
        go_ret
        exact ⟨by first | rfl | (simp; done) | (simp [*]; done), by repeat (first | exact Drawn0.refl _ | apply Drawn0.step)⟩

/-! ### spec_l13Good: function 94 -/
mutual
def spec_l13Good.j0 : Nat → Int → Bool → List (List Int) → List Int → List (List Int) → Option (Bool)
  | 0, _, _, _, _, _ => none
  | k + 1, x3, x29, x94002000, x94002001, x94002002 => if x29 = true then (some false) else (spec_l13Good.l0 k x3 0 x94002000 x94002001 x94002002)
def spec_l13Good.l0 : Nat → Int → Int → List (List Int) → List Int → List (List Int) → Option (Bool)
  | 0, _, _, _, _, _ => none
  | k + 1, x3, x4, x94002000, x94002001, x94002002 => if x4 < x3 then (if 0 ≤ x4 then (if x4 < (x94002002.length : Int) then (if ((rd_L1 x94002002 x4).length : Int) = x3 then ((spec_l13Numbers.f k (rd_L1 x94002002 x4) x3).bind fun t94005 => (if t94005 = true then (spec_l13Good.l0 k x3 (wrap64 (x4 + 1)) x94002000 x94002001 x94002002) else (some false))) else (some false)) else (none)) else (none)) else (some true)
end
def spec_l13Good.f (k : Nat) (l0_0 : List (List Int)) (l0_1 : List Int) (l0_2 : List (List Int)) : Option (Bool) := if (l0_0.length : Int) = 0 then (spec_l13Good.j0 k (l0_0.length : Int) true l0_0 l0_1 l0_2) else (if (l0_1.length : Int) = 3 then (if (l0_2.length : Int) = (l0_0.length : Int) then ((spec_l13Numbers.f k l0_1 (l0_0.length : Int)).bind fun t94002 => (spec_l13Good.j0 k (l0_0.length : Int) (!t94002) l0_0 l0_1 l0_2)) else (spec_l13Good.j0 k (l0_0.length : Int) true l0_0 l0_1 l0_2)) else (spec_l13Good.j0 k (l0_0.length : Int) true l0_0 l0_1 l0_2))
theorem spec_l13Good.mono_l : ∀ k, (∀ y0 y1 y2 y3 y4, LeO (spec_l13Good.j0 k y0 y1 y2 y3 y4) (spec_l13Good.j0 (k + 1) y0 y1 y2 y3 y4)) ∧ (∀ y0 y1 y2 y3 y4, LeO (spec_l13Good.l0 k y0 y1 y2 y3 y4) (spec_l13Good.l0 (k + 1) y0 y1 y2 y3 y4))
  | 0 => ⟨fun _ _ _ _ _ r h => by simp [spec_l13Good.j0] at h, fun _ _ _ _ _ r h => by simp [spec_l13Good.l0] at h⟩
  | k + 1 => by
    obtain ⟨ih0, ih1⟩ := spec_l13Good.mono_l k
    refine ⟨?_, ?_⟩
    · intro y0 y1 y2 y3 y4
      unfold spec_l13Good.j0
      repeat' first
      | (with_reducible exact ih0 _ _ _ _ _)
      | (with_reducible exact ih1 _ _ _ _ _)
      | (with_reducible exact spec_l13Numbers.mono _ _ _)
      | (with_reducible exact LeO.refl _)
      | (with_reducible exact LeO.none _)
      | (with_reducible refine LeO.ite ?_ ?_)
      | (with_reducible refine LeO.bind ?_ (fun _ => ?_))
      | exact ih0 _ _ _ _ _
      | exact ih1 _ _ _ _ _
      | exact spec_l13Numbers.mono _ _ _
      | exact LeO.none _
      | refine LeO.ite ?_ ?_
      | refine LeO.bind ?_ (fun _ => ?_)
    · intro y0 y1 y2 y3 y4
      unfold spec_l13Good.l0
      repeat' first
      | (with_reducible exact ih0 _ _ _ _ _)
      | (with_reducible exact ih1 _ _ _ _ _)
      | (with_reducible exact spec_l13Numbers.mono _ _ _)
      | (with_reducible exact LeO.refl _)
      | (with_reducible exact LeO.none _)
      | (with_reducible refine LeO.ite ?_ ?_)
      | (with_reducible refine LeO.bind ?_ (fun _ => ?_))
      | exact ih0 _ _ _ _ _
      | exact ih1 _ _ _ _ _
      | exact spec_l13Numbers.mono _ _ _
      | exact LeO.none _
      | refine LeO.ite ?_ ?_
      | refine LeO.bind ?_ (fun _ => ?_)
theorem spec_l13Good.mono : ∀ a0 a1 a2 k, LeO (spec_l13Good.f k a0 a1 a2) (spec_l13Good.f (k + 1) a0 a1 a2) := by
  intro a0 a1 a2 k
  obtain ⟨ih0, ih1⟩ := spec_l13Good.mono_l k
  unfold spec_l13Good.f
  repeat' first
      | (with_reducible exact ih0 _ _ _ _ _)
      | (with_reducible exact ih1 _ _ _ _ _)
      | (with_reducible exact spec_l13Numbers.mono _ _ _)
      | (with_reducible exact LeO.refl _)
      | (with_reducible exact LeO.none _)
      | (with_reducible refine LeO.ite ?_ ?_)
      | (with_reducible refine LeO.bind ?_ (fun _ => ?_))
      | exact ih0 _ _ _ _ _
      | exact ih1 _ _ _ _ _
      | exact spec_l13Numbers.mono _ _ _
      | exact LeO.none _
      | refine LeO.ite ?_ ?_
      | refine LeO.bind ?_ (fun _ => ?_)
set_option maxHeartbeats 8000000 in
set_option maxRecDepth 100000 in
theorem spec_l13Good.calls (k : Nat) (A0_0 : Option Addr) (c0_0 : Nat) (l0_0 : List (List Int)) (A0_1 : Option Addr) (c0_1 : Nat) (l0_1 : List Int) (A0_2 : Option Addr) (c0_2 : Nat) (l0_2 : List (List Int)) (r : Bool) (w : World) (hr0_0 : Kd.C (Kd.slice 3 (Kd.int .i64)) w A0_0 l0_0.length l0_0) (hc0_0 : l0_0.length ≤ c0_0) (hr0_1 : Kd.C (Kd.int .i64) w A0_1 l0_1.length l0_1) (hc0_1 : l0_1.length ≤ c0_1) (hr0_2 : Kd.C (Kd.slice 3 (Kd.int .i64)) w A0_2 l0_2.length l0_2) (hc0_2 : l0_2.length ≤ c0_2) (h : spec_l13Good.f k l0_0 l0_1 l0_2 = some r) :
    Calls Try.prog 94 #[.agg #[.slice A0_0 l0_0.length c0_0, .slice A0_1 l0_1.length c0_1, .slice A0_2 l0_2.length c0_2]] w fun e w' => e = .returned (.bool r) ∧ Below w.heap.size w w' := by
  have hu31 := Try.underlying31
  have HR0_0 := Aside0.mk hr0_0
  have HC0_0 := Aside0.mk hc0_0
  clear hr0_0 hc0_0
  have HR0_1 := Aside0.mk hr0_1
  have HC0_1 := Aside0.mk hc0_1
  clear hr0_1 hc0_1
  have HR0_2 := Aside0.mk hr0_2
  have HC0_2 := Aside0.mk hc0_2
  clear hr0_2 hc0_2
  have HB := Aside0.mk (Below.refl w.heap.size w)
  have H : (if (l0_0.length : Int) = 0 then (spec_l13Good.j0 k (l0_0.length : Int) true l0_0 l0_1 l0_2) else (if (l0_1.length : Int) = 3 then (if (l0_2.length : Int) = (l0_0.length : Int) then ((spec_l13Numbers.f k l0_1 (l0_0.length : Int)).bind fun t94002 => (spec_l13Good.j0 k (l0_0.length : Int) (!t94002) l0_0 l0_1 l0_2)) else (spec_l13Good.j0 k (l0_0.length : Int) true l0_0 l0_1 l0_2)) else (spec_l13Good.j0 k (l0_0.length : Int) true l0_0 l0_1 l0_2))) = some r := h
  clear h
  have HC2 := Aside0.mk H
  clear H
  go_enter Try.func94, Try.ntmps94
  go_upto_region 2 with (first | ((with_reducible refine gate_dst (N := 1) rfl ?_); (try (refine gate_guard (by rfl) ?_; dsimp only)); refine box_event ?hg (N := 1) ?hd (cs := #[.slice A0_0 l0_0.length c0_0, .slice A0_1 l0_1.length c0_1, .slice A0_2 l0_2.length c0_2]) (t := 31) ?hr ?_; (case hd => rfl); (case hg => rfl); (case hr => first | (go_simp; done) | (go_simp; rfl)); intro gb94001 hg w3 hbox hb; have n0_ := Aside0.mk (below_step (by repeat (first | (with_reducible first | exact HB.out | apply below_alloc | apply pw_below_drewN | apply below_drew1) | exact HB.out)) hb); have n1_ := Aside0.mk (hbox); have n2_ := Aside0.mk ((by rw [hg]; exact (below_size (by repeat (first | (with_reducible first | exact HB.out | apply below_alloc | apply pw_below_drewN | apply below_drew1) | exact HB.out))) : w.heap.size ≤ gb94001)); have n3_ := Aside0.mk ((by rw [hg]; exact (below_size (by repeat (first | (with_reducible first | exact HB.out | apply below_alloc | apply pw_below_drewN | apply below_drew1) | exact HB.out))) : w.heap.size ≤ gb94001)); clear HB; have HB := n0_; have BK94001 := n1_; have GW94001 := n2_; have GE94001 := n3_; clear n0_ n1_ n2_ n3_; clear hb hbox hg; have hcz4_0 : w3.cell? ⟨gb94001, 0, none⟩ = some (.slice A0_0 l0_0.length c0_0) := (blk_cell BK94001.out 0).trans rfl; have hcz4_1 : w3.cell? ⟨gb94001, 1, none⟩ = some (.slice A0_1 l0_1.length c0_1) := (blk_cell BK94001.out 1).trans rfl; have hcz4_2 : w3.cell? ⟨gb94001, 2, none⟩ = some (.slice A0_2 l0_2.length c0_2) := (blk_cell BK94001.out 2).trans rfl; have hfz4_0 := blk_frozen BK94001.out 0; have hfz4_1 := blk_frozen BK94001.out 1; have hfz4_2 := blk_frozen BK94001.out 2))
  (try simp only [Act.put, List.setIfInBounds_toArray, List.set_cons_zero, List.set_cons_succ])
  go_cut [29] (fun v29 wc => ∃ (kq : Nat) (x29_1 : Bool), v29 = .bool x29_1 ∧ Aside0 (spec_l13Good.j0 kq (l0_0.length : Int) x29_1 l0_0 l0_1 l0_2 = some r) ∧ Aside0 (kq ≤ k) ∧ Aside0 (wc.heap[gb94001]? = some (.cells #[(.slice A0_0 l0_0.length c0_0), (.slice A0_1 l0_1.length c0_1), (.slice A0_2 l0_2.length c0_2)] 31 (0, 0))) ∧ Aside0 (Below w.heap.size w wc))
  case first =>
    have H := HC2.out
    clear HC2
    by_cases c5 : (l0_0.length : Int) = 0
    · rw [if_pos c5] at H
      have c5b0 : ((l0_0.length : Int) == 0) = true := beq_iff_eq.mpr c5
      have c5b1 : ((l0_0.length : Int) != 0) = false := bne_eq_false_iff_eq.mpr c5
      clear c5
      (first | rw [c5b0] | (simp only [i64_w, i32_w]; rw [c5b0]) | skip)
      have H' := Aside0.mk H
      clear H
      go_wp2
      go_meet
      case rel => exact ⟨_, (true), (by first | rfl | (simp; done) | (simp [*]; done)), H', ⟨by first | omega | exact Nat.le_refl _⟩, ⟨by (with_reducible repeat (first | refine blk_drewN ?_ _ | refine blk_drew ?_ | refine blk_alloc ?_ _)); exact BK94001.out⟩, ⟨by repeat (first | (with_reducible first | exact HB.out | apply below_alloc | apply pw_below_drewN | apply below_drew1 | refine below_set ?_ GE94001.out) | exact HB.out)⟩⟩
    · rw [if_neg c5] at H
      have c5b0 : ((l0_0.length : Int) == 0) = false := beq_eq_false_iff_ne.mpr c5
      have c5b1 : ((l0_0.length : Int) != 0) = true := bne_iff_ne.mpr c5
      have c5b2 : ¬ (l0_0 = []) := fun h_ => c5 (by rw [h_]; rfl)
      (first | rw [c5b0] | (simp only [i64_w, i32_w]; rw [c5b0]) | skip)
      by_cases c6 : (l0_1.length : Int) = 3
      · rw [if_pos c6] at H
        have c6b0 : ((l0_1.length : Int) == 3) = true := beq_iff_eq.mpr c6
        have c6b1 : ((l0_1.length : Int) != 3) = false := bne_eq_false_iff_eq.mpr c6
        clear c6
        by_cases c7 : (l0_2.length : Int) = (l0_0.length : Int)
        · rw [if_pos c7] at H
          have c7b0 : ((l0_2.length : Int) == (l0_0.length : Int)) = true := beq_iff_eq.mpr c7
          have c7b1 : ((l0_2.length : Int) != (l0_0.length : Int)) = false := bne_eq_false_iff_eq.mpr c7
          have c7b2 : (l0_2.length == l0_0.length) = true := by first | simpa using c7 | (simp at c7 ⊢; omega)
          clear c7
          replace H := Option.bind_eq_some_iff.mp H
          obtain ⟨t94002, A80, H⟩ := H
          replace H : (spec_l13Good.j0 k (l0_0.length : Int) (!t94002) l0_0 l0_1 l0_2) = some r := H
          have A8 := Aside0.mk A80
          clear A80
          have H' := Aside0.mk H
          clear H
          have hcz9_0 : w3.cell? ⟨gb94001, 0, none⟩ = some (.slice A0_0 l0_0.length c0_0) := (blk_cell BK94001.out 0).trans rfl
          have hcz9_1 : w3.cell? ⟨gb94001, 1, none⟩ = some (.slice A0_1 l0_1.length c0_1) := (blk_cell BK94001.out 1).trans rfl
          have hcz9_2 : w3.cell? ⟨gb94001, 2, none⟩ = some (.slice A0_2 l0_2.length c0_2) := (blk_cell BK94001.out 2).trans rfl
          have hfz9_0 := blk_frozen BK94001.out 0
          have hfz9_1 := blk_frozen BK94001.out 1
          have hfz9_2 := blk_frozen BK94001.out 2
          go_wp2_with (first | (go_at_call 147; (with_reducible refine (spec_l13Numbers.calls k _ _ l0_1 (l0_0.length : Int) t94002 _ ?side1 ?side2 A8.out).mono ?_); (case side1 => repeat (first | exact (Kd.C_below HR0_1.out HB.out) | (with_reducible refine Kd.C_alloc ?_ _) | (with_reducible refine Kd.C_drewN ?_ _) | (with_reducible refine Kd.C_drew ?_))); (case side2 => exact HC0_1.out); rintro e w' ⟨rfl, ⟨nd, rfl⟩⟩))
          go_meet
          case rel => exact ⟨_, (!t94002), (by first | rfl | (simp; done) | (simp [*]; done)), H', ⟨by first | omega | exact Nat.le_refl _⟩, ⟨by (with_reducible repeat (first | refine blk_drewN ?_ _ | refine blk_drew ?_ | refine blk_alloc ?_ _)); exact BK94001.out⟩, ⟨by repeat (first | (with_reducible first | exact HB.out | apply below_alloc | apply pw_below_drewN | apply below_drew1 | refine below_set ?_ GE94001.out) | exact HB.out)⟩⟩
        · rw [if_neg c7] at H
          have c7b0 : ((l0_2.length : Int) == (l0_0.length : Int)) = false := beq_eq_false_iff_ne.mpr c7
          have c7b1 : ((l0_2.length : Int) != (l0_0.length : Int)) = true := bne_iff_ne.mpr c7
          have c7b2 : (l0_2.length == l0_0.length) = false := by first | simpa using c7 | (simp at c7 ⊢; omega)
          have H' := Aside0.mk H
          clear H
          have hcz10_0 : w3.cell? ⟨gb94001, 0, none⟩ = some (.slice A0_0 l0_0.length c0_0) := (blk_cell BK94001.out 0).trans rfl
          have hcz10_1 : w3.cell? ⟨gb94001, 1, none⟩ = some (.slice A0_1 l0_1.length c0_1) := (blk_cell BK94001.out 1).trans rfl
          have hcz10_2 : w3.cell? ⟨gb94001, 2, none⟩ = some (.slice A0_2 l0_2.length c0_2) := (blk_cell BK94001.out 2).trans rfl
          have hfz10_0 := blk_frozen BK94001.out 0
          have hfz10_1 := blk_frozen BK94001.out 1
          have hfz10_2 := blk_frozen BK94001.out 2
          go_wp2
          go_meet
          case rel => exact ⟨_, (true), (by first | rfl | (simp; done) | (simp [*]; done)), H', ⟨by first | omega | exact Nat.le_refl _⟩, ⟨by (with_reducible repeat (first | refine blk_drewN ?_ _ | refine blk_drew ?_ | refine blk_alloc ?_ _)); exact BK94001.out⟩, ⟨by repeat (first | (with_reducible first | exact HB.out | apply below_alloc | apply pw_below_drewN | apply below_drew1 | refine below_set ?_ GE94001.out) | exact HB.out)⟩⟩
      · rw [if_neg c6] at H
        have c6b0 : ((l0_1.length : Int) == 3) = false := beq_eq_false_iff_ne.mpr c6
        have c6b1 : ((l0_1.length : Int) != 3) = true := bne_iff_ne.mpr c6
        have H' := Aside0.mk H
        clear H
        have hcz11_0 : w3.cell? ⟨gb94001, 0, none⟩ = some (.slice A0_0 l0_0.length c0_0) := (blk_cell BK94001.out 0).trans rfl
        have hcz11_1 : w3.cell? ⟨gb94001, 1, none⟩ = some (.slice A0_1 l0_1.length c0_1) := (blk_cell BK94001.out 1).trans rfl
        have hcz11_2 : w3.cell? ⟨gb94001, 2, none⟩ = some (.slice A0_2 l0_2.length c0_2) := (blk_cell BK94001.out 2).trans rfl
        have hfz11_0 := blk_frozen BK94001.out 0
        have hfz11_1 := blk_frozen BK94001.out 1
        have hfz11_2 := blk_frozen BK94001.out 2
        go_wp2
        go_meet
        case rel => exact ⟨_, (true), (by first | rfl | (simp; done) | (simp [*]; done)), H', ⟨by first | omega | exact Nat.le_refl _⟩, ⟨by (with_reducible repeat (first | refine blk_drewN ?_ _ | refine blk_drew ?_ | refine blk_alloc ?_ _)); exact BK94001.out⟩, ⟨by repeat (first | (with_reducible first | exact HB.out | apply below_alloc | apply pw_below_drewN | apply below_drew1 | refine below_set ?_ GE94001.out) | exact HB.out)⟩⟩
  case rest =>
    clear HC2
    try clear p2
    try clear c5
    try clear c5b0
    try clear c5b1
    try clear c5b2
    try clear c6
    try clear c6b0
    try clear c6b1
    try clear c7
    try clear c7b0
    try clear c7b1
    try clear c7b2
    try clear c9
    try clear hcz10_0
    try clear hcz10_1
    try clear hcz10_2
    try clear hcz11_0
    try clear hcz11_1
    try clear hcz11_2
    try clear hcz4_0
    try clear hcz4_1
    try clear hcz4_2
    try clear hcz9_0
    try clear hcz9_1
    try clear hcz9_2
    try clear hfz10_0
    try clear hfz10_1
    try clear hfz10_2
    try clear hfz11_0
    try clear hfz11_1
    try clear hfz11_2
    try clear hfz4_0
    try clear hfz4_1
    try clear hfz4_2
    try clear hfz9_0
    try clear hfz9_1
    try clear hfz9_2
    obtain ⟨kq, x29_1, rfl, HA, HJ1, BK94001, HB⟩ := hcut
    cases kq with
    | zero => exact absurd HA.out (by simp [spec_l13Good.j0])
    | succ kj1 =>
      have H := HA.out
      clear HA
      simp only [spec_l13Good.j0] at H
      by_cases c12 : x29_1 = true
      · subst c12
        have H1 : (some false) = some r := by rw [if_pos rfl] at H; exact H
        clear H
        have H := H1
        clear H1
        obtain rfl := Option.some.inj H
        go_wp2
        go_ret
        exact ⟨by first | rfl | (simp [errW_none, errW_some] <;> rfl) | (simp [*, errW_none, errW_some] <;> rfl), by repeat (first | (with_reducible first | exact HB.out | apply below_alloc | apply pw_below_drewN | apply below_drew1 | refine below_set ?_ GE94001.out) | exact HB.out)⟩
      · replace c12 := Bool.eq_false_iff.mpr c12
        subst c12
        have H1 : (spec_l13Good.l0 kj1 (l0_0.length : Int) 0 l0_0 l0_1 l0_2) = some r := by rw [if_neg (show ¬ (false = true) by decide)] at H; exact H
        clear H
        have H := H1
        clear H1
        have H' := Aside0.mk H
        clear H
        go_wp2
        first | go_loopg [4] kj1 (fun kq v4 w' => ∃ (x4_2 : Int), v4 = .int .i64 x4_2 ∧ Aside0 (spec_l13Good.l0 kq (l0_0.length : Int) x4_2 l0_0 l0_1 l0_2 = some r) ∧ Aside0 (kq ≤ kj1) ∧ Aside0 (w'.heap[gb94001]? = some (.cells #[(.slice A0_0 l0_0.length c0_0), (.slice A0_1 l0_1.length c0_1), (.slice A0_2 l0_2.length c0_2)] 31 (0, 0))) ∧ Aside0 (Below w.heap.size w w')) | (simp only [Act.put, List.setIfInBounds_toArray, List.set_cons_succ, List.set_cons_zero]; go_loopg [4] kj1 (fun kq v4 w' => ∃ (x4_2 : Int), v4 = .int .i64 x4_2 ∧ Aside0 (spec_l13Good.l0 kq (l0_0.length : Int) x4_2 l0_0 l0_1 l0_2 = some r) ∧ Aside0 (kq ≤ kj1) ∧ Aside0 (w'.heap[gb94001]? = some (.cells #[(.slice A0_0 l0_0.length c0_0), (.slice A0_1 l0_1.length c0_1), (.slice A0_2 l0_2.length c0_2)] 31 (0, 0))) ∧ Aside0 (Below w.heap.size w w')))
        case atStart => exact ⟨(0), (by first | rfl | (simp; done) | (simp [*]; done)), H', ⟨Nat.le_refl _⟩, ⟨by (with_reducible repeat (first | refine blk_drewN ?_ _ | refine blk_drew ?_ | refine blk_alloc ?_ _)); exact BK94001.out⟩, ⟨by repeat (first | (with_reducible first | exact HB.out | apply below_alloc | apply pw_below_drewN | apply below_drew1 | refine below_set ?_ GE94001.out) | exact HB.out)⟩⟩
        case round =>
          clear H'
          try clear c1
          try clear p2
          try clear c5
          try clear c5b0
          try clear c5b1
          try clear c5b2
          try clear c6
          try clear c6b0
          try clear c6b1
          try clear c7
          try clear c7b0
          try clear c7b1
          try clear c7b2
          try clear c9
          try clear c12
          try clear hcz10_0
          try clear hcz10_1
          try clear hcz10_2
          try clear hcz11_0
          try clear hcz11_1
          try clear hcz11_2
          try clear hcz4_0
          try clear hcz4_1
          try clear hcz4_2
          try clear hcz9_0
          try clear hcz9_1
          try clear hcz9_2
          try clear hfz10_0
          try clear hfz10_1
          try clear hfz10_2
          try clear hfz11_0
          try clear hfz11_1
          try clear hfz11_2
          try clear hfz4_0
          try clear hfz4_1
          try clear hfz4_2
          try clear hfz9_0
          try clear hfz9_1
          try clear hfz9_2
          try clear p2
          obtain ⟨x4_2, rfl, HA, HK2, BK94001, HB⟩ := hrel
          cases gk with
          | zero => exact absurd HA.out (by simp [spec_l13Good.l0])
          | succ k2 =>
            have H := HA.out
            clear HA
            simp only [spec_l13Good.l0] at H
            by_cases c13 : x4_2 < (l0_0.length : Int)
            · rw [if_pos c13] at H
              have c13b0 : decide (x4_2 < (l0_0.length : Int)) = true := decide_eq_true c13
              clear c13
              by_cases c14 : 0 ≤ x4_2
              · rw [if_pos c14] at H
                have c14b0 : decide (0 ≤ x4_2) = true := decide_eq_true c14
                clear c14
                by_cases c15 : x4_2 < (l0_2.length : Int)
                · rw [if_pos c15] at H
                  have c15b0 : decide (x4_2 < (l0_2.length : Int)) = true := decide_eq_true c15
                  clear c15
                  by_cases c16 : ((rd_L1 l0_2 x4_2).length : Int) = (l0_0.length : Int)
                  · rw [if_pos c16] at H
                    have c16b0 : (((rd_L1 l0_2 x4_2).length : Int) == (l0_0.length : Int)) = true := beq_iff_eq.mpr c16
                    have c16b1 : (((rd_L1 l0_2 x4_2).length : Int) != (l0_0.length : Int)) = false := bne_eq_false_iff_eq.mpr c16
                    have c16b2 : ((rd_L1 l0_2 x4_2).length == l0_0.length) = true := by first | simpa using c16 | (simp at c16 ⊢; omega)
                    clear c16
                    replace H := Option.bind_eq_some_iff.mp H
                    obtain ⟨t94005, A170, H⟩ := H
                    replace H : (if t94005 = true then (spec_l13Good.l0 k2 (l0_0.length : Int) (wrap64 (x4_2 + 1)) l0_0 l0_1 l0_2) else (some false)) = some r := H
                    have A17 := Aside0.mk A170
                    clear A170
                    by_cases c18 : t94005 = true
                    · subst c18
                      have H1 : (spec_l13Good.l0 k2 (l0_0.length : Int) (wrap64 (x4_2 + 1)) l0_0 l0_1 l0_2) = some r := by rw [if_pos rfl] at H; exact H
                      clear H
                      have H := H1
                      clear H1
                      have H' := Aside0.mk H
                      clear H
                      have hcz19_0 : wr.cell? ⟨gb94001, 0, none⟩ = some (.slice A0_0 l0_0.length c0_0) := (blk_cell BK94001.out 0).trans rfl
                      have hcz19_1 : wr.cell? ⟨gb94001, 1, none⟩ = some (.slice A0_1 l0_1.length c0_1) := (blk_cell BK94001.out 1).trans rfl
                      have hcz19_2 : wr.cell? ⟨gb94001, 2, none⟩ = some (.slice A0_2 l0_2.length c0_2) := (blk_cell BK94001.out 2).trans rfl
                      have hfz19_0 := blk_frozen BK94001.out 0
                      have hfz19_1 := blk_frozen BK94001.out 1
                      have hfz19_2 := blk_frozen BK94001.out 2
                      have p94003 : 0 ≤ (x4_2 : Int) := of_decide_eq_true (by first | (with_reducible assumption) | assumption)
                      have q94003 : x4_2 < (l0_2.length : Int) := of_decide_eq_true (by first | (with_reducible assumption) | assumption)
                      obtain ⟨ad94003, A94003_0, c94003_0, e94003, hx94003_0, hl94003_0, hi94003_0⟩ := at_L1 HR0_2.out x4_2 p94003 q94003
                      cases e94003
                      replace hx94003_0 := (HB.out.cell (World.block_lt_of_cell? w _ hx94003_0)).trans hx94003_0
                      have HR94003_0 := Aside0.mk hi94003_0
                      have HC94003_0 := Aside0.mk hl94003_0
                      clear hi94003_0 hl94003_0
                      replace p94003 := eq_true p94003
                      replace q94003 := eq_true q94003
                      have p94004 : 0 ≤ (x4_2 : Int) := of_decide_eq_true (by first | (with_reducible assumption) | assumption)
                      have q94004 : x4_2 < (l0_2.length : Int) := of_decide_eq_true (by first | (with_reducible assumption) | assumption)
                      obtain ⟨ad94004, A94004_0, c94004_0, e94004, hx94004_0, hl94004_0, hi94004_0⟩ := at_L1 HR0_2.out x4_2 p94004 q94004
                      obtain rfl : ad94003 = ad94004 := (by injection e94004)
                      replace hx94004_0 := (HB.out.cell (World.block_lt_of_cell? w _ hx94004_0)).trans hx94004_0
                      have HR94004_0 := Aside0.mk hi94004_0
                      have HC94004_0 := Aside0.mk hl94004_0
                      clear hi94004_0 hl94004_0
                      replace p94004 := eq_true p94004
                      replace q94004 := eq_true q94004
                      have ea_ := Option.some.inj (hx94003_0.symm.trans hx94004_0)
                      injection ea_ with ea_ en_ ec_
                      subst ea_
                      subst ec_
                      clear en_
                      go_wp2_with (first | (go_at_call 147; (with_reducible refine (spec_l13Numbers.calls k2 _ _ (rd_L1 l0_2 x4_2) (l0_0.length : Int) true _ ?side1 ?side2 A17.out).mono ?_); (case side1 => repeat (first | exact (Kd.C_below HR94004_0.out HB.out) | (with_reducible refine Kd.C_alloc ?_ _) | (with_reducible refine Kd.C_drewN ?_ _) | (with_reducible refine Kd.C_drew ?_))); (case side2 => exact HC94004_0.out); rintro e w' ⟨rfl, ⟨nd, rfl⟩⟩))
                      go_roundg k2
                      case measure => have := HJ1.out; have := HK2.out; omega
                      case rel => exact ⟨(wrap64 (x4_2 + 1)), (by first | rfl | (simp; done) | (simp [*]; done)), H', ⟨by have := HJ1.out; have := HK2.out; omega⟩, ⟨by (with_reducible repeat (first | refine blk_drewN ?_ _ | refine blk_drew ?_ | refine blk_alloc ?_ _)); exact BK94001.out⟩, ⟨by repeat (first | (with_reducible first | exact HB.out | apply below_alloc | apply pw_below_drewN | apply below_drew1 | refine below_set ?_ GE94001.out) | exact HB.out)⟩⟩
                    · replace c18 := Bool.eq_false_iff.mpr c18
                      subst c18
                      have H1 : (some false) = some r := by rw [if_neg (show ¬ (false = true) by decide)] at H; exact H
                      clear H
                      have H := H1
                      clear H1
                      obtain rfl := Option.some.inj H
                      have hcz20_0 : wr.cell? ⟨gb94001, 0, none⟩ = some (.slice A0_0 l0_0.length c0_0) := (blk_cell BK94001.out 0).trans rfl
                      have hcz20_1 : wr.cell? ⟨gb94001, 1, none⟩ = some (.slice A0_1 l0_1.length c0_1) := (blk_cell BK94001.out 1).trans rfl
                      have hcz20_2 : wr.cell? ⟨gb94001, 2, none⟩ = some (.slice A0_2 l0_2.length c0_2) := (blk_cell BK94001.out 2).trans rfl
                      have hfz20_0 := blk_frozen BK94001.out 0
                      have hfz20_1 := blk_frozen BK94001.out 1
                      have hfz20_2 := blk_frozen BK94001.out 2
                      have p94003 : 0 ≤ (x4_2 : Int) := of_decide_eq_true (by first | (with_reducible assumption) | assumption)
                      have q94003 : x4_2 < (l0_2.length : Int) := of_decide_eq_true (by first | (with_reducible assumption) | assumption)
                      obtain ⟨ad94003, A94003_0, c94003_0, e94003, hx94003_0, hl94003_0, hi94003_0⟩ := at_L1 HR0_2.out x4_2 p94003 q94003
                      cases e94003
                      replace hx94003_0 := (HB.out.cell (World.block_lt_of_cell? w _ hx94003_0)).trans hx94003_0
                      have HR94003_0 := Aside0.mk hi94003_0
                      have HC94003_0 := Aside0.mk hl94003_0
                      clear hi94003_0 hl94003_0
                      replace p94003 := eq_true p94003
                      replace q94003 := eq_true q94003
                      have p94004 : 0 ≤ (x4_2 : Int) := of_decide_eq_true (by first | (with_reducible assumption) | assumption)
                      have q94004 : x4_2 < (l0_2.length : Int) := of_decide_eq_true (by first | (with_reducible assumption) | assumption)
                      obtain ⟨ad94004, A94004_0, c94004_0, e94004, hx94004_0, hl94004_0, hi94004_0⟩ := at_L1 HR0_2.out x4_2 p94004 q94004
                      obtain rfl : ad94003 = ad94004 := (by injection e94004)
                      replace hx94004_0 := (HB.out.cell (World.block_lt_of_cell? w _ hx94004_0)).trans hx94004_0
                      have HR94004_0 := Aside0.mk hi94004_0
                      have HC94004_0 := Aside0.mk hl94004_0
                      clear hi94004_0 hl94004_0
                      replace p94004 := eq_true p94004
                      replace q94004 := eq_true q94004
                      have ea_ := Option.some.inj (hx94003_0.symm.trans hx94004_0)
                      injection ea_ with ea_ en_ ec_
                      subst ea_
                      subst ec_
                      clear en_
                      go_wp2_with (first | (go_at_call 147; (with_reducible refine (spec_l13Numbers.calls k2 _ _ (rd_L1 l0_2 x4_2) (l0_0.length : Int) false _ ?side1 ?side2 A17.out).mono ?_); (case side1 => repeat (first | exact (Kd.C_below HR94004_0.out HB.out) | (with_reducible refine Kd.C_alloc ?_ _) | (with_reducible refine Kd.C_drewN ?_ _) | (with_reducible refine Kd.C_drew ?_))); (case side2 => exact HC94004_0.out); rintro e w' ⟨rfl, ⟨nd, rfl⟩⟩))
                      go_ret
                      exact ⟨by first | rfl | (simp [errW_none, errW_some] <;> rfl) | (simp [*, errW_none, errW_some] <;> rfl), by repeat (first | (with_reducible first | exact HB.out | apply below_alloc | apply pw_below_drewN | apply below_drew1 | refine below_set ?_ GE94001.out) | exact HB.out)⟩
                  · rw [if_neg c16] at H
                    have c16b0 : (((rd_L1 l0_2 x4_2).length : Int) == (l0_0.length : Int)) = false := beq_eq_false_iff_ne.mpr c16
                    have c16b1 : (((rd_L1 l0_2 x4_2).length : Int) != (l0_0.length : Int)) = true := bne_iff_ne.mpr c16
                    have c16b2 : ((rd_L1 l0_2 x4_2).length == l0_0.length) = false := by first | simpa using c16 | (simp at c16 ⊢; omega)
                    obtain rfl := Option.some.inj H
                    have hcz21_0 : wr.cell? ⟨gb94001, 0, none⟩ = some (.slice A0_0 l0_0.length c0_0) := (blk_cell BK94001.out 0).trans rfl
                    have hcz21_1 : wr.cell? ⟨gb94001, 1, none⟩ = some (.slice A0_1 l0_1.length c0_1) := (blk_cell BK94001.out 1).trans rfl
                    have hcz21_2 : wr.cell? ⟨gb94001, 2, none⟩ = some (.slice A0_2 l0_2.length c0_2) := (blk_cell BK94001.out 2).trans rfl
                    have hfz21_0 := blk_frozen BK94001.out 0
                    have hfz21_1 := blk_frozen BK94001.out 1
                    have hfz21_2 := blk_frozen BK94001.out 2
                    have p94003 : 0 ≤ (x4_2 : Int) := of_decide_eq_true (by first | (with_reducible assumption) | assumption)
                    have q94003 : x4_2 < (l0_2.length : Int) := of_decide_eq_true (by first | (with_reducible assumption) | assumption)
                    obtain ⟨ad94003, A94003_0, c94003_0, e94003, hx94003_0, hl94003_0, hi94003_0⟩ := at_L1 HR0_2.out x4_2 p94003 q94003
                    cases e94003
                    replace hx94003_0 := (HB.out.cell (World.block_lt_of_cell? w _ hx94003_0)).trans hx94003_0
                    have HR94003_0 := Aside0.mk hi94003_0
                    have HC94003_0 := Aside0.mk hl94003_0
                    clear hi94003_0 hl94003_0
                    replace p94003 := eq_true p94003
                    replace q94003 := eq_true q94003
                    go_wp2
                    go_ret
                    exact ⟨by first | rfl | (simp [errW_none, errW_some] <;> rfl) | (simp [*, errW_none, errW_some] <;> rfl), by repeat (first | (with_reducible first | exact HB.out | apply below_alloc | apply pw_below_drewN | apply below_drew1 | refine below_set ?_ GE94001.out) | exact HB.out)⟩
                · rw [if_neg c15] at H
                  exact absurd H (by simp)
              · rw [if_neg c14] at H
                exact absurd H (by simp)
            · rw [if_neg c13] at H
              have c13b0 : decide (x4_2 < (l0_0.length : Int)) = false := decide_eq_false c13
              clear c13
              obtain rfl := Option.some.inj H
              go_wp2
              go_ret
              exact ⟨by first | rfl | (simp [errW_none, errW_some] <;> rfl) | (simp [*, errW_none, errW_some] <;> rfl), by repeat (first | (with_reducible first | exact HB.out | apply below_alloc | apply pw_below_drewN | apply below_drew1 | refine below_set ?_ GE94001.out) | exact HB.out)⟩

/-! ### spec_MapOf: function 27 -/
mutual
def spec_MapOf.j0 : Nat → ByteArray → Bool → List (List Int) → List Int → List (List Int) → Option (Int × Bool)
  | 0, _, _, _, _, _ => none
  | k + 1, x1, x15, x27002000, x27002001, x27002002 => if x15 = true then (some (0, false)) else (spec_MapOf.l0 k x1 0 0 x27002000 x27002001 x27002002)
def spec_MapOf.l0 : Nat → ByteArray → Int → Int → List (List Int) → List Int → List (List Int) → Option (Int × Bool)
  | 0, _, _, _, _, _, _ => none
  | k + 1, x1, x6, x7, x27002000, x27002001, x27002002 => if x7 < (x1.size : Int) then (if 0 ≤ x6 then (if x6 < (x27002002.length : Int) then (if 0 ≤ x7 then ((spec_LetterIndex.f k (bt x1 x7)).bind fun t27005 => (if 0 ≤ t27005 then (if t27005 < (x27002001.length : Int) then (if 0 ≤ (rd x27002001 t27005) then (if (rd x27002001 t27005) < ((rd_L1 x27002002 x6).length : Int) then (spec_MapOf.l0 k x1 (rd (rd_L1 x27002002 x6) (rd x27002001 t27005)) (wrap64 (x7 + 1)) x27002000 x27002001 x27002002) else (none)) else (none)) else (none)) else (none))) else (none)) else (none)) else (none)) else (some (x6, true))
end
def spec_MapOf.f (k : Nat) (l0_0 : List (List Int)) (l0_1 : List Int) (l0_2 : List (List Int)) (a1 : ByteArray) : Option (Int × Bool) := (spec_l13Good.f k l0_0 l0_1 l0_2).bind fun t27002 => (if t27002 = true then ((spec_IsWord.f k a1).bind fun t27003 => (spec_MapOf.j0 k a1 (!t27003) l0_0 l0_1 l0_2)) else (spec_MapOf.j0 k a1 true l0_0 l0_1 l0_2))
theorem spec_MapOf.mono_l : ∀ k, (∀ y0 y1 y2 y3 y4, LeO (spec_MapOf.j0 k y0 y1 y2 y3 y4) (spec_MapOf.j0 (k + 1) y0 y1 y2 y3 y4)) ∧ (∀ y0 y1 y2 y3 y4 y5, LeO (spec_MapOf.l0 k y0 y1 y2 y3 y4 y5) (spec_MapOf.l0 (k + 1) y0 y1 y2 y3 y4 y5))
  | 0 => ⟨fun _ _ _ _ _ r h => by simp [spec_MapOf.j0] at h, fun _ _ _ _ _ _ r h => by simp [spec_MapOf.l0] at h⟩
  | k + 1 => by
    obtain ⟨ih0, ih1⟩ := spec_MapOf.mono_l k
    refine ⟨?_, ?_⟩
    · intro y0 y1 y2 y3 y4
      unfold spec_MapOf.j0
      repeat' first
      | (with_reducible exact ih0 _ _ _ _ _)
      | (with_reducible exact ih1 _ _ _ _ _ _)
      | (with_reducible exact spec_IsWord.mono _ _)
      | (with_reducible exact spec_LetterIndex.mono _ _)
      | (with_reducible exact spec_l13Good.mono _ _ _ _)
      | (with_reducible exact LeO.refl _)
      | (with_reducible exact LeO.none _)
      | (with_reducible refine LeO.ite ?_ ?_)
      | (with_reducible refine LeO.bind ?_ (fun _ => ?_))
      | exact ih0 _ _ _ _ _
      | exact ih1 _ _ _ _ _ _
      | exact spec_IsWord.mono _ _
      | exact spec_LetterIndex.mono _ _
      | exact spec_l13Good.mono _ _ _ _
      | exact LeO.none _
      | refine LeO.ite ?_ ?_
      | refine LeO.bind ?_ (fun _ => ?_)
    · intro y0 y1 y2 y3 y4 y5
      unfold spec_MapOf.l0
      repeat' first
      | (with_reducible exact ih0 _ _ _ _ _)
      | (with_reducible exact ih1 _ _ _ _ _ _)
      | (with_reducible exact spec_IsWord.mono _ _)
      | (with_reducible exact spec_LetterIndex.mono _ _)
      | (with_reducible exact spec_l13Good.mono _ _ _ _)
      | (with_reducible exact LeO.refl _)
      | (with_reducible exact LeO.none _)
      | (with_reducible refine LeO.ite ?_ ?_)
      | (with_reducible refine LeO.bind ?_ (fun _ => ?_))
      | exact ih0 _ _ _ _ _
      | exact ih1 _ _ _ _ _ _
      | exact spec_IsWord.mono _ _
      | exact spec_LetterIndex.mono _ _
      | exact spec_l13Good.mono _ _ _ _
      | exact LeO.none _
      | refine LeO.ite ?_ ?_
      | refine LeO.bind ?_ (fun _ => ?_)
theorem spec_MapOf.mono : ∀ a0 a1 a2 a3 k, LeO (spec_MapOf.f k a0 a1 a2 a3) (spec_MapOf.f (k + 1) a0 a1 a2 a3) := by
  intro a0 a1 a2 a3 k
  obtain ⟨ih0, ih1⟩ := spec_MapOf.mono_l k
  unfold spec_MapOf.f
  repeat' first
      | (with_reducible exact ih0 _ _ _ _ _)
      | (with_reducible exact ih1 _ _ _ _ _ _)
      | (with_reducible exact spec_IsWord.mono _ _)
      | (with_reducible exact spec_LetterIndex.mono _ _)
      | (with_reducible exact spec_l13Good.mono _ _ _ _)
      | (with_reducible exact LeO.refl _)
      | (with_reducible exact LeO.none _)
      | (with_reducible refine LeO.ite ?_ ?_)
      | (with_reducible refine LeO.bind ?_ (fun _ => ?_))
      | exact ih0 _ _ _ _ _
      | exact ih1 _ _ _ _ _ _
      | exact spec_IsWord.mono _ _
      | exact spec_LetterIndex.mono _ _
      | exact spec_l13Good.mono _ _ _ _
      | exact LeO.none _
      | refine LeO.ite ?_ ?_
      | refine LeO.bind ?_ (fun _ => ?_)
set_option maxHeartbeats 8000000 in
set_option maxRecDepth 100000 in
theorem spec_MapOf.calls (k : Nat) (A0_0 : Option Addr) (c0_0 : Nat) (l0_0 : List (List Int)) (A0_1 : Option Addr) (c0_1 : Nat) (l0_1 : List Int) (A0_2 : Option Addr) (c0_2 : Nat) (l0_2 : List (List Int)) (a1 : ByteArray) (r1 : Int) (r2 : Bool) (w : World) (hr0_0 : Kd.C (Kd.slice 3 (Kd.int .i64)) w A0_0 l0_0.length l0_0) (hc0_0 : l0_0.length ≤ c0_0) (hr0_1 : Kd.C (Kd.int .i64) w A0_1 l0_1.length l0_1) (hc0_1 : l0_1.length ≤ c0_1) (hr0_2 : Kd.C (Kd.slice 3 (Kd.int .i64)) w A0_2 l0_2.length l0_2) (hc0_2 : l0_2.length ≤ c0_2) (h : spec_MapOf.f k l0_0 l0_1 l0_2 a1 = some (r1, r2)) :
    Calls Try.prog 27 #[.agg #[.slice A0_0 l0_0.length c0_0, .slice A0_1 l0_1.length c0_1, .slice A0_2 l0_2.length c0_2], .string a1] w fun e w' => e = .returned (.tuple #[.int .i64 r1, .bool r2]) ∧ Below w.heap.size w w' := by
  have hu31 := Try.underlying31
  have HR0_0 := Aside0.mk hr0_0
  have HC0_0 := Aside0.mk hc0_0
  clear hr0_0 hc0_0
  have HR0_1 := Aside0.mk hr0_1
  have HC0_1 := Aside0.mk hc0_1
  clear hr0_1 hc0_1
  have HR0_2 := Aside0.mk hr0_2
  have HC0_2 := Aside0.mk hc0_2
  clear hr0_2 hc0_2
  have HB := Aside0.mk (Below.refl w.heap.size w)
  have H : ((spec_l13Good.f k l0_0 l0_1 l0_2).bind fun t27002 => (if t27002 = true then ((spec_IsWord.f k a1).bind fun t27003 => (spec_MapOf.j0 k a1 (!t27003) l0_0 l0_1 l0_2)) else (spec_MapOf.j0 k a1 true l0_0 l0_1 l0_2))) = some (r1, r2) := h
  clear h
  have HC3 := Aside0.mk H
  clear H
  go_enter Try.func27, Try.ntmps27
  go_upto_region 1 with (first | ((with_reducible refine gate_dst (N := 2) rfl ?_); refine box_event ?hg (N := 2) ?hd (cs := #[.slice A0_0 l0_0.length c0_0, .slice A0_1 l0_1.length c0_1, .slice A0_2 l0_2.length c0_2]) (t := 31) ?hr ?_; (case hd => rfl); (case hg => rfl); (case hr => first | (go_simp; done) | (go_simp; rfl)); intro gb27001 hg w4 hbox hb; have n0_ := Aside0.mk (below_step (by repeat (first | (with_reducible first | exact HB.out | apply below_alloc | apply pw_below_drewN | apply below_drew1) | exact HB.out)) hb); have n1_ := Aside0.mk (hbox); have n2_ := Aside0.mk ((by rw [hg]; exact (below_size (by repeat (first | (with_reducible first | exact HB.out | apply below_alloc | apply pw_below_drewN | apply below_drew1) | exact HB.out))) : w.heap.size ≤ gb27001)); have n3_ := Aside0.mk ((by rw [hg]; exact (below_size (by repeat (first | (with_reducible first | exact HB.out | apply below_alloc | apply pw_below_drewN | apply below_drew1) | exact HB.out))) : w.heap.size ≤ gb27001)); clear HB; have HB := n0_; have BK27001 := n1_; have GW27001 := n2_; have GE27001 := n3_; clear n0_ n1_ n2_ n3_; clear hb hbox hg))
  repeat (go_quiet (first | ((with_reducible refine gate_dst (N := 2) rfl ?_); refine box_event ?hg (N := 2) ?hd (cs := #[.slice A0_0 l0_0.length c0_0, .slice A0_1 l0_1.length c0_1, .slice A0_2 l0_2.length c0_2]) (t := 31) ?hr ?_; (case hd => rfl); (case hg => rfl); (case hr => first | (go_simp; done) | (go_simp; rfl)); intro gb27001 hg w4 hbox hb; have n0_ := Aside0.mk (below_step (by repeat (first | (with_reducible first | exact HB.out | apply below_alloc | apply pw_below_drewN | apply below_drew1) | exact HB.out)) hb); have n1_ := Aside0.mk (hbox); have n2_ := Aside0.mk ((by rw [hg]; exact (below_size (by repeat (first | (with_reducible first | exact HB.out | apply below_alloc | apply pw_below_drewN | apply below_drew1) | exact HB.out))) : w.heap.size ≤ gb27001)); have n3_ := Aside0.mk ((by rw [hg]; exact (below_size (by repeat (first | (with_reducible first | exact HB.out | apply below_alloc | apply pw_below_drewN | apply below_drew1) | exact HB.out))) : w.heap.size ≤ gb27001)); clear HB; have HB := n0_; have BK27001 := n1_; have GW27001 := n2_; have GE27001 := n3_; clear n0_ n1_ n2_ n3_; clear hb hbox hg)); go_upto_region 1 with (first | ((with_reducible refine gate_dst (N := 2) rfl ?_); refine box_event ?hg (N := 2) ?hd (cs := #[.slice A0_0 l0_0.length c0_0, .slice A0_1 l0_1.length c0_1, .slice A0_2 l0_2.length c0_2]) (t := 31) ?hr ?_; (case hd => rfl); (case hg => rfl); (case hr => first | (go_simp; done) | (go_simp; rfl)); intro gb27001 hg w4 hbox hb; have n0_ := Aside0.mk (below_step (by repeat (first | (with_reducible first | exact HB.out | apply below_alloc | apply pw_below_drewN | apply below_drew1) | exact HB.out)) hb); have n1_ := Aside0.mk (hbox); have n2_ := Aside0.mk ((by rw [hg]; exact (below_size (by repeat (first | (with_reducible first | exact HB.out | apply below_alloc | apply pw_below_drewN | apply below_drew1) | exact HB.out))) : w.heap.size ≤ gb27001)); have n3_ := Aside0.mk ((by rw [hg]; exact (below_size (by repeat (first | (with_reducible first | exact HB.out | apply below_alloc | apply pw_below_drewN | apply below_drew1) | exact HB.out))) : w.heap.size ≤ gb27001)); clear HB; have HB := n0_; have BK27001 := n1_; have GW27001 := n2_; have GE27001 := n3_; clear n0_ n1_ n2_ n3_; clear hb hbox hg)))
  (try simp only [Act.put, List.setIfInBounds_toArray, List.set_cons_zero, List.set_cons_succ])
  go_cut [15] (fun v15 wc => ∃ (kq : Nat) (x15_2 : Bool), v15 = .bool x15_2 ∧ Aside0 (spec_MapOf.j0 kq a1 x15_2 l0_0 l0_1 l0_2 = some (r1, r2)) ∧ Aside0 (kq ≤ k) ∧ Aside0 (wc.heap[gb27001]? = some (.cells #[(.slice A0_0 l0_0.length c0_0), (.slice A0_1 l0_1.length c0_1), (.slice A0_2 l0_2.length c0_2)] 31 (0, 0))) ∧ Aside0 (Below w.heap.size w wc))
  case first =>
    have H := HC3.out
    clear HC3
    replace H := Option.bind_eq_some_iff.mp H
    obtain ⟨t27002, A50, H⟩ := H
    replace H : (if t27002 = true then ((spec_IsWord.f k a1).bind fun t27003 => (spec_MapOf.j0 k a1 (!t27003) l0_0 l0_1 l0_2)) else (spec_MapOf.j0 k a1 true l0_0 l0_1 l0_2)) = some (r1, r2) := H
    have A5 := Aside0.mk A50
    clear A50
    by_cases c6 : t27002 = true
    · subst c6
      have H1 : ((spec_IsWord.f k a1).bind fun t27003 => (spec_MapOf.j0 k a1 (!t27003) l0_0 l0_1 l0_2)) = some (r1, r2) := by rw [if_pos rfl] at H; exact H
      clear H
      have H := H1
      clear H1
      replace H := Option.bind_eq_some_iff.mp H
      obtain ⟨t27003, A70, H⟩ := H
      replace H : (spec_MapOf.j0 k a1 (!t27003) l0_0 l0_1 l0_2) = some (r1, r2) := H
      have A7 := Aside0.mk A70
      clear A70
      have H' := Aside0.mk H
      clear H
      have hcz8_0 : w4.cell? ⟨gb27001, 0, none⟩ = some (.slice A0_0 l0_0.length c0_0) := (blk_cell BK27001.out 0).trans rfl
      have hcz8_1 : w4.cell? ⟨gb27001, 1, none⟩ = some (.slice A0_1 l0_1.length c0_1) := (blk_cell BK27001.out 1).trans rfl
      have hcz8_2 : w4.cell? ⟨gb27001, 2, none⟩ = some (.slice A0_2 l0_2.length c0_2) := (blk_cell BK27001.out 2).trans rfl
      have hfz8_0 := blk_frozen BK27001.out 0
      have hfz8_1 := blk_frozen BK27001.out 1
      have hfz8_2 := blk_frozen BK27001.out 2
      go_wp2_with (first | (go_at_call 94; (with_reducible refine (spec_l13Good.calls k _ _ l0_0 _ _ l0_1 _ _ l0_2 true _ ?side1 ?side2 ?side3 ?side4 ?side5 ?side6 A5.out).mono ?_); (case side1 => repeat (first | exact (Kd.C_below HR0_0.out HB.out) | (with_reducible refine Kd.C_alloc ?_ _) | (with_reducible refine Kd.C_drewN ?_ _) | (with_reducible refine Kd.C_drew ?_))); (case side2 => exact HC0_0.out); (case side3 => repeat (first | exact (Kd.C_below HR0_1.out HB.out) | (with_reducible refine Kd.C_alloc ?_ _) | (with_reducible refine Kd.C_drewN ?_ _) | (with_reducible refine Kd.C_drew ?_))); (case side4 => exact HC0_1.out); (case side5 => repeat (first | exact (Kd.C_below HR0_2.out HB.out) | (with_reducible refine Kd.C_alloc ?_ _) | (with_reducible refine Kd.C_drewN ?_ _) | (with_reducible refine Kd.C_drew ?_))); (case side6 => exact HC0_2.out); rintro e w9 ⟨rfl, hb⟩; have n0_ := Aside0.mk (blk_below (g := gb27001) (o := .cells #[.slice A0_0 l0_0.length c0_0, .slice A0_1 l0_1.length c0_1, .slice A0_2 l0_2.length c0_2] 31 (0, 0)) (by (with_reducible repeat (first | refine blk_drewN ?_ _ | refine blk_drew ?_ | refine blk_alloc ?_ _)); exact BK27001.out) hb); have n1_ := Aside0.mk (below_step (by repeat (first | (with_reducible first | exact HB.out | apply below_alloc | apply pw_below_drewN | apply below_drew1 | refine below_set ?_ GE27001.out) | exact HB.out)) hb); clear BK27001; clear HB; have BK27001 := n0_; have HB := n1_; clear n0_ n1_; (try clear hb); (try clear hb2); (try clear hk); (try clear hi)) | (go_at_call 87; (with_reducible refine (spec_IsWord.calls k a1 t27003 _ A7.out).mono ?_); rintro e w' ⟨rfl, ⟨nd, rfl⟩⟩; (try first | exact ⟨rfl, _, World.drewN_drewN _ _ _⟩ | exact ⟨rfl, _, Eq.trans (World.drewN_drewN _ _ _) (congrArg (World.drewN _) (Nat.add_assoc _ _ _))⟩)))
      repeat (go_quiet (first | (go_at_call 94; (with_reducible refine (spec_l13Good.calls k _ _ l0_0 _ _ l0_1 _ _ l0_2 true _ ?side1 ?side2 ?side3 ?side4 ?side5 ?side6 A5.out).mono ?_); (case side1 => repeat (first | exact (Kd.C_below HR0_0.out HB.out) | (with_reducible refine Kd.C_alloc ?_ _) | (with_reducible refine Kd.C_drewN ?_ _) | (with_reducible refine Kd.C_drew ?_))); (case side2 => exact HC0_0.out); (case side3 => repeat (first | exact (Kd.C_below HR0_1.out HB.out) | (with_reducible refine Kd.C_alloc ?_ _) | (with_reducible refine Kd.C_drewN ?_ _) | (with_reducible refine Kd.C_drew ?_))); (case side4 => exact HC0_1.out); (case side5 => repeat (first | exact (Kd.C_below HR0_2.out HB.out) | (with_reducible refine Kd.C_alloc ?_ _) | (with_reducible refine Kd.C_drewN ?_ _) | (with_reducible refine Kd.C_drew ?_))); (case side6 => exact HC0_2.out); rintro e w9 ⟨rfl, hb⟩; have n0_ := Aside0.mk (blk_below (g := gb27001) (o := .cells #[.slice A0_0 l0_0.length c0_0, .slice A0_1 l0_1.length c0_1, .slice A0_2 l0_2.length c0_2] 31 (0, 0)) (by (with_reducible repeat (first | refine blk_drewN ?_ _ | refine blk_drew ?_ | refine blk_alloc ?_ _)); exact BK27001.out) hb); have n1_ := Aside0.mk (below_step (by repeat (first | (with_reducible first | exact HB.out | apply below_alloc | apply pw_below_drewN | apply below_drew1 | refine below_set ?_ GE27001.out) | exact HB.out)) hb); clear BK27001; clear HB; have BK27001 := n0_; have HB := n1_; clear n0_ n1_; (try clear hb); (try clear hb2); (try clear hk); (try clear hi)) | (go_at_call 87; (with_reducible refine (spec_IsWord.calls k a1 t27003 _ A7.out).mono ?_); rintro e w' ⟨rfl, ⟨nd, rfl⟩⟩; (try first | exact ⟨rfl, _, World.drewN_drewN _ _ _⟩ | exact ⟨rfl, _, Eq.trans (World.drewN_drewN _ _ _) (congrArg (World.drewN _) (Nat.add_assoc _ _ _))⟩))); try go_wp2_with (first | (go_at_call 94; (with_reducible refine (spec_l13Good.calls k _ _ l0_0 _ _ l0_1 _ _ l0_2 true _ ?side1 ?side2 ?side3 ?side4 ?side5 ?side6 A5.out).mono ?_); (case side1 => repeat (first | exact (Kd.C_below HR0_0.out HB.out) | (with_reducible refine Kd.C_alloc ?_ _) | (with_reducible refine Kd.C_drewN ?_ _) | (with_reducible refine Kd.C_drew ?_))); (case side2 => exact HC0_0.out); (case side3 => repeat (first | exact (Kd.C_below HR0_1.out HB.out) | (with_reducible refine Kd.C_alloc ?_ _) | (with_reducible refine Kd.C_drewN ?_ _) | (with_reducible refine Kd.C_drew ?_))); (case side4 => exact HC0_1.out); (case side5 => repeat (first | exact (Kd.C_below HR0_2.out HB.out) | (with_reducible refine Kd.C_alloc ?_ _) | (with_reducible refine Kd.C_drewN ?_ _) | (with_reducible refine Kd.C_drew ?_))); (case side6 => exact HC0_2.out); rintro e w9 ⟨rfl, hb⟩; have n0_ := Aside0.mk (blk_below (g := gb27001) (o := .cells #[.slice A0_0 l0_0.length c0_0, .slice A0_1 l0_1.length c0_1, .slice A0_2 l0_2.length c0_2] 31 (0, 0)) (by (with_reducible repeat (first | refine blk_drewN ?_ _ | refine blk_drew ?_ | refine blk_alloc ?_ _)); exact BK27001.out) hb); have n1_ := Aside0.mk (below_step (by repeat (first | (with_reducible first | exact HB.out | apply below_alloc | apply pw_below_drewN | apply below_drew1 | refine below_set ?_ GE27001.out) | exact HB.out)) hb); clear BK27001; clear HB; have BK27001 := n0_; have HB := n1_; clear n0_ n1_; (try clear hb); (try clear hb2); (try clear hk); (try clear hi)) | (go_at_call 87; (with_reducible refine (spec_IsWord.calls k a1 t27003 _ A7.out).mono ?_); rintro e w' ⟨rfl, ⟨nd, rfl⟩⟩; (try first | exact ⟨rfl, _, World.drewN_drewN _ _ _⟩ | exact ⟨rfl, _, Eq.trans (World.drewN_drewN _ _ _) (congrArg (World.drewN _) (Nat.add_assoc _ _ _))⟩))))
      go_meet
      case rel => exact ⟨_, (!t27003), (by first | rfl | (simp; done) | (simp [*]; done)), H', ⟨by first | omega | exact Nat.le_refl _⟩, ⟨by (with_reducible repeat (first | refine blk_drewN ?_ _ | refine blk_drew ?_ | refine blk_alloc ?_ _)); exact BK27001.out⟩, ⟨by repeat (first | (with_reducible first | exact HB.out | apply below_alloc | apply pw_below_drewN | apply below_drew1 | refine below_set ?_ GE27001.out) | exact HB.out)⟩⟩
    · replace c6 := Bool.eq_false_iff.mpr c6
      subst c6
      have H1 : (spec_MapOf.j0 k a1 true l0_0 l0_1 l0_2) = some (r1, r2) := by rw [if_neg (show ¬ (false = true) by decide)] at H; exact H
      clear H
      have H := H1
      clear H1
      have H' := Aside0.mk H
      clear H
      have hcz10_0 : w4.cell? ⟨gb27001, 0, none⟩ = some (.slice A0_0 l0_0.length c0_0) := (blk_cell BK27001.out 0).trans rfl
      have hcz10_1 : w4.cell? ⟨gb27001, 1, none⟩ = some (.slice A0_1 l0_1.length c0_1) := (blk_cell BK27001.out 1).trans rfl
      have hcz10_2 : w4.cell? ⟨gb27001, 2, none⟩ = some (.slice A0_2 l0_2.length c0_2) := (blk_cell BK27001.out 2).trans rfl
      have hfz10_0 := blk_frozen BK27001.out 0
      have hfz10_1 := blk_frozen BK27001.out 1
      have hfz10_2 := blk_frozen BK27001.out 2
      go_wp2_with (first | (go_at_call 94; (with_reducible refine (spec_l13Good.calls k _ _ l0_0 _ _ l0_1 _ _ l0_2 false _ ?side1 ?side2 ?side3 ?side4 ?side5 ?side6 A5.out).mono ?_); (case side1 => repeat (first | exact (Kd.C_below HR0_0.out HB.out) | (with_reducible refine Kd.C_alloc ?_ _) | (with_reducible refine Kd.C_drewN ?_ _) | (with_reducible refine Kd.C_drew ?_))); (case side2 => exact HC0_0.out); (case side3 => repeat (first | exact (Kd.C_below HR0_1.out HB.out) | (with_reducible refine Kd.C_alloc ?_ _) | (with_reducible refine Kd.C_drewN ?_ _) | (with_reducible refine Kd.C_drew ?_))); (case side4 => exact HC0_1.out); (case side5 => repeat (first | exact (Kd.C_below HR0_2.out HB.out) | (with_reducible refine Kd.C_alloc ?_ _) | (with_reducible refine Kd.C_drewN ?_ _) | (with_reducible refine Kd.C_drew ?_))); (case side6 => exact HC0_2.out); rintro e w11 ⟨rfl, hb⟩; have n0_ := Aside0.mk (blk_below (g := gb27001) (o := .cells #[.slice A0_0 l0_0.length c0_0, .slice A0_1 l0_1.length c0_1, .slice A0_2 l0_2.length c0_2] 31 (0, 0)) (by (with_reducible repeat (first | refine blk_drewN ?_ _ | refine blk_drew ?_ | refine blk_alloc ?_ _)); exact BK27001.out) hb); have n1_ := Aside0.mk (below_step (by repeat (first | (with_reducible first | exact HB.out | apply below_alloc | apply pw_below_drewN | apply below_drew1 | refine below_set ?_ GE27001.out) | exact HB.out)) hb); clear BK27001; clear HB; have BK27001 := n0_; have HB := n1_; clear n0_ n1_; (try clear hb); (try clear hb2); (try clear hk); (try clear hi)))
      repeat (go_quiet (first | (go_at_call 94; (with_reducible refine (spec_l13Good.calls k _ _ l0_0 _ _ l0_1 _ _ l0_2 false _ ?side1 ?side2 ?side3 ?side4 ?side5 ?side6 A5.out).mono ?_); (case side1 => repeat (first | exact (Kd.C_below HR0_0.out HB.out) | (with_reducible refine Kd.C_alloc ?_ _) | (with_reducible refine Kd.C_drewN ?_ _) | (with_reducible refine Kd.C_drew ?_))); (case side2 => exact HC0_0.out); (case side3 => repeat (first | exact (Kd.C_below HR0_1.out HB.out) | (with_reducible refine Kd.C_alloc ?_ _) | (with_reducible refine Kd.C_drewN ?_ _) | (with_reducible refine Kd.C_drew ?_))); (case side4 => exact HC0_1.out); (case side5 => repeat (first | exact (Kd.C_below HR0_2.out HB.out) | (with_reducible refine Kd.C_alloc ?_ _) | (with_reducible refine Kd.C_drewN ?_ _) | (with_reducible refine Kd.C_drew ?_))); (case side6 => exact HC0_2.out); rintro e w11 ⟨rfl, hb⟩; have n0_ := Aside0.mk (blk_below (g := gb27001) (o := .cells #[.slice A0_0 l0_0.length c0_0, .slice A0_1 l0_1.length c0_1, .slice A0_2 l0_2.length c0_2] 31 (0, 0)) (by (with_reducible repeat (first | refine blk_drewN ?_ _ | refine blk_drew ?_ | refine blk_alloc ?_ _)); exact BK27001.out) hb); have n1_ := Aside0.mk (below_step (by repeat (first | (with_reducible first | exact HB.out | apply below_alloc | apply pw_below_drewN | apply below_drew1 | refine below_set ?_ GE27001.out) | exact HB.out)) hb); clear BK27001; clear HB; have BK27001 := n0_; have HB := n1_; clear n0_ n1_; (try clear hb); (try clear hb2); (try clear hk); (try clear hi))); try go_wp2_with (first | (go_at_call 94; (with_reducible refine (spec_l13Good.calls k _ _ l0_0 _ _ l0_1 _ _ l0_2 false _ ?side1 ?side2 ?side3 ?side4 ?side5 ?side6 A5.out).mono ?_); (case side1 => repeat (first | exact (Kd.C_below HR0_0.out HB.out) | (with_reducible refine Kd.C_alloc ?_ _) | (with_reducible refine Kd.C_drewN ?_ _) | (with_reducible refine Kd.C_drew ?_))); (case side2 => exact HC0_0.out); (case side3 => repeat (first | exact (Kd.C_below HR0_1.out HB.out) | (with_reducible refine Kd.C_alloc ?_ _) | (with_reducible refine Kd.C_drewN ?_ _) | (with_reducible refine Kd.C_drew ?_))); (case side4 => exact HC0_1.out); (case side5 => repeat (first | exact (Kd.C_below HR0_2.out HB.out) | (with_reducible refine Kd.C_alloc ?_ _) | (with_reducible refine Kd.C_drewN ?_ _) | (with_reducible refine Kd.C_drew ?_))); (case side6 => exact HC0_2.out); rintro e w11 ⟨rfl, hb⟩; have n0_ := Aside0.mk (blk_below (g := gb27001) (o := .cells #[.slice A0_0 l0_0.length c0_0, .slice A0_1 l0_1.length c0_1, .slice A0_2 l0_2.length c0_2] 31 (0, 0)) (by (with_reducible repeat (first | refine blk_drewN ?_ _ | refine blk_drew ?_ | refine blk_alloc ?_ _)); exact BK27001.out) hb); have n1_ := Aside0.mk (below_step (by repeat (first | (with_reducible first | exact HB.out | apply below_alloc | apply pw_below_drewN | apply below_drew1 | refine below_set ?_ GE27001.out) | exact HB.out)) hb); clear BK27001; clear HB; have BK27001 := n0_; have HB := n1_; clear n0_ n1_; (try clear hb); (try clear hb2); (try clear hk); (try clear hi))))
      go_meet
      case rel => exact ⟨_, (true), (by first | rfl | (simp; done) | (simp [*]; done)), H', ⟨by first | omega | exact Nat.le_refl _⟩, ⟨by (with_reducible repeat (first | refine blk_drewN ?_ _ | refine blk_drew ?_ | refine blk_alloc ?_ _)); exact BK27001.out⟩, ⟨by repeat (first | (with_reducible first | exact HB.out | apply below_alloc | apply pw_below_drewN | apply below_drew1 | refine below_set ?_ GE27001.out) | exact HB.out)⟩⟩
  case rest =>
    clear HC3
    try clear c2
    try clear p2
    try clear c6
    try clear hcz10_0
    try clear hcz10_1
    try clear hcz10_2
    try clear hcz8_0
    try clear hcz8_1
    try clear hcz8_2
    try clear hfz10_0
    try clear hfz10_1
    try clear hfz10_2
    try clear hfz8_0
    try clear hfz8_1
    try clear hfz8_2
    obtain ⟨kq, x15_2, rfl, HA, HJ2, BK27001, HB⟩ := hcut
    cases kq with
    | zero => exact absurd HA.out (by simp [spec_MapOf.j0])
    | succ kj2 =>
      have H := HA.out
      clear HA
      simp only [spec_MapOf.j0] at H
      by_cases c12 : x15_2 = true
      · subst c12
        have H1 : (some (0, false)) = some (r1, r2) := by rw [if_pos rfl] at H; exact H
        clear H
        have H := H1
        clear H1
        simp only [Option.some.injEq, Prod.mk.injEq] at H
        obtain ⟨rfl, rfl⟩ := H
        go_wp2
        repeat (go_quiet (fail); try go_wp2)
        go_ret2
        exact ⟨by first | rfl | (simp [errW_none, errW_some] <;> rfl) | (simp [*, errW_none, errW_some] <;> rfl), by repeat (first | (with_reducible first | exact HB.out | apply below_alloc | apply pw_below_drewN | apply below_drew1 | refine below_set ?_ GE27001.out) | exact HB.out)⟩
      · replace c12 := Bool.eq_false_iff.mpr c12
        subst c12
        have H1 : (spec_MapOf.l0 kj2 a1 0 0 l0_0 l0_1 l0_2) = some (r1, r2) := by rw [if_neg (show ¬ (false = true) by decide)] at H; exact H
        clear H
        have H := H1
        clear H1
        have H' := Aside0.mk H
        clear H
        go_wp2
        repeat (go_quiet (fail); try go_wp2)
        first | go_loopg [6, 7] kj2 (fun kq v6 v7 w' => ∃ (x6_2 : Int) (x7_2 : Int), v6 = .int .i64 x6_2 ∧ v7 = .int .i64 x7_2 ∧ Aside0 (spec_MapOf.l0 kq a1 x6_2 x7_2 l0_0 l0_1 l0_2 = some (r1, r2)) ∧ Aside0 (kq ≤ kj2) ∧ Aside0 (w'.heap[gb27001]? = some (.cells #[(.slice A0_0 l0_0.length c0_0), (.slice A0_1 l0_1.length c0_1), (.slice A0_2 l0_2.length c0_2)] 31 (0, 0))) ∧ Aside0 (Below w.heap.size w w')) | (simp only [Act.put, List.setIfInBounds_toArray, List.set_cons_succ, List.set_cons_zero]; go_loopg [6, 7] kj2 (fun kq v6 v7 w' => ∃ (x6_2 : Int) (x7_2 : Int), v6 = .int .i64 x6_2 ∧ v7 = .int .i64 x7_2 ∧ Aside0 (spec_MapOf.l0 kq a1 x6_2 x7_2 l0_0 l0_1 l0_2 = some (r1, r2)) ∧ Aside0 (kq ≤ kj2) ∧ Aside0 (w'.heap[gb27001]? = some (.cells #[(.slice A0_0 l0_0.length c0_0), (.slice A0_1 l0_1.length c0_1), (.slice A0_2 l0_2.length c0_2)] 31 (0, 0))) ∧ Aside0 (Below w.heap.size w w')))
        case atStart => exact ⟨(0), (0), (by first | rfl | (simp; done) | (simp [*]; done)), (by first | rfl | (simp; done) | (simp [*]; done)), H', ⟨Nat.le_refl _⟩, ⟨by (with_reducible repeat (first | refine blk_drewN ?_ _ | refine blk_drew ?_ | refine blk_alloc ?_ _)); exact BK27001.out⟩, ⟨by repeat (first | (with_reducible first | exact HB.out | apply below_alloc | apply pw_below_drewN | apply below_drew1 | refine below_set ?_ GE27001.out) | exact HB.out)⟩⟩
        case round =>
          clear H'
          try clear c1
          try clear c2
          try clear p2
          try clear c6
          try clear c12
          try clear hcz10_0
          try clear hcz10_1
          try clear hcz10_2
          try clear hcz8_0
          try clear hcz8_1
          try clear hcz8_2
          try clear hfz10_0
          try clear hfz10_1
          try clear hfz10_2
          try clear hfz8_0
          try clear hfz8_1
          try clear hfz8_2
          try clear p2
          obtain ⟨x6_2, x7_2, rfl, rfl, HA, HK2, BK27001, HB⟩ := hrel
          cases gk with
          | zero => exact absurd HA.out (by simp [spec_MapOf.l0])
          | succ k2 =>
            have H := HA.out
            clear HA
            simp only [spec_MapOf.l0] at H
            by_cases c13 : x7_2 < (a1.size : Int)
            · rw [if_pos c13] at H
              have c13b0 : decide (x7_2 < (a1.size : Int)) = true := decide_eq_true c13
              clear c13
              by_cases c14 : 0 ≤ x6_2
              · rw [if_pos c14] at H
                have c14b0 : decide (0 ≤ x6_2) = true := decide_eq_true c14
                clear c14
                by_cases c15 : x6_2 < (l0_2.length : Int)
                · rw [if_pos c15] at H
                  have c15b0 : decide (x6_2 < (l0_2.length : Int)) = true := decide_eq_true c15
                  clear c15
                  by_cases c16 : 0 ≤ x7_2
                  · rw [if_pos c16] at H
                    have c16b0 : decide (0 ≤ x7_2) = true := decide_eq_true c16
                    clear c16
                    replace H := Option.bind_eq_some_iff.mp H
                    obtain ⟨t27005, A180, H⟩ := H
                    replace H : (if 0 ≤ t27005 then (if t27005 < (l0_1.length : Int) then (if 0 ≤ (rd l0_1 t27005) then (if (rd l0_1 t27005) < ((rd_L1 l0_2 x6_2).length : Int) then (spec_MapOf.l0 k2 a1 (rd (rd_L1 l0_2 x6_2) (rd l0_1 t27005)) (wrap64 (x7_2 + 1)) l0_0 l0_1 l0_2) else (none)) else (none)) else (none)) else (none)) = some (r1, r2) := H
                    have A18 := Aside0.mk A180
                    clear A180
                    by_cases c19 : 0 ≤ t27005
                    · rw [if_pos c19] at H
                      have c19b0 : decide (0 ≤ t27005) = true := decide_eq_true c19
                      clear c19
                      by_cases c20 : t27005 < (l0_1.length : Int)
                      · rw [if_pos c20] at H
                        have c20b0 : decide (t27005 < (l0_1.length : Int)) = true := decide_eq_true c20
                        clear c20
                        by_cases c21 : 0 ≤ (rd l0_1 t27005)
                        · rw [if_pos c21] at H
                          have c21b0 : decide (0 ≤ (rd l0_1 t27005)) = true := decide_eq_true c21
                          clear c21
                          by_cases c22 : (rd l0_1 t27005) < ((rd_L1 l0_2 x6_2).length : Int)
                          · rw [if_pos c22] at H
                            have c22b0 : decide ((rd l0_1 t27005) < ((rd_L1 l0_2 x6_2).length : Int)) = true := decide_eq_true c22
                            clear c22
                            have H' := Aside0.mk H
                            clear H
                            have hcz23_0 : wr.cell? ⟨gb27001, 0, none⟩ = some (.slice A0_0 l0_0.length c0_0) := (blk_cell BK27001.out 0).trans rfl
                            have hcz23_1 : wr.cell? ⟨gb27001, 1, none⟩ = some (.slice A0_1 l0_1.length c0_1) := (blk_cell BK27001.out 1).trans rfl
                            have hcz23_2 : wr.cell? ⟨gb27001, 2, none⟩ = some (.slice A0_2 l0_2.length c0_2) := (blk_cell BK27001.out 2).trans rfl
                            have hfz23_0 := blk_frozen BK27001.out 0
                            have hfz23_1 := blk_frozen BK27001.out 1
                            have hfz23_2 := blk_frozen BK27001.out 2
                            have p27004 : 0 ≤ (x6_2 : Int) := of_decide_eq_true (by first | (with_reducible assumption) | assumption)
                            have q27004 : x6_2 < (l0_2.length : Int) := of_decide_eq_true (by first | (with_reducible assumption) | assumption)
                            obtain ⟨ad27004, A27004_0, c27004_0, e27004, hx27004_0, hl27004_0, hi27004_0⟩ := at_L1 HR0_2.out x6_2 p27004 q27004
                            cases e27004
                            replace hx27004_0 := (HB.out.cell (World.block_lt_of_cell? w _ hx27004_0)).trans hx27004_0
                            have HR27004_0 := Aside0.mk hi27004_0
                            have HC27004_0 := Aside0.mk hl27004_0
                            clear hi27004_0 hl27004_0
                            replace p27004 := eq_true p27004
                            replace q27004 := eq_true q27004
                            have p17 : 0 ≤ (x7_2 : Int) := of_decide_eq_true (by first | (with_reducible assumption) | assumption)
                            have q17 : x7_2 < (a1.size : Int) := of_decide_eq_true (by first | (with_reducible assumption) | assumption)
                            have hx17 := bt_at a1 x7_2
                            replace p17 := eq_true p17
                            replace q17 := eq_true q17
                            go_wp2_with (first | (go_at_call 88; (with_reducible refine (spec_LetterIndex.calls k2 (bt a1 x7_2) t27005 _ A18.out).mono ?_); rintro e w' ⟨rfl, ⟨nd, rfl⟩⟩; (try first | exact ⟨rfl, _, World.drewN_drewN _ _ _⟩ | exact ⟨rfl, _, Eq.trans (World.drewN_drewN _ _ _) (congrArg (World.drewN _) (Nat.add_assoc _ _ _))⟩); have p27006 : 0 ≤ (t27005 : Int) := of_decide_eq_true (by first | (with_reducible assumption) | assumption); have q27006 : t27005 < (l0_1.length : Int) := of_decide_eq_true (by first | (with_reducible assumption) | assumption); obtain ⟨ad27006, e27006, hx27006_0⟩ := Kd.at_int HR0_1.out t27005 p27006 q27006; cases e27006; replace hx27006_0 := (HB.out.cell (World.block_lt_of_cell? w _ hx27006_0)).trans hx27006_0; replace p27006 := eq_true p27006; replace q27006 := eq_true q27006; have p27007 : 0 ≤ ((rd l0_1 t27005) : Int) := of_decide_eq_true (by first | (with_reducible assumption) | assumption); have q27007 : (rd l0_1 t27005) < ((rd_L1 l0_2 x6_2).length : Int) := of_decide_eq_true (by first | (with_reducible assumption) | assumption); obtain ⟨ad27007, e27007, hx27007_0⟩ := Kd.at_int HR27004_0.out (rd l0_1 t27005) p27007 q27007; cases e27007; replace hx27007_0 := (HB.out.cell (World.block_lt_of_cell? w _ hx27007_0)).trans hx27007_0; replace p27007 := eq_true p27007; replace q27007 := eq_true q27007))
                            repeat (go_quiet (first | (go_at_call 88; (with_reducible refine (spec_LetterIndex.calls k2 (bt a1 x7_2) t27005 _ A18.out).mono ?_); rintro e w' ⟨rfl, ⟨nd, rfl⟩⟩; (try first | exact ⟨rfl, _, World.drewN_drewN _ _ _⟩ | exact ⟨rfl, _, Eq.trans (World.drewN_drewN _ _ _) (congrArg (World.drewN _) (Nat.add_assoc _ _ _))⟩); have p27006 : 0 ≤ (t27005 : Int) := of_decide_eq_true (by first | (with_reducible assumption) | assumption); have q27006 : t27005 < (l0_1.length : Int) := of_decide_eq_true (by first | (with_reducible assumption) | assumption); obtain ⟨ad27006, e27006, hx27006_0⟩ := Kd.at_int HR0_1.out t27005 p27006 q27006; cases e27006; replace hx27006_0 := (HB.out.cell (World.block_lt_of_cell? w _ hx27006_0)).trans hx27006_0; replace p27006 := eq_true p27006; replace q27006 := eq_true q27006; have p27007 : 0 ≤ ((rd l0_1 t27005) : Int) := of_decide_eq_true (by first | (with_reducible assumption) | assumption); have q27007 : (rd l0_1 t27005) < ((rd_L1 l0_2 x6_2).length : Int) := of_decide_eq_true (by first | (with_reducible assumption) | assumption); obtain ⟨ad27007, e27007, hx27007_0⟩ := Kd.at_int HR27004_0.out (rd l0_1 t27005) p27007 q27007; cases e27007; replace hx27007_0 := (HB.out.cell (World.block_lt_of_cell? w _ hx27007_0)).trans hx27007_0; replace p27007 := eq_true p27007; replace q27007 := eq_true q27007)); try go_wp2_with (first | (go_at_call 88; (with_reducible refine (spec_LetterIndex.calls k2 (bt a1 x7_2) t27005 _ A18.out).mono ?_); rintro e w' ⟨rfl, ⟨nd, rfl⟩⟩; (try first | exact ⟨rfl, _, World.drewN_drewN _ _ _⟩ | exact ⟨rfl, _, Eq.trans (World.drewN_drewN _ _ _) (congrArg (World.drewN _) (Nat.add_assoc _ _ _))⟩); have p27006 : 0 ≤ (t27005 : Int) := of_decide_eq_true (by first | (with_reducible assumption) | assumption); have q27006 : t27005 < (l0_1.length : Int) := of_decide_eq_true (by first | (with_reducible assumption) | assumption); obtain ⟨ad27006, e27006, hx27006_0⟩ := Kd.at_int HR0_1.out t27005 p27006 q27006; cases e27006; replace hx27006_0 := (HB.out.cell (World.block_lt_of_cell? w _ hx27006_0)).trans hx27006_0; replace p27006 := eq_true p27006; replace q27006 := eq_true q27006; have p27007 : 0 ≤ ((rd l0_1 t27005) : Int) := of_decide_eq_true (by first | (with_reducible assumption) | assumption); have q27007 : (rd l0_1 t27005) < ((rd_L1 l0_2 x6_2).length : Int) := of_decide_eq_true (by first | (with_reducible assumption) | assumption); obtain ⟨ad27007, e27007, hx27007_0⟩ := Kd.at_int HR27004_0.out (rd l0_1 t27005) p27007 q27007; cases e27007; replace hx27007_0 := (HB.out.cell (World.block_lt_of_cell? w _ hx27007_0)).trans hx27007_0; replace p27007 := eq_true p27007; replace q27007 := eq_true q27007)))
                            go_roundg k2
                            case measure => have := HJ2.out; have := HK2.out; omega
                            case rel => exact ⟨(rd (rd_L1 l0_2 x6_2) (rd l0_1 t27005)), (wrap64 (x7_2 + 1)), (by first | rfl | (simp; done) | (simp [*]; done)), (by first | rfl | (simp; done) | (simp [*]; done)), H', ⟨by have := HJ2.out; have := HK2.out; omega⟩, ⟨by (with_reducible repeat (first | refine blk_drewN ?_ _ | refine blk_drew ?_ | refine blk_alloc ?_ _)); exact BK27001.out⟩, ⟨by repeat (first | (with_reducible first | exact HB.out | apply below_alloc | apply pw_below_drewN | apply below_drew1 | refine below_set ?_ GE27001.out) | exact HB.out)⟩⟩
                          · rw [if_neg c22] at H
                            exact absurd H (by simp)
                        · rw [if_neg c21] at H
                          exact absurd H (by simp)
                      · rw [if_neg c20] at H
                        exact absurd H (by simp)
                    · rw [if_neg c19] at H
                      exact absurd H (by simp)
                  · rw [if_neg c16] at H
                    exact absurd H (by simp)
                · rw [if_neg c15] at H
                  exact absurd H (by simp)
              · rw [if_neg c14] at H
                exact absurd H (by simp)
            · rw [if_neg c13] at H
              have c13b0 : decide (x7_2 < (a1.size : Int)) = false := decide_eq_false c13
              clear c13
              simp only [Option.some.injEq, Prod.mk.injEq] at H
              obtain ⟨rfl, rfl⟩ := H
              go_wp2
              repeat (go_quiet (fail); try go_wp2)
              go_ret2
              exact ⟨by first | rfl | (simp [errW_none, errW_some] <;> rfl) | (simp [*, errW_none, errW_some] <;> rfl), by repeat (first | (with_reducible first | exact HB.out | apply below_alloc | apply pw_below_drewN | apply below_drew1 | refine below_set ?_ GE27001.out) | exact HB.out)⟩


end Go.Proofs.Ytkefiajemifklaa.A


namespace Go.Proofs.Ytkefiajemifklaa.A
open Go.RowKit Go.Proofs.Ytkefiajemifklaa.Ext Go.Proofs.YtkefiajemifklaaW.PrintWords Go.Proofs.YtkefiajemifklaaW.PrintLast Go.Proofs.YtkefiajemifklaaW.PrintMore
attribute [local go_sem] max2_int min2_int max_two min_two max_three min_three max_four min_four   -- for this text's walks alone
set_option linter.unusedVariables false
set_option linter.unusedSimpArgs false

/-! ### laws_FnExactMapOf: function 12 -/
def laws_FnExactMapOf.j0 : Nat → Bool → List (List Int) → List Int → List (List Int) → List (List Int) → List Int → List (List Int) → Option (Bool)
  | 0, _, _, _, _, _, _, _ => none
  | k + 1, x41, x12002000, x12002001, x12002002, x12024000, x12024001, x12024002 => if x41 = true then (some false) else ((laws_toMonoid.f k x12002000 x12002001 x12002002).bind fun bt12026 => ((laws_eqMonoid.f k x12024000 x12024001 x12024002 bt12026.1 bt12026.2.1 bt12026.2.2).bind fun t12035 => (if t12035 = true then (some true) else (some false))))
def laws_FnExactMapOf.f (k : Nat) (l0_0 : List (List Int)) (l0_1 : List Int) (l0_2 : List (List Int)) (a1 : ByteArray) : Option (Bool) := if (a1.size : Int) > 1048576 then (some true) else ((laws_szMonoid.f k l0_0 l0_1 l0_2 1048576).bind fun t12002 => (if t12002 < 0 then (some true) else ((laws_toMonoid.f k l0_0 l0_1 l0_2).bind fun bt12003 => ((spec_MapOf.f k bt12003.1 bt12003.2.1 bt12003.2.2 a1).bind fun bt12012 => ((laws_toMonoid.f k l0_0 l0_1 l0_2).bind fun bt12014 => ((impl_MapOf.f k bt12014.1 bt12014.2.1 bt12014.2.2 a1).bind fun bt12024 => (if bt12024.1 = bt12012.1 then (laws_FnExactMapOf.j0 k (bt12024.2 != bt12012.2) l0_0 l0_1 l0_2 bt12014.1 bt12014.2.1 bt12014.2.2) else (laws_FnExactMapOf.j0 k true l0_0 l0_1 l0_2 bt12014.1 bt12014.2.1 bt12014.2.2))))))))
theorem laws_FnExactMapOf.mono_l : ∀ k, (∀ y0 y1 y2 y3 y4 y5 y6, LeO (laws_FnExactMapOf.j0 k y0 y1 y2 y3 y4 y5 y6) (laws_FnExactMapOf.j0 (k + 1) y0 y1 y2 y3 y4 y5 y6))
  | 0 => fun _ _ _ _ _ _ _ r h => by simp [laws_FnExactMapOf.j0] at h
  | k + 1 => by
    have ih0 := laws_FnExactMapOf.mono_l k
    · intro y0 y1 y2 y3 y4 y5 y6
      unfold laws_FnExactMapOf.j0
      repeat' first
      | (with_reducible exact ih0 _ _ _ _ _ _ _)
      | (with_reducible exact impl_MapOf.mono _ _ _ _ _)
      | (with_reducible exact laws_eqMonoid.mono _ _ _ _ _ _ _)
      | (with_reducible exact laws_szMonoid.mono _ _ _ _ _)
      | (with_reducible exact laws_toMonoid.mono _ _ _ _)
      | (with_reducible exact spec_MapOf.mono _ _ _ _ _)
      | (with_reducible exact LeO.refl _)
      | (with_reducible exact LeO.none _)
      | (with_reducible refine LeO.ite ?_ ?_)
      | (with_reducible refine LeO.bind ?_ (fun _ => ?_))
      | exact ih0 _ _ _ _ _ _ _
      | exact impl_MapOf.mono _ _ _ _ _
      | exact laws_eqMonoid.mono _ _ _ _ _ _ _
      | exact laws_szMonoid.mono _ _ _ _ _
      | exact laws_toMonoid.mono _ _ _ _
      | exact spec_MapOf.mono _ _ _ _ _
      | exact LeO.none _
      | refine LeO.ite ?_ ?_
      | refine LeO.bind ?_ (fun _ => ?_)
theorem laws_FnExactMapOf.mono : ∀ a0 a1 a2 a3 k, LeO (laws_FnExactMapOf.f k a0 a1 a2 a3) (laws_FnExactMapOf.f (k + 1) a0 a1 a2 a3) := by
  intro a0 a1 a2 a3 k
  have ih0 := laws_FnExactMapOf.mono_l k
  unfold laws_FnExactMapOf.f
  repeat' first
      | (with_reducible exact ih0 _ _ _ _ _ _ _)
      | (with_reducible exact impl_MapOf.mono _ _ _ _ _)
      | (with_reducible exact laws_eqMonoid.mono _ _ _ _ _ _ _)
      | (with_reducible exact laws_szMonoid.mono _ _ _ _ _)
      | (with_reducible exact laws_toMonoid.mono _ _ _ _)
      | (with_reducible exact spec_MapOf.mono _ _ _ _ _)
      | (with_reducible exact LeO.refl _)
      | (with_reducible exact LeO.none _)
      | (with_reducible refine LeO.ite ?_ ?_)
      | (with_reducible refine LeO.bind ?_ (fun _ => ?_))
      | exact ih0 _ _ _ _ _ _ _
      | exact impl_MapOf.mono _ _ _ _ _
      | exact laws_eqMonoid.mono _ _ _ _ _ _ _
      | exact laws_szMonoid.mono _ _ _ _ _
      | exact laws_toMonoid.mono _ _ _ _
      | exact spec_MapOf.mono _ _ _ _ _
      | exact LeO.none _
      | refine LeO.ite ?_ ?_
      | refine LeO.bind ?_ (fun _ => ?_)
set_option maxHeartbeats 8000000 in
set_option maxRecDepth 100000 in
theorem laws_FnExactMapOf.calls (k : Nat) (A0_0 : Option Addr) (c0_0 : Nat) (l0_0 : List (List Int)) (A0_1 : Option Addr) (c0_1 : Nat) (l0_1 : List Int) (A0_2 : Option Addr) (c0_2 : Nat) (l0_2 : List (List Int)) (a1 : ByteArray) (r : Bool) (w : World) (hr0_0 : Kd.C (Kd.slice 3 (Kd.int .i64)) w A0_0 l0_0.length l0_0) (hc0_0 : l0_0.length ≤ c0_0) (hr0_1 : Kd.C (Kd.int .i64) w A0_1 l0_1.length l0_1) (hc0_1 : l0_1.length ≤ c0_1) (hr0_2 : Kd.C (Kd.slice 3 (Kd.int .i64)) w A0_2 l0_2.length l0_2) (hc0_2 : l0_2.length ≤ c0_2) (h : laws_FnExactMapOf.f k l0_0 l0_1 l0_2 a1 = some r) :
    Calls Try.prog 12 #[.agg #[.slice A0_0 l0_0.length c0_0, .slice A0_1 l0_1.length c0_1, .slice A0_2 l0_2.length c0_2], .string a1] w fun e w' => e = .returned (.bool r) ∧ Below w.heap.size w w' := by
  have hu76 := Try.underlying76
  have hu31 := Try.underlying31
  have HR0_0 := Aside0.mk hr0_0
  have HC0_0 := Aside0.mk hc0_0
  clear hr0_0 hc0_0
  have HR0_1 := Aside0.mk hr0_1
  have HC0_1 := Aside0.mk hc0_1
  clear hr0_1 hc0_1
  have HR0_2 := Aside0.mk hr0_2
  have HC0_2 := Aside0.mk hc0_2
  clear hr0_2 hc0_2
  have HB := Aside0.mk (Below.refl w.heap.size w)
  have H : (if (a1.size : Int) > 1048576 then (some true) else ((laws_szMonoid.f k l0_0 l0_1 l0_2 1048576).bind fun t12002 => (if t12002 < 0 then (some true) else ((laws_toMonoid.f k l0_0 l0_1 l0_2).bind fun bt12003 => ((spec_MapOf.f k bt12003.1 bt12003.2.1 bt12003.2.2 a1).bind fun bt12012 => ((laws_toMonoid.f k l0_0 l0_1 l0_2).bind fun bt12014 => ((impl_MapOf.f k bt12014.1 bt12014.2.1 bt12014.2.2 a1).bind fun bt12024 => (if bt12024.1 = bt12012.1 then (laws_FnExactMapOf.j0 k (bt12024.2 != bt12012.2) l0_0 l0_1 l0_2 bt12014.1 bt12014.2.1 bt12014.2.2) else (laws_FnExactMapOf.j0 k true l0_0 l0_1 l0_2 bt12014.1 bt12014.2.1 bt12014.2.2))))))))) = some r := h
  clear h
  by_cases c3 : (a1.size : Int) > 1048576
  · rw [if_pos c3] at H
    have c3b0 : decide (1048576 < (a1.size : Int)) = true := decide_eq_true c3
    have c3b1 : decide (1048576 < a1.size) = true := decide_eq_true (by omega)
    clear c3
    obtain rfl := Option.some.inj H
    go_enter Try.func12, Try.ntmps12
    go_wp2_with (first | ((with_reducible refine gate_dst (N := 2) rfl ?_); refine box_event ?hg (N := 2) ?hd (cs := #[.slice A0_0 l0_0.length c0_0, .slice A0_1 l0_1.length c0_1, .slice A0_2 l0_2.length c0_2]) (t := 76) ?hr ?_; (case hd => rfl); (case hg => rfl); (case hr => first | (go_simp; done) | (go_simp; rfl)); intro gb12001 hg w4 hbox hb; have n0_ := Aside0.mk (below_step (by repeat (first | (with_reducible first | exact HB.out | apply below_alloc | apply pw_below_drewN | apply below_drew1) | exact HB.out)) hb); have n1_ := Aside0.mk (hbox); have n2_ := Aside0.mk ((by rw [hg]; exact (below_size (by repeat (first | (with_reducible first | exact HB.out | apply below_alloc | apply pw_below_drewN | apply below_drew1) | exact HB.out))) : w.heap.size ≤ gb12001)); have n3_ := Aside0.mk ((by rw [hg]; exact (below_size (by repeat (first | (with_reducible first | exact HB.out | apply below_alloc | apply pw_below_drewN | apply below_drew1) | exact HB.out))) : w.heap.size ≤ gb12001)); clear HB; have HB := n0_; have BK12001 := n1_; have GW12001 := n2_; have GE12001 := n3_; clear n0_ n1_ n2_ n3_; clear hb hbox hg))
    go_ret
    exact ⟨by first | rfl | (simp [errW_none, errW_some] <;> rfl) | (simp [*, errW_none, errW_some] <;> rfl), by repeat (first | (with_reducible first | exact HB.out | apply below_alloc | apply pw_below_drewN | apply below_drew1 | refine below_set ?_ GE12001.out) | exact HB.out)⟩
  · rw [if_neg c3] at H
    have c3b0 : decide (1048576 < (a1.size : Int)) = false := decide_eq_false c3
    have c3b1 : decide (1048576 < a1.size) = false := decide_eq_false (by omega)
    clear c3
    replace H := Option.bind_eq_some_iff.mp H
    obtain ⟨t12002, A50, H⟩ := H
    replace H : (if t12002 < 0 then (some true) else ((laws_toMonoid.f k l0_0 l0_1 l0_2).bind fun bt12003 => ((spec_MapOf.f k bt12003.1 bt12003.2.1 bt12003.2.2 a1).bind fun bt12012 => ((laws_toMonoid.f k l0_0 l0_1 l0_2).bind fun bt12014 => ((impl_MapOf.f k bt12014.1 bt12014.2.1 bt12014.2.2 a1).bind fun bt12024 => (if bt12024.1 = bt12012.1 then (laws_FnExactMapOf.j0 k (bt12024.2 != bt12012.2) l0_0 l0_1 l0_2 bt12014.1 bt12014.2.1 bt12014.2.2) else (laws_FnExactMapOf.j0 k true l0_0 l0_1 l0_2 bt12014.1 bt12014.2.1 bt12014.2.2))))))) = some r := H
    have A5 := Aside0.mk A50
    clear A50
    by_cases c6 : t12002 < 0
    · rw [if_pos c6] at H
      have c6b0 : decide (t12002 < 0) = true := decide_eq_true c6
      clear c6
      obtain rfl := Option.some.inj H
      go_enter Try.func12, Try.ntmps12
      go_wp2_with (first | ((with_reducible refine gate_dst (N := 2) rfl ?_); refine box_event ?hg (N := 2) ?hd (cs := #[.slice A0_0 l0_0.length c0_0, .slice A0_1 l0_1.length c0_1, .slice A0_2 l0_2.length c0_2]) (t := 76) ?hr ?_; (case hd => rfl); (case hg => rfl); (case hr => first | (go_simp; done) | (go_simp; rfl)); intro gb12001 hg w7 hbox hb; have n0_ := Aside0.mk (below_step (by repeat (first | (with_reducible first | exact HB.out | apply below_alloc | apply pw_below_drewN | apply below_drew1) | exact HB.out)) hb); have n1_ := Aside0.mk (hbox); have n2_ := Aside0.mk ((by rw [hg]; exact (below_size (by repeat (first | (with_reducible first | exact HB.out | apply below_alloc | apply pw_below_drewN | apply below_drew1) | exact HB.out))) : w.heap.size ≤ gb12001)); have n3_ := Aside0.mk ((by rw [hg]; exact (below_size (by repeat (first | (with_reducible first | exact HB.out | apply below_alloc | apply pw_below_drewN | apply below_drew1) | exact HB.out))) : w.heap.size ≤ gb12001)); clear HB; have HB := n0_; have BK12001 := n1_; have GW12001 := n2_; have GE12001 := n3_; clear n0_ n1_ n2_ n3_; clear hb hbox hg; have hcz8_0 : w7.cell? ⟨gb12001, 0, none⟩ = some (.slice A0_0 l0_0.length c0_0) := (blk_cell BK12001.out 0).trans rfl; have hcz8_1 : w7.cell? ⟨gb12001, 1, none⟩ = some (.slice A0_1 l0_1.length c0_1) := (blk_cell BK12001.out 1).trans rfl; have hcz8_2 : w7.cell? ⟨gb12001, 2, none⟩ = some (.slice A0_2 l0_2.length c0_2) := (blk_cell BK12001.out 2).trans rfl; have hfz8_0 := blk_frozen BK12001.out 0; have hfz8_1 := blk_frozen BK12001.out 1; have hfz8_2 := blk_frozen BK12001.out 2) | ((with_reducible refine gate_callee (f := 47) rfl ?_); refine goesL_ (some 16) rfl rfl Try.func47 (by kernel_rfl) rfl #[.agg #[.slice A0_0 l0_0.length c0_0, .slice A0_1 l0_1.length c0_1, .slice A0_2 l0_2.length c0_2], .int .i64 1048576] rfl (by (try simp only [List.map_toArray, List.map_cons, List.map_nil]); first | done | rfl | (simp only [List.length_drop, List.length_take]; rfl)) ?_; (with_reducible refine (laws_szMonoid.calls k _ _ l0_0 _ _ l0_1 _ _ l0_2 1048576 t12002 _ ?side1 ?side2 ?side3 ?side4 ?side5 ?side6 A5.out).mono ?_); (case side1 => repeat (first | exact (Kd.C_below HR0_0.out HB.out) | (with_reducible refine Kd.C_alloc ?_ _) | (with_reducible refine Kd.C_drewN ?_ _) | (with_reducible refine Kd.C_drew ?_))); (case side2 => exact HC0_0.out); (case side3 => repeat (first | exact (Kd.C_below HR0_1.out HB.out) | (with_reducible refine Kd.C_alloc ?_ _) | (with_reducible refine Kd.C_drewN ?_ _) | (with_reducible refine Kd.C_drew ?_))); (case side4 => exact HC0_1.out); (case side5 => repeat (first | exact (Kd.C_below HR0_2.out HB.out) | (with_reducible refine Kd.C_alloc ?_ _) | (with_reducible refine Kd.C_drewN ?_ _) | (with_reducible refine Kd.C_drew ?_))); (case side6 => exact HC0_2.out); rintro e w9 ⟨rfl, hb⟩; refine ⟨_, rfl, ?_⟩; have n0_ := Aside0.mk (blk_below (g := gb12001) (o := .cells #[.slice A0_0 l0_0.length c0_0, .slice A0_1 l0_1.length c0_1, .slice A0_2 l0_2.length c0_2] 76 (0, 0)) (by (with_reducible repeat (first | refine blk_drewN ?_ _ | refine blk_drew ?_ | refine blk_alloc ?_ _)); exact BK12001.out) hb); have n1_ := Aside0.mk (below_step (by repeat (first | (with_reducible first | exact HB.out | apply below_alloc | apply pw_below_drewN | apply below_drew1 | refine below_set ?_ GE12001.out) | exact HB.out)) hb); clear BK12001; clear HB; have BK12001 := n0_; have HB := n1_; clear n0_ n1_; (try clear hb); (try clear hb2); (try clear hk); (try clear hi)))
      go_ret
      exact ⟨by first | rfl | (simp [errW_none, errW_some] <;> rfl) | (simp [*, errW_none, errW_some] <;> rfl), by repeat (first | (with_reducible first | exact HB.out | apply below_alloc | apply pw_below_drewN | apply below_drew1 | refine below_set ?_ GE12001.out) | exact HB.out)⟩
    · rw [if_neg c6] at H
      have c6b0 : decide (t12002 < 0) = false := decide_eq_false c6
      clear c6
      replace H := Option.bind_eq_some_iff.mp H
      obtain ⟨⟨t12003, t12006, t12009⟩, A100, H⟩ := H
      replace H : ((spec_MapOf.f k t12003 t12006 t12009 a1).bind fun bt12012 => ((laws_toMonoid.f k l0_0 l0_1 l0_2).bind fun bt12014 => ((impl_MapOf.f k bt12014.1 bt12014.2.1 bt12014.2.2 a1).bind fun bt12024 => (if bt12024.1 = bt12012.1 then (laws_FnExactMapOf.j0 k (bt12024.2 != bt12012.2) l0_0 l0_1 l0_2 bt12014.1 bt12014.2.1 bt12014.2.2) else (laws_FnExactMapOf.j0 k true l0_0 l0_1 l0_2 bt12014.1 bt12014.2.1 bt12014.2.2))))) = some r := H
      have A10 := Aside0.mk A100
      clear A100
      replace H := Option.bind_eq_some_iff.mp H
      obtain ⟨⟨t12012, t12013⟩, A110, H⟩ := H
      replace H : ((laws_toMonoid.f k l0_0 l0_1 l0_2).bind fun bt12014 => ((impl_MapOf.f k bt12014.1 bt12014.2.1 bt12014.2.2 a1).bind fun bt12024 => (if bt12024.1 = t12012 then (laws_FnExactMapOf.j0 k (bt12024.2 != t12013) l0_0 l0_1 l0_2 bt12014.1 bt12014.2.1 bt12014.2.2) else (laws_FnExactMapOf.j0 k true l0_0 l0_1 l0_2 bt12014.1 bt12014.2.1 bt12014.2.2)))) = some r := H
      have A11 := Aside0.mk A110
      clear A110
      replace H := Option.bind_eq_some_iff.mp H
      obtain ⟨⟨t12014, t12017, t12020⟩, A120, H⟩ := H
      replace H : ((impl_MapOf.f k t12014 t12017 t12020 a1).bind fun bt12024 => (if bt12024.1 = t12012 then (laws_FnExactMapOf.j0 k (bt12024.2 != t12013) l0_0 l0_1 l0_2 t12014 t12017 t12020) else (laws_FnExactMapOf.j0 k true l0_0 l0_1 l0_2 t12014 t12017 t12020))) = some r := H
      have A12 := Aside0.mk A120
      clear A120
      replace H := Option.bind_eq_some_iff.mp H
      obtain ⟨⟨t12024, t12025⟩, A130, H⟩ := H
      replace H : (if t12024 = t12012 then (laws_FnExactMapOf.j0 k (t12025 != t12013) l0_0 l0_1 l0_2 t12014 t12017 t12020) else (laws_FnExactMapOf.j0 k true l0_0 l0_1 l0_2 t12014 t12017 t12020)) = some r := H
      have A13 := Aside0.mk A130
      clear A130
      have HC14 := Aside0.mk H
      clear H
      go_enter Try.func12, Try.ntmps12
      go_upto_region 10 with (first | ((with_reducible refine gate_dst (N := 2) rfl ?_); refine box_event ?hg (N := 2) ?hd (cs := #[.slice A0_0 l0_0.length c0_0, .slice A0_1 l0_1.length c0_1, .slice A0_2 l0_2.length c0_2]) (t := 76) ?hr ?_; (case hd => rfl); (case hg => rfl); (case hr => first | (go_simp; done) | (go_simp; rfl)); intro gb12001 hg w15 hbox hb; have n0_ := Aside0.mk (below_step (by repeat (first | (with_reducible first | exact HB.out | apply below_alloc | apply pw_below_drewN | apply below_drew1) | exact HB.out)) hb); have n1_ := Aside0.mk (hbox); have n2_ := Aside0.mk ((by rw [hg]; exact (below_size (by repeat (first | (with_reducible first | exact HB.out | apply below_alloc | apply pw_below_drewN | apply below_drew1) | exact HB.out))) : w.heap.size ≤ gb12001)); have n3_ := Aside0.mk ((by rw [hg]; exact (below_size (by repeat (first | (with_reducible first | exact HB.out | apply below_alloc | apply pw_below_drewN | apply below_drew1) | exact HB.out))) : w.heap.size ≤ gb12001)); clear HB; have HB := n0_; have BK12001 := n1_; have GW12001 := n2_; have GE12001 := n3_; clear n0_ n1_ n2_ n3_; clear hb hbox hg; have hcz16_0 : w15.cell? ⟨gb12001, 0, none⟩ = some (.slice A0_0 l0_0.length c0_0) := (blk_cell BK12001.out 0).trans rfl; have hcz16_1 : w15.cell? ⟨gb12001, 1, none⟩ = some (.slice A0_1 l0_1.length c0_1) := (blk_cell BK12001.out 1).trans rfl; have hcz16_2 : w15.cell? ⟨gb12001, 2, none⟩ = some (.slice A0_2 l0_2.length c0_2) := (blk_cell BK12001.out 2).trans rfl; have hfz16_0 := blk_frozen BK12001.out 0; have hfz16_1 := blk_frozen BK12001.out 1; have hfz16_2 := blk_frozen BK12001.out 2) | ((with_reducible refine gate_callee (f := 47) rfl ?_); refine goesL_ (some 16) rfl rfl Try.func47 (by kernel_rfl) rfl #[.agg #[.slice A0_0 l0_0.length c0_0, .slice A0_1 l0_1.length c0_1, .slice A0_2 l0_2.length c0_2], .int .i64 1048576] rfl (by (try simp only [List.map_toArray, List.map_cons, List.map_nil]); first | done | rfl | (simp only [List.length_drop, List.length_take]; rfl)) ?_; (with_reducible refine (laws_szMonoid.calls k _ _ l0_0 _ _ l0_1 _ _ l0_2 1048576 t12002 _ ?side1 ?side2 ?side3 ?side4 ?side5 ?side6 A5.out).mono ?_); (case side1 => repeat (first | exact (Kd.C_below HR0_0.out HB.out) | (with_reducible refine Kd.C_alloc ?_ _) | (with_reducible refine Kd.C_drewN ?_ _) | (with_reducible refine Kd.C_drew ?_))); (case side2 => exact HC0_0.out); (case side3 => repeat (first | exact (Kd.C_below HR0_1.out HB.out) | (with_reducible refine Kd.C_alloc ?_ _) | (with_reducible refine Kd.C_drewN ?_ _) | (with_reducible refine Kd.C_drew ?_))); (case side4 => exact HC0_1.out); (case side5 => repeat (first | exact (Kd.C_below HR0_2.out HB.out) | (with_reducible refine Kd.C_alloc ?_ _) | (with_reducible refine Kd.C_drewN ?_ _) | (with_reducible refine Kd.C_drew ?_))); (case side6 => exact HC0_2.out); rintro e w17 ⟨rfl, hb⟩; refine ⟨_, rfl, ?_⟩; have n0_ := Aside0.mk (blk_below (g := gb12001) (o := .cells #[.slice A0_0 l0_0.length c0_0, .slice A0_1 l0_1.length c0_1, .slice A0_2 l0_2.length c0_2] 76 (0, 0)) (by (with_reducible repeat (first | refine blk_drewN ?_ _ | refine blk_drew ?_ | refine blk_alloc ?_ _)); exact BK12001.out) hb); have n1_ := Aside0.mk (below_step (by repeat (first | (with_reducible first | exact HB.out | apply below_alloc | apply pw_below_drewN | apply below_drew1 | refine below_set ?_ GE12001.out) | exact HB.out)) hb); clear BK12001; clear HB; have BK12001 := n0_; have HB := n1_; clear n0_ n1_; (try clear hb); (try clear hb2); (try clear hk); (try clear hi); have hcz18_0 : w17.cell? ⟨gb12001, 0, none⟩ = some (.slice A0_0 l0_0.length c0_0) := (blk_cell BK12001.out 0).trans rfl; have hcz18_1 : w17.cell? ⟨gb12001, 1, none⟩ = some (.slice A0_1 l0_1.length c0_1) := (blk_cell BK12001.out 1).trans rfl; have hcz18_2 : w17.cell? ⟨gb12001, 2, none⟩ = some (.slice A0_2 l0_2.length c0_2) := (blk_cell BK12001.out 2).trans rfl; have hfz18_0 := blk_frozen BK12001.out 0; have hfz18_1 := blk_frozen BK12001.out 1; have hfz18_2 := blk_frozen BK12001.out 2) | ((with_reducible refine gate_callee (f := 49) rfl ?_); refine goesL_ (some 21) rfl rfl Try.func49 (by kernel_rfl) rfl #[.agg #[.slice A0_0 l0_0.length c0_0, .slice A0_1 l0_1.length c0_1, .slice A0_2 l0_2.length c0_2]] rfl (by (try simp only [List.map_toArray, List.map_cons, List.map_nil]); first | done | rfl | (simp only [List.length_drop, List.length_take]; rfl)) ?_; (with_reducible refine (laws_toMonoid.calls k _ _ l0_0 _ _ l0_1 _ _ l0_2 t12003 t12006 t12009 _ ?side1 ?side2 ?side3 ?side4 ?side5 ?side6 A10.out).mono ?_); (case side1 => repeat (first | exact (Kd.C_below HR0_0.out HB.out) | (with_reducible refine Kd.C_alloc ?_ _) | (with_reducible refine Kd.C_drewN ?_ _) | (with_reducible refine Kd.C_drew ?_))); (case side2 => exact HC0_0.out); (case side3 => repeat (first | exact (Kd.C_below HR0_1.out HB.out) | (with_reducible refine Kd.C_alloc ?_ _) | (with_reducible refine Kd.C_drewN ?_ _) | (with_reducible refine Kd.C_drew ?_))); (case side4 => exact HC0_1.out); (case side5 => repeat (first | exact (Kd.C_below HR0_2.out HB.out) | (with_reducible refine Kd.C_alloc ?_ _) | (with_reducible refine Kd.C_drewN ?_ _) | (with_reducible refine Kd.C_drew ?_))); (case side6 => exact HC0_2.out); rintro e w19 ⟨v12004, v12007, v12010, rfl, ho0, ho1, ho2, hb⟩; refine ⟨_, rfl, ?_⟩; have n0_ := Aside0.mk (Kd.S_lower ho0 (below_size (by repeat (first | (with_reducible first | exact HB.out | apply below_alloc | apply pw_below_drewN | apply below_drew1 | refine below_set ?_ GE12001.out) | exact HB.out)))); have n1_ := Aside0.mk (Kd.R_lower ho1 (below_size (by repeat (first | (with_reducible first | exact HB.out | apply below_alloc | apply pw_below_drewN | apply below_drew1 | refine below_set ?_ GE12001.out) | exact HB.out)))); have n2_ := Aside0.mk (Kd.S_lower ho2 (below_size (by repeat (first | (with_reducible first | exact HB.out | apply below_alloc | apply pw_below_drewN | apply below_drew1 | refine below_set ?_ GE12001.out) | exact HB.out)))); have n3_ := Aside0.mk (blk_below (g := gb12001) (o := .cells #[.slice A0_0 l0_0.length c0_0, .slice A0_1 l0_1.length c0_1, .slice A0_2 l0_2.length c0_2] 76 (0, 0)) (by (with_reducible repeat (first | refine blk_drewN ?_ _ | refine blk_drew ?_ | refine blk_alloc ?_ _)); exact BK12001.out) hb); have n4_ := Aside0.mk (below_step (by repeat (first | (with_reducible first | exact HB.out | apply below_alloc | apply pw_below_drewN | apply below_drew1 | refine below_set ?_ GE12001.out) | exact HB.out)) hb); clear BK12001; clear HB; have HO12005 := n0_; have HO12008 := n1_; have HO12011 := n2_; have BK12001 := n3_; have HB := n4_; clear n0_ n1_ n2_ n3_ n4_; (try clear hb); (try clear hb2); (try clear hk); (try clear hi); (try clear ho0); (try clear ho1); (try clear ho2); obtain ⟨Ao20, co20, eo20⟩ := Kd.S_slice HO12005.out; subst eo20; obtain ⟨Ao21, co21, eo21⟩ := Kd.R_slice HO12008.out; subst eo21; obtain ⟨Ao22, co22, eo22⟩ := Kd.S_slice HO12011.out; subst eo22) | ((with_reducible refine gate_callee (f := 27) rfl ?_); refine goesL_ (some 23) rfl rfl Try.func27 (by kernel_rfl) rfl #[.agg #[.slice Ao20 t12003.length co20, .slice Ao21 t12006.length co21, .slice Ao22 t12009.length co22], .string a1] rfl (by (try simp only [List.map_toArray, List.map_cons, List.map_nil]); first | done | rfl | (simp only [List.length_drop, List.length_take]; rfl)) ?_; (with_reducible refine (spec_MapOf.calls k _ _ t12003 _ _ t12006 _ _ t12009 a1 t12012 t12013 _ ?side1 ?side2 ?side3 ?side4 ?side5 ?side6 A11.out).mono ?_); (case side1 => repeat (first | exact (Kd.S_reads' HO12005.out).2.2 | (with_reducible refine Kd.C_alloc ?_ _) | (with_reducible refine Kd.C_drewN ?_ _) | (with_reducible refine Kd.C_drew ?_))); (case side2 => exact (Kd.S_reads' HO12005.out).2.1); (case side3 => repeat (first | exact (Kd.R_reads' HO12008.out).2.2 | (with_reducible refine Kd.C_alloc ?_ _) | (with_reducible refine Kd.C_drewN ?_ _) | (with_reducible refine Kd.C_drew ?_))); (case side4 => exact (Kd.R_reads' HO12008.out).2.1); (case side5 => repeat (first | exact (Kd.S_reads' HO12011.out).2.2 | (with_reducible refine Kd.C_alloc ?_ _) | (with_reducible refine Kd.C_drewN ?_ _) | (with_reducible refine Kd.C_drew ?_))); (case side6 => exact (Kd.S_reads' HO12011.out).2.1); rintro e w23 ⟨rfl, hb⟩; refine ⟨_, rfl, ?_⟩; have n0_ := Aside0.mk (Kd.S_below (by (with_reducible repeat (first | apply Kd.S_alloc | apply Kd.S_drewN | apply Kd.S_drew)); exact HO12005.out) hb); have n1_ := Aside0.mk (Kd.R_below (by (with_reducible repeat (first | apply Kd.R_alloc | apply Kd.R_drewN | apply Kd.R_drew)); exact HO12008.out) hb); have n2_ := Aside0.mk (Kd.S_below (by (with_reducible repeat (first | apply Kd.S_alloc | apply Kd.S_drewN | apply Kd.S_drew)); exact HO12011.out) hb); have n3_ := Aside0.mk (blk_below (g := gb12001) (o := .cells #[.slice A0_0 l0_0.length c0_0, .slice A0_1 l0_1.length c0_1, .slice A0_2 l0_2.length c0_2] 76 (0, 0)) (by (with_reducible repeat (first | refine blk_drewN ?_ _ | refine blk_drew ?_ | refine blk_alloc ?_ _)); exact BK12001.out) hb); have n4_ := Aside0.mk (below_step (by repeat (first | (with_reducible first | exact HB.out | apply below_alloc | apply pw_below_drewN | apply below_drew1 | refine below_set ?_ GE12001.out) | exact HB.out)) hb); clear HO12005; clear HO12008; clear HO12011; clear BK12001; clear HB; have HO12005 := n0_; have HO12008 := n1_; have HO12011 := n2_; have BK12001 := n3_; have HB := n4_; clear n0_ n1_ n2_ n3_ n4_; (try clear hb); (try clear hb2); (try clear hk); (try clear hi); have hcz24_0 : w23.cell? ⟨gb12001, 0, none⟩ = some (.slice A0_0 l0_0.length c0_0) := (blk_cell BK12001.out 0).trans rfl; have hcz24_1 : w23.cell? ⟨gb12001, 1, none⟩ = some (.slice A0_1 l0_1.length c0_1) := (blk_cell BK12001.out 1).trans rfl; have hcz24_2 : w23.cell? ⟨gb12001, 2, none⟩ = some (.slice A0_2 l0_2.length c0_2) := (blk_cell BK12001.out 2).trans rfl; have hfz24_0 := blk_frozen BK12001.out 0; have hfz24_1 := blk_frozen BK12001.out 1; have hfz24_2 := blk_frozen BK12001.out 2) | ((with_reducible refine gate_callee (f := 49) rfl ?_); refine goesL_ (some 27) rfl rfl Try.func49 (by kernel_rfl) rfl #[.agg #[.slice A0_0 l0_0.length c0_0, .slice A0_1 l0_1.length c0_1, .slice A0_2 l0_2.length c0_2]] rfl (by (try simp only [List.map_toArray, List.map_cons, List.map_nil]); first | done | rfl | (simp only [List.length_drop, List.length_take]; rfl)) ?_; (with_reducible refine (laws_toMonoid.calls k _ _ l0_0 _ _ l0_1 _ _ l0_2 t12014 t12017 t12020 _ ?side1 ?side2 ?side3 ?side4 ?side5 ?side6 A12.out).mono ?_); (case side1 => repeat (first | exact (Kd.C_below HR0_0.out HB.out) | (with_reducible refine Kd.C_alloc ?_ _) | (with_reducible refine Kd.C_drewN ?_ _) | (with_reducible refine Kd.C_drew ?_))); (case side2 => exact HC0_0.out); (case side3 => repeat (first | exact (Kd.C_below HR0_1.out HB.out) | (with_reducible refine Kd.C_alloc ?_ _) | (with_reducible refine Kd.C_drewN ?_ _) | (with_reducible refine Kd.C_drew ?_))); (case side4 => exact HC0_1.out); (case side5 => repeat (first | exact (Kd.C_below HR0_2.out HB.out) | (with_reducible refine Kd.C_alloc ?_ _) | (with_reducible refine Kd.C_drewN ?_ _) | (with_reducible refine Kd.C_drew ?_))); (case side6 => exact HC0_2.out); rintro e w25 ⟨v12015, v12018, v12021, rfl, ho0, ho1, ho2, hb⟩; refine ⟨_, rfl, ?_⟩; have n0_ := Aside0.mk (Kd.S_mono (Kd.S_told (Kd.S_told (Kd.S_told (Kd.S_old (by (with_reducible repeat (first | apply Kd.S_alloc | apply Kd.S_drewN | apply Kd.S_drew)); exact HO12005.out) hb) (Kd.S_base ho0)) (Kd.R_base ho1)) (Kd.S_base ho2)) (fun _ h_ => h_.1)); have n1_ := Aside0.mk (Kd.R_elder' (by (with_reducible repeat (first | apply Kd.R_alloc | apply Kd.R_drewN | apply Kd.R_drew)); exact HO12008.out) (Kd.R_base ho1) hb); have n2_ := Aside0.mk (Kd.S_mono (Kd.S_told (Kd.S_told (Kd.S_told (Kd.S_old (by (with_reducible repeat (first | apply Kd.S_alloc | apply Kd.S_drewN | apply Kd.S_drew)); exact HO12011.out) hb) (Kd.S_base ho0)) (Kd.R_base ho1)) (Kd.S_base ho2)) (fun _ h_ => h_.1)); have n3_ := Aside0.mk (Kd.S_lower (Kd.S_new' (Kd.S_new' (Kd.S_new' ho0 (Kd.S_lt (by (with_reducible repeat (first | apply Kd.S_alloc | apply Kd.S_drewN | apply Kd.S_drew)); exact HO12005.out))) (Kd.R_lt (by (with_reducible repeat (first | apply Kd.R_alloc | apply Kd.R_drewN | apply Kd.R_drew)); exact HO12008.out))) (Kd.S_lt (by (with_reducible repeat (first | apply Kd.S_alloc | apply Kd.S_drewN | apply Kd.S_drew)); exact HO12011.out))) (below_size (by repeat (first | (with_reducible first | exact HB.out | apply below_alloc | apply pw_below_drewN | apply below_drew1 | refine below_set ?_ GE12001.out) | exact HB.out)))); have n4_ := Aside0.mk (Kd.R_lower (Kd.R_new' ho1 (Kd.R_lt (by (with_reducible repeat (first | apply Kd.R_alloc | apply Kd.R_drewN | apply Kd.R_drew)); exact HO12008.out))) (below_size (by repeat (first | (with_reducible first | exact HB.out | apply below_alloc | apply pw_below_drewN | apply below_drew1 | refine below_set ?_ GE12001.out) | exact HB.out)))); have n5_ := Aside0.mk (Kd.S_lower (Kd.S_new' (Kd.S_new' (Kd.S_new' ho2 (Kd.S_lt (by (with_reducible repeat (first | apply Kd.S_alloc | apply Kd.S_drewN | apply Kd.S_drew)); exact HO12005.out))) (Kd.R_lt (by (with_reducible repeat (first | apply Kd.R_alloc | apply Kd.R_drewN | apply Kd.R_drew)); exact HO12008.out))) (Kd.S_lt (by (with_reducible repeat (first | apply Kd.S_alloc | apply Kd.S_drewN | apply Kd.S_drew)); exact HO12011.out))) (below_size (by repeat (first | (with_reducible first | exact HB.out | apply below_alloc | apply pw_below_drewN | apply below_drew1 | refine below_set ?_ GE12001.out) | exact HB.out)))); have n6_ := Aside0.mk (blk_below (g := gb12001) (o := .cells #[.slice A0_0 l0_0.length c0_0, .slice A0_1 l0_1.length c0_1, .slice A0_2 l0_2.length c0_2] 76 (0, 0)) (by (with_reducible repeat (first | refine blk_drewN ?_ _ | refine blk_drew ?_ | refine blk_alloc ?_ _)); exact BK12001.out) hb); have n7_ := Aside0.mk (below_step (by repeat (first | (with_reducible first | exact HB.out | apply below_alloc | apply pw_below_drewN | apply below_drew1 | refine below_set ?_ GE12001.out) | exact HB.out)) hb); clear HO12005; clear HO12008; clear HO12011; clear BK12001; clear HB; have HO12005 := n0_; have HO12008 := n1_; have HO12011 := n2_; have HO12016 := n3_; have HO12019 := n4_; have HO12022 := n5_; have BK12001 := n6_; have HB := n7_; clear n0_ n1_ n2_ n3_ n4_ n5_ n6_ n7_; (try clear hb); (try clear hb2); (try clear hk); (try clear hi); (try clear ho0); (try clear ho1); (try clear ho2)) | ((with_reducible refine gate_dst (N := 8) rfl ?_); refine box_event ?hg (N := 8) ?hd (cs := #[.slice none 0 0, .slice none 0 0, .slice none 0 0]) (t := 31) ?hr ?_; (case hd => rfl); (case hg => rfl); (case hr => first | (go_simp; done) | (go_simp; rfl)); intro gb12023 hg w26 hbox hb; have n0_ := Aside0.mk (Kd.S_below (by (with_reducible repeat (first | apply Kd.S_alloc | apply Kd.S_drewN | apply Kd.S_drew)); exact HO12005.out) hb); have n1_ := Aside0.mk (Kd.R_below (by (with_reducible repeat (first | apply Kd.R_alloc | apply Kd.R_drewN | apply Kd.R_drew)); exact HO12008.out) hb); have n2_ := Aside0.mk (Kd.S_below (by (with_reducible repeat (first | apply Kd.S_alloc | apply Kd.S_drewN | apply Kd.S_drew)); exact HO12011.out) hb); have n3_ := Aside0.mk (Kd.S_below (by (with_reducible repeat (first | apply Kd.S_alloc | apply Kd.S_drewN | apply Kd.S_drew)); exact HO12016.out) hb); have n4_ := Aside0.mk (Kd.R_below (by (with_reducible repeat (first | apply Kd.R_alloc | apply Kd.R_drewN | apply Kd.R_drew)); exact HO12019.out) hb); have n5_ := Aside0.mk (Kd.S_below (by (with_reducible repeat (first | apply Kd.S_alloc | apply Kd.S_drewN | apply Kd.S_drew)); exact HO12022.out) hb); have n6_ := Aside0.mk (blk_below (g := gb12001) (o := .cells #[.slice A0_0 l0_0.length c0_0, .slice A0_1 l0_1.length c0_1, .slice A0_2 l0_2.length c0_2] 76 (0, 0)) (by (with_reducible repeat (first | refine blk_drewN ?_ _ | refine blk_drew ?_ | refine blk_alloc ?_ _)); exact BK12001.out) hb); have n7_ := Aside0.mk (below_step (by repeat (first | (with_reducible first | exact HB.out | apply below_alloc | apply pw_below_drewN | apply below_drew1 | refine below_set ?_ GE12001.out) | exact HB.out)) hb); have n8_ := Aside0.mk (hbox); have n9_ := Aside0.mk ((by rw [hg]; exact (below_size (by repeat (first | (with_reducible first | exact HB.out | apply below_alloc | apply pw_below_drewN | apply below_drew1 | refine below_set ?_ GE12001.out) | exact HB.out))) : w.heap.size ≤ gb12023)); have n10_ := Aside0.mk ((by rw [hg]; exact (below_size (by repeat (first | (with_reducible first | exact HB.out | apply below_alloc | apply pw_below_drewN | apply below_drew1 | refine below_set ?_ GE12001.out) | exact HB.out))) : w.heap.size ≤ gb12023)); have n11_ := Aside0.mk ((by rw [hg]; exact Nat.ne_of_lt (blk_lt (g := gb12001) (o := .cells #[.slice A0_0 l0_0.length c0_0, .slice A0_1 l0_1.length c0_1, .slice A0_2 l0_2.length c0_2] 76 (0, 0)) (by (with_reducible repeat (first | refine blk_drewN ?_ _ | refine blk_drew ?_ | refine blk_alloc ?_ _)); exact BK12001.out)) : gb12001 ≠ gb12023)); have n12_ := Aside0.mk ((by rw [hg]; exact Nat.ne_of_gt (blk_lt (g := gb12001) (o := .cells #[.slice A0_0 l0_0.length c0_0, .slice A0_1 l0_1.length c0_1, .slice A0_2 l0_2.length c0_2] 76 (0, 0)) (by (with_reducible repeat (first | refine blk_drewN ?_ _ | refine blk_drew ?_ | refine blk_alloc ?_ _)); exact BK12001.out)) : gb12023 ≠ gb12001)); clear HO12005; clear HO12008; clear HO12011; clear HO12016; clear HO12019; clear HO12022; clear BK12001; clear HB; have HO12005 := n0_; have HO12008 := n1_; have HO12011 := n2_; have HO12016 := n3_; have HO12019 := n4_; have HO12022 := n5_; have BK12001 := n6_; have HB := n7_; have BK12023 := n8_; have GW12023 := n9_; have GE12023 := n10_; have NB12001_12023 := n11_; have NB12023_12001 := n12_; clear n0_ n1_ n2_ n3_ n4_ n5_ n6_ n7_ n8_ n9_ n10_ n11_ n12_; clear hb hbox hg; obtain ⟨Ao27, co27, eo27⟩ := Kd.S_slice HO12016.out; subst eo27; have hnb28 := NB12023_12001.out; have hnc28 := NB12001_12023.out; have hcz29_0 : w26.cell? ⟨gb12023, 0, none⟩ = some (.slice none 0 0) := (blk_cell BK12023.out 0).trans rfl; have hcz29_1 : w26.cell? ⟨gb12023, 1, none⟩ = some (.slice none 0 0) := (blk_cell BK12023.out 1).trans rfl; have hcz29_2 : w26.cell? ⟨gb12023, 2, none⟩ = some (.slice none 0 0) := (blk_cell BK12023.out 2).trans rfl; have hfz29_0 := blk_frozen BK12023.out 0; have hfz29_1 := blk_frozen BK12023.out 1; have hfz29_2 := blk_frozen BK12023.out 2; obtain ⟨Ao30, co30, eo30⟩ := Kd.R_slice HO12019.out; subst eo30; obtain ⟨Ao31, co31, eo31⟩ := Kd.S_slice HO12022.out; subst eo31) | ((with_reducible refine gate_callee (f := 21) rfl ?_); refine goesL_ (some 31) rfl rfl Try.func21 (by kernel_rfl) rfl #[.agg #[.slice Ao27 t12014.length co27, .slice Ao30 t12017.length co30, .slice Ao31 t12020.length co31], .string a1] rfl (by (try simp only [List.map_toArray, List.map_cons, List.map_nil]); first | done | rfl | (simp only [List.length_drop, List.length_take]; rfl)) ?_; (with_reducible refine (impl_MapOf.calls k _ _ t12014 _ _ t12017 _ _ t12020 a1 t12024 t12025 _ ?side1 ?side2 ?side3 ?side4 ?side5 ?side6 A13.out).mono ?_); (case side1 => refine (Kd.S_reads' (e := 29) (base := w.heap.size) (ok := fun k_ => ((((some k_ ≠ (.slice Ao30 t12017.length co30 : Value).ownBlock ∧ some k_ ≠ (.slice Ao31 t12020.length co31 : Value).ownBlock) ∧ some k_ ≠ (.slice Ao20 t12003.length co20 : Value).ownBlock) ∧ some k_ ≠ (.slice Ao21 t12006.length co21 : Value).ownBlock) ∧ some k_ ≠ (.slice Ao22 t12009.length co22 : Value).ownBlock)) (n := t12014.length) (c := co27) ?_).2.2; exact (by (with_reducible repeat (first | apply Kd.S_alloc | apply Kd.S_drewN | apply Kd.S_drew)); exact (Kd.S_mono (Kd.S_far (p := ⟨gb12023, 2, none⟩) (Kd.S_far (p := ⟨gb12023, 1, none⟩) (Kd.S_far (p := ⟨gb12023, 0, none⟩) (Kd.S_types HO12016.out BK12023.out (by decide)) (fun _ hk => hk.2) (.slice Ao27 t12014.length co27)) (fun _ hk => hk.2) (.slice Ao30 t12017.length co30)) (fun _ hk => hk.2) (.slice Ao31 t12020.length co31)) (fun _ h_ => h_.1)))); (case side2 => exact (Kd.S_reads' HO12016.out).2.1); (case side3 => refine (Kd.R_reads' (e := 3) (base := w.heap.size) (ok := fun k_ => (True ∧ some k_ ≠ (.slice Ao21 t12006.length co21 : Value).ownBlock)) (n := t12017.length) (c := co30) ?_).2.2; exact (by (with_reducible repeat (first | apply Kd.R_alloc | apply Kd.R_drewN | apply Kd.R_drew)); exact (Kd.R_mono (Kd.R_far (p := ⟨gb12023, 2, none⟩) (Kd.R_far (p := ⟨gb12023, 1, none⟩) (Kd.R_far (p := ⟨gb12023, 0, none⟩) (Kd.R_types HO12019.out BK12023.out (by decide)) (fun _ hk => hk.2) (.slice Ao27 t12014.length co27)) (fun _ hk => hk.2) (.slice Ao30 t12017.length co30)) (fun _ hk => hk.2) (.slice Ao31 t12020.length co31)) (fun _ h_ => h_.1)))); (case side4 => exact (Kd.R_reads' HO12019.out).2.1); (case side5 => refine (Kd.S_reads' (e := 29) (base := w.heap.size) (ok := fun k_ => ((((some k_ ≠ (.slice Ao27 t12014.length co27 : Value).ownBlock ∧ some k_ ≠ (.slice Ao30 t12017.length co30 : Value).ownBlock) ∧ some k_ ≠ (.slice Ao20 t12003.length co20 : Value).ownBlock) ∧ some k_ ≠ (.slice Ao21 t12006.length co21 : Value).ownBlock) ∧ some k_ ≠ (.slice Ao22 t12009.length co22 : Value).ownBlock)) (n := t12020.length) (c := co31) ?_).2.2; exact (by (with_reducible repeat (first | apply Kd.S_alloc | apply Kd.S_drewN | apply Kd.S_drew)); exact (Kd.S_mono (Kd.S_far (p := ⟨gb12023, 2, none⟩) (Kd.S_far (p := ⟨gb12023, 1, none⟩) (Kd.S_far (p := ⟨gb12023, 0, none⟩) (Kd.S_types HO12022.out BK12023.out (by decide)) (fun _ hk => hk.2) (.slice Ao27 t12014.length co27)) (fun _ hk => hk.2) (.slice Ao30 t12017.length co30)) (fun _ hk => hk.2) (.slice Ao31 t12020.length co31)) (fun _ h_ => h_.1)))); (case side6 => exact (Kd.S_reads' HO12022.out).2.1); rintro e w32 ⟨rfl, hb⟩; refine ⟨_, rfl, ?_⟩; have n0_ := Aside0.mk (Kd.S_below (by (with_reducible repeat (first | apply Kd.S_alloc | apply Kd.S_drewN | apply Kd.S_drew)); exact (Kd.S_mono (Kd.S_far (p := ⟨gb12023, 2, none⟩) (Kd.S_far (p := ⟨gb12023, 1, none⟩) (Kd.S_far (p := ⟨gb12023, 0, none⟩) (Kd.S_types HO12005.out BK12023.out (by decide)) (fun _ hk => hk.2) (.slice Ao27 t12014.length co27)) (fun _ hk => hk.2) (.slice Ao30 t12017.length co30)) (fun _ hk => hk.2) (.slice Ao31 t12020.length co31)) (fun _ h_ => h_.1))) hb); have n1_ := Aside0.mk (Kd.R_below (by (with_reducible repeat (first | apply Kd.R_alloc | apply Kd.R_drewN | apply Kd.R_drew)); exact (Kd.R_mono (Kd.R_far (p := ⟨gb12023, 2, none⟩) (Kd.R_far (p := ⟨gb12023, 1, none⟩) (Kd.R_far (p := ⟨gb12023, 0, none⟩) (Kd.R_types HO12008.out BK12023.out (by decide)) (fun _ hk => hk.2) (.slice Ao27 t12014.length co27)) (fun _ hk => hk.2) (.slice Ao30 t12017.length co30)) (fun _ hk => hk.2) (.slice Ao31 t12020.length co31)) (fun _ h_ => h_.1))) hb); have n2_ := Aside0.mk (Kd.S_below (by (with_reducible repeat (first | apply Kd.S_alloc | apply Kd.S_drewN | apply Kd.S_drew)); exact (Kd.S_mono (Kd.S_far (p := ⟨gb12023, 2, none⟩) (Kd.S_far (p := ⟨gb12023, 1, none⟩) (Kd.S_far (p := ⟨gb12023, 0, none⟩) (Kd.S_types HO12011.out BK12023.out (by decide)) (fun _ hk => hk.2) (.slice Ao27 t12014.length co27)) (fun _ hk => hk.2) (.slice Ao30 t12017.length co30)) (fun _ hk => hk.2) (.slice Ao31 t12020.length co31)) (fun _ h_ => h_.1))) hb); have n3_ := Aside0.mk (Kd.S_below (by (with_reducible repeat (first | apply Kd.S_alloc | apply Kd.S_drewN | apply Kd.S_drew)); exact (Kd.S_mono (Kd.S_far (p := ⟨gb12023, 2, none⟩) (Kd.S_far (p := ⟨gb12023, 1, none⟩) (Kd.S_far (p := ⟨gb12023, 0, none⟩) (Kd.S_types HO12016.out BK12023.out (by decide)) (fun _ hk => hk.2) (.slice Ao27 t12014.length co27)) (fun _ hk => hk.2) (.slice Ao30 t12017.length co30)) (fun _ hk => hk.2) (.slice Ao31 t12020.length co31)) (fun _ h_ => h_.1))) hb); have n4_ := Aside0.mk (Kd.R_below (by (with_reducible repeat (first | apply Kd.R_alloc | apply Kd.R_drewN | apply Kd.R_drew)); exact (Kd.R_mono (Kd.R_far (p := ⟨gb12023, 2, none⟩) (Kd.R_far (p := ⟨gb12023, 1, none⟩) (Kd.R_far (p := ⟨gb12023, 0, none⟩) (Kd.R_types HO12019.out BK12023.out (by decide)) (fun _ hk => hk.2) (.slice Ao27 t12014.length co27)) (fun _ hk => hk.2) (.slice Ao30 t12017.length co30)) (fun _ hk => hk.2) (.slice Ao31 t12020.length co31)) (fun _ h_ => h_.1))) hb); have n5_ := Aside0.mk (Kd.S_below (by (with_reducible repeat (first | apply Kd.S_alloc | apply Kd.S_drewN | apply Kd.S_drew)); exact (Kd.S_mono (Kd.S_far (p := ⟨gb12023, 2, none⟩) (Kd.S_far (p := ⟨gb12023, 1, none⟩) (Kd.S_far (p := ⟨gb12023, 0, none⟩) (Kd.S_types HO12022.out BK12023.out (by decide)) (fun _ hk => hk.2) (.slice Ao27 t12014.length co27)) (fun _ hk => hk.2) (.slice Ao30 t12017.length co30)) (fun _ hk => hk.2) (.slice Ao31 t12020.length co31)) (fun _ h_ => h_.1))) hb); have n6_ := Aside0.mk (blk_below (g := gb12001) (o := .cells #[.slice A0_0 l0_0.length c0_0, .slice A0_1 l0_1.length c0_1, .slice A0_2 l0_2.length c0_2] 76 (0, 0)) (by (with_reducible repeat (first | refine blk_drewN ?_ _ | refine blk_drew ?_ | refine blk_alloc ?_ _)); refine blk_far ?_ NB12001_12023.out _; (with_reducible repeat (first | refine blk_drewN ?_ _ | refine blk_drew ?_ | refine blk_alloc ?_ _)); refine blk_far ?_ NB12001_12023.out _; (with_reducible repeat (first | refine blk_drewN ?_ _ | refine blk_drew ?_ | refine blk_alloc ?_ _)); refine blk_far ?_ NB12001_12023.out _; (with_reducible repeat (first | refine blk_drewN ?_ _ | refine blk_drew ?_ | refine blk_alloc ?_ _)); exact BK12001.out) hb); have n7_ := Aside0.mk (blk_below (g := gb12023) (o := .cells #[.slice Ao27 t12014.length co27, .slice Ao30 t12017.length co30, .slice Ao31 t12020.length co31] 31 (0, 0)) (by (with_reducible repeat (first | refine blk_drewN ?_ _ | refine blk_drew ?_ | refine blk_alloc ?_ _)); refine blk_put (cs := #[.slice Ao27 t12014.length co27, .slice Ao30 t12017.length co30, .slice none 0 0]) ?_ 2 _ rfl; (with_reducible repeat (first | refine blk_drewN ?_ _ | refine blk_drew ?_ | refine blk_alloc ?_ _)); refine blk_put (cs := #[.slice Ao27 t12014.length co27, .slice none 0 0, .slice none 0 0]) ?_ 1 _ rfl; (with_reducible repeat (first | refine blk_drewN ?_ _ | refine blk_drew ?_ | refine blk_alloc ?_ _)); refine blk_put (cs := #[.slice none 0 0, .slice none 0 0, .slice none 0 0]) ?_ 0 _ rfl; (with_reducible repeat (first | refine blk_drewN ?_ _ | refine blk_drew ?_ | refine blk_alloc ?_ _)); exact BK12023.out) hb); have n8_ := Aside0.mk (below_step (by repeat (first | (with_reducible first | exact HB.out | apply below_alloc | apply pw_below_drewN | apply below_drew1 | refine below_set ?_ GE12001.out | refine below_set ?_ GE12023.out) | exact HB.out)) hb); clear HO12005; clear HO12008; clear HO12011; clear HO12016; clear HO12019; clear HO12022; clear BK12001; clear BK12023; clear HB; have HO12005 := n0_; have HO12008 := n1_; have HO12011 := n2_; have HO12016 := n3_; have HO12019 := n4_; have HO12022 := n5_; have BK12001 := n6_; have BK12023 := n7_; have HB := n8_; clear n0_ n1_ n2_ n3_ n4_ n5_ n6_ n7_ n8_; (try clear hb); (try clear hb2); (try clear hk); (try clear hi)))
      (try simp only [Act.put, List.setIfInBounds_toArray, List.set_cons_zero, List.set_cons_succ])
      go_cut [41] (fun v41 wc => ∃ (kq : Nat) (x41_13 : Bool), v41 = .bool x41_13 ∧ Aside0 (laws_FnExactMapOf.j0 kq x41_13 l0_0 l0_1 l0_2 t12014 t12017 t12020 = some r) ∧ Aside0 (kq ≤ k) ∧ Aside0 (Kd.S (Kd.slice 3 (Kd.int .i64)) 29 wc w.heap.size (fun k_ => some k_ ≠ ((.slice Ao30 t12017.length co30) : Value).ownBlock ∧ some k_ ≠ ((.slice Ao31 t12020.length co31) : Value).ownBlock) (.slice Ao27 t12014.length co27) t12014) ∧ Aside0 (Kd.R (Kd.int .i64) 3 wc w.heap.size (fun _ => True) (.slice Ao30 t12017.length co30) t12017) ∧ Aside0 (Kd.S (Kd.slice 3 (Kd.int .i64)) 29 wc w.heap.size (fun k_ => some k_ ≠ ((.slice Ao27 t12014.length co27) : Value).ownBlock ∧ some k_ ≠ ((.slice Ao30 t12017.length co30) : Value).ownBlock) (.slice Ao31 t12020.length co31) t12020) ∧ Aside0 (wc.heap[gb12001]? = some (.cells #[(.slice A0_0 l0_0.length c0_0), (.slice A0_1 l0_1.length c0_1), (.slice A0_2 l0_2.length c0_2)] 76 (0, 0))) ∧ Aside0 (wc.heap[gb12023]? = some (.cells #[(.slice Ao27 t12014.length co27), (.slice Ao30 t12017.length co30), (.slice Ao31 t12020.length co31)] 31 (0, 0))) ∧ Aside0 (Below w.heap.size w wc))
      case first =>
        have H := HC14.out
        clear HC14
        by_cases c33 : t12024 = t12012
        · rw [if_pos c33] at H
          have c33b0 : (t12024 == t12012) = true := beq_iff_eq.mpr c33
          have c33b1 : (t12024 != t12012) = false := bne_eq_false_iff_eq.mpr c33
          clear c33
          (first | rw [c33b0] | (simp only [i64_w, i32_w]; rw [c33b0]) | skip)
          have H' := Aside0.mk H
          clear H
          go_wp2
          go_meet
          case rel => exact ⟨_, ((t12025 != t12013)), (by first | rfl | (simp; done) | (simp [*]; done)), H', ⟨by first | omega | exact Nat.le_refl _⟩, ⟨by (with_reducible repeat (first | apply Kd.S_alloc | apply Kd.S_drewN | apply Kd.S_drew)); exact Kd.S_mono HO12016.out (fun _ hk => ⟨hk.1.1.1.1, hk.1.1.1.2⟩)⟩, ⟨by (with_reducible repeat (first | apply Kd.R_alloc | apply Kd.R_drewN | apply Kd.R_drew)); exact Kd.R_mono HO12019.out (fun _ hk => trivial)⟩, ⟨by (with_reducible repeat (first | apply Kd.S_alloc | apply Kd.S_drewN | apply Kd.S_drew)); exact Kd.S_mono HO12022.out (fun _ hk => ⟨hk.1.1.1.1, hk.1.1.1.2⟩)⟩, ⟨by (with_reducible repeat (first | refine blk_drewN ?_ _ | refine blk_drew ?_ | refine blk_alloc ?_ _)); exact BK12001.out⟩, ⟨by (with_reducible repeat (first | refine blk_drewN ?_ _ | refine blk_drew ?_ | refine blk_alloc ?_ _)); exact BK12023.out⟩, ⟨by repeat (first | (with_reducible first | exact HB.out | apply below_alloc | apply pw_below_drewN | apply below_drew1 | refine below_set ?_ GE12001.out | refine below_set ?_ GE12023.out) | exact HB.out)⟩⟩
        · rw [if_neg c33] at H
          have c33b0 : (t12024 == t12012) = false := beq_eq_false_iff_ne.mpr c33
          have c33b1 : (t12024 != t12012) = true := bne_iff_ne.mpr c33
          (first | rw [c33b0] | (simp only [i64_w, i32_w]; rw [c33b0]) | skip)
          have H' := Aside0.mk H
          clear H
          go_wp2
          go_meet
          case rel => exact ⟨_, (true), (by first | rfl | (simp; done) | (simp [*]; done)), H', ⟨by first | omega | exact Nat.le_refl _⟩, ⟨by (with_reducible repeat (first | apply Kd.S_alloc | apply Kd.S_drewN | apply Kd.S_drew)); exact Kd.S_mono HO12016.out (fun _ hk => ⟨hk.1.1.1.1, hk.1.1.1.2⟩)⟩, ⟨by (with_reducible repeat (first | apply Kd.R_alloc | apply Kd.R_drewN | apply Kd.R_drew)); exact Kd.R_mono HO12019.out (fun _ hk => trivial)⟩, ⟨by (with_reducible repeat (first | apply Kd.S_alloc | apply Kd.S_drewN | apply Kd.S_drew)); exact Kd.S_mono HO12022.out (fun _ hk => ⟨hk.1.1.1.1, hk.1.1.1.2⟩)⟩, ⟨by (with_reducible repeat (first | refine blk_drewN ?_ _ | refine blk_drew ?_ | refine blk_alloc ?_ _)); exact BK12001.out⟩, ⟨by (with_reducible repeat (first | refine blk_drewN ?_ _ | refine blk_drew ?_ | refine blk_alloc ?_ _)); exact BK12023.out⟩, ⟨by repeat (first | (with_reducible first | exact HB.out | apply below_alloc | apply pw_below_drewN | apply below_drew1 | refine below_set ?_ GE12001.out | refine below_set ?_ GE12023.out) | exact HB.out)⟩⟩
      case rest =>
        clear HC14
        try clear c1
        try clear c2
        try clear p2
        try clear c3
        try clear c3b0
        try clear c3b1
        try clear c4
        try clear c6
        try clear c6b0
        try clear c12
        try clear c21
        try clear c27
        try clear c28
        try clear c33
        try clear c33b0
        try clear c33b1
        try clear hcz16_0
        try clear hcz16_1
        try clear hcz16_2
        try clear hcz18_0
        try clear hcz18_1
        try clear hcz18_2
        try clear hcz24_0
        try clear hcz24_1
        try clear hcz24_2
        try clear hcz29_0
        try clear hcz29_1
        try clear hcz29_2
        try clear hcz8_0
        try clear hcz8_1
        try clear hcz8_2
        try clear hfz16_0
        try clear hfz16_1
        try clear hfz16_2
        try clear hfz18_0
        try clear hfz18_1
        try clear hfz18_2
        try clear hfz24_0
        try clear hfz24_1
        try clear hfz24_2
        try clear hfz29_0
        try clear hfz29_1
        try clear hfz29_2
        try clear hfz8_0
        try clear hfz8_1
        try clear hfz8_2
        obtain ⟨kq, x41_13, rfl, HA, HJ13, HO_12024000, HO_12024001, HO_12024002, BK12001, BK12023, HB⟩ := hcut
        cases kq with
        | zero => exact absurd HA.out (by simp [laws_FnExactMapOf.j0])
        | succ kj13 =>
          have H := HA.out
          clear HA
          simp only [laws_FnExactMapOf.j0] at H
          by_cases c34 : x41_13 = true
          · subst c34
            have H1 : (some false) = some r := by rw [if_pos rfl] at H; exact H
            clear H
            have H := H1
            clear H1
            obtain rfl := Option.some.inj H
            go_wp2
            go_ret
            exact ⟨by first | rfl | (simp [errW_none, errW_some] <;> rfl) | (simp [*, errW_none, errW_some] <;> rfl), by repeat (first | (with_reducible first | exact HB.out | apply below_alloc | apply pw_below_drewN | apply below_drew1 | refine below_set ?_ GE12001.out | refine below_set ?_ GE12023.out) | exact HB.out)⟩
          · replace c34 := Bool.eq_false_iff.mpr c34
            subst c34
            have H1 : ((laws_toMonoid.f kj13 l0_0 l0_1 l0_2).bind fun bt12026 => ((laws_eqMonoid.f kj13 t12014 t12017 t12020 bt12026.1 bt12026.2.1 bt12026.2.2).bind fun t12035 => (if t12035 = true then (some true) else (some false)))) = some r := by rw [if_neg (show ¬ (false = true) by decide)] at H; exact H
            clear H
            have H := H1
            clear H1
            replace H := Option.bind_eq_some_iff.mp H
            obtain ⟨⟨t12026, t12029, t12032⟩, A350, H⟩ := H
            replace H : ((laws_eqMonoid.f kj13 t12014 t12017 t12020 t12026 t12029 t12032).bind fun t12035 => (if t12035 = true then (some true) else (some false))) = some r := H
            have A35 := Aside0.mk A350
            clear A350
            replace H := Option.bind_eq_some_iff.mp H
            obtain ⟨t12035, A360, H⟩ := H
            replace H : (if t12035 = true then (some true) else (some false)) = some r := H
            have A36 := Aside0.mk A360
            clear A360
            by_cases c37 : t12035 = true
            · subst c37
              have H1 : (some true) = some r := by rw [if_pos rfl] at H; exact H
              clear H
              have H := H1
              clear H1
              obtain rfl := Option.some.inj H
              try go_wp2
              have n0_ := Aside0.mk (Kd.S_drew HO_12024000.out)
              have n1_ := Aside0.mk (Kd.R_drew HO_12024001.out)
              have n2_ := Aside0.mk (Kd.S_drew HO_12024002.out)
              have n3_ := Aside0.mk (blk_drew BK12001.out)
              have n4_ := Aside0.mk (blk_drew BK12023.out)
              have n5_ := Aside0.mk (below_drew1 HB.out)
              clear HO_12024000
              clear HO_12024001
              clear HO_12024002
              clear BK12001
              clear BK12023
              clear HB
              have HO_12024000 := n0_
              have HO_12024001 := n1_
              have HO_12024002 := n2_
              have BK12001 := n3_
              have BK12023 := n4_
              have HB := n5_
              clear n0_ n1_ n2_ n3_ n4_ n5_
              refine start_ (n := 5) (S := fun w' => w'.cell? ⟨gb12023, 0, none⟩ = some (.slice Ao27 t12014.length co27) ∧ w'.cell? ⟨gb12023, 1, none⟩ = some (.slice Ao30 t12017.length co30) ∧ w'.cell? ⟨gb12023, 2, none⟩ = some (.slice Ao31 t12020.length co31) ∧ w'.cell? ⟨gb12001, 0, none⟩ = some (.slice A0_0 l0_0.length c0_0) ∧ w'.cell? ⟨gb12001, 1, none⟩ = some (.slice A0_1 l0_1.length c0_1) ∧ w'.cell? ⟨gb12001, 2, none⟩ = some (.slice A0_2 l0_2.length c0_2)) (ds := []) #[false, false, false, false, false] (by kernel_rfl) rfl rfl ⟨(blk_cell BK12023.out 0).trans rfl, (blk_cell BK12023.out 1).trans rfl, (blk_cell BK12023.out 2).trans rfl, (blk_cell BK12001.out 0).trans rfl, (blk_cell BK12001.out 1).trans rfl, (blk_cell BK12001.out 2).trans rfl⟩ (fun hHeld => ?_)
              generalize wc.drew = w38 at HO_12024000 HO_12024001 HO_12024002 BK12001 BK12023 HB hHeld ⊢
              refine take_ (i := 0) (N := some 42) (v := ?_) (a' := ?_) #[true, false, false, false, false] rfl rfl (by kernel_rfl) (fun _ _ _ h => h) (Or.inl ⟨by rfl, ?_⟩) hHeld ?_ ?_
              rotate_left
              · rintro w' ⟨s0, s1, s2, s3, s4, s5⟩
                go_simp
                first | with_reducible rfl | (rw [if_neg (by omega)]; done)
              rotate_left
              · simp only [Act.put, List.setIfInBounds_toArray, List.set_cons_zero, List.set_cons_succ, i64_w, i32_w]
                rfl
              refine take_ (i := 1) (N := some 43) (v := ?_) (a' := ?_) #[true, true, false, false, false] rfl rfl (by kernel_rfl) (fun _ _ _ h => h) (Or.inl ⟨by rfl, ?_⟩) hHeld ?_ ?_
              rotate_left
              · rintro w' ⟨s0, s1, s2, s3, s4, s5⟩
                go_simp
                first | with_reducible rfl | (rw [if_neg (by omega)]; done)
              rotate_left
              · simp only [Act.put, List.setIfInBounds_toArray, List.set_cons_zero, List.set_cons_succ, i64_w, i32_w]
                rfl
              refine one_ (i := 2) (N := some 44) #[true, true, true, false, false] rfl rfl (by kernel_rfl) (by decide) (fun K hK => ?_)
              refine goes_ Try.func49 (by kernel_rfl) rfl #[.agg #[.slice A0_0 l0_0.length c0_0, .slice A0_1 l0_1.length c0_1, .slice A0_2 l0_2.length c0_2]] (by rfl) rfl rfl (by (try simp only [List.map_toArray, List.map_cons, List.map_nil]); first | done | rfl | (simp only [List.length_drop, List.length_take]; rfl)) ?_
              with_reducible refine (laws_toMonoid.calls kj13 _ _ l0_0 _ _ l0_1 _ _ l0_2 t12026 t12029 t12032 _ ?side1 ?side2 ?side3 ?side4 ?side5 ?side6 A35.out).mono ?_
              (case side1 => repeat (first | exact (Kd.C_below HR0_0.out HB.out) | (with_reducible refine Kd.C_alloc ?_ _) | (with_reducible refine Kd.C_drewN ?_ _) | (with_reducible refine Kd.C_drew ?_)))
              (case side2 => exact HC0_0.out)
              (case side3 => repeat (first | exact (Kd.C_below HR0_1.out HB.out) | (with_reducible refine Kd.C_alloc ?_ _) | (with_reducible refine Kd.C_drewN ?_ _) | (with_reducible refine Kd.C_drew ?_)))
              (case side4 => exact HC0_1.out)
              (case side5 => repeat (first | exact (Kd.C_below HR0_2.out HB.out) | (with_reducible refine Kd.C_alloc ?_ _) | (with_reducible refine Kd.C_drewN ?_ _) | (with_reducible refine Kd.C_drew ?_)))
              (case side6 => exact HC0_2.out)
              rintro e w39 ⟨v12027, v12030, v12033, rfl, ho0, ho1, ho2, hb⟩
              refine ⟨_, rfl, ?_⟩
              have n0_ := Aside0.mk (Kd.S_mono (Kd.S_told (Kd.S_told (Kd.S_told (Kd.S_old (by (with_reducible repeat (first | apply Kd.S_alloc | apply Kd.S_drewN | apply Kd.S_drew)); exact HO_12024000.out) hb) (Kd.S_base ho0)) (Kd.R_base ho1)) (Kd.S_base ho2)) (fun _ h_ => h_.1))
              have n1_ := Aside0.mk (Kd.R_elder' (by (with_reducible repeat (first | apply Kd.R_alloc | apply Kd.R_drewN | apply Kd.R_drew)); exact HO_12024001.out) (Kd.R_base ho1) hb)
              have n2_ := Aside0.mk (Kd.S_mono (Kd.S_told (Kd.S_told (Kd.S_told (Kd.S_old (by (with_reducible repeat (first | apply Kd.S_alloc | apply Kd.S_drewN | apply Kd.S_drew)); exact HO_12024002.out) hb) (Kd.S_base ho0)) (Kd.R_base ho1)) (Kd.S_base ho2)) (fun _ h_ => h_.1))
              have n3_ := Aside0.mk (Kd.S_lower (Kd.S_new' (Kd.S_new' (Kd.S_new' ho0 (Kd.S_lt (by (with_reducible repeat (first | apply Kd.S_alloc | apply Kd.S_drewN | apply Kd.S_drew)); exact HO_12024000.out))) (Kd.R_lt (by (with_reducible repeat (first | apply Kd.R_alloc | apply Kd.R_drewN | apply Kd.R_drew)); exact HO_12024001.out))) (Kd.S_lt (by (with_reducible repeat (first | apply Kd.S_alloc | apply Kd.S_drewN | apply Kd.S_drew)); exact HO_12024002.out))) (below_size (by repeat (first | (with_reducible first | exact HB.out | apply below_alloc | apply pw_below_drewN | apply below_drew1 | refine below_set ?_ GE12001.out | refine below_set ?_ GE12023.out) | exact HB.out))))
              have n4_ := Aside0.mk (Kd.R_lower (Kd.R_new' ho1 (Kd.R_lt (by (with_reducible repeat (first | apply Kd.R_alloc | apply Kd.R_drewN | apply Kd.R_drew)); exact HO_12024001.out))) (below_size (by repeat (first | (with_reducible first | exact HB.out | apply below_alloc | apply pw_below_drewN | apply below_drew1 | refine below_set ?_ GE12001.out | refine below_set ?_ GE12023.out) | exact HB.out))))
              have n5_ := Aside0.mk (Kd.S_lower (Kd.S_new' (Kd.S_new' (Kd.S_new' ho2 (Kd.S_lt (by (with_reducible repeat (first | apply Kd.S_alloc | apply Kd.S_drewN | apply Kd.S_drew)); exact HO_12024000.out))) (Kd.R_lt (by (with_reducible repeat (first | apply Kd.R_alloc | apply Kd.R_drewN | apply Kd.R_drew)); exact HO_12024001.out))) (Kd.S_lt (by (with_reducible repeat (first | apply Kd.S_alloc | apply Kd.S_drewN | apply Kd.S_drew)); exact HO_12024002.out))) (below_size (by repeat (first | (with_reducible first | exact HB.out | apply below_alloc | apply pw_below_drewN | apply below_drew1 | refine below_set ?_ GE12001.out | refine below_set ?_ GE12023.out) | exact HB.out))))
              have n6_ := Aside0.mk (blk_below (g := gb12001) (o := .cells #[.slice A0_0 l0_0.length c0_0, .slice A0_1 l0_1.length c0_1, .slice A0_2 l0_2.length c0_2] 76 (0, 0)) (by (with_reducible repeat (first | refine blk_drewN ?_ _ | refine blk_drew ?_ | refine blk_alloc ?_ _)); exact BK12001.out) hb)
              have n7_ := Aside0.mk (blk_below (g := gb12023) (o := .cells #[.slice Ao27 t12014.length co27, .slice Ao30 t12017.length co30, .slice Ao31 t12020.length co31] 31 (0, 0)) (by (with_reducible repeat (first | refine blk_drewN ?_ _ | refine blk_drew ?_ | refine blk_alloc ?_ _)); exact BK12023.out) hb)
              have n8_ := Aside0.mk (below_step (by repeat (first | (with_reducible first | exact HB.out | apply below_alloc | apply pw_below_drewN | apply below_drew1 | refine below_set ?_ GE12001.out | refine below_set ?_ GE12023.out) | exact HB.out)) hb)
              clear HO_12024000
              clear HO_12024001
              clear HO_12024002
              clear BK12001
              clear BK12023
              clear HB
              have HO_12024000 := n0_
              have HO_12024001 := n1_
              have HO_12024002 := n2_
              have HO12028 := n3_
              have HO12031 := n4_
              have HO12034 := n5_
              have BK12001 := n6_
              have BK12023 := n7_
              have HB := n8_
              clear n0_ n1_ n2_ n3_ n4_ n5_ n6_ n7_ n8_
              (try clear hb)
              (try clear hb2)
              (try clear hk)
              (try clear hi)
              (try clear ho0)
              (try clear ho1)
              (try clear ho2)
              obtain ⟨Ao40, co40, eo40⟩ := Kd.S_slice HO12028.out
              (first | subst eo40 | (injection eo40 with f1_ f2_ f3_; have f4_ := f1_.symm; have f5_ := f3_.symm; clear f1_ f2_ f3_; subst f4_; subst f5_))
              obtain ⟨Ao41, co41, eo41⟩ := Kd.R_slice HO12031.out
              (first | subst eo41 | (injection eo41 with f1_ f2_ f3_; have f4_ := f1_.symm; have f5_ := f3_.symm; clear f1_ f2_ f3_; subst f4_; subst f5_))
              obtain ⟨Ao42, co42, eo42⟩ := Kd.S_slice HO12034.out
              (first | subst eo42 | (injection eo42 with f1_ f2_ f3_; have f4_ := f1_.symm; have f5_ := f3_.symm; clear f1_ f2_ f3_; subst f4_; subst f5_))
              refine hK.out _ _ ⟨(blk_cell BK12023.out 0).trans rfl, (blk_cell BK12023.out 1).trans rfl, (blk_cell BK12023.out 2).trans rfl, (blk_cell BK12001.out 0).trans rfl, (blk_cell BK12001.out 1).trans rfl, (blk_cell BK12001.out 2).trans rfl⟩ (fun hHeld => ?_)
              clear hK K
              refine norm_ (a' := ?_) ?_ ?_
              rotate_left
              · show Act.put _ (some 44) _ = _
                simp only [Act.put, List.setIfInBounds_toArray, List.set_cons_zero, List.set_cons_succ, i64_w, i32_w]
                rfl
              refine one_ (i := 3) (N := some 45) #[true, true, true, true, false] rfl rfl (by kernel_rfl) (by decide) (fun K hK => ?_)
              refine goes_ Try.func50 (by kernel_rfl) rfl #[.agg #[.slice Ao27 t12014.length co27, .slice Ao30 t12017.length co30, .slice Ao31 t12020.length co31], .agg #[.slice Ao40 t12026.length co40, .slice Ao41 t12029.length co41, .slice Ao42 t12032.length co42]] (by rfl) rfl rfl (by (try simp only [List.map_toArray, List.map_cons, List.map_nil]); first | done | rfl | (simp only [List.length_drop, List.length_take]; rfl)) ?_
              with_reducible refine (laws_eqMonoid.calls kj13 _ _ t12014 _ _ t12017 _ _ t12020 _ _ t12026 _ _ t12029 _ _ t12032 true _ ?side1 ?side2 ?side3 ?side4 ?side5 ?side6 ?side7 ?side8 ?side9 ?side10 ?side11 ?side12 A36.out).mono ?_
              (case side1 => repeat (first | exact (Kd.S_reads' HO_12024000.out).2.2 | (with_reducible refine Kd.C_alloc ?_ _) | (with_reducible refine Kd.C_drewN ?_ _) | (with_reducible refine Kd.C_drew ?_)))
              (case side2 => exact (Kd.S_reads' HO_12024000.out).2.1)
              (case side3 => repeat (first | exact (Kd.R_reads' HO_12024001.out).2.2 | (with_reducible refine Kd.C_alloc ?_ _) | (with_reducible refine Kd.C_drewN ?_ _) | (with_reducible refine Kd.C_drew ?_)))
              (case side4 => exact (Kd.R_reads' HO_12024001.out).2.1)
              (case side5 => repeat (first | exact (Kd.S_reads' HO_12024002.out).2.2 | (with_reducible refine Kd.C_alloc ?_ _) | (with_reducible refine Kd.C_drewN ?_ _) | (with_reducible refine Kd.C_drew ?_)))
              (case side6 => exact (Kd.S_reads' HO_12024002.out).2.1)
              (case side7 => repeat (first | exact (Kd.S_reads' HO12028.out).2.2 | (with_reducible refine Kd.C_alloc ?_ _) | (with_reducible refine Kd.C_drewN ?_ _) | (with_reducible refine Kd.C_drew ?_)))
              (case side8 => exact (Kd.S_reads' HO12028.out).2.1)
              (case side9 => repeat (first | exact (Kd.R_reads' HO12031.out).2.2 | (with_reducible refine Kd.C_alloc ?_ _) | (with_reducible refine Kd.C_drewN ?_ _) | (with_reducible refine Kd.C_drew ?_)))
              (case side10 => exact (Kd.R_reads' HO12031.out).2.1)
              (case side11 => repeat (first | exact (Kd.S_reads' HO12034.out).2.2 | (with_reducible refine Kd.C_alloc ?_ _) | (with_reducible refine Kd.C_drewN ?_ _) | (with_reducible refine Kd.C_drew ?_)))
              (case side12 => exact (Kd.S_reads' HO12034.out).2.1)
              rintro e w43 ⟨rfl, hb⟩
              refine ⟨_, rfl, ?_⟩
              have n0_ := Aside0.mk (Kd.S_below (by (with_reducible repeat (first | apply Kd.S_alloc | apply Kd.S_drewN | apply Kd.S_drew)); exact HO_12024000.out) hb)
              have n1_ := Aside0.mk (Kd.R_below (by (with_reducible repeat (first | apply Kd.R_alloc | apply Kd.R_drewN | apply Kd.R_drew)); exact HO_12024001.out) hb)
              have n2_ := Aside0.mk (Kd.S_below (by (with_reducible repeat (first | apply Kd.S_alloc | apply Kd.S_drewN | apply Kd.S_drew)); exact HO_12024002.out) hb)
              have n3_ := Aside0.mk (Kd.S_below (by (with_reducible repeat (first | apply Kd.S_alloc | apply Kd.S_drewN | apply Kd.S_drew)); exact HO12028.out) hb)
              have n4_ := Aside0.mk (Kd.R_below (by (with_reducible repeat (first | apply Kd.R_alloc | apply Kd.R_drewN | apply Kd.R_drew)); exact HO12031.out) hb)
              have n5_ := Aside0.mk (Kd.S_below (by (with_reducible repeat (first | apply Kd.S_alloc | apply Kd.S_drewN | apply Kd.S_drew)); exact HO12034.out) hb)
              have n6_ := Aside0.mk (blk_below (g := gb12001) (o := .cells #[.slice A0_0 l0_0.length c0_0, .slice A0_1 l0_1.length c0_1, .slice A0_2 l0_2.length c0_2] 76 (0, 0)) (by (with_reducible repeat (first | refine blk_drewN ?_ _ | refine blk_drew ?_ | refine blk_alloc ?_ _)); exact BK12001.out) hb)
              have n7_ := Aside0.mk (blk_below (g := gb12023) (o := .cells #[.slice Ao27 t12014.length co27, .slice Ao30 t12017.length co30, .slice Ao31 t12020.length co31] 31 (0, 0)) (by (with_reducible repeat (first | refine blk_drewN ?_ _ | refine blk_drew ?_ | refine blk_alloc ?_ _)); exact BK12023.out) hb)
              have n8_ := Aside0.mk (below_step (by repeat (first | (with_reducible first | exact HB.out | apply below_alloc | apply pw_below_drewN | apply below_drew1 | refine below_set ?_ GE12001.out | refine below_set ?_ GE12023.out) | exact HB.out)) hb)
              clear HO_12024000
              clear HO_12024001
              clear HO_12024002
              clear HO12028
              clear HO12031
              clear HO12034
              clear BK12001
              clear BK12023
              clear HB
              have HO_12024000 := n0_
              have HO_12024001 := n1_
              have HO_12024002 := n2_
              have HO12028 := n3_
              have HO12031 := n4_
              have HO12034 := n5_
              have BK12001 := n6_
              have BK12023 := n7_
              have HB := n8_
              clear n0_ n1_ n2_ n3_ n4_ n5_ n6_ n7_ n8_
              (try clear hb)
              (try clear hb2)
              (try clear hk)
              (try clear hi)
              refine hK.out _ _ ⟨(blk_cell BK12023.out 0).trans rfl, (blk_cell BK12023.out 1).trans rfl, (blk_cell BK12023.out 2).trans rfl, (blk_cell BK12001.out 0).trans rfl, (blk_cell BK12001.out 1).trans rfl, (blk_cell BK12001.out 2).trans rfl⟩ (fun hHeld => ?_)
              clear hK K
              refine norm_ (a' := ?_) ?_ ?_
              rotate_left
              · show Act.put _ (some 45) _ = _
                simp only [Act.put, List.setIfInBounds_toArray, List.set_cons_zero, List.set_cons_succ, i64_w, i32_w]
                rfl
              refine pure_ (i := 4) (N := some 46) (v := ?_) (a' := ?_) #[true, true, true, true, true] rfl rfl (by kernel_rfl) (fun _ _ _ h => h) (Or.inl ⟨by rfl, ?_⟩) ?_ ?_
              rotate_left
              · intro w'
                go_simp
                first | with_reducible rfl | (rw [if_neg (by omega)]; done)
              rotate_left
              · simp only [Act.put, List.setIfInBounds_toArray, List.set_cons_zero, List.set_cons_succ, i64_w, i32_w]
                rfl
              refine done_ (by kernel_rfl) ?_
              try go_wp2
              go_ret
              exact ⟨by first | rfl | (simp [errW_none, errW_some] <;> rfl) | (simp [*, errW_none, errW_some] <;> rfl), by repeat (first | (with_reducible first | exact HB.out | apply below_alloc | apply pw_below_drewN | apply below_drew1 | refine below_set ?_ GE12001.out | refine below_set ?_ GE12023.out) | exact HB.out)⟩
            · replace c37 := Bool.eq_false_iff.mpr c37
              subst c37
              have H1 : (some false) = some r := by rw [if_neg (show ¬ (false = true) by decide)] at H; exact H
              clear H
              have H := H1
              clear H1
              obtain rfl := Option.some.inj H
              try go_wp2
              have n0_ := Aside0.mk (Kd.S_drew HO_12024000.out)
              have n1_ := Aside0.mk (Kd.R_drew HO_12024001.out)
              have n2_ := Aside0.mk (Kd.S_drew HO_12024002.out)
              have n3_ := Aside0.mk (blk_drew BK12001.out)
              have n4_ := Aside0.mk (blk_drew BK12023.out)
              have n5_ := Aside0.mk (below_drew1 HB.out)
              clear HO_12024000
              clear HO_12024001
              clear HO_12024002
              clear BK12001
              clear BK12023
              clear HB
              have HO_12024000 := n0_
              have HO_12024001 := n1_
              have HO_12024002 := n2_
              have BK12001 := n3_
              have BK12023 := n4_
              have HB := n5_
              clear n0_ n1_ n2_ n3_ n4_ n5_
              refine start_ (n := 5) (S := fun w' => w'.cell? ⟨gb12023, 0, none⟩ = some (.slice Ao27 t12014.length co27) ∧ w'.cell? ⟨gb12023, 1, none⟩ = some (.slice Ao30 t12017.length co30) ∧ w'.cell? ⟨gb12023, 2, none⟩ = some (.slice Ao31 t12020.length co31) ∧ w'.cell? ⟨gb12001, 0, none⟩ = some (.slice A0_0 l0_0.length c0_0) ∧ w'.cell? ⟨gb12001, 1, none⟩ = some (.slice A0_1 l0_1.length c0_1) ∧ w'.cell? ⟨gb12001, 2, none⟩ = some (.slice A0_2 l0_2.length c0_2)) (ds := []) #[false, false, false, false, false] (by kernel_rfl) rfl rfl ⟨(blk_cell BK12023.out 0).trans rfl, (blk_cell BK12023.out 1).trans rfl, (blk_cell BK12023.out 2).trans rfl, (blk_cell BK12001.out 0).trans rfl, (blk_cell BK12001.out 1).trans rfl, (blk_cell BK12001.out 2).trans rfl⟩ (fun hHeld => ?_)
              generalize wc.drew = w44 at HO_12024000 HO_12024001 HO_12024002 BK12001 BK12023 HB hHeld ⊢
              refine take_ (i := 0) (N := some 42) (v := ?_) (a' := ?_) #[true, false, false, false, false] rfl rfl (by kernel_rfl) (fun _ _ _ h => h) (Or.inl ⟨by rfl, ?_⟩) hHeld ?_ ?_
              rotate_left
              · rintro w' ⟨s0, s1, s2, s3, s4, s5⟩
                go_simp
                first | with_reducible rfl | (rw [if_neg (by omega)]; done)
              rotate_left
              · simp only [Act.put, List.setIfInBounds_toArray, List.set_cons_zero, List.set_cons_succ, i64_w, i32_w]
                rfl
              refine take_ (i := 1) (N := some 43) (v := ?_) (a' := ?_) #[true, true, false, false, false] rfl rfl (by kernel_rfl) (fun _ _ _ h => h) (Or.inl ⟨by rfl, ?_⟩) hHeld ?_ ?_
              rotate_left
              · rintro w' ⟨s0, s1, s2, s3, s4, s5⟩
                go_simp
                first | with_reducible rfl | (rw [if_neg (by omega)]; done)
              rotate_left
              · simp only [Act.put, List.setIfInBounds_toArray, List.set_cons_zero, List.set_cons_succ, i64_w, i32_w]
                rfl
              refine one_ (i := 2) (N := some 44) #[true, true, true, false, false] rfl rfl (by kernel_rfl) (by decide) (fun K hK => ?_)
              refine goes_ Try.func49 (by kernel_rfl) rfl #[.agg #[.slice A0_0 l0_0.length c0_0, .slice A0_1 l0_1.length c0_1, .slice A0_2 l0_2.length c0_2]] (by rfl) rfl rfl (by (try simp only [List.map_toArray, List.map_cons, List.map_nil]); first | done | rfl | (simp only [List.length_drop, List.length_take]; rfl)) ?_
              with_reducible refine (laws_toMonoid.calls kj13 _ _ l0_0 _ _ l0_1 _ _ l0_2 t12026 t12029 t12032 _ ?side1 ?side2 ?side3 ?side4 ?side5 ?side6 A35.out).mono ?_
              (case side1 => repeat (first | exact (Kd.C_below HR0_0.out HB.out) | (with_reducible refine Kd.C_alloc ?_ _) | (with_reducible refine Kd.C_drewN ?_ _) | (with_reducible refine Kd.C_drew ?_)))
              (case side2 => exact HC0_0.out)
              (case side3 => repeat (first | exact (Kd.C_below HR0_1.out HB.out) | (with_reducible refine Kd.C_alloc ?_ _) | (with_reducible refine Kd.C_drewN ?_ _) | (with_reducible refine Kd.C_drew ?_)))
              (case side4 => exact HC0_1.out)
              (case side5 => repeat (first | exact (Kd.C_below HR0_2.out HB.out) | (with_reducible refine Kd.C_alloc ?_ _) | (with_reducible refine Kd.C_drewN ?_ _) | (with_reducible refine Kd.C_drew ?_)))
              (case side6 => exact HC0_2.out)
              rintro e w45 ⟨v12027, v12030, v12033, rfl, ho0, ho1, ho2, hb⟩
              refine ⟨_, rfl, ?_⟩
              have n0_ := Aside0.mk (Kd.S_mono (Kd.S_told (Kd.S_told (Kd.S_told (Kd.S_old (by (with_reducible repeat (first | apply Kd.S_alloc | apply Kd.S_drewN | apply Kd.S_drew)); exact HO_12024000.out) hb) (Kd.S_base ho0)) (Kd.R_base ho1)) (Kd.S_base ho2)) (fun _ h_ => h_.1))
              have n1_ := Aside0.mk (Kd.R_elder' (by (with_reducible repeat (first | apply Kd.R_alloc | apply Kd.R_drewN | apply Kd.R_drew)); exact HO_12024001.out) (Kd.R_base ho1) hb)
              have n2_ := Aside0.mk (Kd.S_mono (Kd.S_told (Kd.S_told (Kd.S_told (Kd.S_old (by (with_reducible repeat (first | apply Kd.S_alloc | apply Kd.S_drewN | apply Kd.S_drew)); exact HO_12024002.out) hb) (Kd.S_base ho0)) (Kd.R_base ho1)) (Kd.S_base ho2)) (fun _ h_ => h_.1))
              have n3_ := Aside0.mk (Kd.S_lower (Kd.S_new' (Kd.S_new' (Kd.S_new' ho0 (Kd.S_lt (by (with_reducible repeat (first | apply Kd.S_alloc | apply Kd.S_drewN | apply Kd.S_drew)); exact HO_12024000.out))) (Kd.R_lt (by (with_reducible repeat (first | apply Kd.R_alloc | apply Kd.R_drewN | apply Kd.R_drew)); exact HO_12024001.out))) (Kd.S_lt (by (with_reducible repeat (first | apply Kd.S_alloc | apply Kd.S_drewN | apply Kd.S_drew)); exact HO_12024002.out))) (below_size (by repeat (first | (with_reducible first | exact HB.out | apply below_alloc | apply pw_below_drewN | apply below_drew1 | refine below_set ?_ GE12001.out | refine below_set ?_ GE12023.out) | exact HB.out))))
              have n4_ := Aside0.mk (Kd.R_lower (Kd.R_new' ho1 (Kd.R_lt (by (with_reducible repeat (first | apply Kd.R_alloc | apply Kd.R_drewN | apply Kd.R_drew)); exact HO_12024001.out))) (below_size (by repeat (first | (with_reducible first | exact HB.out | apply below_alloc | apply pw_below_drewN | apply below_drew1 | refine below_set ?_ GE12001.out | refine below_set ?_ GE12023.out) | exact HB.out))))
              have n5_ := Aside0.mk (Kd.S_lower (Kd.S_new' (Kd.S_new' (Kd.S_new' ho2 (Kd.S_lt (by (with_reducible repeat (first | apply Kd.S_alloc | apply Kd.S_drewN | apply Kd.S_drew)); exact HO_12024000.out))) (Kd.R_lt (by (with_reducible repeat (first | apply Kd.R_alloc | apply Kd.R_drewN | apply Kd.R_drew)); exact HO_12024001.out))) (Kd.S_lt (by (with_reducible repeat (first | apply Kd.S_alloc | apply Kd.S_drewN | apply Kd.S_drew)); exact HO_12024002.out))) (below_size (by repeat (first | (with_reducible first | exact HB.out | apply below_alloc | apply pw_below_drewN | apply below_drew1 | refine below_set ?_ GE12001.out | refine below_set ?_ GE12023.out) | exact HB.out))))
              have n6_ := Aside0.mk (blk_below (g := gb12001) (o := .cells #[.slice A0_0 l0_0.length c0_0, .slice A0_1 l0_1.length c0_1, .slice A0_2 l0_2.length c0_2] 76 (0, 0)) (by (with_reducible repeat (first | refine blk_drewN ?_ _ | refine blk_drew ?_ | refine blk_alloc ?_ _)); exact BK12001.out) hb)
              have n7_ := Aside0.mk (blk_below (g := gb12023) (o := .cells #[.slice Ao27 t12014.length co27, .slice Ao30 t12017.length co30, .slice Ao31 t12020.length co31] 31 (0, 0)) (by (with_reducible repeat (first | refine blk_drewN ?_ _ | refine blk_drew ?_ | refine blk_alloc ?_ _)); exact BK12023.out) hb)
              have n8_ := Aside0.mk (below_step (by repeat (first | (with_reducible first | exact HB.out | apply below_alloc | apply pw_below_drewN | apply below_drew1 | refine below_set ?_ GE12001.out | refine below_set ?_ GE12023.out) | exact HB.out)) hb)
              clear HO_12024000
              clear HO_12024001
              clear HO_12024002
              clear BK12001
              clear BK12023
              clear HB
              have HO_12024000 := n0_
              have HO_12024001 := n1_
              have HO_12024002 := n2_
              have HO12028 := n3_
              have HO12031 := n4_
              have HO12034 := n5_
              have BK12001 := n6_
              have BK12023 := n7_
              have HB := n8_
              clear n0_ n1_ n2_ n3_ n4_ n5_ n6_ n7_ n8_
              (try clear hb)
              (try clear hb2)
              (try clear hk)
              (try clear hi)
              (try clear ho0)
              (try clear ho1)
              (try clear ho2)
              obtain ⟨Ao46, co46, eo46⟩ := Kd.S_slice HO12028.out
              (first | subst eo46 | (injection eo46 with f1_ f2_ f3_; have f4_ := f1_.symm; have f5_ := f3_.symm; clear f1_ f2_ f3_; subst f4_; subst f5_))
              obtain ⟨Ao47, co47, eo47⟩ := Kd.R_slice HO12031.out
              (first | subst eo47 | (injection eo47 with f1_ f2_ f3_; have f4_ := f1_.symm; have f5_ := f3_.symm; clear f1_ f2_ f3_; subst f4_; subst f5_))
              obtain ⟨Ao48, co48, eo48⟩ := Kd.S_slice HO12034.out
              (first | subst eo48 | (injection eo48 with f1_ f2_ f3_; have f4_ := f1_.symm; have f5_ := f3_.symm; clear f1_ f2_ f3_; subst f4_; subst f5_))
              refine hK.out _ _ ⟨(blk_cell BK12023.out 0).trans rfl, (blk_cell BK12023.out 1).trans rfl, (blk_cell BK12023.out 2).trans rfl, (blk_cell BK12001.out 0).trans rfl, (blk_cell BK12001.out 1).trans rfl, (blk_cell BK12001.out 2).trans rfl⟩ (fun hHeld => ?_)
              clear hK K
              refine norm_ (a' := ?_) ?_ ?_
              rotate_left
              · show Act.put _ (some 44) _ = _
                simp only [Act.put, List.setIfInBounds_toArray, List.set_cons_zero, List.set_cons_succ, i64_w, i32_w]
                rfl
              refine one_ (i := 3) (N := some 45) #[true, true, true, true, false] rfl rfl (by kernel_rfl) (by decide) (fun K hK => ?_)
              refine goes_ Try.func50 (by kernel_rfl) rfl #[.agg #[.slice Ao27 t12014.length co27, .slice Ao30 t12017.length co30, .slice Ao31 t12020.length co31], .agg #[.slice Ao46 t12026.length co46, .slice Ao47 t12029.length co47, .slice Ao48 t12032.length co48]] (by rfl) rfl rfl (by (try simp only [List.map_toArray, List.map_cons, List.map_nil]); first | done | rfl | (simp only [List.length_drop, List.length_take]; rfl)) ?_
              with_reducible refine (laws_eqMonoid.calls kj13 _ _ t12014 _ _ t12017 _ _ t12020 _ _ t12026 _ _ t12029 _ _ t12032 false _ ?side1 ?side2 ?side3 ?side4 ?side5 ?side6 ?side7 ?side8 ?side9 ?side10 ?side11 ?side12 A36.out).mono ?_
              (case side1 => repeat (first | exact (Kd.S_reads' HO_12024000.out).2.2 | (with_reducible refine Kd.C_alloc ?_ _) | (with_reducible refine Kd.C_drewN ?_ _) | (with_reducible refine Kd.C_drew ?_)))
              (case side2 => exact (Kd.S_reads' HO_12024000.out).2.1)
              (case side3 => repeat (first | exact (Kd.R_reads' HO_12024001.out).2.2 | (with_reducible refine Kd.C_alloc ?_ _) | (with_reducible refine Kd.C_drewN ?_ _) | (with_reducible refine Kd.C_drew ?_)))
              (case side4 => exact (Kd.R_reads' HO_12024001.out).2.1)
              (case side5 => repeat (first | exact (Kd.S_reads' HO_12024002.out).2.2 | (with_reducible refine Kd.C_alloc ?_ _) | (with_reducible refine Kd.C_drewN ?_ _) | (with_reducible refine Kd.C_drew ?_)))
              (case side6 => exact (Kd.S_reads' HO_12024002.out).2.1)
              (case side7 => repeat (first | exact (Kd.S_reads' HO12028.out).2.2 | (with_reducible refine Kd.C_alloc ?_ _) | (with_reducible refine Kd.C_drewN ?_ _) | (with_reducible refine Kd.C_drew ?_)))
              (case side8 => exact (Kd.S_reads' HO12028.out).2.1)
              (case side9 => repeat (first | exact (Kd.R_reads' HO12031.out).2.2 | (with_reducible refine Kd.C_alloc ?_ _) | (with_reducible refine Kd.C_drewN ?_ _) | (with_reducible refine Kd.C_drew ?_)))
              (case side10 => exact (Kd.R_reads' HO12031.out).2.1)
              (case side11 => repeat (first | exact (Kd.S_reads' HO12034.out).2.2 | (with_reducible refine Kd.C_alloc ?_ _) | (with_reducible refine Kd.C_drewN ?_ _) | (with_reducible refine Kd.C_drew ?_)))
              (case side12 => exact (Kd.S_reads' HO12034.out).2.1)
              rintro e w49 ⟨rfl, hb⟩
              refine ⟨_, rfl, ?_⟩
              have n0_ := Aside0.mk (Kd.S_below (by (with_reducible repeat (first | apply Kd.S_alloc | apply Kd.S_drewN | apply Kd.S_drew)); exact HO_12024000.out) hb)
              have n1_ := Aside0.mk (Kd.R_below (by (with_reducible repeat (first | apply Kd.R_alloc | apply Kd.R_drewN | apply Kd.R_drew)); exact HO_12024001.out) hb)
              have n2_ := Aside0.mk (Kd.S_below (by (with_reducible repeat (first | apply Kd.S_alloc | apply Kd.S_drewN | apply Kd.S_drew)); exact HO_12024002.out) hb)
              have n3_ := Aside0.mk (Kd.S_below (by (with_reducible repeat (first | apply Kd.S_alloc | apply Kd.S_drewN | apply Kd.S_drew)); exact HO12028.out) hb)
              have n4_ := Aside0.mk (Kd.R_below (by (with_reducible repeat (first | apply Kd.R_alloc | apply Kd.R_drewN | apply Kd.R_drew)); exact HO12031.out) hb)
              have n5_ := Aside0.mk (Kd.S_below (by (with_reducible repeat (first | apply Kd.S_alloc | apply Kd.S_drewN | apply Kd.S_drew)); exact HO12034.out) hb)
              have n6_ := Aside0.mk (blk_below (g := gb12001) (o := .cells #[.slice A0_0 l0_0.length c0_0, .slice A0_1 l0_1.length c0_1, .slice A0_2 l0_2.length c0_2] 76 (0, 0)) (by (with_reducible repeat (first | refine blk_drewN ?_ _ | refine blk_drew ?_ | refine blk_alloc ?_ _)); exact BK12001.out) hb)
              have n7_ := Aside0.mk (blk_below (g := gb12023) (o := .cells #[.slice Ao27 t12014.length co27, .slice Ao30 t12017.length co30, .slice Ao31 t12020.length co31] 31 (0, 0)) (by (with_reducible repeat (first | refine blk_drewN ?_ _ | refine blk_drew ?_ | refine blk_alloc ?_ _)); exact BK12023.out) hb)
              have n8_ := Aside0.mk (below_step (by repeat (first | (with_reducible first | exact HB.out | apply below_alloc | apply pw_below_drewN | apply below_drew1 | refine below_set ?_ GE12001.out | refine below_set ?_ GE12023.out) | exact HB.out)) hb)
              clear HO_12024000
              clear HO_12024001
              clear HO_12024002
              clear HO12028
              clear HO12031
              clear HO12034
              clear BK12001
              clear BK12023
              clear HB
              have HO_12024000 := n0_
              have HO_12024001 := n1_
              have HO_12024002 := n2_
              have HO12028 := n3_
              have HO12031 := n4_
              have HO12034 := n5_
              have BK12001 := n6_
              have BK12023 := n7_
              have HB := n8_
              clear n0_ n1_ n2_ n3_ n4_ n5_ n6_ n7_ n8_
              (try clear hb)
              (try clear hb2)
              (try clear hk)
              (try clear hi)
              refine hK.out _ _ ⟨(blk_cell BK12023.out 0).trans rfl, (blk_cell BK12023.out 1).trans rfl, (blk_cell BK12023.out 2).trans rfl, (blk_cell BK12001.out 0).trans rfl, (blk_cell BK12001.out 1).trans rfl, (blk_cell BK12001.out 2).trans rfl⟩ (fun hHeld => ?_)
              clear hK K
              refine norm_ (a' := ?_) ?_ ?_
              rotate_left
              · show Act.put _ (some 45) _ = _
                simp only [Act.put, List.setIfInBounds_toArray, List.set_cons_zero, List.set_cons_succ, i64_w, i32_w]
                rfl
              refine pure_ (i := 4) (N := some 46) (v := ?_) (a' := ?_) #[true, true, true, true, true] rfl rfl (by kernel_rfl) (fun _ _ _ h => h) (Or.inl ⟨by rfl, ?_⟩) ?_ ?_
              rotate_left
              · intro w'
                go_simp
                first | with_reducible rfl | (rw [if_neg (by omega)]; done)
              rotate_left
              · simp only [Act.put, List.setIfInBounds_toArray, List.set_cons_zero, List.set_cons_succ, i64_w, i32_w]
                rfl
              refine done_ (by kernel_rfl) ?_
              try go_wp2
              go_ret
              exact ⟨by first | rfl | (simp [errW_none, errW_some] <;> rfl) | (simp [*, errW_none, errW_some] <;> rfl), by repeat (first | (with_reducible first | exact HB.out | apply below_alloc | apply pw_below_drewN | apply below_drew1 | refine below_set ?_ GE12001.out | refine below_set ?_ GE12023.out) | exact HB.out)⟩


end Go.Proofs.Ytkefiajemifklaa.A


namespace Go.Proofs.Ytkefiajemifklaa.Br
set_option linter.unusedVariables false
set_option linter.unusedSimpArgs false
open Go Go.Proofs.YtkefiajemifklaaW.PrintWords

/-- Whatever reads at type t, with at most n of fuel, is of kind d and well formed. -/
def BrN (P : Program) (n : Nat) (t : TypeId) {α : Type} (d : Kd α) (wf : α → Prop) : Prop :=
  ∀ (H : Type) (enc : TypeId × Value → H) (w : World) (base : Nat) (spare : Nat → Bool) (held : Bool) (m : Nat) (cs : List Value) (x : DataW H × List MemPlace),
    m ≤ n → DataW.trod enc P w base spare held m t cs = some x → ∃ a, d.K w a cs ∧ wf a
def Br (P : Program) (t : TypeId) {α : Type} (d : Kd α) (wf : α → Prop) : Prop := ∀ n, BrN P n t d wf

/-- The same of the fields of a struct, from offset o on. -/
def BF (P : Program) (n : Nat) (fs : List Field) (o : Nat) {α : Type} (d : Kd α) (wf : α → Prop) : Prop :=
  ∀ (H : Type) (enc : TypeId × Value → H) (w : World) (base : Nat) (spare : Nat → Bool) (held : Bool) (m : Nat) (cs : List Value) (xs : List (DataW H × List MemPlace)),
    m ≤ n → cs.length = d.sz → xs.length = fs.length →
    (∀ (i : Nat) (f : Field), fs[i]? = some f → DataW.trod enc P w base spare held m f.type ((cs.drop (f.offset - o)).take (P.cellsOf f.type)) = xs[i]?) → ∃ a, d.K w a cs ∧ wf a

theorem BrN.mono {P : Program} {n m : Nat} {t : TypeId} {α : Type} {d : Kd α} {wf : α → Prop} (h : BrN P n t d wf) (hm : m ≤ n) : BrN P m t d wf :=
  fun H enc w base spare held k cs x hk => h H enc w base spare held k cs x (Nat.le_trans hk hm)
theorem BrN.zero (P : Program) (t : TypeId) {α : Type} (d : Kd α) (wf : α → Prop) : BrN P 0 t d wf := by
  intro H enc w base spare held m cs x hm hx
  obtain rfl : m = 0 := by omega
  simp [DataW.trod] at hx

theorem br_int {P : Program} {t : TypeId} {k : IntKind} (ht : P.underlying t = some (.int k)) (n : Nat) : BrN P n t (Kd.int k) (fun a => (Lit.int k a).wf = true) := by
  intro H enc w base spare held m cs x _ hx
  obtain ⟨a, rfl, _, hw⟩ := DataW.trod_int ht hx
  exact ⟨a, rfl, hw⟩
theorem list_of_all {α : Type} {Q : Nat → α → Prop} (n : Nat) (h : ∀ i, i < n → ∃ a, Q i a) : ∃ l : List α, l.length = n ∧ ∀ i a, l[i]? = some a → Q i a := by
  induction n with
  | zero => exact ⟨[], rfl, fun i a h => by simp at h⟩
  | succ n ih =>
    obtain ⟨l, hl, hq⟩ := ih (fun i hi => h i (by omega))
    obtain ⟨a, ha⟩ := h n (by omega)
    refine ⟨l ++ [a], by simp [hl], fun i b hb => ?_⟩
    rcases Nat.lt_or_ge i l.length with hi | hi
    · rw [List.getElem?_append_left hi] at hb
      exact hq i b hb
    · rw [List.getElem?_append_right hi] at hb
      obtain ⟨h0, rfl⟩ : i - l.length = 0 ∧ a = b := by
        rcases Nat.eq_zero_or_pos (i - l.length) with h0 | h0
        · rw [h0] at hb; exact ⟨h0, by simpa using hb⟩
        · rw [List.getElem?_eq_none (by simp; omega)] at hb; simp at hb
      obtain rfl : i = n := by omega
      exact ha

theorem cells_at {w : World} {base : Nat} {a : Addr} {n : Nat} {cs : List Value} (h : w.cells? base a n = some cs) : cs.length = n ∧ ∀ i u, cs[i]? = some u → w.cell? (a.add i) = some u := by
  unfold World.cells? at h
  split at h
  · have hl := mapM_some_length h
    refine ⟨by simpa using hl, fun i u hu => ?_⟩
    have hi : i < n := by
      have := (List.getElem?_eq_some_iff.1 hu).1
      simp at hl
      omega
    have := mapM_some_get h i i (by simp [hi])
    rw [this, hu]
  · simp at h

theorem br_slice {P : Program} {t e : TypeId} {α : Type} {d : Kd α} {wf : α → Prop} {n : Nat} (ht : P.underlying t = some (.slice e)) (hs : P.cellsOf e = d.sz) (h : BrN P n e d wf) :
    BrN P (n + 1) t (Kd.slice e d) (fun l => l.length ≤ 9223372036854775807 ∧ ∀ a ∈ l, wf a) := by
  intro H enc w base spare held m cs x hm hx
  rcases DataW.trod_slice ht hx with ⟨rfl, _⟩ | ⟨a, len, cap, elems, rest, k, rfl, rfl, _, _, hl, hc, he, hg, _, _⟩
  · exact ⟨[], ⟨none, 0, rfl, Nat.le_refl _, Kd.C_nil d w⟩, by simp, by simp⟩
  · have hq : ∀ i, i < len → ∃ b, (∃ c, c.length = d.sz ∧ d.K w b c ∧ ∀ j u, c[j]? = some u → w.cell? (a.add (i * d.sz + j)) = some u) ∧ wf b := by
      intro i hi
      have g := hg i hi
      rw [List.getElem?_eq_getElem (by omega)] at g
      obtain ⟨c, hc1, hc2⟩ := Option.bind_eq_some_iff.1 g
      obtain ⟨b, hb, hw⟩ := h H enc w base spare held k c _ (by omega) hc2
      obtain ⟨h1, h2⟩ := cells_at hc1
      refine ⟨b, ⟨c, by rw [h1, hs], hb, fun j u hu => ?_⟩, hw⟩
      have := h2 j u hu
      rw [Addr.add_add, hs] at this
      exact this
    obtain ⟨l, hl1, hl2⟩ := list_of_all len hq
    have hlen : len ≤ 9223372036854775807 := by simp only [maxLen] at hc; omega
    refine ⟨l, ⟨some a, cap, by rw [hl1], by omega, rfl, by omega, fun _ => ⟨a, rfl, fun j p hp => (hl2 j p hp).1⟩⟩, by omega, fun b hb => ?_⟩
    obtain ⟨i, hi, rfl⟩ := List.mem_iff_getElem.1 hb
    exact (hl2 i _ (List.getElem?_eq_getElem hi)).2
theorem br_slice' {P : Program} {t e : TypeId} {α : Type} {d : Kd α} {wf : α → Prop} (ht : P.underlying t = some (.slice e)) (hs : P.cellsOf e = d.sz) (h : ∀ n, BrN P n e d wf) (n : Nat) :
    BrN P n t (Kd.slice e d) (fun l => l.length ≤ 9223372036854775807 ∧ ∀ a ∈ l, wf a) := (br_slice ht hs (h n)).mono (Nat.le_succ n)

theorem bf_one {P : Program} {n o : Nat} {f : Field} {α : Type} {d : Kd α} {wf : α → Prop} (ho : f.offset = o) (hs : P.cellsOf f.type = d.sz) (h : BrN P n f.type d wf) : BF P n [f] o d wf := by
  intro H enc w base spare held m cs xs hm hl hx hf
  have g := hf 0 f rfl
  rw [ho, Nat.sub_self, List.drop_zero, hs, ← hl, List.take_length, List.getElem?_eq_getElem (by simp at hx; omega)] at g
  exact h H enc w base spare held m cs _ hm g
theorem bf_cons {P : Program} {n o : Nat} {f : Field} {fs : List Field} {α β : Type} {d : Kd α} {d' : Kd β} {wf : α → Prop} {wf' : β → Prop} (ho : f.offset = o) (hs : P.cellsOf f.type = d.sz) (h : BrN P n f.type d wf)
    (hfs : BF P n fs (o + d.sz) d' wf') (hle : ∀ g ∈ fs, o + d.sz ≤ g.offset) : BF P n (f :: fs) o (Kd.pair d d') (fun x => wf x.1 ∧ wf' x.2) := by
  intro H enc w base spare held m cs xs hm hl hx hf
  have hl' : cs.length = d.sz + d'.sz := hl
  have g := hf 0 f rfl
  rw [ho, Nat.sub_self, List.drop_zero, hs, List.getElem?_eq_getElem (by simp at hx; omega)] at g
  obtain ⟨a, ha, hwa⟩ := h H enc w base spare held m _ _ hm g
  cases xs with
  | nil => simp at hx
  | cons y ys =>
    obtain ⟨b, hb, hwb⟩ := hfs H enc w base spare held m (cs.drop d.sz) ys hm (by rw [List.length_drop]; omega) (by simpa using hx) (fun i q hq => by
      have g2 := hf (i + 1) q (by simpa using hq)
      have hm : q ∈ fs := List.mem_of_getElem? hq
      have := hle q hm
      rw [List.drop_drop, show d.sz + (q.offset - (o + d.sz)) = q.offset - o by omega]
      simpa using g2)
    exact ⟨(a, b), ⟨cs.take d.sz, cs.drop d.sz, (List.take_append_drop _ _).symm, ha, hb⟩, hwa, hwb⟩
theorem br_struct {P : Program} {t : TypeId} {fs : Array Field} {α : Type} {d : Kd α} {wf : α → Prop} {n : Nat} (ht : P.underlying t = some (.struct fs)) (hs : P.cellsOf t = d.sz) (h : BF P n fs.toList 0 d wf) : BrN P (n + 1) t d wf := by
  intro H enc w base spare held m cs x hm hx
  obtain ⟨xs, k, rfl, _, hl, hxs, hf⟩ := DataW.trod_struct ht hx
  exact h H enc w base spare held k cs xs (by omega) (by rw [hl, hs]) (by simpa using hxs) (fun i f hi => by simpa using hf i f (by simpa using hi))
theorem br_struct' {P : Program} {t : TypeId} {fs : Array Field} {α : Type} {d : Kd α} {wf : α → Prop} (ht : P.underlying t = some (.struct fs)) (hs : P.cellsOf t = d.sz) (h : ∀ n, BF P n fs.toList 0 d wf) (n : Nat) : BrN P n t d wf :=
  (br_struct ht hs (h n)).mono (Nat.le_succ n)
theorem arr_of {xs : Array Value} {l : List Value} (h : xs.toList = l) : xs = l.toArray := by rw [← h]

end Go.Proofs.Ytkefiajemifklaa.Br


namespace Go.Proofs.Ytkefiajemifklaa.Pure
open Go Go.RowKit Go.Proofs.Ytkefiajemifklaa.Br Go.Proofs.YtkefiajemifklaaW.PrintWords Go.Proofs.YtkefiajemifklaaW.PrintLast Go.Proofs.Ytkefiajemifklaa.A Go.Proofs.Ytkefiajemifklaa.Ext
set_option linter.unusedVariables false
def FnExactMapOf.Pure : Prop := ∀ (l0_0 : (List (List Int))) (l0_1 : (List Int)) (l0_2 : (List (List Int))) (a1 : ByteArray), ((l0_0 : (List (List Int))).length ≤ 9223372036854775807 ∧ ∀ a ∈ l0_0, (a : (List Int)).length ≤ 9223372036854775807 ∧ ∀ b ∈ a, (Lit.int .i64 b).wf = true) → ((l0_1 : (List Int)).length ≤ 9223372036854775807 ∧ ∀ a ∈ l0_1, (Lit.int .i64 a).wf = true) → ((l0_2 : (List (List Int))).length ≤ 9223372036854775807 ∧ ∀ a ∈ l0_2, (a : (List Int)).length ≤ 9223372036854775807 ∧ ∀ b ∈ a, (Lit.int .i64 b).wf = true) → ((a1 : ByteArray).size ≤ 9223372036854775807) → ∃ k, laws_FnExactMapOf.f k l0_0 l0_1 l0_2 a1 = some true
end Go.Proofs.Ytkefiajemifklaa.Pure

namespace Go.Proofs.Ytkefiajemifklaa.F
set_option linter.unusedVariables false
set_option linter.unusedSimpArgs false
open Go.RowKit Go.Proofs.YtkefiajemifklaaW.PrintWords Go.Proofs.Ytkefiajemifklaa.Pl Go.Proofs.Ytkefiajemifklaa.A

theorem szIntS_eq (l : List Int) (a : Int) (ha : -1 ≤ a) (ha' : a ≤ 1048576) (hl : l.length ≤ 9223372036854775807) :
    ∃ t, laws_szIntS.f l a = some t ∧ (t = -1 ∨ (0 ≤ t ∧ t = a - l.length)) := by
  unfold laws_szIntS.f
  rw [w64_sub ha ha' hl]
  by_cases h1 : a - l.length < 0
  · exact ⟨-1, by rw [if_pos h1], .inl rfl⟩
  · rw [if_neg h1]; exact ⟨_, rfl, .inr ⟨by omega, rfl⟩⟩
theorem set_next (l : List Int) (i n : Nat) (hn : l.length = n) (hi : i < n) : (l.take i ++ List.replicate (n - i) 0).set i (rd l (i : Int)) = l.take (i + 1) ++ List.replicate (n - (i + 1)) 0 := by
  have hl : (l.take i).length = i := by rw [List.length_take]; omega
  have e : rd l (i : Int) = l[i] := by simp [rd, show i < l.length by omega]
  rw [List.set_append_right _ _ (by omega), hl, Nat.sub_self, show n - i = (n - (i + 1)) + 1 by omega, List.replicate_succ, List.set_cons_zero, List.take_succ_eq_append_getElem (by omega), e, List.append_assoc]
  rfl
theorem toIntS_ev (l : List Int) (hl : l.length ≤ 35184372088832) : Evt (fun k => laws_toIntS.f k l) l := by
  simp only [laws_toIntS.f]
  refine Evt.pos (by omega) (Evt.pos (by omega) ?_)
  rw [Int.toNat_natCast]
  have h : ∀ d i : Nat, i + d = l.length → Evt (fun k => laws_toIntS.l0 k l (l.take i ++ List.replicate (l.length - i) 0) (i : Int)) l := by
    intro d
    induction d with
    | zero =>
      intro i hi
      refine Evt.step ?_
      simp only [laws_toIntS.l0]
      refine Evt.neg (by omega) (Evt.const ?_)
      obtain rfl : i = l.length := by omega
      simp
    | succ d ih =>
      intro i hi
      refine Evt.step ?_
      simp only [laws_toIntS.l0]
      rw [w64s (by omega), Int.toNat_natCast, set_next l i l.length rfl (by omega)]
      exact Evt.pos (by omega) (Evt.pos (by omega) (Evt.pos (by simp; omega) (ih (i + 1) (by omega))))
  simpa using h l.length 0 (by omega)
theorem eqIntS_ev (l l' : List Int) (hl : l.length ≤ 9223372036854775807) : Evt (fun k => laws_eqIntS.f k l l') (decide (l = l')) := by
  simp only [laws_eqIntS.f]
  by_cases he : l.length = l'.length
  · refine Evt.pos (by omega) ?_
    have h := Evt.up (fun k i => laws_eqIntS.l0 k l l' i) l.length (fun i => decide (l.drop i = l'.drop i)) ?_ ?_
    · simpa using h
    · refine Evt.step ?_
      simp only [laws_eqIntS.l0]
      refine Evt.neg (by omega) (Evt.const ?_)
      rw [List.drop_of_length_le (Nat.le_refl _), List.drop_of_length_le (by omega)]
      rfl
    · intro i hi h
      refine Evt.step ?_
      simp only [laws_eqIntS.l0]
      have hi' : i < l'.length := by omega
      refine Evt.pos (by omega) (Evt.pos (by omega) (Evt.pos (by omega) ?_))
      rw [List.drop_eq_getElem_cons hi, List.drop_eq_getElem_cons hi', w64s (by omega)]
      have e1 : rd l (i : Int) = l[i] := by simp [rd, hi]
      have e2 : rd l' (i : Int) = l'[i] := by simp [rd, hi']
      rw [e1, e2]
      by_cases hc : l[i] = l'[i]
      · exact Evt.pos hc (h.cast (by rw [hc]; simp only [List.cons.injEq, true_and]))
      · exact Evt.neg hc (Evt.const (by rw [decide_eq_false (fun e => hc (List.cons.inj e).1)]))
  · refine Evt.neg (by omega) (Evt.const ?_)
    have : l ≠ l' := fun e => he (by rw [e])
    simp [this]

end Go.Proofs.Ytkefiajemifklaa.F


namespace Go.Proofs.Ytkefiajemifklaa.F
set_option linter.unusedVariables false
set_option linter.unusedSimpArgs false
open Go.RowKit Go.Proofs.YtkefiajemifklaaW.PrintWords Go.Proofs.Ytkefiajemifklaa.Pl Go.Proofs.Ytkefiajemifklaa.A

theorem rows_at (l : List (List Int)) (i : Nat) (h : i < l.length) : rd_L1 l (i : Int) = l[i] := by simp [rd_L1, h]
/-- A table that weighing lets through. -/
def RowsLe (l : List (List Int)) (b : Nat) : Prop := l.length ≤ b ∧ ∀ x ∈ l, x.length ≤ b
theorem szIntSS_ev (l : List (List Int)) (a : Int) (ha : 0 ≤ a) (ha' : a ≤ 1048576) (hl : l.length ≤ 9223372036854775807) (hw : ∀ x ∈ l, x.length ≤ 9223372036854775807) :
    ∃ t, Evt (fun k => laws_szIntSS.f k l a) t ∧ (t = -1 ∨ (0 ≤ t ∧ t ≤ a ∧ RowsLe l 1048576)) := by
  simp only [laws_szIntSS.f]
  rw [w64_sub (by omega) ha' hl]
  by_cases h1 : a - l.length < 0
  · exact ⟨-1, Evt.pos h1 (Evt.ret _), .inl rfl⟩
  have h : ∀ d i : Nat, i + d = l.length → ∀ b : Int, 0 ≤ b → b ≤ 1048576 → ∃ t, Evt (fun k => laws_szIntSS.l0 k l b (i : Int)) t ∧ (t = -1 ∨ (0 ≤ t ∧ t ≤ b ∧ ∀ x ∈ l.drop i, x.length ≤ 1048576)) := by
    intro d
    induction d with
    | zero =>
      intro i hi b hb hb'
      refine ⟨b, Evt.step ?_, .inr ⟨hb, Int.le_refl _, ?_⟩⟩
      · simp only [laws_szIntSS.l0]
        exact Evt.neg (by omega) (Evt.ret _)
      · rw [List.drop_of_length_le (by omega)]
        intro x hx
        cases hx
    | succ d ih =>
      intro i hi b hb hb'
      have hi' : i < l.length := by omega
      obtain ⟨t, ht, hc⟩ := szIntS_eq l[i] b (by omega) hb' (hw _ (List.getElem_mem hi'))
      by_cases h2 : t < 0
      · refine ⟨-1, Evt.step ?_, .inl rfl⟩
        simp only [laws_szIntSS.l0]
        rw [rows_at l i hi']
        exact Evt.pos (by omega) (Evt.pos (by omega) (Evt.bindc ht (Evt.pos h2 (Evt.ret _))))
      · have hc' : 0 ≤ t ∧ t = b - l[i].length := hc.elim (fun e => absurd (show t < 0 by omega) h2) id
        obtain ⟨t', ht', hc2⟩ := ih (i + 1) (by omega) t (by omega) (by omega)
        refine ⟨t', Evt.step ?_, ?_⟩
        · simp only [laws_szIntSS.l0]
          rw [rows_at l i hi', w64s (by omega)]
          exact Evt.pos (by omega) (Evt.pos (by omega) (Evt.bindc ht (Evt.neg h2 ht')))
        · rcases hc2 with h3 | ⟨h3, h4, h5⟩
          · exact .inl h3
          · refine .inr ⟨h3, by omega, ?_⟩
            rw [List.drop_eq_getElem_cons hi']
            intro x hx
            rcases List.mem_cons.1 hx with rfl | hx
            · omega
            · exact h5 x hx
  obtain ⟨t, ht, hc⟩ := h l.length 0 (by omega) (a - l.length) (by omega) (by omega)
  refine ⟨t, Evt.neg h1 ht, ?_⟩
  rcases hc with hc | ⟨h2, h3, h4⟩
  · exact .inl hc
  · exact .inr ⟨h2, by omega, by omega, by simpa using h4⟩
theorem set_nextR (l : List (List Int)) (i n : Nat) (hn : l.length = n) (hi : i < n) : (l.take i ++ List.replicate (n - i) []).set i l[i] = l.take (i + 1) ++ List.replicate (n - (i + 1)) [] := by
  have hl : (l.take i).length = i := by rw [List.length_take]; omega
  rw [List.set_append_right _ _ (by omega), hl, Nat.sub_self, show n - i = (n - (i + 1)) + 1 by omega, List.replicate_succ, List.set_cons_zero, List.take_succ_eq_append_getElem (by omega), List.append_assoc]
  rfl
theorem toIntSS_ev (l : List (List Int)) (hl : RowsLe l 1048576) : Evt (fun k => laws_toIntSS.f k l) l := by
  have hn := hl.1
  simp only [laws_toIntSS.f]
  refine Evt.pos (by omega) (Evt.pos (by omega) ?_)
  rw [Int.toNat_natCast]
  have h : ∀ d i : Nat, i + d = l.length → Evt (fun k => laws_toIntSS.l0 k l (l.take i ++ List.replicate (l.length - i) []) (i : Int)) l := by
    intro d
    induction d with
    | zero =>
      intro i hi
      refine Evt.step ?_
      simp only [laws_toIntSS.l0]
      refine Evt.neg (by omega) (Evt.const ?_)
      obtain rfl : i = l.length := by omega
      simp
    | succ d ih =>
      intro i hi
      have hi' : i < l.length := by omega
      have hx := hl.2 _ (List.getElem_mem hi')
      refine Evt.step ?_
      simp only [laws_toIntSS.l0]
      rw [rows_at l i hi']
      refine Evt.pos (by omega) (Evt.pos (by omega) (Evt.bind (toIntS_ev _ (by omega)) (Evt.pos (by simp; omega) ?_)))
      rw [Int.toNat_natCast, set_nextR l i l.length rfl hi', w64s (by omega)]
      exact ih (i + 1) (by omega)
  simpa using h l.length 0 (by omega)
theorem eqIntSS_ev (l l' : List (List Int)) (hl : l.length ≤ 9223372036854775807) (hw : ∀ x ∈ l, x.length ≤ 9223372036854775807) : Evt (fun k => laws_eqIntSS.f k l l') (decide (l = l')) := by
  simp only [laws_eqIntSS.f]
  by_cases he : l.length = l'.length
  · refine Evt.pos (by omega) ?_
    have h := Evt.up (fun k i => laws_eqIntSS.l0 k l l' i) l.length (fun i => decide (l.drop i = l'.drop i)) ?_ ?_
    · simpa using h
    · refine Evt.step ?_
      simp only [laws_eqIntSS.l0]
      refine Evt.neg (by omega) (Evt.const ?_)
      rw [List.drop_of_length_le (Nat.le_refl _), List.drop_of_length_le (by omega)]
      rfl
    · intro i hi h
      refine Evt.step ?_
      simp only [laws_eqIntSS.l0]
      have hi' : i < l'.length := by omega
      rw [rows_at l i hi, rows_at l' i hi']
      refine Evt.pos (by omega) (Evt.pos (by omega) (Evt.pos (by omega) (Evt.bind (eqIntS_ev _ _ (hw _ (List.getElem_mem hi))) ?_)))
      rw [List.drop_eq_getElem_cons hi, List.drop_eq_getElem_cons hi', w64s (by omega)]
      by_cases hc : l[i] = l'[i]
      · exact Evt.pos (by simp [hc]) (h.cast (by rw [hc]; simp only [List.cons.injEq, true_and]))
      · exact Evt.neg (by simp [hc]) (Evt.const (by rw [decide_eq_false (fun e => hc (List.cons.inj e).1)]))
  · refine Evt.neg (by omega) (Evt.const ?_)
    have : l ≠ l' := fun e => he (by rw [e])
    simp [this]

end Go.Proofs.Ytkefiajemifklaa.F


namespace Go.Proofs.Ytkefiajemifklaa.F
set_option linter.unusedVariables false
set_option linter.unusedSimpArgs false
open Go.RowKit Go.Proofs.YtkefiajemifklaaW.PrintWords Go.Proofs.Ytkefiajemifklaa.Pl Go.Proofs.Ytkefiajemifklaa.A Go.Proofs.Ytkefiajemifklaa.Ext

/-- Lengths that a machine can hold. -/
def RowsWf (l : List (List Int)) : Prop := l.length ≤ 9223372036854775807 ∧ ∀ x ∈ l, x.length ≤ 9223372036854775807
theorem RowsLe.wf {l : List (List Int)} (h : RowsLe l 1048576) : RowsWf l := ⟨by have := h.1; omega, fun x hx => by have := h.2 x hx; omega⟩
theorem szMonoid_ev (x : List (List Int)) (y : List Int) (z : List (List Int)) (a : Int) (ha : 0 ≤ a) (ha' : a ≤ 1048576) (hx : RowsWf x) (hy : y.length ≤ 9223372036854775807) (hz : RowsWf z) :
    ∃ t, Evt (fun k => laws_szMonoid.f k x y z a) t ∧ (t = -1 ∨ (0 ≤ t ∧ t ≤ a ∧ RowsLe x 1048576 ∧ y.length ≤ 1048576 ∧ RowsLe z 1048576)) := by
  simp only [laws_szMonoid.f]
  obtain ⟨t, ht, hc⟩ := szIntSS_ev x a ha ha' hx.1 hx.2
  rcases hc with rfl | ⟨h0, h1, h2⟩
  · exact ⟨-1, Evt.bind ht (Evt.pos (by decide) (Evt.ret _)), .inl rfl⟩
  obtain ⟨u, hu, hc⟩ := szIntS_eq y t (by omega) (by omega) hy
  rcases hc with rfl | ⟨g0, g1⟩
  · exact ⟨-1, Evt.bind ht (Evt.neg (by omega) (Evt.bindc hu (Evt.pos (by decide) (Evt.ret _)))), .inl rfl⟩
  obtain ⟨v, hv, hc⟩ := szIntSS_ev z u (by omega) (by omega) hz.1 hz.2
  rcases hc with rfl | ⟨k0, k1, k2⟩
  · exact ⟨-1, Evt.bind ht (Evt.neg (by omega) (Evt.bindc hu (Evt.neg (by omega) (Evt.bind hv (Evt.pos (by decide) (Evt.ret _)))))), .inl rfl⟩
  · exact ⟨v, Evt.bind ht (Evt.neg (by omega) (Evt.bindc hu (Evt.neg (by omega) (Evt.bind hv (Evt.neg (by omega) (Evt.ret _)))))), .inr ⟨k0, by omega, h2, by omega, k2⟩⟩
theorem toMonoid_ev (x : List (List Int)) (y : List Int) (z : List (List Int)) (hx : RowsLe x 1048576) (hy : y.length ≤ 1048576) (hz : RowsLe z 1048576) : Evt (fun k => laws_toMonoid.f k x y z) (x, y, z) := by
  simp only [laws_toMonoid.f]
  exact Evt.bind (toIntSS_ev x hx) (Evt.bind (toIntS_ev y (by omega)) (Evt.bind (toIntSS_ev z hz) (Evt.ret _)))
theorem eqMonoid_ev (x : List (List Int)) (y : List Int) (z : List (List Int)) (hx : RowsWf x) (hy : y.length ≤ 9223372036854775807) (hz : RowsWf z) : Evt (fun k => laws_eqMonoid.f k x y z x y z) true := by
  simp only [laws_eqMonoid.f]
  exact Evt.bind (eqIntSS_ev x x hx.1 hx.2) (Evt.pos (by simp) (Evt.bind (eqIntS_ev y y hy) (Evt.pos (by simp) (Evt.bind (eqIntSS_ev z z hz.1 hz.2) (Evt.pos (by simp) (Evt.ret _))))))

end Go.Proofs.Ytkefiajemifklaa.F


namespace Go.Proofs.Ytkefiajemifklaa.F
set_option linter.unusedVariables false
set_option linter.unusedSimpArgs false
open Go.RowKit Go.Proofs.YtkefiajemifklaaW.PrintWords Go.Proofs.Ytkefiajemifklaa.Pl Go.Proofs.Ytkefiajemifklaa.A Go.Proofs.Ytkefiajemifklaa.Ext

theorem spec_LetterIndex_ev (c : Int) : Evt (fun k => spec_LetterIndex.f k c) (ltI c) := by
  refine ⟨4, fun k hk => ?_⟩
  obtain ⟨m, rfl⟩ : ∃ m, k = m + 4 := ⟨k - 4, by omega⟩
  unfold ltI
  by_cases h0 : (97 : Int) = c
  · simp [spec_LetterIndex.f, spec_LetterIndex.l0, w64_a, w64_b, w64_c, bt_abc0, bt_abc1, bt_abc2, h0]
  · by_cases h1 : (98 : Int) = c
    · simp [spec_LetterIndex.f, spec_LetterIndex.l0, w64_a, w64_b, w64_c, bt_abc0, bt_abc1, bt_abc2, h0, h1]
    · by_cases h2 : (99 : Int) = c
      · simp [spec_LetterIndex.f, spec_LetterIndex.l0, w64_a, w64_b, w64_c, bt_abc0, bt_abc1, bt_abc2, h0, h1, h2]
      · simp [spec_LetterIndex.f, spec_LetterIndex.l0, w64_a, w64_b, w64_c, bt_abc0, bt_abc1, bt_abc2, h0, h1, h2]
theorem impl_LetterIndex_eq {c : Int} (h0 : 0 ≤ c) (h1 : c ≤ 255) : impl_LetterIndex.f c = some (ltI c) := by
  obtain ⟨n, rfl⟩ := Int.eq_ofNat_of_zero_le h0
  simp only [impl_LetterIndex.f, strings_IndexByte.f, Option.bind_some]
  rw [Int.toNat_natCast]
  exact congrArg some (ix_abc n (by omega))

def allL (l : List Int) : Bool := l.all fun c => decide (0 ≤ ltI c)
theorem impl_isLetters_ev (s : ByteArray) (hs : s.size ≤ 9223372036854775807) : Evt (fun k => impl_isLetters.f k s) (allL (bytesOf s)) := by
  have h := Evt.up (fun k i => impl_isLetters.l0 k s i) s.size (fun i => allL ((bytesOf s).drop i)) ?_ ?_
  · simpa [impl_isLetters.f] using h
  · refine Evt.step ?_
    simp only [impl_isLetters.l0]
    rw [List.drop_of_length_le (by rw [bytesOf_length]; omega)]
    exact Evt.neg (by omega) (Evt.ret _)
  · intro i hi h
    refine Evt.step ?_
    simp only [impl_isLetters.l0]
    refine Evt.pos (by omega) (Evt.pos (by omega) (Evt.bindc (impl_LetterIndex_eq (bt0 _ _) (bt255 _ _)) ?_))
    have hl : i < (bytesOf s).length := by rw [bytesOf_length]; exact hi
    rw [List.drop_eq_getElem_cons hl, ← bt_get s i hl]
    by_cases hc : ltI (bt s i) < 0
    · exact Evt.pos hc (Evt.const (by simp [allL, show ¬ (0 ≤ ltI (bt s i)) by omega]))
    · rw [w64s (by omega)]
      exact Evt.neg hc (h.cast (by simp [allL, show 0 ≤ ltI (bt s i) by omega]))
/-- A word. -/
def isW (s : ByteArray) : Bool := allL (bytesOf s) && decide (s.size ≤ 30)
theorem impl_IsWord_ev (s : ByteArray) (hs : s.size ≤ 9223372036854775807) : Evt (fun k => impl_IsWord.f k s) (isW s) := by
  unfold isW
  simp only [impl_IsWord.f]
  by_cases h : s.size ≤ 30
  · exact Evt.pos (by omega) (Evt.bind (impl_isLetters_ev s hs) (Evt.const (by simp [h])))
  · exact Evt.neg (by omega) (Evt.const (by simp [h]))
theorem spec_IsWord_ev (s : ByteArray) (hs : s.size ≤ 9223372036854775807) : Evt (fun k => spec_IsWord.f k s) (isW s) := by
  have h := Evt.up (fun k i => spec_IsWord.l0 k s i) s.size (fun i => allL ((bytesOf s).drop i) && decide (s.size ≤ 30)) ?_ ?_
  · simpa [spec_IsWord.f, isW] using h
  · refine Evt.step ?_
    simp only [spec_IsWord.l0]
    rw [List.drop_of_length_le (by rw [bytesOf_length]; omega)]
    refine Evt.neg (by omega) (Evt.const ?_)
    have e : ((s.size : Int) ≤ 30) = (s.size ≤ 30) := by apply propext; omega
    simp [allL, e]
  · intro i hi h
    refine Evt.step ?_
    simp only [spec_IsWord.l0]
    refine Evt.pos (by omega) (Evt.pos (by omega) (Evt.bind (spec_LetterIndex_ev _) ?_))
    have hl : i < (bytesOf s).length := by rw [bytesOf_length]; exact hi
    rw [List.drop_eq_getElem_cons hl, ← bt_get s i hl]
    by_cases hc : ltI (bt s i) < 0
    · exact Evt.pos hc (Evt.const (by simp [allL, show ¬ (0 ≤ ltI (bt s i)) by omega]))
    · rw [w64s (by omega)]
      exact Evt.neg hc (h.cast (by simp [allL, show 0 ≤ ltI (bt s i) by omega]))

end Go.Proofs.Ytkefiajemifklaa.F


namespace Go.Proofs.Ytkefiajemifklaa.F
set_option linter.unusedVariables false
set_option linter.unusedSimpArgs false
open Go.RowKit Go.Proofs.YtkefiajemifklaaW.PrintWords Go.Proofs.Ytkefiajemifklaa.Pl Go.Proofs.Ytkefiajemifklaa.A Go.Proofs.Ytkefiajemifklaa.Ext

theorem l1In_eq (a : Int) (n : Nat) (hn : n ≤ 9223372036854775807) : spec_l1In.f a 0 (wrap64 ((n : Int) - 1)) = some (inR n a) := by
  rw [w64 (by omega) (by omega)]
  unfold spec_l1In.f inR
  by_cases h : a ≥ 0
  · rw [if_pos h]; simp [show 0 ≤ a from h]
  · rw [if_neg h]; simp [show ¬ 0 ≤ a from h]
theorem rdN (l : List Int) (i : Nat) (h : i < l.length) : rd l (i : Int) = l[i] := by simp [rd, h]
theorem l13Numbers_ev (l : List Int) (n : Nat) (hl : l.length ≤ 9223372036854775807) (hn : n ≤ 9223372036854775807) : Evt (fun k => spec_l13Numbers.f k l (n : Int)) (l.all (inR n)) := by
  have h := Evt.up (fun k i => spec_l13Numbers.l0 k l (n : Int) i) l.length (fun i => (l.drop i).all (inR n)) ?_ ?_
  · simpa [spec_l13Numbers.f] using h
  · refine Evt.step ?_
    simp only [spec_l13Numbers.l0]
    rw [List.drop_of_length_le (Nat.le_refl _)]
    exact Evt.neg (by omega) (Evt.ret _)
  · intro i hi h
    refine Evt.step ?_
    simp only [spec_l13Numbers.l0]
    refine Evt.pos (by omega) (Evt.pos (by omega) (Evt.bindc (l1In_eq _ n hn) ?_))
    rw [List.drop_eq_getElem_cons hi, rdN l i hi]
    cases hc : inR n l[i] with
    | true => rw [w64s (by omega)]; exact Evt.pos rfl (h.cast (by simp only [List.all_cons, hc, Bool.true_and]))
    | false => exact Evt.neg (by decide) (Evt.const (by simp only [List.all_cons, hc, Bool.false_and]))
theorem l13Good_ev (x : List (List Int)) (y : List Int) (z : List (List Int)) (hx : x.length ≤ 9223372036854775807) (hy : y.length ≤ 9223372036854775807) (hw : ∀ r ∈ z, r.length ≤ 9223372036854775807) : Evt (fun k => spec_l13Good.f k x y z) (wellB x.length y z) := by
  simp only [spec_l13Good.f]
  have hbad : ∀ n : Int, Evt (fun k => spec_l13Good.j0 k n true x y z) false := by
    intro n
    refine Evt.step ?_
    simp only [spec_l13Good.j0]
    exact Evt.pos trivial (Evt.ret _)
  by_cases c1 : x.length = 0
  · exact Evt.pos (by omega) ((hbad _).cast (by simp [wellB, c1]))
  refine Evt.neg (by omega) ?_
  by_cases c2 : y.length = 3
  · refine Evt.pos (by omega) ?_
    by_cases c3 : z.length = x.length
    · refine Evt.pos (by omega) (Evt.bind (l13Numbers_ev y x.length hy hx) ?_)
      cases c4 : y.all (inR x.length) with
      | false => exact (hbad _).cast (by simp only [wellB, c4]; simp)
      | true =>
        refine Evt.step ?_
        simp only [spec_l13Good.j0]
        refine Evt.neg (by decide) ?_
        have h := Evt.up (fun k i => spec_l13Good.l0 k (x.length : Int) i x y z) x.length (fun i => (z.drop i).all (rowOk x.length)) ?_ ?_
        · exact h.cast (by simp only [wellB, c4]; simp [c1, c2, c3])
        · refine Evt.step ?_
          simp only [spec_l13Good.l0]
          rw [List.drop_of_length_le (by omega)]
          exact Evt.neg (by omega) (Evt.ret _)
        · intro i hi h
          refine Evt.step ?_
          simp only [spec_l13Good.l0]
          have hi' : i < z.length := by omega
          rw [rows_at z i hi', List.drop_eq_getElem_cons hi']
          refine Evt.pos (by omega) (Evt.pos (by omega) (Evt.pos (by omega) ?_))
          by_cases c5 : z[i].length = x.length
          · refine Evt.pos (by omega) (Evt.bind (l13Numbers_ev z[i] x.length (hw _ (List.getElem_mem hi')) hx) ?_)
            cases c6 : z[i].all (inR x.length) with
            | true => rw [w64s (by omega)]; exact Evt.pos rfl (h.cast (by simp only [List.all_cons, rowOk, c6]; simp [c5]))
            | false => exact Evt.neg (by decide) (Evt.const (by simp only [List.all_cons, rowOk, c6]; simp))
          · exact Evt.neg (by omega) (Evt.const (by simp only [List.all_cons, rowOk]; simp [c5]))
    · exact Evt.neg (by omega) ((hbad _).cast (by simp [wellB, c3]))
  · exact Evt.neg (by omega) ((hbad _).cast (by simp [wellB, c2]))
theorem ltI_le (c : Int) : ltI c ≤ 2 := by unfold ltI; repeat' split <;> omega
theorem wellB_get {n : Nat} {L : List Int} {P : List (List Int)} (h : wellB n L P = true) : 0 < n ∧ L.length = 3 ∧ (∀ a ∈ L, 0 ≤ a ∧ a < n) ∧ P.length = n ∧ ∀ r ∈ P, r.length = n ∧ ∀ a ∈ r, 0 ≤ a ∧ a < n := by
  unfold wellB at h
  simp only [Bool.and_eq_true, Bool.not_eq_true', decide_eq_false_iff_not, decide_eq_true_eq, List.all_eq_true] at h
  obtain ⟨⟨h1, h2⟩, h3, h4, h5⟩ := h
  refine ⟨by omega, h2, fun a ha => ?_, h4, fun r hr => ?_⟩
  · have := h3 a ha
    unfold inR at this
    simp only [Bool.and_eq_true, decide_eq_true_eq] at this
    omega
  · have h6 := h5 r hr
    unfold rowOk at h6
    simp only [Bool.and_eq_true, decide_eq_true_eq, List.all_eq_true] at h6
    refine ⟨h6.1, fun a ha => ?_⟩
    have := h6.2 a ha
    unfold inR at this
    simp only [Bool.and_eq_true, decide_eq_true_eq] at this
    omega
theorem mapOf_ev (s : ByteArray) (x : List (List Int)) (y : List Int) (z : List (List Int)) (hs : s.size ≤ 9223372036854775807) (hw : isW s = true) (hg : wellB x.length y z = true) :
    ∃ v, Evt (fun k => spec_MapOf.l0 k s 0 0 x y z) (v, true) ∧ Evt (fun k => impl_mapOf.l0 k s 0 0 x y z) v := by
  obtain ⟨g1, g2, g3, g4, g5⟩ := wellB_get hg
  have hl : ∀ i : Nat, i < s.size → 0 ≤ ltI (bt s (i : Int)) := by
    intro i hi
    unfold isW allL at hw
    simp only [Bool.and_eq_true, List.all_eq_true, decide_eq_true_eq] at hw
    have hi' : i < (bytesOf s).length := by rw [bytesOf_length]; exact hi
    rw [bt_get s i hi']
    exact hw.1 _ (List.getElem_mem hi')
  have h : ∀ d i : Nat, i + d = s.size → ∀ m : Nat, m < x.length → ∃ v, Evt (fun k => spec_MapOf.l0 k s (m : Int) (i : Int) x y z) (v, true) ∧ Evt (fun k => impl_mapOf.l0 k s (m : Int) (i : Int) x y z) v := by
    intro d
    induction d with
    | zero =>
      intro i hi m hm
      refine ⟨m, Evt.step ?_, Evt.step ?_⟩
      · simp only [spec_MapOf.l0]
        exact Evt.neg (by omega) (Evt.ret _)
      · simp only [impl_mapOf.l0]
        exact Evt.neg (by omega) (Evt.ret _)
    | succ d ih =>
      intro i hi m hm
      have h0 := hl i (by omega)
      have h2 := ltI_le (bt s (i : Int))
      have e1 := spec_LetterIndex_ev (bt s (i : Int))
      have e2 := impl_LetterIndex_eq (bt0 s (i : Int)) (bt255 s (i : Int))
      generalize ltI (bt s (i : Int)) = t at h0 h2 e1 e2
      obtain ⟨t, rfl⟩ := Int.eq_ofNat_of_zero_le h0
      have ht : t < y.length := by omega
      have hm' : m < z.length := by omega
      obtain ⟨b0, b1⟩ := g3 _ (List.getElem_mem ht)
      obtain ⟨r0, r1⟩ := g5 _ (List.getElem_mem hm')
      have q1 := rdN y t ht
      generalize y[t] = b at b0 b1 q1
      obtain ⟨b, rfl⟩ := Int.eq_ofNat_of_zero_le b0
      have hb : b < z[m].length := by omega
      obtain ⟨c0, c1⟩ := r1 _ (List.getElem_mem hb)
      have q2 := rdN z[m] b hb
      generalize z[m][b] = c at c0 c1 q2
      obtain ⟨c, rfl⟩ := Int.eq_ofNat_of_zero_le c0
      obtain ⟨v, v1, v2⟩ := ih (i + 1) (by omega) c (by omega)
      refine ⟨v, Evt.step ?_, Evt.step ?_⟩
      · simp only [spec_MapOf.l0]
        refine Evt.pos (by omega) (Evt.pos (by omega) (Evt.pos (by omega) (Evt.pos (by omega) (Evt.bind e1 (Evt.pos (by omega) (Evt.pos (by omega) ?_))))))
        rw [rows_at z m hm', q1, q2, w64s (by omega)]
        exact Evt.pos (by omega) (Evt.pos (by omega) v1)
      · simp only [impl_mapOf.l0]
        refine Evt.pos (by omega) (Evt.pos (by omega) (Evt.pos (by omega) (Evt.pos (by omega) (Evt.bindc e2 (Evt.pos (by omega) (Evt.pos (by omega) ?_))))))
        rw [rows_at z m hm', q1, q2, w64s (by omega)]
        exact Evt.pos (by omega) (Evt.pos (by omega) v2)
  exact h s.size 0 (by omega) 0 g1
/-- The reference and the program answer the same. -/
theorem MapOf_ev (s : ByteArray) (x : List (List Int)) (y : List Int) (z : List (List Int)) (hs : s.size ≤ 9223372036854775807) (hx : x.length ≤ 9223372036854775807) (hy : y.length ≤ 9223372036854775807) (hz : ∀ r ∈ z, r.length ≤ 9223372036854775807) :
    ∃ p, Evt (fun k => spec_MapOf.f k x y z s) p ∧ Evt (fun k => impl_MapOf.f k x y z s) p := by
  simp only [spec_MapOf.f, impl_MapOf.f]
  have h1 := l13Good_ev x y z hx hy hz
  have h2 := spec_IsWord_ev s hs
  have h3 := impl_IsWord_ev s hs
  have h4 : impl_wellFormed.f x y z = some (wellB x.length y z) := rfl
  have hbad : Evt (fun k => spec_MapOf.j0 k s true x y z) (0, false) := by
    refine Evt.step ?_
    simp only [spec_MapOf.j0]
    exact Evt.pos trivial (Evt.ret _)
  cases hg : wellB x.length y z with
  | false =>
    rw [hg] at h1 h4
    refine ⟨(0, false), Evt.bind h1 (Evt.neg (by decide) hbad), Evt.bind h3 ?_⟩
    cases hw : isW s with
    | true => exact Evt.pos rfl (Evt.bindc h4 (Evt.neg (by decide) (Evt.ret _)))
    | false => exact Evt.neg (by decide) (Evt.ret _)
  | true =>
    cases hw : isW s with
    | false =>
      rw [hg] at h1
      rw [hw] at h2 h3
      exact ⟨(0, false), Evt.bind h1 (Evt.pos rfl (Evt.bind h2 hbad)), Evt.bind h3 (Evt.neg (by decide) (Evt.ret _))⟩
    | true =>
      obtain ⟨v, v1, v2⟩ := mapOf_ev s x y z hs hw hg
      rw [hg] at h1 h4
      rw [hw] at h2 h3
      refine ⟨(v, true), Evt.bind h1 (Evt.pos rfl (Evt.bind h2 (Evt.step ?_))), Evt.bind h3 (Evt.pos rfl (Evt.bindc h4 (Evt.pos rfl (Evt.bind (a := v) ?_ (Evt.ret _)))))⟩
      · simp only [spec_MapOf.j0]
        exact Evt.neg (by decide) v1
      · simp only [impl_mapOf.f]
        exact v2

end Go.Proofs.Ytkefiajemifklaa.F


namespace Go.Proofs.Ytkefiajemifklaa.Pure
set_option linter.unusedVariables false
set_option linter.unusedSimpArgs false
open Go Go.RowKit Go.Proofs.YtkefiajemifklaaW.PrintWords Go.Proofs.Ytkefiajemifklaa.Pl Go.Proofs.Ytkefiajemifklaa.F Go.Proofs.Ytkefiajemifklaa.A Go.Proofs.Ytkefiajemifklaa.Ext

theorem FnExactMapOf : FnExactMapOf.Pure := by
  intro x y z s hx hy hz hs
  have X : RowsWf x := ⟨hx.1, fun a h => (hx.2 a h).1⟩
  have Z : RowsWf z := ⟨hz.1, fun a h => (hz.2 a h).1⟩
  refine Evt.get (g := fun k => laws_FnExactMapOf.f k x y z s) ?_
  simp only [laws_FnExactMapOf.f]
  by_cases hc : (s.size : Int) > 1048576
  · exact Evt.pos hc (Evt.ret _)
  refine Evt.neg hc ?_
  obtain ⟨t, ht, hs'⟩ := szMonoid_ev x y z 1048576 (by omega) (by omega) X hy.1 Z
  rcases hs' with rfl | ⟨h0, h1, h2, h3, h4⟩
  · exact Evt.bind ht (Evt.pos (by decide) (Evt.ret _))
  obtain ⟨p, e1, e2⟩ := MapOf_ev s x y z hs hx.1 hy.1 Z.2
  have q1 := toMonoid_ev x y z h2 h3 h4
  refine Evt.bind ht (Evt.neg (by omega) (Evt.bind q1 (Evt.bind e1 (Evt.bind q1 (Evt.bind e2 (Evt.pos rfl (Evt.step ?_)))))))
  simp only [laws_FnExactMapOf.j0]
  exact Evt.neg (by simp) (Evt.bind q1 (Evt.bind (eqMonoid_ev x y z X hy.1 Z) (Evt.pos rfl (Evt.ret _))))


end Go.Proofs.Ytkefiajemifklaa.Pure


namespace Go.Proofs.Ytkefiajemifklaa.fnExactMapOf
open Go.ChangeShapes Go.WideShapes Go.ChangeAt Go.RowKit Go.Proofs.Ytkefiajemifklaa.Br Go.Proofs.YtkefiajemifklaaW.PrintWords Go.Proofs.Ytkefiajemifklaa.A
open Go.ChangeMaps (open_string shut_string)
set_option linter.unusedVariables false
theorem own : ownKnob Try.prog.godebug = none := by kernel_rfl
theorem laidOut : laidOutB Try.prog = true := by kernel_rfl
set_option maxHeartbeats 2000000 in
set_option maxRecDepth 100000 in
theorem lifted (os : Os) (started : os.Started) (H : Type) (enc : TypeId × Value → H) :
    ReturnsInHanded {} Try.checked os 12 .any (Rows.fnExactMapOfSpec.pre6 enc Try.prog Try.f12 Rows.fnExactMapOfRow.domain false) (Rows.fnExactMapOfSpec.post enc Try.prog Try.f12 false true false false) := by
  refine returnsInHanded_of_change_sized (C := Try.checked) own started (by kernel_rfl) Try.func12
    (ChangeSpec.witness6 (enc := enc) (C := Try.checked) false ⟨#[], #[.agg #[.slice none 0 0, .slice none 0 0, .slice none 0 0], .string ByteArray.empty], []⟩ 8 (by kernel_rfl) (by kernel_rfl) (by kernel_rfl) (by kernel_rfl)) ?_
  intro W base args ds gs before hval0 hW hcnd hsz0 _
  have hval : ∀ (j : Nat) t v, Try.f12.params[j]? = some t → args[j]? = some v → Value.okWide Try.prog W .any base t v := hval0
  have hW' := hW
  obtain ⟨p, q, hA0, hV, rfl, hfz, hnd⟩ := hW
  have hA : DataW.TrodAll enc Try.prog W 0 (fun _ => true) true Try.f12.params.toList args.toList ds p := hA0
  rw [Try.params12] at hA hval
  obtain ⟨v0, vs0, d0, ds0, p0, q0, hargs, rfl, rfl, h0, r0⟩ := trodAll_cons hA
  obtain ⟨v1, vs1, d1, ds1, p1, q1, rfl, rfl, rfl, h1, r1⟩ := trodAll_cons r0
  obtain ⟨rfl, rfl, rfl⟩ := trodAll_nil r1
  obtain rfl : args = #[v0, v1] := by cases args; simp_all
  obtain ⟨rfl, rfl⟩ := trodVars_none hV
  have k0 := h0
  have lt0 : ∀ x ∈ p0, x.block < W.heap.size := by obtain ⟨m, hm⟩ := k0; exact DataW.trod_lt m _ _ _ hm
  obtain ⟨arr0, rfl, _, _⟩ : ∃ cs, v0 = .agg cs ∧ cs.size = Try.prog.cellsOf 76 ∧ Row.okWide Try.prog W .any base 76 cs := by have z := (hval 0 76 v0 rfl rfl); unfold Value.okWide at z; rw [Try.underlying76] at z; exact z
  obtain ⟨fuel0, hf0⟩ := h0
  obtain ⟨x0, hK0, hw0⟩ := (show ∀ n, BrN Try.prog n 76 _ _ from fun n => (br_struct' Try.underlying76 (show Try.prog.cellsOf 76 = 3 by kernel_rfl) (fun n => (bf_cons rfl (show Try.prog.cellsOf 25 = 1 by kernel_rfl) (br_slice' Try.underlying25 (show Try.prog.cellsOf 29 = 1 by kernel_rfl) (fun n => (br_slice' Try.underlying29 (show Try.prog.cellsOf 3 = 1 by kernel_rfl) (fun n => (br_int Try.underlying3 n)) n)) n) (bf_cons rfl (show Try.prog.cellsOf 29 = 1 by kernel_rfl) (br_slice' Try.underlying29 (show Try.prog.cellsOf 3 = 1 by kernel_rfl) (fun n => (br_int Try.underlying3 n)) n) (bf_one rfl (show Try.prog.cellsOf 25 = 1 by kernel_rfl) (br_slice' Try.underlying25 (show Try.prog.cellsOf 29 = 1 by kernel_rfl) (fun n => (br_slice' Try.underlying29 (show Try.prog.cellsOf 3 = 1 by kernel_rfl) (fun n => (br_int Try.underlying3 n)) n)) n)) (of_decide_eq_true (by kernel_rfl))) (of_decide_eq_true (by kernel_rfl)))) n)) fuel0 H enc W 0 (fun _ => true) true fuel0 _ _ (Nat.le_refl _) hf0
  obtain ⟨l0_0, ⟨l0_1, l0_2⟩⟩ := x0
  replace hw0 := hw0
  obtain ⟨w0_0, ⟨w0_1, w0_2⟩⟩ := hw0
  obtain ⟨cs0, hcs0, hK0⟩ : ∃ cs, (Value.agg arr0).cells.toList = cs ∧ _ := ⟨_, rfl, hK0⟩
  obtain ⟨_, _, rfl, ⟨A0_0, c0_0, rfl, hc0_0, hr0_0⟩, ⟨_, _, rfl, ⟨A0_1, c0_1, rfl, hc0_1, hr0_1⟩, ⟨A0_2, c0_2, rfl, hc0_2, hr0_2⟩⟩⟩ := hK0
  obtain rfl : arr0 = #[.slice A0_0 l0_0.length c0_0, .slice A0_1 l0_1.length c0_1, .slice A0_2 l0_2.length c0_2] := arr_of hcs0
  have k1 := h1
  have lt1 : ∀ x ∈ p1, x.block < W.heap.size := by obtain ⟨m, hm⟩ := k1; exact DataW.trod_lt m _ _ _ hm
  obtain ⟨a1, rfl, rfl, rfl, w1⟩ := open_string Try.underlying9 (hval 1 9 v1 rfl rfl) h1
  replace w1 : a1.size ≤ 9223372036854775807 := by simpa [maxLen] using w1
  clear hA0 hval0 hsz0
  obtain ⟨k, hp⟩ := Pure.FnExactMapOf l0_0 l0_1 l0_2 a1 w0_0 w0_1 w0_2 w1
  refine (laws_FnExactMapOf.calls k _ _ l0_0 _ _ l0_1 _ _ l0_2 a1 true W hr0_0 hc0_0 hr0_1 hc0_1 hr0_2 hc0_2 hp).mono fun e W' ⟨he, bel0⟩ => ?_
  subst he
  have bel : Below W.heap.size W W' := bel0
  exact ⟨_, rfl, _, _, _, [], _, [], hW', trodAll_mk1 (shut_bool Try.underlying4 _), (trodAll_cons_mk (Below.trod laidOut (by kernel_rfl) (of_decide_eq_true (by kernel_rfl)) k0 bel lt0) (trodAll_cons_mk (Below.trod laidOut (by kernel_rfl) (of_decide_eq_true (by kernel_rfl)) k1 bel lt1) trodAll_mk0)), rfl, bel.frame _, fun h => by cases h⟩
theorem over : Rows.fnExactMapOfRow.holds Try.pinned (OpenSpec.ofChange Rows.fnExactMapOfSpec) :=
  OpenClaim.holds_of_wide 12 Try.f12 rfl rfl rfl rfl rfl rfl rfl ⟨rfl, rfl, rfl, rfl, rfl⟩ rfl rfl rfl rfl rfl (by kernel_rfl) Try.func12 (by kernel_rfl)
    (of_decide_eq_true (by kernel_rfl)) (by unfold Func.isWrapper; first | (rw [if_pos (by decide +kernel)]; kernel_rfl) | (rw [if_neg (by decide +kernel)]; exact ⟨rfl, rfl⟩))
    (fun os started H enc _ => lifted os started H enc)
theorem proved : Rows.FnExactMapOfSaid := over
#print axioms proved
end Go.Proofs.Ytkefiajemifklaa.fnExactMapOf
namespace Go.Proofs.Ytkefiajemifklaa
/-- The row, under a short name, for the claim. -/
theorem fnExactMapOf_holds : Rows.FnExactMapOfSaid := fnExactMapOf.proved
end Go.Proofs.Ytkefiajemifklaa
