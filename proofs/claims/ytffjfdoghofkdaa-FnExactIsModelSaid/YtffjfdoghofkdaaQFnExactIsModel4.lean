/- FnExactIsModel: what its proof needs, put together by this session's program wip/merge.py out of the texts that wip/xp.py printed and of this session's own. -/
import Derived.Test.YtffjfdoghofkdaaQFnExactIsModel3
import Derived.Test.YtffjfdoghofkdaaProg
import Derived.Shelf.Abstract
import Derived.Deep.LoopGhost
set_option linter.unusedVariables false
set_option linter.unusedSimpArgs false
set_option linter.unusedSectionVars false
set_option maxHeartbeats 8000000
set_option maxRecDepth 100000
namespace Go.Proofs.Ytffjfdoghofkdaa.A
open Go.RowKit Go.Proofs.Ytffjfdoghofkdaa.Ext Go.Proofs.YtffjfdoghofkdaaW.PrintWords Go.Proofs.YtffjfdoghofkdaaW.PrintLast Go.Proofs.YtffjfdoghofkdaaW.PrintMore
attribute [local go_sem] max2_int min2_int max_two min_two max_three min_three max_four min_four
def spec_IsValidProblem.l0 : Nat → Int → List (S37) → Option (Bool)
 | 0, _, _ => none
 | k + 1, x3, x33002000 => if x3 < (x33002000.length : Int) then (if 0 ≤ x3 then ((spec_IsValidConstraint.f k ((rd_T37 x33002000 x3).f0) ((rd_T37 x33002000 x3).f1) ((rd_T37 x33002000 x3).f2) ((rd_T37 x33002000 x3).f3.f0) ((rd_T37 x33002000 x3).f3.f1) ((rd_T37 x33002000 x3).f3.f2) ((rd_T37 x33002000 x3).f4) ((rd_T37 x33002000 x3).f5)).bind fun t33003 => (if t33003 = true then (spec_IsValidProblem.l0 k (wrap64 (x3 + 1)) x33002000) else (some false))) else (none)) else (some (decide ((x33002000.length : Int) ≤ 6)))
def spec_IsValidProblem.f (k : Nat) (l0_0 : List (S37)) : Option (Bool) := spec_IsValidProblem.l0 k 0 l0_0
theorem spec_IsValidProblem.mono_l : ∀ k, (∀ y0 y1, LeO (spec_IsValidProblem.l0 k y0 y1) (spec_IsValidProblem.l0 (k + 1) y0 y1))
 | 0 => fun _ _ r h => by simp [spec_IsValidProblem.l0] at h
 | k + 1 => by
  have ih0 := spec_IsValidProblem.mono_l k
  ·intro y0 y1
   unfold spec_IsValidProblem.l0
   repeat' first
   | with_reducible first | exact ih0 _ _ | exact spec_IsValidConstraint.mono _ _ _ _ _ _ _ _ _ | exact LeO.refl _ | exact LeO.none _ | refine LeO.ite ?_ ?_ | refine LeO.bind ?_ (fun _ => ?_)
theorem spec_IsValidProblem.mono : ∀ a0 k, LeO (spec_IsValidProblem.f k a0) (spec_IsValidProblem.f (k + 1) a0) := by
 intro a0 k
 have ih0 := spec_IsValidProblem.mono_l k
 unfold spec_IsValidProblem.f
 repeat' first
   | with_reducible first | exact ih0 _ _ | exact spec_IsValidConstraint.mono _ _ _ _ _ _ _ _ _ | exact LeO.refl _ | exact LeO.none _ | refine LeO.ite ?_ ?_ | refine LeO.bind ?_ (fun _ => ?_)
theorem spec_IsValidProblem.calls (k : Nat) (A0_0 : Option Addr) (c0_0 : Nat) (l0_0 : List (S37)) (r : Bool) (w : World) (hr0_0 : Kd.C k37 w A0_0 l0_0.length l0_0) (hc0_0 : l0_0.length ≤ c0_0) (h : spec_IsValidProblem.f k l0_0 = some r) :
  Calls Try.prog 33 #[.agg #[.slice A0_0 l0_0.length c0_0]] w fun e w' => e = .returned (.bool r) ∧ Below w.heap.size w w' := by
 have hu50 := Try.underlying50
 have hu37 := Try.underlying37
 have HR0_0 := Aside0.mk hr0_0
 have HC0_0 := Aside0.mk hc0_0
 clear hr0_0 hc0_0
 have HB := Aside0.mk (Below.refl w.heap.size w)
 have H : (spec_IsValidProblem.l0 k 0 l0_0) = some r := h
 clear h
 have H' := Aside0.mk H
 clear H
 go_enter Try.func33, Try.ntmps33
 go_wp2_with (first | ((with_reducible refine gate_dst (N := 1) rfl ?_); refine box_event ?hg (N := 1) ?hd (cs := #[.slice A0_0 l0_0.length c0_0]) (t := 50) ?hr ?_; (case hd => rfl); (case hg => rfl); (case hr => first | (go_simp; done) | (go_simp; rfl)); intro gb33001 hg w2 hbox hb; have n0_ := Aside0.mk (below_step za2 hb); have n1_ := Aside0.mk (hbox); have n2_ := Aside0.mk ((by rw [hg]; exact (below_size za2) : w.heap.size ≤ gb33001)); have n3_ := Aside0.mk ((by rw [hg]; exact (below_size za2) : w.heap.size ≤ gb33001)); clear HB; have HB := n0_; have BK33001 := n1_; have GW33001 := n2_; have GE33001 := n3_; clear n0_ n1_ n2_ n3_; clear hb hbox hg))
 first | go_loopg [3] k (fun kq v3 w' => ∃ (x3_1 : Int), v3 = .int .i64 x3_1 ∧ Aside0 (spec_IsValidProblem.l0 kq x3_1 l0_0 = some r) ∧ Aside0 (kq ≤ k) ∧ Aside0 (w'.heap[gb33001]? = some (.cells #[(.slice A0_0 l0_0.length c0_0)] 50 (0, 0))) ∧ Aside0 (Below w.heap.size w w')) | (simp only [Act.put, List.setIfInBounds_toArray, List.set_cons_succ, List.set_cons_zero]; go_loopg [3] k (fun kq v3 w' => ∃ (x3_1 : Int), v3 = .int .i64 x3_1 ∧ Aside0 (spec_IsValidProblem.l0 kq x3_1 l0_0 = some r) ∧ Aside0 (kq ≤ k) ∧ Aside0 (w'.heap[gb33001]? = some (.cells #[(.slice A0_0 l0_0.length c0_0)] 50 (0, 0))) ∧ Aside0 (Below w.heap.size w w')))
 case atStart => exact ⟨(0), za6, H', ⟨Nat.le_refl _⟩, ⟨za0 BK33001.out⟩, ⟨za2⟩⟩
 case round =>
  clear H'
  obtain ⟨x3_1, rfl, HA, HK1, BK33001, HB⟩ := hrel
  cases gk with
  | zero => exact absurd HA.out (by simp [spec_IsValidProblem.l0])
  | succ k1 =>
  have H := HA.out
  clear HA
  simp only [spec_IsValidProblem.l0] at H
  by_cases c3 : x3_1 < (l0_0.length : Int)
  rw [if_pos c3] at H
  have c3b0 : decide (x3_1 < (l0_0.length : Int)) = true := decide_eq_true c3
  clear c3
  by_cases c4 : 0 ≤ x3_1
  rw [if_pos c4] at H
  have c4b0 : decide (0 ≤ x3_1) = true := decide_eq_true c4
  clear c4
  replace H := Option.bind_eq_some_iff.mp H
  obtain ⟨t33003, A50, H⟩ := H
  replace H : (if t33003 = true then (spec_IsValidProblem.l0 k1 (wrap64 (x3_1 + 1)) l0_0) else (some false)) = some r := H
  have A5 := Aside0.mk A50
  clear A50
  by_cases c6 : t33003 = true
  subst c6
  have H1 : (spec_IsValidProblem.l0 k1 (wrap64 (x3_1 + 1)) l0_0) = some r := by rw [if_pos rfl] at H; exact H
  clear H
  have H := H1
  clear H1
  have H' := Aside0.mk H
  clear H
  have fin1_ := Aside0.mk trivial
  rotate_left
  replace c6 := Bool.eq_false_iff.mpr c6
  subst c6
  have H1 : (some false) = some r := by rw [if_neg (show ¬ (false = true) by decide)] at H; exact H
  clear H
  have H := H1
  clear H1
  obtain rfl := Option.some.inj H
  have fin0_ := Aside0.mk trivial
  rotate_left
  ·rw [if_neg c4] at H
   exact absurd H (by simp)
  ·rw [if_neg c3] at H
   have c3b0 : decide (x3_1 < (l0_0.length : Int)) = false := decide_eq_false c3
   clear c3
   obtain rfl := Option.some.inj H
   obtain ⟨hcz11_0, hfz11_0⟩ := blk1 BK33001.out
   go_wp2
   go_ret
   exact ⟨za5, za2⟩
  all_goals
   obtain ⟨hcz9_0, hfz9_0⟩ := blk1 BK33001.out
   have p33002 : 0 ≤ (x3_1 : Int) := of_decide_eq_true za7
   have q33002 : x3_1 < (l0_0.length : Int) := of_decide_eq_true za7
   obtain ⟨ad33002, A33002_5, c33002_5, A33002_6, c33002_6, e33002, hx33002_0, hx33002_1, hx33002_2, hx33002_3, hx33002_4, hx33002_5, hx33002_6, hx33002_7, hl33002_5, hi33002_5, hl33002_6, hi33002_6⟩ := at_T37 HR0_0.out x3_1 p33002 q33002
   cases e33002
   replace hx33002_0 := (HB.out.cell (World.block_lt_of_cell? w _ hx33002_0)).trans hx33002_0
   replace hx33002_1 := (HB.out.cell (World.block_lt_of_cell? w _ hx33002_1)).trans hx33002_1
   replace hx33002_2 := (HB.out.cell (World.block_lt_of_cell? w _ hx33002_2)).trans hx33002_2
   replace hx33002_3 := (HB.out.cell (World.block_lt_of_cell? w _ hx33002_3)).trans hx33002_3
   replace hx33002_4 := (HB.out.cell (World.block_lt_of_cell? w _ hx33002_4)).trans hx33002_4
   replace hx33002_5 := (HB.out.cell (World.block_lt_of_cell? w _ hx33002_5)).trans hx33002_5
   replace hx33002_6 := (HB.out.cell (World.block_lt_of_cell? w _ hx33002_6)).trans hx33002_6
   replace hx33002_7 := (HB.out.cell (World.block_lt_of_cell? w _ hx33002_7)).trans hx33002_7
   have HR33002_5 := Aside0.mk hi33002_5
   have HC33002_5 := Aside0.mk hl33002_5
   clear hi33002_5 hl33002_5
   have HR33002_6 := Aside0.mk hi33002_6
   have HC33002_6 := Aside0.mk hl33002_6
   clear hi33002_6 hl33002_6
   replace p33002 := eq_true p33002
   replace q33002 := eq_true q33002
   go_wp2_with (((with_reducible refine gate_callee (f := 19) rfl ?_); refine goesL_ (some 16) rfl rfl Try.func19 (by kernel_rfl) rfl #[.agg #[.int .i64 ((rd_T37 l0_0 x3_1).f0), .string ((rd_T37 l0_0 x3_1).f1), .string ((rd_T37 l0_0 x3_1).f2), .int .i64 ((rd_T37 l0_0 x3_1).f3.f0), .string ((rd_T37 l0_0 x3_1).f3.f1), .slice A33002_5 ((rd_T37 l0_0 x3_1).f3.f2).length c33002_5, .slice A33002_6 ((rd_T37 l0_0 x3_1).f4).length c33002_6, .int .i64 ((rd_T37 l0_0 x3_1).f5)]] rfl za3 ?_; (with_reducible refine (spec_IsValidConstraint.calls k1 ((rd_T37 l0_0 x3_1).f0) ((rd_T37 l0_0 x3_1).f1) ((rd_T37 l0_0 x3_1).f2) ((rd_T37 l0_0 x3_1).f3.f0) ((rd_T37 l0_0 x3_1).f3.f1) _ _ ((rd_T37 l0_0 x3_1).f3.f2) _ _ ((rd_T37 l0_0 x3_1).f4) ((rd_T37 l0_0 x3_1).f5) _ _ ?side1 ?side2 ?side3 ?side4 A5.out).mono ?_); (case side1 => repeat (first | exact (Kd.C_below HR33002_5.out HB.out) | (with_reducible refine Kd.C_alloc ?_ _) | (with_reducible refine Kd.C_drewN ?_ _) | (with_reducible refine Kd.C_drew ?_))); (case side2 => exact HC33002_5.out); (case side3 => repeat (first | exact (Kd.C_below HR33002_6.out HB.out) | (with_reducible refine Kd.C_alloc ?_ _) | (with_reducible refine Kd.C_drewN ?_ _) | (with_reducible refine Kd.C_drew ?_))); (case side4 => exact HC33002_6.out); rintro e w10 ⟨rfl, hb⟩; refine ⟨_, rfl, ?_⟩; have n0_ := Aside0.mk (blk_below (g := gb33001) (o := .cells #[.slice (some ad33002) l0_0.length c0_0] 50 (0, 0)) (za0 BK33001.out) hb); have n1_ := Aside0.mk (below_step za2 hb); clear BK33001; clear HB; have BK33001 := n0_; have HB := n1_; clear n0_ n1_; (try clear hb); (try clear hb2); (try clear hk); (try clear hi)))
   first
   | (
    clear fin0_
    go_ret
    exact ⟨za5, za2⟩)
   | (
    clear fin1_
    go_roundg k1
    case measure => have := HK1.out; omega
    case rel => exact ⟨(wrap64 (x3_1 + 1)), za6, H', ⟨za11⟩, ⟨za0 BK33001.out⟩, ⟨za2⟩⟩)
def spec_VarsOfProblem.l0 : Nat → ByteArray → Int → List (S37) → Option (ByteArray)
 | 0, _, _, _ => none
 | k + 1, x3, x4, x30002000 => if x4 < (x30002000.length : Int) then ((spec_IsValidProblem.f k x30002000).bind fun t30002 => (if t30002 = true then (if 0 ≤ x4 then ((spec_VarsOfConstraint.f k ((rd_T37 x30002000 x4).f0) ((rd_T37 x30002000 x4).f1) ((rd_T37 x30002000 x4).f2) ((rd_T37 x30002000 x4).f3.f0) ((rd_T37 x30002000 x4).f3.f1) ((rd_T37 x30002000 x4).f3.f2) ((rd_T37 x30002000 x4).f4) ((rd_T37 x30002000 x4).f5)).bind fun t30004 => (if x3.size + t30004.size ≤ 9223372036854775807 then (spec_VarsOfProblem.l0 k (x3 ++ t30004) (wrap64 (x4 + 1)) x30002000) else (none))) else (none)) else ((spec_VarsOf.f k x3).bind fun t30005 => (some t30005)))) else ((spec_VarsOf.f k x3).bind fun t30006 => (some t30006))
def spec_VarsOfProblem.f (k : Nat) (l0_0 : List (S37)) : Option (ByteArray) := spec_VarsOfProblem.l0 k (⟨#[]⟩ : ByteArray) 0 l0_0
theorem spec_VarsOfProblem.mono_l : ∀ k, (∀ y0 y1 y2, LeO (spec_VarsOfProblem.l0 k y0 y1 y2) (spec_VarsOfProblem.l0 (k + 1) y0 y1 y2))
 | 0 => fun _ _ _ r h => by simp [spec_VarsOfProblem.l0] at h
 | k + 1 => by
  have ih0 := spec_VarsOfProblem.mono_l k
  ·intro y0 y1 y2
   unfold spec_VarsOfProblem.l0
   repeat' first
   | with_reducible first | exact ih0 _ _ _ | exact spec_IsValidProblem.mono _ _ | exact spec_VarsOf.mono _ _ | exact spec_VarsOfConstraint.mono _ _ _ _ _ _ _ _ _ | exact LeO.refl _ | exact LeO.none _ | refine LeO.ite ?_ ?_ | refine LeO.bind ?_ (fun _ => ?_)
theorem spec_VarsOfProblem.mono : ∀ a0 k, LeO (spec_VarsOfProblem.f k a0) (spec_VarsOfProblem.f (k + 1) a0) := by
 intro a0 k
 have ih0 := spec_VarsOfProblem.mono_l k
 unfold spec_VarsOfProblem.f
 repeat' first
   | with_reducible first | exact ih0 _ _ _ | exact spec_IsValidProblem.mono _ _ | exact spec_VarsOf.mono _ _ | exact spec_VarsOfConstraint.mono _ _ _ _ _ _ _ _ _ | exact LeO.refl _ | exact LeO.none _ | refine LeO.ite ?_ ?_ | refine LeO.bind ?_ (fun _ => ?_)
theorem spec_VarsOfProblem.calls (k : Nat) (A0_0 : Option Addr) (c0_0 : Nat) (l0_0 : List (S37)) (r : ByteArray) (w : World) (hr0_0 : Kd.C k37 w A0_0 l0_0.length l0_0) (hc0_0 : l0_0.length ≤ c0_0) (h : spec_VarsOfProblem.f k l0_0 = some r) :
  Calls Try.prog 30 #[.agg #[.slice A0_0 l0_0.length c0_0]] w fun e w' => e = .returned (.string r) ∧ Below w.heap.size w w' := by
 have hu50 := Try.underlying50
 have hu37 := Try.underlying37
 have HR0_0 := Aside0.mk hr0_0
 have HC0_0 := Aside0.mk hc0_0
 clear hr0_0 hc0_0
 have HB := Aside0.mk (Below.refl w.heap.size w)
 have H : (spec_VarsOfProblem.l0 k (⟨#[]⟩ : ByteArray) 0 l0_0) = some r := h
 clear h
 have H' := Aside0.mk H
 clear H
 go_enter Try.func30, Try.ntmps30
 go_wp2_with (first | ((with_reducible refine gate_dst (N := 1) rfl ?_); refine box_event ?hg (N := 1) ?hd (cs := #[.slice A0_0 l0_0.length c0_0]) (t := 50) ?hr ?_; (case hd => rfl); (case hg => rfl); (case hr => first | (go_simp; done) | (go_simp; rfl)); intro gb30001 hg w2 hbox hb; have n0_ := Aside0.mk (below_step za2 hb); have n1_ := Aside0.mk (hbox); have n2_ := Aside0.mk ((by rw [hg]; exact (below_size za2) : w.heap.size ≤ gb30001)); have n3_ := Aside0.mk ((by rw [hg]; exact (below_size za2) : w.heap.size ≤ gb30001)); clear HB; have HB := n0_; have BK30001 := n1_; have GW30001 := n2_; have GE30001 := n3_; clear n0_ n1_ n2_ n3_; clear hb hbox hg))
 first | go_loopg [3, 4] k (fun kq v3 v4 w' => ∃ (x3_1 : ByteArray) (x4_1 : Int), v3 = .string x3_1 ∧ v4 = .int .i64 x4_1 ∧ Aside0 (spec_VarsOfProblem.l0 kq x3_1 x4_1 l0_0 = some r) ∧ Aside0 (kq ≤ k) ∧ Aside0 (w'.heap[gb30001]? = some (.cells #[(.slice A0_0 l0_0.length c0_0)] 50 (0, 0))) ∧ Aside0 (Below w.heap.size w w')) | (simp only [Act.put, List.setIfInBounds_toArray, List.set_cons_succ, List.set_cons_zero]; go_loopg [3, 4] k (fun kq v3 v4 w' => ∃ (x3_1 : ByteArray) (x4_1 : Int), v3 = .string x3_1 ∧ v4 = .int .i64 x4_1 ∧ Aside0 (spec_VarsOfProblem.l0 kq x3_1 x4_1 l0_0 = some r) ∧ Aside0 (kq ≤ k) ∧ Aside0 (w'.heap[gb30001]? = some (.cells #[(.slice A0_0 l0_0.length c0_0)] 50 (0, 0))) ∧ Aside0 (Below w.heap.size w w')))
 case atStart => exact ⟨((⟨#[]⟩ : ByteArray)), (0), za6, za6, H', ⟨Nat.le_refl _⟩, ⟨za0 BK30001.out⟩, ⟨za2⟩⟩
 case round =>
  clear H'
  obtain ⟨x3_1, x4_1, rfl, rfl, HA, HK1, BK30001, HB⟩ := hrel
  cases gk with
  | zero => exact absurd HA.out (by simp [spec_VarsOfProblem.l0])
  | succ k1 =>
  have H := HA.out
  clear HA
  simp only [spec_VarsOfProblem.l0] at H
  by_cases c3 : x4_1 < (l0_0.length : Int)
  rw [if_pos c3] at H
  have c3b0 : decide (x4_1 < (l0_0.length : Int)) = true := decide_eq_true c3
  clear c3
  replace H := Option.bind_eq_some_iff.mp H
  obtain ⟨t30002, A40, H⟩ := H
  replace H : (if t30002 = true then (if 0 ≤ x4_1 then ((spec_VarsOfConstraint.f k1 ((rd_T37 l0_0 x4_1).f0) ((rd_T37 l0_0 x4_1).f1) ((rd_T37 l0_0 x4_1).f2) ((rd_T37 l0_0 x4_1).f3.f0) ((rd_T37 l0_0 x4_1).f3.f1) ((rd_T37 l0_0 x4_1).f3.f2) ((rd_T37 l0_0 x4_1).f4) ((rd_T37 l0_0 x4_1).f5)).bind fun t30004 => (if x3_1.size + t30004.size ≤ 9223372036854775807 then (spec_VarsOfProblem.l0 k1 (x3_1 ++ t30004) (wrap64 (x4_1 + 1)) l0_0) else (none))) else (none)) else ((spec_VarsOf.f k1 x3_1).bind fun t30005 => (some t30005))) = some r := H
  have A4 := Aside0.mk A40
  clear A40
  by_cases c5 : t30002 = true
  subst c5
  have H1 : (if 0 ≤ x4_1 then ((spec_VarsOfConstraint.f k1 ((rd_T37 l0_0 x4_1).f0) ((rd_T37 l0_0 x4_1).f1) ((rd_T37 l0_0 x4_1).f2) ((rd_T37 l0_0 x4_1).f3.f0) ((rd_T37 l0_0 x4_1).f3.f1) ((rd_T37 l0_0 x4_1).f3.f2) ((rd_T37 l0_0 x4_1).f4) ((rd_T37 l0_0 x4_1).f5)).bind fun t30004 => (if x3_1.size + t30004.size ≤ 9223372036854775807 then (spec_VarsOfProblem.l0 k1 (x3_1 ++ t30004) (wrap64 (x4_1 + 1)) l0_0) else (none))) else (none)) = some r := by rw [if_pos rfl] at H; exact H
  clear H
  have H := H1
  clear H1
  by_cases c6 : 0 ≤ x4_1
  rw [if_pos c6] at H
  have c6b0 : decide (0 ≤ x4_1) = true := decide_eq_true c6
  clear c6
  replace H := Option.bind_eq_some_iff.mp H
  obtain ⟨t30004, A70, H⟩ := H
  replace H : (if x3_1.size + t30004.size ≤ 9223372036854775807 then (spec_VarsOfProblem.l0 k1 (x3_1 ++ t30004) (wrap64 (x4_1 + 1)) l0_0) else (none)) = some r := H
  have A7 := Aside0.mk A70
  clear A70
  by_cases c8 : x3_1.size + t30004.size ≤ 9223372036854775807
  rw [if_pos c8] at H
  have c8z := c8
  try simp at c8z
  try replace c8z := eq_false (Nat.not_lt.2 c8z)
  have c8b0 := eq_true c8
  have c8b1 : decide (x3_1.size + t30004.size ≤ 9223372036854775807) = true := decide_eq_true c8
  try have c8b2 : (9223372036854775807 < x3_1.size + t30004.size) = False := eq_false (Nat.not_lt.2 c8)
  have H' := Aside0.mk H
  clear H
  have fin0_ := Aside0.mk trivial
  rotate_left
  ·rw [if_neg c8] at H
   exact absurd H (by simp)
  ·rw [if_neg c6] at H
   exact absurd H (by simp)
  ·replace c5 := Bool.eq_false_iff.mpr c5
   subst c5
   have H1 : ((spec_VarsOf.f k1 x3_1).bind fun t30005 => (some t30005)) = some r := by rw [if_neg (show ¬ (false = true) by decide)] at H; exact H
   clear H
   have H := H1
   clear H1
   replace H := Option.bind_eq_some_iff.mp H
   obtain ⟨t30005, A130, H⟩ := H
   replace H : (some t30005) = some r := H
   have A13 := Aside0.mk A130
   clear A130
   obtain rfl := Option.some.inj H
   obtain ⟨hcz14_0, hfz14_0⟩ := blk1 BK30001.out
   go_wp2_with (first | (go_at_call 33; (with_reducible refine (spec_IsValidProblem.calls k1 _ _ l0_0 _ _ ?side1 ?side2 A4.out).mono ?_); (case side1 => repeat (first | exact (Kd.C_below HR0_0.out HB.out) | (with_reducible refine Kd.C_alloc ?_ _) | (with_reducible refine Kd.C_drewN ?_ _) | (with_reducible refine Kd.C_drew ?_))); (case side2 => exact HC0_0.out); rintro e w15 ⟨rfl, hb⟩; have n0_ := Aside0.mk (blk_below (g := gb30001) (o := .cells #[.slice A0_0 l0_0.length c0_0] 50 (0, 0)) (za0 BK30001.out) hb); have n1_ := Aside0.mk (below_step za2 hb); clear BK30001; clear HB; have BK30001 := n0_; have HB := n1_; clear n0_ n1_; (try clear hb); (try clear hb2); (try clear hk); (try clear hi)) | ((with_reducible refine gate_callee (f := 63) rfl ?_); refine goesL_ (some 25) rfl rfl Try.func63 (by kernel_rfl) rfl #[.string x3_1] rfl za3 ?_; (with_reducible refine (spec_VarsOf.calls k1 x3_1 t30005 _ A13.out).mono ?_); rintro e w' ⟨rfl, ⟨nd, rfl⟩⟩; refine ⟨_, rfl, ?_⟩))
   go_ret
   exact ⟨za5, za2⟩
  rw [if_neg c3] at H
  have c3b0 : decide (x4_1 < (l0_0.length : Int)) = false := decide_eq_false c3
  clear c3
  replace H := Option.bind_eq_some_iff.mp H
  obtain ⟨t30006, A160, H⟩ := H
  replace H : (some t30006) = some r := H
  have A16 := Aside0.mk A160
  clear A160
  obtain rfl := Option.some.inj H
  have fin1_ := Aside0.mk trivial
  rotate_left
  all_goals
   obtain ⟨hcz9_0, hfz9_0⟩ := blk1 BK30001.out
   go_wp2_with (first | (go_at_call 33; (with_reducible refine (spec_IsValidProblem.calls k1 _ _ l0_0 _ _ ?side1 ?side2 A4.out).mono ?_); (case side1 => repeat (first | exact (Kd.C_below HR0_0.out HB.out) | (with_reducible refine Kd.C_alloc ?_ _) | (with_reducible refine Kd.C_drewN ?_ _) | (with_reducible refine Kd.C_drew ?_))); (case side2 => exact HC0_0.out); rintro e w10 ⟨rfl, hb⟩; have n0_ := Aside0.mk (blk_below (g := gb30001) (o := .cells #[.slice A0_0 l0_0.length c0_0] 50 (0, 0)) (za0 BK30001.out) hb); have n1_ := Aside0.mk (below_step za2 hb); clear BK30001; clear HB; have BK30001 := n0_; have HB := n1_; clear n0_ n1_; (try clear hb); (try clear hb2); (try clear hk); (try clear hi); obtain ⟨hcz11_0, hfz11_0⟩ := blk1 BK30001.out; have p30003 : 0 ≤ (x4_1 : Int) := of_decide_eq_true za7; have q30003 : x4_1 < (l0_0.length : Int) := of_decide_eq_true za7; obtain ⟨ad30003, A30003_5, c30003_5, A30003_6, c30003_6, e30003, hx30003_0, hx30003_1, hx30003_2, hx30003_3, hx30003_4, hx30003_5, hx30003_6, hx30003_7, hl30003_5, hi30003_5, hl30003_6, hi30003_6⟩ := at_T37 HR0_0.out x4_1 p30003 q30003; cases e30003; replace hx30003_0 := (HB.out.cell (World.block_lt_of_cell? w _ hx30003_0)).trans hx30003_0; replace hx30003_1 := (HB.out.cell (World.block_lt_of_cell? w _ hx30003_1)).trans hx30003_1; replace hx30003_2 := (HB.out.cell (World.block_lt_of_cell? w _ hx30003_2)).trans hx30003_2; replace hx30003_3 := (HB.out.cell (World.block_lt_of_cell? w _ hx30003_3)).trans hx30003_3; replace hx30003_4 := (HB.out.cell (World.block_lt_of_cell? w _ hx30003_4)).trans hx30003_4; replace hx30003_5 := (HB.out.cell (World.block_lt_of_cell? w _ hx30003_5)).trans hx30003_5; replace hx30003_6 := (HB.out.cell (World.block_lt_of_cell? w _ hx30003_6)).trans hx30003_6; replace hx30003_7 := (HB.out.cell (World.block_lt_of_cell? w _ hx30003_7)).trans hx30003_7; have HR30003_5 := Aside0.mk hi30003_5; have HC30003_5 := Aside0.mk hl30003_5; clear hi30003_5 hl30003_5; have HR30003_6 := Aside0.mk hi30003_6; have HC30003_6 := Aside0.mk hl30003_6; clear hi30003_6 hl30003_6; replace p30003 := eq_true p30003; replace q30003 := eq_true q30003) | ((with_reducible refine gate_callee (f := 62) rfl ?_); refine goesL_ (some 22) rfl rfl Try.func62 (by kernel_rfl) rfl #[.agg #[.int .i64 ((rd_T37 l0_0 x4_1).f0), .string ((rd_T37 l0_0 x4_1).f1), .string ((rd_T37 l0_0 x4_1).f2), .int .i64 ((rd_T37 l0_0 x4_1).f3.f0), .string ((rd_T37 l0_0 x4_1).f3.f1), .slice A30003_5 ((rd_T37 l0_0 x4_1).f3.f2).length c30003_5, .slice A30003_6 ((rd_T37 l0_0 x4_1).f4).length c30003_6, .int .i64 ((rd_T37 l0_0 x4_1).f5)]] rfl za3 ?_; (with_reducible refine (spec_VarsOfConstraint.calls k1 ((rd_T37 l0_0 x4_1).f0) ((rd_T37 l0_0 x4_1).f1) ((rd_T37 l0_0 x4_1).f2) ((rd_T37 l0_0 x4_1).f3.f0) ((rd_T37 l0_0 x4_1).f3.f1) _ _ ((rd_T37 l0_0 x4_1).f3.f2) _ _ ((rd_T37 l0_0 x4_1).f4) ((rd_T37 l0_0 x4_1).f5) t30004 _ ?side1 ?side2 ?side3 ?side4 A7.out).mono ?_); (case side1 => repeat (first | exact (Kd.C_below HR30003_5.out HB.out) | (with_reducible refine Kd.C_alloc ?_ _) | (with_reducible refine Kd.C_drewN ?_ _) | (with_reducible refine Kd.C_drew ?_))); (case side2 => exact HC30003_5.out); (case side3 => repeat (first | exact (Kd.C_below HR30003_6.out HB.out) | (with_reducible refine Kd.C_alloc ?_ _) | (with_reducible refine Kd.C_drewN ?_ _) | (with_reducible refine Kd.C_drew ?_))); (case side4 => exact HC30003_6.out); rintro e w12 ⟨rfl, hb⟩; refine ⟨_, rfl, ?_⟩; have n0_ := Aside0.mk (blk_below (g := gb30001) (o := .cells #[.slice (some ad30003) l0_0.length c0_0] 50 (0, 0)) (za0 BK30001.out) hb); have n1_ := Aside0.mk (below_step za2 hb); clear BK30001; clear HB; have BK30001 := n0_; have HB := n1_; clear n0_ n1_; (try clear hb); (try clear hb2); (try clear hk); (try clear hi)) | ((with_reducible refine gate_callee (f := 63) rfl ?_); refine goesL_ (some 25) rfl rfl Try.func63 (by kernel_rfl) rfl #[.string x3_1] rfl za3 ?_; (with_reducible refine (spec_VarsOf.calls k1 x3_1 t30006 _ A16.out).mono ?_); rintro e w' ⟨rfl, ⟨nd, rfl⟩⟩; refine ⟨_, rfl, ?_⟩))
   first
   | (
    clear fin0_
    go_roundg k1
    case measure => have := HK1.out; omega
    case rel => exact ⟨(x3_1 ++ t30004), (wrap64 (x4_1 + 1)), za6, za6, H', ⟨za11⟩, ⟨za0 BK30001.out⟩, ⟨za2⟩⟩)
   | (
    clear fin1_
    go_ret
    exact ⟨za5, za2⟩)
mutual
def spec_IsModel.l0 : Nat → ByteArray → Int → List (S37) → ByteArray → ByteArray → ByteArray → Option (Bool)
 | 0, _, _, _, _, _, _ => none
 | k + 1, x5, x6, x13002000, x13003000, x13003001, x13003002 => if x6 < 3 then (if 0 ≤ x6 then ((spec_CountByte.f k x5 (bt (⟨#[88, 89, 90]⟩ : ByteArray) x6)).bind fun t13004 => (if t13004 = 0 then ((spec_ValueOf.f x13003000 x13003001 x13003002 (bt (⟨#[88, 89, 90]⟩ : ByteArray) x6)).bind fun t13005 => (if t13005.toList = ([] : List UInt8) then (spec_IsModel.l0 k x5 (wrap64 (x6 + 1)) x13002000 x13003000 x13003001 x13003002) else (some false))) else (spec_IsModel.l0 k x5 (wrap64 (x6 + 1)) x13002000 x13003000 x13003001 x13003002))) else (none)) else (spec_IsModel.l1 k 0 x13002000 x13003000 x13003001 x13003002)
def spec_IsModel.l1 : Nat → Int → List (S37) → ByteArray → ByteArray → ByteArray → Option (Bool)
 | 0, _, _, _, _, _ => none
 | k + 1, x7, x13002000, x13003000, x13003001, x13003002 => if x7 < (x13002000.length : Int) then (if 0 ≤ x7 then ((spec_HoldsFor.f k ((rd_T37 x13002000 x7).f0) ((rd_T37 x13002000 x7).f1) ((rd_T37 x13002000 x7).f2) ((rd_T37 x13002000 x7).f3.f0) ((rd_T37 x13002000 x7).f3.f1) ((rd_T37 x13002000 x7).f3.f2) ((rd_T37 x13002000 x7).f4) ((rd_T37 x13002000 x7).f5) x13003000 x13003001 x13003002).bind fun t13007 => (if t13007 = true then (spec_IsModel.l1 k (wrap64 (x7 + 1)) x13002000 x13003000 x13003001 x13003002) else (some false))) else (none)) else ((spec_IsValidProblem.f k x13002000).bind fun t13008 => (if t13008 = true then ((spec_IsValues.f k x13003000 x13003001 x13003002).bind fun t13009 => (some t13009)) else (some false)))
end
def spec_IsModel.f (k : Nat) (l0_0 : List (S37)) (a1_0 : ByteArray) (a1_1 : ByteArray) (a1_2 : ByteArray) : Option (Bool) := (spec_VarsOfProblem.f k l0_0).bind fun t13003 => (spec_IsModel.l0 k t13003 0 l0_0 a1_0 a1_1 a1_2)
theorem spec_IsModel.mono_l : ∀ k, (∀ y0 y1 y2 y3 y4 y5, LeO (spec_IsModel.l0 k y0 y1 y2 y3 y4 y5) (spec_IsModel.l0 (k + 1) y0 y1 y2 y3 y4 y5)) ∧ (∀ y0 y1 y2 y3 y4, LeO (spec_IsModel.l1 k y0 y1 y2 y3 y4) (spec_IsModel.l1 (k + 1) y0 y1 y2 y3 y4))
 | 0 => ⟨fun _ _ _ _ _ _ r h => by simp [spec_IsModel.l0] at h, fun _ _ _ _ _ r h => by simp [spec_IsModel.l1] at h⟩
 | k + 1 => by
  obtain ⟨ih0, ih1⟩ := spec_IsModel.mono_l k
  refine ⟨?_, ?_⟩
  ·intro y0 y1 y2 y3 y4 y5
   unfold spec_IsModel.l0
   repeat' first
   | with_reducible first | exact ih0 _ _ _ _ _ _ | exact ih1 _ _ _ _ _ | exact spec_CountByte.mono _ _ _ | exact spec_HoldsFor.mono _ _ _ _ _ _ _ _ _ _ _ _ | exact spec_IsValidProblem.mono _ _ | exact spec_IsValues.mono _ _ _ _ | exact spec_VarsOfProblem.mono _ _ | exact LeO.refl _ | exact LeO.none _ | refine LeO.ite ?_ ?_ | refine LeO.bind ?_ (fun _ => ?_)
  ·intro y0 y1 y2 y3 y4
   unfold spec_IsModel.l1
   repeat' first
   | with_reducible first | exact ih0 _ _ _ _ _ _ | exact ih1 _ _ _ _ _ | exact spec_CountByte.mono _ _ _ | exact spec_HoldsFor.mono _ _ _ _ _ _ _ _ _ _ _ _ | exact spec_IsValidProblem.mono _ _ | exact spec_IsValues.mono _ _ _ _ | exact spec_VarsOfProblem.mono _ _ | exact LeO.refl _ | exact LeO.none _ | refine LeO.ite ?_ ?_ | refine LeO.bind ?_ (fun _ => ?_)
theorem spec_IsModel.mono : ∀ a0 a1 a2 a3 k, LeO (spec_IsModel.f k a0 a1 a2 a3) (spec_IsModel.f (k + 1) a0 a1 a2 a3) := by
 intro a0 a1 a2 a3 k
 obtain ⟨ih0, ih1⟩ := spec_IsModel.mono_l k
 unfold spec_IsModel.f
 repeat' first
   | with_reducible first | exact ih0 _ _ _ _ _ _ | exact ih1 _ _ _ _ _ | exact spec_CountByte.mono _ _ _ | exact spec_HoldsFor.mono _ _ _ _ _ _ _ _ _ _ _ _ | exact spec_IsValidProblem.mono _ _ | exact spec_IsValues.mono _ _ _ _ | exact spec_VarsOfProblem.mono _ _ | exact LeO.refl _ | exact LeO.none _ | refine LeO.ite ?_ ?_ | refine LeO.bind ?_ (fun _ => ?_)
def spec_IsModel.T5 : Bool × List (List Nat × List Nat) := (true, [([], []), ([], []), ([1], [1]), ([0, 2], [0, 2]), ([3], [3]), ([4, 3], [4]), ([5], [5]), ([5], [5]), ([7, 5], [5, 7]), ([6, 8, 5, 5], [5, 6, 8]), ([9, 5], [5, 9]), ([5, 10], [5, 10])])
def spec_IsModel.B5 : List Nat := [0, 0, 2, 7, 15, 31, 63, 63, 191, 511, 1023, 2047]
theorem spec_IsModel.tab5 : rtab .any (opsOf Try.f13 5) = spec_IsModel.T5 := by kernel_rfl
theorem spec_IsModel.bits5 : waitsOk spec_IsModel.T5.2 spec_IsModel.B5 = true := by kernel_rfl
def spec_IsModel.T10 : Bool × List (List Nat × List Nat) := (true, [([], []), ([0], [0]), ([], []), ([1, 2], [1, 2]), ([3], [3]), ([], []), ([4, 5], [4, 5]), ([6], [6])])
def spec_IsModel.B10 : List Nat := [0, 1, 0, 7, 15, 0, 63, 127]
theorem spec_IsModel.tab10 : rtab .any (opsOf Try.f13 10) = spec_IsModel.T10 := by kernel_rfl
theorem spec_IsModel.bits10 : waitsOk spec_IsModel.T10.2 spec_IsModel.B10 = true := by kernel_rfl
theorem spec_IsModel.calls (k : Nat) (A0_0 : Option Addr) (c0_0 : Nat) (l0_0 : List (S37)) (a1_0 : ByteArray) (a1_1 : ByteArray) (a1_2 : ByteArray) (r : Bool) (w : World) (hr0_0 : Kd.C k37 w A0_0 l0_0.length l0_0) (hc0_0 : l0_0.length ≤ c0_0) (h : spec_IsModel.f k l0_0 a1_0 a1_1 a1_2 = some r) :
  Calls Try.prog 13 #[.agg #[.slice A0_0 l0_0.length c0_0], .agg #[.string a1_0, .string a1_1, .string a1_2]] w fun e w' => e = .returned (.bool r) ∧ Below w.heap.size w w' := by
 have hu50 := Try.underlying50
 have hu39 := Try.underlying39
 have hu37 := Try.underlying37
 have HR0_0 := Aside0.mk hr0_0
 have HC0_0 := Aside0.mk hc0_0
 clear hr0_0 hc0_0
 have HB := Aside0.mk (Below.refl w.heap.size w)
 have H : ((spec_VarsOfProblem.f k l0_0).bind fun t13003 => (spec_IsModel.l0 k t13003 0 l0_0 a1_0 a1_1 a1_2)) = some r := h
 clear h
 replace H := Option.bind_eq_some_iff.mp H
 obtain ⟨t13003, A30, H⟩ := H
 replace H : (spec_IsModel.l0 k t13003 0 l0_0 a1_0 a1_1 a1_2) = some r := H
 have A3 := Aside0.mk A30
 clear A30
 have H' := Aside0.mk H
 clear H
 go_enter Try.func13, Try.ntmps13
 go_wp2_with (first | ((with_reducible refine gate_dst (N := 2) rfl ?_); refine box_event ?hg (N := 2) ?hd (cs := #[.slice A0_0 l0_0.length c0_0]) (t := 50) ?hr ?_; (case hd => rfl); (case hg => rfl); (case hr => first | (go_simp; done) | (go_simp; rfl)); intro gb13001 hg w4 hbox hb; have n0_ := Aside0.mk (below_step za2 hb); have n1_ := Aside0.mk (hbox); have n2_ := Aside0.mk ((by rw [hg]; exact (below_size za2) : w.heap.size ≤ gb13001)); have n3_ := Aside0.mk ((by rw [hg]; exact (below_size za2) : w.heap.size ≤ gb13001)); clear HB; have HB := n0_; have BK13001 := n1_; have GW13001 := n2_; have GE13001 := n3_; clear n0_ n1_ n2_ n3_; clear hb hbox hg) | ((with_reducible refine gate_dst (N := 3) rfl ?_); refine box_event ?hg (N := 3) ?hd (cs := #[.string a1_0, .string a1_1, .string a1_2]) (t := 39) ?hr ?_; (case hd => rfl); (case hg => rfl); (case hr => first | (go_simp; done) | (go_simp; rfl)); intro gb13002 hg w5 hbox hb; have n0_ := Aside0.mk (blk_below (g := gb13001) (o := .cells #[.slice A0_0 l0_0.length c0_0] 50 (0, 0)) (za0 BK13001.out) hb); have n1_ := Aside0.mk (below_step za2 hb); have n2_ := Aside0.mk (hbox); have n3_ := Aside0.mk ((by rw [hg]; exact (below_size za2) : w.heap.size ≤ gb13002)); have n4_ := Aside0.mk ((by rw [hg]; exact (below_size za2) : w.heap.size ≤ gb13002)); have n5_ := Aside0.mk ((by rw [hg]; exact Nat.ne_of_lt (blk_lt (g := gb13001) (o := .cells #[.slice A0_0 l0_0.length c0_0] 50 (0, 0)) (za0 BK13001.out)) : gb13001 ≠ gb13002)); have n6_ := Aside0.mk ((by rw [hg]; exact Nat.ne_of_gt (blk_lt (g := gb13001) (o := .cells #[.slice A0_0 l0_0.length c0_0] 50 (0, 0)) (za0 BK13001.out)) : gb13002 ≠ gb13001)); clear BK13001; clear HB; have BK13001 := n0_; have HB := n1_; have BK13002 := n2_; have GW13002 := n3_; have GE13002 := n4_; have NB13001_13002 := n5_; have NB13002_13001 := n6_; clear n0_ n1_ n2_ n3_ n4_ n5_ n6_; clear hb hbox hg; have hnb6 := NB13001_13002.out; have hnc6 := NB13002_13001.out; obtain ⟨hcz7_0, hfz7_0⟩ := blk1 BK13001.out) | ((with_reducible refine gate_callee (f := 30) rfl ?_); refine goesL_ (some 9) rfl rfl Try.func30 (by kernel_rfl) rfl #[.agg #[.slice A0_0 l0_0.length c0_0]] rfl za3 ?_; (with_reducible refine (spec_VarsOfProblem.calls k _ _ l0_0 t13003 _ ?side1 ?side2 A3.out).mono ?_); (case side1 => repeat (first | exact (Kd.C_below HR0_0.out HB.out) | (with_reducible refine Kd.C_alloc ?_ _) | (with_reducible refine Kd.C_drewN ?_ _) | (with_reducible refine Kd.C_drew ?_))); (case side2 => exact HC0_0.out); rintro e w8 ⟨rfl, hb⟩; refine ⟨_, rfl, ?_⟩; have n0_ := Aside0.mk (blk_below (g := gb13001) (o := .cells #[.slice A0_0 l0_0.length c0_0] 50 (0, 0)) (za0 BK13001.out) hb); have n1_ := Aside0.mk (blk_below (g := gb13002) (o := .cells #[.string a1_0, .string a1_1, .string a1_2] 39 (0, 0)) (za0 BK13002.out) hb); have n2_ := Aside0.mk (below_step za2 hb); clear BK13001; clear BK13002; clear HB; have BK13001 := n0_; have BK13002 := n1_; have HB := n2_; clear n0_ n1_ n2_; (try clear hb); (try clear hb2); (try clear hk); (try clear hi)))
 first | go_loopg [6] k (fun kq v6 w' => ∃ (x6_1 : Int), v6 = .int .i64 x6_1 ∧ Aside0 (spec_IsModel.l0 kq t13003 x6_1 l0_0 a1_0 a1_1 a1_2 = some r) ∧ Aside0 (kq ≤ k) ∧ Aside0 (w'.heap[gb13001]? = some (.cells #[(.slice A0_0 l0_0.length c0_0)] 50 (0, 0))) ∧ Aside0 (w'.heap[gb13002]? = some (.cells #[.string a1_0, .string a1_1, .string a1_2] 39 (0, 0))) ∧ Aside0 (Below w.heap.size w w')) | (simp only [Act.put, List.setIfInBounds_toArray, List.set_cons_succ, List.set_cons_zero]; go_loopg [6] k (fun kq v6 w' => ∃ (x6_1 : Int), v6 = .int .i64 x6_1 ∧ Aside0 (spec_IsModel.l0 kq t13003 x6_1 l0_0 a1_0 a1_1 a1_2 = some r) ∧ Aside0 (kq ≤ k) ∧ Aside0 (w'.heap[gb13001]? = some (.cells #[(.slice A0_0 l0_0.length c0_0)] 50 (0, 0))) ∧ Aside0 (w'.heap[gb13002]? = some (.cells #[.string a1_0, .string a1_1, .string a1_2] 39 (0, 0))) ∧ Aside0 (Below w.heap.size w w')))
 case atStart => exact ⟨(0), za6, H', ⟨Nat.le_refl _⟩, ⟨za0 BK13001.out⟩, ⟨za0 BK13002.out⟩, ⟨za2⟩⟩
 case round =>
  clear H'
  try clear hcz7_0
  try clear hfz7_0
  obtain ⟨x6_1, rfl, HA, HK1, BK13001, BK13002, HB⟩ := hrel
  cases gk with
  | zero => exact absurd HA.out (by simp [spec_IsModel.l0])
  | succ k1 =>
  have H := HA.out
  clear HA
  simp only [spec_IsModel.l0] at H
  by_cases c9 : x6_1 < 3
  rw [if_pos c9] at H
  have c9b0 : decide (x6_1 < 3) = true := decide_eq_true c9
  clear c9
  by_cases c10 : 0 ≤ x6_1
  rw [if_pos c10] at H
  have c10b0 : decide (0 ≤ x6_1) = true := decide_eq_true c10
  clear c10
  replace H := Option.bind_eq_some_iff.mp H
  obtain ⟨t13004, A120, H⟩ := H
  replace H : (if t13004 = 0 then ((spec_ValueOf.f a1_0 a1_1 a1_2 (bt (⟨#[88, 89, 90]⟩ : ByteArray) x6_1)).bind fun t13005 => (if t13005.toList = ([] : List UInt8) then (spec_IsModel.l0 k1 t13003 (wrap64 (x6_1 + 1)) l0_0 a1_0 a1_1 a1_2) else (some false))) else (spec_IsModel.l0 k1 t13003 (wrap64 (x6_1 + 1)) l0_0 a1_0 a1_1 a1_2)) = some r := H
  have A12 := Aside0.mk A120
  clear A120
  by_cases c13 : t13004 = 0
  rw [if_pos c13] at H
  have c13b0 : (t13004 == 0) = true := beq_iff_eq.mpr c13
  have c13b1 : (t13004 != 0) = false := bne_eq_false_iff_eq.mpr c13
  clear c13
  replace H := Option.bind_eq_some_iff.mp H
  obtain ⟨t13005, A150, H⟩ := H
  replace H : (if t13005.toList = ([] : List UInt8) then (spec_IsModel.l0 k1 t13003 (wrap64 (x6_1 + 1)) l0_0 a1_0 a1_1 a1_2) else (some false)) = some r := H
  have A15 := Aside0.mk A150
  clear A150
  by_cases c16 : t13005.toList = ([] : List UInt8)
  rw [if_pos c16] at H
  have c16b0 : (t13005.toList == ([] : List UInt8)) = true := beq_iff_eq.mpr c16
  have c16b1 : (t13005.toList != ([] : List UInt8)) = false := bne_eq_false_iff_eq.mpr c16
  clear c16
  have H' := Aside0.mk H
  clear H
  have fin0_ := Aside0.mk trivial
  rotate_left
  rw [if_neg c16] at H
  have c16b0 : (t13005.toList == ([] : List UInt8)) = false := beq_eq_false_iff_ne.mpr c16
  have c16b1 : (t13005.toList != ([] : List UInt8)) = true := bne_iff_ne.mpr c16
  obtain rfl := Option.some.inj H
  have fin1_ := Aside0.mk trivial
  rotate_left
  ·rw [if_neg c13] at H
   have c13b0 : (t13004 == 0) = false := beq_eq_false_iff_ne.mpr c13
   have c13b1 : (t13004 != 0) = true := bne_iff_ne.mpr c13
   have H' := Aside0.mk H
   clear H
   try go_wp2
   have n0_ := Aside0.mk (blk_drew BK13001.out)
   have n1_ := Aside0.mk (blk_drew BK13002.out)
   have n2_ := Aside0.mk (below_drew1 HB.out)
   clear BK13001
   clear BK13002
   clear HB
   have BK13001 := n0_
   have BK13002 := n1_
   have HB := n2_
   clear n0_ n1_ n2_
   have p11 : 0 ≤ (x6_1 : Int) := of_decide_eq_true za7
   have q11 : x6_1 < (3 : Int) := of_decide_eq_true za7
   have hx11 := bt_at (⟨#[88, 89, 90]⟩ : ByteArray) x6_1
   replace p11 := eq_true p11
   replace q11 := eq_true q11
   refine start_ (n := 12) (S := fun w' => True) (ds := []) #[false, false, false, false, false, false, false, false, false, false, false, false] (by kernel_rfl) rfl rfl trivial (fun hHeld => ?_); refine with_tabW spec_IsModel.tab5 spec_IsModel.bits5 (fun HT_ HW_ => ?_)
   generalize wr.drew = w21 at BK13001 BK13002 HB hHeld ⊢
   refine pure_ (i := 0) (N := some 14) (v := ?_) (a' := ?_) #[true, false, false, false, false, false, false, false, false, false, false, false] rfl rfl (any_of HT_.out (by kernel_rfl)) (fun _ _ _ h => h) (Or.inl ⟨by rfl, ?_⟩) ?_ ?_
   rotate_left
   ·intro w'
    go_simp
    first | with_reducible rfl | (rw [if_neg (by omega)]; done) | (rw [if_neg za4]; done)
   rotate_left
   ·simp only [Act.put, List.setIfInBounds_toArray, List.set_cons_zero, List.set_cons_succ, i64_w, i32_w]
    rfl
   refine pure_ (i := 1) (N := some 15) (v := ?_) (a' := ?_) #[true, true, false, false, false, false, false, false, false, false, false, false] rfl rfl (any_of HT_.out (by kernel_rfl)) (fun _ _ _ h => h) (Or.inl ⟨by rfl, ?_⟩) ?_ ?_
   rotate_left
   ·intro w'
    go_simp
    first | with_reducible rfl | (rw [if_neg (by omega)]; done) | (rw [if_neg za4]; done)
   rotate_left
   ·simp only [Act.put, List.setIfInBounds_toArray, List.set_cons_zero, List.set_cons_succ, i64_w, i32_w]
    rfl
   refine take_ (i := 2) (N := some 16) (v := ?_) (a' := ?_) #[true, true, true, false, false, false, false, false, false, false, false, false] rfl rfl (take_ofW HT_.out HW_.out (by kernel_rfl)) (fun _ _ _ h => h) (Or.inl ⟨by rfl, ?_⟩) hHeld ?_ ?_
   rotate_left
   ·intro w' _
    go_simp
    first | with_reducible rfl | (rw [if_neg (by omega)]; done) | (rw [if_neg za4]; done)
   rotate_left
   ·simp only [Act.put, List.setIfInBounds_toArray, List.set_cons_zero, List.set_cons_succ, i64_w, i32_w]
    rfl
   refine one_ (i := 3) (N := some 17) #[true, true, true, true, false, false, false, false, false, false, false, false] rfl rfl (one_of HT_.out (by kernel_rfl)) (by decide) (fun K hK => ?_)
   refine goes_ Try.func31 (by kernel_rfl) rfl #[.string t13003, .int .u8 (bt (⟨#[88, 89, 90]⟩ : ByteArray) x6_1)] (by rfl) rfl rfl za3 ?_
   with_reducible refine (spec_CountByte.calls k1 t13003 (bt (⟨#[88, 89, 90]⟩ : ByteArray) x6_1) t13004 _ A12.out).mono ?_
   rintro e w' ⟨rfl, ⟨nd, rfl⟩⟩
   refine ⟨_, rfl, ?_⟩
   refine hK.out _ _ trivial (fun hHeld => ?_)
   clear hK K
   refine norm_ (a' := ?_) ?_ ?_
   rotate_left
   ·show Act.put _ (some 17) _ = _
    simp only [Act.put, List.setIfInBounds_toArray, List.set_cons_zero, List.set_cons_succ, i64_w, i32_w]
    rfl
   refine pure_ (i := 4) (N := some 18) (v := ?_) (a' := ?_) #[true, true, true, true, true, false, false, false, false, false, false, false] rfl rfl (any_of HT_.out (by kernel_rfl)) (fun _ _ _ h => h) (Or.inl ⟨by rfl, ?_⟩) ?_ ?_
   rotate_left
   ·intro w'
    go_simp
    first | with_reducible rfl | (rw [if_neg (by omega)]; done) | (rw [if_neg za4]; done)
   rotate_left
   ·simp only [Act.put, List.setIfInBounds_toArray, List.set_cons_zero, List.set_cons_succ, i64_w, i32_w]
    rfl
   refine pure_ (i := 5) (N := some 19) (v := ?_) (a' := ?_) #[true, true, true, true, true, true, false, false, false, false, false, false] rfl rfl (any_of HT_.out (by kernel_rfl)) (fun _ _ _ h => h) (Or.inl ⟨by rfl, ?_⟩) ?_ ?_
   rotate_left
   ·intro w'
    go_simp
    first | with_reducible rfl | (rw [if_neg (by omega)]; done) | (rw [if_neg za4]; done)
   rotate_left
   ·simp only [Act.put, List.setIfInBounds_toArray, List.set_cons_zero, List.set_cons_succ, i64_w, i32_w]
    rfl
   refine pure_ (i := 6) (N := some 20) (v := undef) (a' := ?_) #[true, true, true, true, true, true, true, false, false, false, false, false] rfl rfl (any_of HT_.out (by kernel_rfl)) (fun _ _ _ h => h) (Or.inr ⟨by rfl, rfl⟩) ?_ ?_
   rotate_left
   ·simp only [Act.put, List.setIfInBounds_toArray, List.set_cons_zero, List.set_cons_succ, i64_w, i32_w]
    rfl
   refine pure_ (i := 7) (N := some 21) (v := undef) (a' := ?_) #[true, true, true, true, true, true, true, true, false, false, false, false] rfl rfl (any_of HT_.out (by kernel_rfl)) (fun _ _ _ h => h) (Or.inr ⟨by rfl, rfl⟩) ?_ ?_
   rotate_left
   ·simp only [Act.put, List.setIfInBounds_toArray, List.set_cons_zero, List.set_cons_succ, i64_w, i32_w]
    rfl
   refine pure_ (i := 8) (N := some 22) (v := undef) (a' := ?_) #[true, true, true, true, true, true, true, true, true, false, false, false] rfl rfl (any_of HT_.out (by kernel_rfl)) (fun _ _ _ h => h) (Or.inr ⟨by rfl, rfl⟩) ?_ ?_
   rotate_left
   ·simp only [Act.put, List.setIfInBounds_toArray, List.set_cons_zero, List.set_cons_succ, i64_w, i32_w]
    rfl
   refine pure_ (i := 9) (N := some 23) (v := undef) (a' := ?_) #[true, true, true, true, true, true, true, true, true, true, false, false] rfl rfl (any_of HT_.out (by kernel_rfl)) (fun _ _ _ h => h) (Or.inr ⟨by rfl, rfl⟩) ?_ ?_
   rotate_left
   ·simp only [Act.put, List.setIfInBounds_toArray, List.set_cons_zero, List.set_cons_succ, i64_w, i32_w]
    rfl
   refine pure_ (i := 10) (N := some 24) (v := undef) (a' := ?_) #[true, true, true, true, true, true, true, true, true, true, true, false] rfl rfl (any_of HT_.out (by kernel_rfl)) (fun _ _ _ h => h) (Or.inr ⟨by rfl, rfl⟩) ?_ ?_
   rotate_left
   ·simp only [Act.put, List.setIfInBounds_toArray, List.set_cons_zero, List.set_cons_succ, i64_w, i32_w]
    rfl
   refine pure_ (i := 11) (N := some 25) (v := ?_) (a' := ?_) #[true, true, true, true, true, true, true, true, true, true, true, true] rfl rfl (any_of HT_.out (by kernel_rfl)) (fun _ _ _ h => h) (Or.inl ⟨by rfl, ?_⟩) ?_ ?_
   rotate_left
   ·intro w'
    go_simp
    first | with_reducible rfl | (rw [if_neg (by omega)]; done) | (rw [if_neg za4]; done)
   rotate_left
   ·simp only [Act.put, List.setIfInBounds_toArray, List.set_cons_zero, List.set_cons_succ, i64_w, i32_w]
    rfl
   refine done_ (done_of HT_.out (by kernel_rfl)) ?_
   try go_wp2
   go_roundg k1
   case measure => have := HK1.out; omega
   case rel => exact ⟨(wrap64 (x6_1 + 1)), za6, H', ⟨za11⟩, ⟨za0 BK13001.out⟩, ⟨za0 BK13002.out⟩, ⟨za2⟩⟩
  ·rw [if_neg c10] at H
   exact absurd H (by simp)
  ·rw [if_neg c9] at H
   have c9b0 : decide (x6_1 < 3) = false := decide_eq_false c9
   clear c9
   have H' := Aside0.mk H
   clear H
   go_wp2
   first | go_loopg [7] k1 (fun kq v7 w' => ∃ (x7_2 : Int), v7 = .int .i64 x7_2 ∧ Aside0 (spec_IsModel.l1 kq x7_2 l0_0 a1_0 a1_1 a1_2 = some r) ∧ Aside0 (kq ≤ k1) ∧ Aside0 (w'.heap[gb13001]? = some (.cells #[(.slice A0_0 l0_0.length c0_0)] 50 (0, 0))) ∧ Aside0 (w'.heap[gb13002]? = some (.cells #[.string a1_0, .string a1_1, .string a1_2] 39 (0, 0))) ∧ Aside0 (Below w.heap.size w w')) | (simp only [Act.put, List.setIfInBounds_toArray, List.set_cons_succ, List.set_cons_zero]; go_loopg [7] k1 (fun kq v7 w' => ∃ (x7_2 : Int), v7 = .int .i64 x7_2 ∧ Aside0 (spec_IsModel.l1 kq x7_2 l0_0 a1_0 a1_1 a1_2 = some r) ∧ Aside0 (kq ≤ k1) ∧ Aside0 (w'.heap[gb13001]? = some (.cells #[(.slice A0_0 l0_0.length c0_0)] 50 (0, 0))) ∧ Aside0 (w'.heap[gb13002]? = some (.cells #[.string a1_0, .string a1_1, .string a1_2] 39 (0, 0))) ∧ Aside0 (Below w.heap.size w w')))
   case atStart => exact ⟨(0), za6, H', ⟨Nat.le_refl _⟩, ⟨za0 BK13001.out⟩, ⟨za0 BK13002.out⟩, ⟨za2⟩⟩
   case round =>
    clear H'
    try clear c9
    try clear c9b0
    try clear hcz7_0
    try clear hfz7_0
    obtain ⟨x7_2, rfl, HA, HK2, BK13001, BK13002, HB⟩ := hrel
    cases gk with
    | zero => exact absurd HA.out (by simp [spec_IsModel.l1])
    | succ k2 =>
    have H := HA.out
    clear HA
    simp only [spec_IsModel.l1] at H
    by_cases c22 : x7_2 < (l0_0.length : Int)
    rw [if_pos c22] at H
    have c22b0 : decide (x7_2 < (l0_0.length : Int)) = true := decide_eq_true c22
    clear c22
    by_cases c23 : 0 ≤ x7_2
    rw [if_pos c23] at H
    have c23b0 : decide (0 ≤ x7_2) = true := decide_eq_true c23
    clear c23
    replace H := Option.bind_eq_some_iff.mp H
    obtain ⟨t13007, A240, H⟩ := H
    replace H : (if t13007 = true then (spec_IsModel.l1 k2 (wrap64 (x7_2 + 1)) l0_0 a1_0 a1_1 a1_2) else (some false)) = some r := H
    have A24 := Aside0.mk A240
    clear A240
    by_cases c25 : t13007 = true
    subst c25
    have H1 : (spec_IsModel.l1 k2 (wrap64 (x7_2 + 1)) l0_0 a1_0 a1_1 a1_2) = some r := by rw [if_pos rfl] at H; exact H
    clear H
    have H := H1
    clear H1
    have H' := Aside0.mk H
    clear H
    have tag0_ := Aside0.mk trivial
    have fin0_ := Aside0.mk trivial
    rotate_left
    replace c25 := Bool.eq_false_iff.mpr c25
    subst c25
    have H1 : (some false) = some r := by rw [if_neg (show ¬ (false = true) by decide)] at H; exact H
    clear H
    have H := H1
    clear H1
    obtain rfl := Option.some.inj H
    have tag0_ := Aside0.mk trivial
    have fin1_ := Aside0.mk trivial
    rotate_left
    ·rw [if_neg c23] at H
     exact absurd H (by simp)
    rw [if_neg c22] at H
    have c22b0 : decide (x7_2 < (l0_0.length : Int)) = false := decide_eq_false c22
    clear c22
    replace H := Option.bind_eq_some_iff.mp H
    obtain ⟨t13008, A340, H⟩ := H
    replace H : (if t13008 = true then ((spec_IsValues.f k2 a1_0 a1_1 a1_2).bind fun t13009 => (some t13009)) else (some false)) = some r := H
    have A34 := Aside0.mk A340
    clear A340
    by_cases c35 : t13008 = true
    subst c35
    have H1 : ((spec_IsValues.f k2 a1_0 a1_1 a1_2).bind fun t13009 => (some t13009)) = some r := by rw [if_pos rfl] at H; exact H
    clear H
    have H := H1
    clear H1
    replace H := Option.bind_eq_some_iff.mp H
    obtain ⟨t13009, A360, H⟩ := H
    replace H : (some t13009) = some r := H
    have A36 := Aside0.mk A360
    clear A360
    have tag1_ := Aside0.mk trivial
    rotate_left
    replace c35 := Bool.eq_false_iff.mpr c35
    subst c35
    have H1 : (some false) = some r := by rw [if_neg (show ¬ (false = true) by decide)] at H; exact H
    clear H
    have H := H1
    clear H1
    have tag1_ := Aside0.mk trivial
    rotate_left
    all_goals first
     | (
      clear tag0_
      have hnb26 := NB13001_13002.out
      have hnc26 := NB13002_13001.out
      obtain ⟨hcz27_0, hfz27_0⟩ := blk1 BK13001.out
      try go_wp2
      have n0_ := Aside0.mk (blk_drew BK13001.out)
      have n1_ := Aside0.mk (blk_drew BK13002.out)
      have n2_ := Aside0.mk (below_drew1 HB.out)
      clear BK13001
      clear BK13002
      clear HB
      have BK13001 := n0_
      have BK13002 := n1_
      have HB := n2_
      clear n0_ n1_ n2_
      have p13006 : 0 ≤ (x7_2 : Int) := of_decide_eq_true za7
      have q13006 : x7_2 < (l0_0.length : Int) := of_decide_eq_true za7
      obtain ⟨ad13006, A13006_5, c13006_5, A13006_6, c13006_6, e13006, hx13006_0, hx13006_1, hx13006_2, hx13006_3, hx13006_4, hx13006_5, hx13006_6, hx13006_7, hl13006_5, hi13006_5, hl13006_6, hi13006_6⟩ := at_T37 HR0_0.out x7_2 p13006 q13006
      have hw13006_7 := hx13006_7
      have hw13006_6 := hx13006_6
      have hw13006_5 := hx13006_5
      have hw13006_4 := hx13006_4
      have hw13006_3 := hx13006_3
      have hw13006_2 := hx13006_2
      have hw13006_1 := hx13006_1
      have hw13006_0 := hx13006_0
      cases e13006
      replace hx13006_0 := (HB.out.cell (World.block_lt_of_cell? w _ hx13006_0)).trans hx13006_0
      replace hx13006_1 := (HB.out.cell (World.block_lt_of_cell? w _ hx13006_1)).trans hx13006_1
      replace hx13006_2 := (HB.out.cell (World.block_lt_of_cell? w _ hx13006_2)).trans hx13006_2
      replace hx13006_3 := (HB.out.cell (World.block_lt_of_cell? w _ hx13006_3)).trans hx13006_3
      replace hx13006_4 := (HB.out.cell (World.block_lt_of_cell? w _ hx13006_4)).trans hx13006_4
      replace hx13006_5 := (HB.out.cell (World.block_lt_of_cell? w _ hx13006_5)).trans hx13006_5
      replace hx13006_6 := (HB.out.cell (World.block_lt_of_cell? w _ hx13006_6)).trans hx13006_6
      replace hx13006_7 := (HB.out.cell (World.block_lt_of_cell? w _ hx13006_7)).trans hx13006_7
      have HR13006_5 := Aside0.mk hi13006_5
      have HC13006_5 := Aside0.mk hl13006_5
      clear hi13006_5 hl13006_5
      have HR13006_6 := Aside0.mk hi13006_6
      have HC13006_6 := Aside0.mk hl13006_6
      clear hi13006_6 hl13006_6
      replace p13006 := eq_true p13006
      replace q13006 := eq_true q13006
      refine start_ (n := 8) (S := fun w' => w'.cell? ⟨gb13001, 0, none⟩ = some (.slice (some ad13006) l0_0.length c0_0) ∧ w'.cell? ⟨gb13002, 0, none⟩ = some (.string a1_0) ∧ w'.cell? ⟨gb13002, 1, none⟩ = some (.string a1_1) ∧ w'.cell? ⟨gb13002, 2, none⟩ = some (.string a1_2) ∧ w'.cell? (ad13006.add ((x7_2).toNat * 8)) = some (.int .i64 ((rd_T37 l0_0 x7_2).f0)) ∧ w'.cell? ⟨(ad13006.add ((x7_2).toNat * 8)).block, (ad13006.add ((x7_2).toNat * 8)).off + 1, none⟩ = some (.string ((rd_T37 l0_0 x7_2).f1)) ∧ w'.cell? ⟨(ad13006.add ((x7_2).toNat * 8)).block, (ad13006.add ((x7_2).toNat * 8)).off + 2, none⟩ = some (.string ((rd_T37 l0_0 x7_2).f2)) ∧ w'.cell? ⟨(ad13006.add ((x7_2).toNat * 8)).block, (ad13006.add ((x7_2).toNat * 8)).off + 3, none⟩ = some (.int .i64 ((rd_T37 l0_0 x7_2).f3.f0)) ∧ w'.cell? ⟨(ad13006.add ((x7_2).toNat * 8)).block, (ad13006.add ((x7_2).toNat * 8)).off + 4, none⟩ = some (.string ((rd_T37 l0_0 x7_2).f3.f1)) ∧ w'.cell? ⟨(ad13006.add ((x7_2).toNat * 8)).block, (ad13006.add ((x7_2).toNat * 8)).off + 5, none⟩ = some (.slice A13006_5 ((rd_T37 l0_0 x7_2).f3.f2).length c13006_5) ∧ w'.cell? ⟨(ad13006.add ((x7_2).toNat * 8)).block, (ad13006.add ((x7_2).toNat * 8)).off + 6, none⟩ = some (.slice A13006_6 ((rd_T37 l0_0 x7_2).f4).length c13006_6) ∧ w'.cell? ⟨(ad13006.add ((x7_2).toNat * 8)).block, (ad13006.add ((x7_2).toNat * 8)).off + 7, none⟩ = some (.int .i64 ((rd_T37 l0_0 x7_2).f5))) (ds := []) #[false, false, false, false, false, false, false, false] (by kernel_rfl) rfl rfl ⟨(blk_cell BK13001.out 0).trans rfl, (blk_cell BK13002.out 0).trans rfl, (blk_cell BK13002.out 1).trans rfl, (blk_cell BK13002.out 2).trans rfl, ((HB.out.cell (World.block_lt_of_cell? w _ hw13006_0)).trans hw13006_0), ((HB.out.cell (World.block_lt_of_cell? w _ hw13006_1)).trans hw13006_1), ((HB.out.cell (World.block_lt_of_cell? w _ hw13006_2)).trans hw13006_2), ((HB.out.cell (World.block_lt_of_cell? w _ hw13006_3)).trans hw13006_3), ((HB.out.cell (World.block_lt_of_cell? w _ hw13006_4)).trans hw13006_4), ((HB.out.cell (World.block_lt_of_cell? w _ hw13006_5)).trans hw13006_5), ((HB.out.cell (World.block_lt_of_cell? w _ hw13006_6)).trans hw13006_6), ((HB.out.cell (World.block_lt_of_cell? w _ hw13006_7)).trans hw13006_7)⟩ (fun hHeld => ?_); refine with_tabW spec_IsModel.tab10 spec_IsModel.bits10 (fun HT_ HW_ => ?_)
      generalize wr.drew = w28 at BK13001 BK13002 HB HR13006_5 HR13006_6 hx13006_0 hx13006_1 hx13006_2 hx13006_3 hx13006_4 hx13006_5 hx13006_6 hx13006_7 hHeld ⊢
      refine pure_ (i := 0) (N := some 33) (v := ?_) (a' := ?_) #[true, false, false, false, false, false, false, false] rfl rfl (any_of HT_.out (by kernel_rfl)) (fun _ _ _ h => h) (Or.inl ⟨by rfl, ?_⟩) ?_ ?_
      rotate_left
      ·intro w'
       go_simp
       first | with_reducible rfl | (rw [if_neg (by omega)]; done) | (rw [if_neg za4]; done)
      rotate_left
      ·simp only [Act.put, List.setIfInBounds_toArray, List.set_cons_zero, List.set_cons_succ, i64_w, i32_w]
       rfl
      refine pure_ (i := 2) (N := some 35) (v := ?_) (a' := ?_) #[true, false, true, false, false, false, false, false] rfl rfl (any_of HT_.out (by kernel_rfl)) (fun _ _ _ h => h) (Or.inl ⟨by rfl, ?_⟩) ?_ ?_
      rotate_left
      ·intro w'
       go_simp
       first | with_reducible rfl | (rw [if_neg (by omega)]; done) | (rw [if_neg za4]; done)
      rotate_left
      ·simp only [Act.put, List.setIfInBounds_toArray, List.set_cons_zero, List.set_cons_succ, i64_w, i32_w]
       rfl
      refine take_ (i := 1) (N := some 34) (v := ?_) (a' := ?_) #[true, true, true, false, false, false, false, false] rfl rfl (take_ofW HT_.out HW_.out (by kernel_rfl)) (fun _ _ _ h => h) (Or.inl ⟨by rfl, ?_⟩) hHeld ?_ ?_
      rotate_left
      ·rintro w' ⟨s0, s1, s2, s3, s4, s5, s6, s7, s8, s9, s10, s11⟩
       go_simp
       first | with_reducible rfl | (rw [if_neg (by omega)]; done) | (rw [if_neg za4]; done)
      rotate_left
      ·simp only [Act.put, List.setIfInBounds_toArray, List.set_cons_zero, List.set_cons_succ, i64_w, i32_w]
       rfl
      refine pure_ (i := 3) (N := some 36) (v := ?_) (a' := ?_) #[true, true, true, true, false, false, false, false] rfl rfl (any_of HT_.out (by kernel_rfl)) (fun _ _ _ h => h) (Or.inl ⟨by rfl, ?_⟩) ?_ ?_
      rotate_left
      ·intro w'
       go_simp
       first | with_reducible rfl | (rw [if_neg (by omega)]; done) | (rw [if_neg za4]; done)
      rotate_left
      ·simp only [Act.put, List.setIfInBounds_toArray, List.set_cons_zero, List.set_cons_succ, i64_w, i32_w]
       rfl
      refine take_ (i := 4) (N := some 37) (v := ?_) (a' := ?_) #[true, true, true, true, true, false, false, false] rfl rfl (take_ofW HT_.out HW_.out (by kernel_rfl)) (fun _ _ _ h => h) (Or.inl ⟨by rfl, ?_⟩) hHeld ?_ ?_
      rotate_left
      ·rintro w' ⟨s0, s1, s2, s3, s4, s5, s6, s7, s8, s9, s10, s11⟩
       go_simp
       first | with_reducible rfl | (rw [if_neg (by omega)]; done) | (rw [if_neg za4]; done)
      rotate_left
      ·simp only [Act.put, List.setIfInBounds_toArray, List.set_cons_zero, List.set_cons_succ, i64_w, i32_w]
       rfl
      refine take_ (i := 5) (N := some 38) (v := ?_) (a' := ?_) #[true, true, true, true, true, true, false, false] rfl rfl (take_ofW HT_.out HW_.out (by kernel_rfl)) (fun _ _ _ h => h) (Or.inl ⟨by rfl, ?_⟩) hHeld ?_ ?_
      rotate_left
      ·rintro w' ⟨s0, s1, s2, s3, s4, s5, s6, s7, s8, s9, s10, s11⟩
       go_simp
       first | with_reducible rfl | (rw [if_neg (by omega)]; done) | (rw [if_neg za4]; done)
      rotate_left
      ·simp only [Act.put, List.setIfInBounds_toArray, List.set_cons_zero, List.set_cons_succ, i64_w, i32_w]
       rfl
      refine one_ (i := 6) (N := some 39) #[true, true, true, true, true, true, true, false] rfl rfl (one_of HT_.out (by kernel_rfl)) (by decide) (fun K hK => ?_)
      refine goes_ Try.func7 (by kernel_rfl) rfl #[.agg #[.int .i64 ((rd_T37 l0_0 x7_2).f0), .string ((rd_T37 l0_0 x7_2).f1), .string ((rd_T37 l0_0 x7_2).f2), .int .i64 ((rd_T37 l0_0 x7_2).f3.f0), .string ((rd_T37 l0_0 x7_2).f3.f1), .slice A13006_5 ((rd_T37 l0_0 x7_2).f3.f2).length c13006_5, .slice A13006_6 ((rd_T37 l0_0 x7_2).f4).length c13006_6, .int .i64 ((rd_T37 l0_0 x7_2).f5)], .agg #[.string a1_0, .string a1_1, .string a1_2]] (by rfl) rfl rfl za3 ?_
      with_reducible refine (spec_HoldsFor.calls k2 ((rd_T37 l0_0 x7_2).f0) ((rd_T37 l0_0 x7_2).f1) ((rd_T37 l0_0 x7_2).f2) ((rd_T37 l0_0 x7_2).f3.f0) ((rd_T37 l0_0 x7_2).f3.f1) _ _ ((rd_T37 l0_0 x7_2).f3.f2) _ _ ((rd_T37 l0_0 x7_2).f4) ((rd_T37 l0_0 x7_2).f5) a1_0 a1_1 a1_2 _ _ ?side1 ?side2 ?side3 ?side4 A24.out).mono ?_
      (case side1 => repeat (first | exact (Kd.C_below HR13006_5.out HB.out) | (with_reducible refine Kd.C_alloc ?_ _) | (with_reducible refine Kd.C_drewN ?_ _) | (with_reducible refine Kd.C_drew ?_)))
      (case side2 => exact HC13006_5.out)
      (case side3 => repeat (first | exact (Kd.C_below HR13006_6.out HB.out) | (with_reducible refine Kd.C_alloc ?_ _) | (with_reducible refine Kd.C_drewN ?_ _) | (with_reducible refine Kd.C_drew ?_)))
      (case side4 => exact HC13006_6.out)
      rintro e w29 ⟨rfl, hb⟩
      refine ⟨_, rfl, ?_⟩
      have n0_ := Aside0.mk (blk_below (g := gb13001) (o := .cells #[.slice (some ad13006) l0_0.length c0_0] 50 (0, 0)) (za0 BK13001.out) hb)
      have n1_ := Aside0.mk (blk_below (g := gb13002) (o := .cells #[.string a1_0, .string a1_1, .string a1_2] 39 (0, 0)) (za0 BK13002.out) hb)
      have n2_ := Aside0.mk (below_step za2 hb)
      clear BK13001
      clear BK13002
      clear HB
      have BK13001 := n0_
      have BK13002 := n1_
      have HB := n2_
      clear n0_ n1_ n2_
      (try clear hb)
      (try clear hb2)
      (try clear hk)
      (try clear hi)
      refine hK.out _ _ ⟨(blk_cell BK13001.out 0).trans rfl, (blk_cell BK13002.out 0).trans rfl, (blk_cell BK13002.out 1).trans rfl, (blk_cell BK13002.out 2).trans rfl, ((HB.out.cell (World.block_lt_of_cell? w _ hw13006_0)).trans hw13006_0), ((HB.out.cell (World.block_lt_of_cell? w _ hw13006_1)).trans hw13006_1), ((HB.out.cell (World.block_lt_of_cell? w _ hw13006_2)).trans hw13006_2), ((HB.out.cell (World.block_lt_of_cell? w _ hw13006_3)).trans hw13006_3), ((HB.out.cell (World.block_lt_of_cell? w _ hw13006_4)).trans hw13006_4), ((HB.out.cell (World.block_lt_of_cell? w _ hw13006_5)).trans hw13006_5), ((HB.out.cell (World.block_lt_of_cell? w _ hw13006_6)).trans hw13006_6), ((HB.out.cell (World.block_lt_of_cell? w _ hw13006_7)).trans hw13006_7)⟩ (fun hHeld => ?_)
      clear hK K
      refine norm_ (a' := ?_) ?_ ?_
      rotate_left
      ·show Act.put _ (some 39) _ = _
       simp only [Act.put, List.setIfInBounds_toArray, List.set_cons_zero, List.set_cons_succ, i64_w, i32_w]
       rfl
      refine pure_ (i := 7) (N := some 40) (v := ?_) (a' := ?_) #[true, true, true, true, true, true, true, true] rfl rfl (any_of HT_.out (by kernel_rfl)) (fun _ _ _ h => h) (Or.inl ⟨by rfl, ?_⟩) ?_ ?_
      rotate_left
      ·intro w'
       go_simp
       first | with_reducible rfl | (rw [if_neg (by omega)]; done) | (rw [if_neg za4]; done)
      rotate_left
      ·simp only [Act.put, List.setIfInBounds_toArray, List.set_cons_zero, List.set_cons_succ, i64_w, i32_w]
       rfl
      refine done_ (done_of HT_.out (by kernel_rfl)) ?_
      try go_wp2
      first
      | (
        clear fin0_
        go_roundg k2
        case measure => have := HK1.out; have := HK2.out; omega
        case rel => exact ⟨(wrap64 (x7_2 + 1)), za6, H', ⟨by have := HK1.out; have := HK2.out; omega⟩, ⟨za0 BK13001.out⟩, ⟨za0 BK13002.out⟩, ⟨za2⟩⟩)
      | (
        clear fin1_
        go_ret
        exact ⟨za5, za2⟩))
     | (
      clear tag1_
      obtain rfl := Option.some.inj H
      have hnb37 := NB13001_13002.out
      have hnc37 := NB13002_13001.out
      obtain ⟨hcz38_0, hfz38_0⟩ := blk1 BK13001.out
      go_wp2_with (first | ((with_reducible refine gate_callee (f := 33) rfl ?_); refine goesL_ (some 42) rfl rfl Try.func33 (by kernel_rfl) rfl #[.agg #[.slice A0_0 l0_0.length c0_0]] rfl za3 ?_; (with_reducible refine (spec_IsValidProblem.calls k2 _ _ l0_0 _ _ ?side1 ?side2 A34.out).mono ?_); (case side1 => repeat (first | exact (Kd.C_below HR0_0.out HB.out) | (with_reducible refine Kd.C_alloc ?_ _) | (with_reducible refine Kd.C_drewN ?_ _) | (with_reducible refine Kd.C_drew ?_))); (case side2 => exact HC0_0.out); rintro e w39 ⟨rfl, hb⟩; refine ⟨_, rfl, ?_⟩; have n0_ := Aside0.mk (blk_below (g := gb13001) (o := .cells #[.slice A0_0 l0_0.length c0_0] 50 (0, 0)) (za0 BK13001.out) hb); have n1_ := Aside0.mk (blk_below (g := gb13002) (o := .cells #[.string a1_0, .string a1_1, .string a1_2] 39 (0, 0)) (za0 BK13002.out) hb); have n2_ := Aside0.mk (below_step za2 hb); clear BK13001; clear BK13002; clear HB; have BK13001 := n0_; have BK13002 := n1_; have HB := n2_; clear n0_ n1_ n2_; (try clear hb); (try clear hb2); (try clear hk); (try clear hi); obtain ⟨hcz40_0, hcz40_1, hcz40_2, hfz40_0, hfz40_1, hfz40_2⟩ := blk3 BK13002.out) | (go_at_call 20; (with_reducible refine (spec_IsValues.calls k2 a1_0 a1_1 a1_2 t13009 _ A36.out).mono ?_); rintro e w41 ⟨rfl, hb⟩; have n0_ := Aside0.mk (blk_below (g := gb13001) (o := .cells #[.slice A0_0 l0_0.length c0_0] 50 (0, 0)) (za0 BK13001.out) hb); have n1_ := Aside0.mk (blk_below (g := gb13002) (o := .cells #[.string a1_0, .string a1_1, .string a1_2] 39 (0, 0)) (za0 BK13002.out) hb); have n2_ := Aside0.mk (below_step za2 hb); clear BK13001; clear BK13002; clear HB; have BK13001 := n0_; have BK13002 := n1_; have HB := n2_; clear n0_ n1_ n2_; (try clear hb); (try clear hb2); (try clear hk); (try clear hi)))
      go_ret
      exact ⟨za5, za2⟩)
  all_goals
   try go_wp2
   have n0_ := Aside0.mk (blk_drew BK13001.out)
   have n1_ := Aside0.mk (blk_drew BK13002.out)
   have n2_ := Aside0.mk (below_drew1 HB.out)
   clear BK13001
   clear BK13002
   clear HB
   have BK13001 := n0_
   have BK13002 := n1_
   have HB := n2_
   clear n0_ n1_ n2_
   have p11 : 0 ≤ (x6_1 : Int) := of_decide_eq_true za7
   have q11 : x6_1 < (3 : Int) := of_decide_eq_true za7
   have hx11 := bt_at (⟨#[88, 89, 90]⟩ : ByteArray) x6_1
   replace p11 := eq_true p11
   replace q11 := eq_true q11
   refine start_ (n := 12) (S := fun w' => w'.cell? ⟨gb13002, 0, none⟩ = some (.string a1_0) ∧ w'.cell? ⟨gb13002, 1, none⟩ = some (.string a1_1) ∧ w'.cell? ⟨gb13002, 2, none⟩ = some (.string a1_2)) (ds := []) #[false, false, false, false, false, false, false, false, false, false, false, false] (by kernel_rfl) rfl rfl ⟨(blk_cell BK13002.out 0).trans rfl, (blk_cell BK13002.out 1).trans rfl, (blk_cell BK13002.out 2).trans rfl⟩ (fun hHeld => ?_); refine with_tabW spec_IsModel.tab5 spec_IsModel.bits5 (fun HT_ HW_ => ?_)
   generalize wr.drew = w17 at BK13001 BK13002 HB hHeld ⊢
   refine pure_ (i := 0) (N := some 14) (v := ?_) (a' := ?_) #[true, false, false, false, false, false, false, false, false, false, false, false] rfl rfl (any_of HT_.out (by kernel_rfl)) (fun _ _ _ h => h) (Or.inl ⟨by rfl, ?_⟩) ?_ ?_
   rotate_left
   ·intro w'
    go_simp
    first | with_reducible rfl | (rw [if_neg (by omega)]; done) | (rw [if_neg za4]; done)
   rotate_left
   ·simp only [Act.put, List.setIfInBounds_toArray, List.set_cons_zero, List.set_cons_succ, i64_w, i32_w]
    rfl
   refine pure_ (i := 1) (N := some 15) (v := ?_) (a' := ?_) #[true, true, false, false, false, false, false, false, false, false, false, false] rfl rfl (any_of HT_.out (by kernel_rfl)) (fun _ _ _ h => h) (Or.inl ⟨by rfl, ?_⟩) ?_ ?_
   rotate_left
   ·intro w'
    go_simp
    first | with_reducible rfl | (rw [if_neg (by omega)]; done) | (rw [if_neg za4]; done)
   rotate_left
   ·simp only [Act.put, List.setIfInBounds_toArray, List.set_cons_zero, List.set_cons_succ, i64_w, i32_w]
    rfl
   refine take_ (i := 2) (N := some 16) (v := ?_) (a' := ?_) #[true, true, true, false, false, false, false, false, false, false, false, false] rfl rfl (take_ofW HT_.out HW_.out (by kernel_rfl)) (fun _ _ _ h => h) (Or.inl ⟨by rfl, ?_⟩) hHeld ?_ ?_
   rotate_left
   ·rintro w' ⟨s0, s1, s2⟩
    go_simp
    first | with_reducible rfl | (rw [if_neg (by omega)]; done) | (rw [if_neg za4]; done)
   rotate_left
   ·simp only [Act.put, List.setIfInBounds_toArray, List.set_cons_zero, List.set_cons_succ, i64_w, i32_w]
    rfl
   refine one_ (i := 3) (N := some 17) #[true, true, true, true, false, false, false, false, false, false, false, false] rfl rfl (one_of HT_.out (by kernel_rfl)) (by decide) (fun K hK => ?_)
   refine goes_ Try.func31 (by kernel_rfl) rfl #[.string t13003, .int .u8 (bt (⟨#[88, 89, 90]⟩ : ByteArray) x6_1)] (by rfl) rfl rfl za3 ?_
   with_reducible refine (spec_CountByte.calls k1 t13003 (bt (⟨#[88, 89, 90]⟩ : ByteArray) x6_1) t13004 _ A12.out).mono ?_
   rintro e w' ⟨rfl, ⟨nd, rfl⟩⟩
   refine ⟨_, rfl, ?_⟩
   have p14 : 0 ≤ (x6_1 : Int) := of_decide_eq_true za7
   have q14 : x6_1 < (3 : Int) := of_decide_eq_true za7
   have hx14 := bt_at (⟨#[88, 89, 90]⟩ : ByteArray) x6_1
   replace p14 := eq_true p14
   replace q14 := eq_true q14
   refine hK.out _ _ ⟨(blk_cell BK13002.out 0).trans rfl, (blk_cell BK13002.out 1).trans rfl, (blk_cell BK13002.out 2).trans rfl⟩ (fun hHeld => ?_)
   clear hK K
   refine norm_ (a' := ?_) ?_ ?_
   rotate_left
   ·show Act.put _ (some 17) _ = _
    simp only [Act.put, List.setIfInBounds_toArray, List.set_cons_zero, List.set_cons_succ, i64_w, i32_w]
    rfl
   refine pure_ (i := 4) (N := some 18) (v := ?_) (a' := ?_) #[true, true, true, true, true, false, false, false, false, false, false, false] rfl rfl (any_of HT_.out (by kernel_rfl)) (fun _ _ _ h => h) (Or.inl ⟨by rfl, ?_⟩) ?_ ?_
   rotate_left
   ·intro w'
    go_simp
    first | with_reducible rfl | (rw [if_neg (by omega)]; done) | (rw [if_neg za4]; done)
   rotate_left
   ·simp only [Act.put, List.setIfInBounds_toArray, List.set_cons_zero, List.set_cons_succ, i64_w, i32_w]
    rfl
   refine pure_ (i := 5) (N := some 19) (v := ?_) (a' := ?_) #[true, true, true, true, true, true, false, false, false, false, false, false] rfl rfl (any_of HT_.out (by kernel_rfl)) (fun _ _ _ h => h) (Or.inl ⟨by rfl, ?_⟩) ?_ ?_
   rotate_left
   ·intro w'
    go_simp
    first | with_reducible rfl | (rw [if_neg (by omega)]; done) | (rw [if_neg za4]; done)
   rotate_left
   ·simp only [Act.put, List.setIfInBounds_toArray, List.set_cons_zero, List.set_cons_succ, i64_w, i32_w]
    rfl
   refine pure_ (i := 7) (N := some 21) (v := ?_) (a' := ?_) #[true, true, true, true, true, true, false, true, false, false, false, false] rfl rfl (any_of HT_.out (by kernel_rfl)) (fun _ _ _ h => h) (Or.inl ⟨by rfl, ?_⟩) ?_ ?_
   rotate_left
   ·intro w'
    go_simp
    first | with_reducible rfl | (rw [if_neg (by omega)]; done) | (rw [if_neg za4]; done)
   rotate_left
   ·simp only [Act.put, List.setIfInBounds_toArray, List.set_cons_zero, List.set_cons_succ, i64_w, i32_w]
    rfl
   refine take_ (i := 6) (N := some 20) (v := ?_) (a' := ?_) #[true, true, true, true, true, true, true, true, false, false, false, false] rfl rfl (take_ofW HT_.out HW_.out (by kernel_rfl)) (fun _ _ _ h => h) (Or.inl ⟨by rfl, ?_⟩) hHeld ?_ ?_
   rotate_left
   ·rintro w' ⟨s0, s1, s2⟩
    go_simp
    first | with_reducible rfl | (rw [if_neg (by omega)]; done) | (rw [if_neg za4]; done)
   rotate_left
   ·simp only [Act.put, List.setIfInBounds_toArray, List.set_cons_zero, List.set_cons_succ, i64_w, i32_w]
    rfl
   refine take_ (i := 8) (N := some 22) (v := ?_) (a' := ?_) #[true, true, true, true, true, true, true, true, true, false, false, false] rfl rfl (take_ofW HT_.out HW_.out (by kernel_rfl)) (fun _ _ _ h => h) (Or.inl ⟨by rfl, ?_⟩) hHeld ?_ ?_
   rotate_left
   ·rintro w' ⟨s0, s1, s2⟩
    go_simp
    first | with_reducible rfl | (rw [if_neg (by omega)]; done) | (rw [if_neg za4]; done)
   rotate_left
   ·simp only [Act.put, List.setIfInBounds_toArray, List.set_cons_zero, List.set_cons_succ, i64_w, i32_w]
    rfl
   refine one_ (i := 9) (N := some 23) #[true, true, true, true, true, true, true, true, true, true, false, false] rfl rfl (one_of HT_.out (by kernel_rfl)) (by decide) (fun K hK => ?_)
   refine goes_ Try.func32 (by kernel_rfl) rfl #[.agg #[.string a1_0, .string a1_1, .string a1_2], .int .u8 (bt (⟨#[88, 89, 90]⟩ : ByteArray) x6_1)] (by rfl) rfl rfl za3 ?_
   with_reducible refine (spec_ValueOf.calls a1_0 a1_1 a1_2 (bt (⟨#[88, 89, 90]⟩ : ByteArray) x6_1) t13005 _ A15.out).mono ?_
   rintro e w18 ⟨rfl, hb⟩
   refine ⟨_, rfl, ?_⟩
   have n0_ := Aside0.mk (blk_below (g := gb13001) (o := .cells #[.slice A0_0 l0_0.length c0_0] 50 (0, 0)) (za0 BK13001.out) hb)
   have n1_ := Aside0.mk (blk_below (g := gb13002) (o := .cells #[.string a1_0, .string a1_1, .string a1_2] 39 (0, 0)) (za0 BK13002.out) hb)
   have n2_ := Aside0.mk (below_step za2 hb)
   clear BK13001
   clear BK13002
   clear HB
   have BK13001 := n0_
   have BK13002 := n1_
   have HB := n2_
   clear n0_ n1_ n2_
   (try clear hb)
   (try clear hb2)
   (try clear hk)
   (try clear hi)
   refine hK.out _ _ ⟨(blk_cell BK13002.out 0).trans rfl, (blk_cell BK13002.out 1).trans rfl, (blk_cell BK13002.out 2).trans rfl⟩ (fun hHeld => ?_)
   clear hK K
   refine norm_ (a' := ?_) ?_ ?_
   rotate_left
   ·show Act.put _ (some 23) _ = _
    simp only [Act.put, List.setIfInBounds_toArray, List.set_cons_zero, List.set_cons_succ, i64_w, i32_w]
    rfl
   refine pure_ (i := 10) (N := some 24) (v := ?_) (a' := ?_) #[true, true, true, true, true, true, true, true, true, true, true, false] rfl rfl (any_of HT_.out (by kernel_rfl)) (fun _ _ _ h => h) (Or.inl ⟨by rfl, ?_⟩) ?_ ?_
   rotate_left
   ·intro w'
    go_simp
    first | with_reducible rfl | (rw [if_neg (by omega)]; done) | (rw [if_neg za4]; done)
   rotate_left
   ·simp only [Act.put, List.setIfInBounds_toArray, List.set_cons_zero, List.set_cons_succ, i64_w, i32_w]
    rfl
   refine pure_ (i := 11) (N := some 25) (v := ?_) (a' := ?_) #[true, true, true, true, true, true, true, true, true, true, true, true] rfl rfl (any_of HT_.out (by kernel_rfl)) (fun _ _ _ h => h) (Or.inl ⟨by rfl, ?_⟩) ?_ ?_
   rotate_left
   ·intro w'
    go_simp
    first | with_reducible rfl | (rw [if_neg (by omega)]; done) | (rw [if_neg za4]; done)
   rotate_left
   ·simp only [Act.put, List.setIfInBounds_toArray, List.set_cons_zero, List.set_cons_succ, i64_w, i32_w]
    rfl
   refine done_ (done_of HT_.out (by kernel_rfl)) ?_
   try go_wp2
   first
   | (
    clear fin0_
    go_roundg k1
    case measure => have := HK1.out; omega
    case rel => exact ⟨(wrap64 (x6_1 + 1)), za6, H', ⟨za11⟩, ⟨za0 BK13001.out⟩, ⟨za0 BK13002.out⟩, ⟨za2⟩⟩)
   | (
    clear fin1_
    go_ret
    exact ⟨za5, za2⟩)
end Go.Proofs.Ytffjfdoghofkdaa.A
namespace Go.Proofs.Ytffjfdoghofkdaa.Ext
open Go.RowKit Go.Proofs.YtffjfdoghofkdaaW.PrintWords Go.Proofs.YtffjfdoghofkdaaW.PrintLast Go.Proofs.Ytffjfdoghofkdaa.A
def idxN (p : Nat → Bool) (n : Nat) : Int := match (List.range n).find? p with | some i => (i : Int) | none => -1
def anyN (p : Nat → Bool) (n : Nat) : Bool := (List.range n).any p
theorem idxN_miss (p : Nat → Bool) (n : Nat) (h : ∀ j, j < n → p j = false) : idxN p n = -1 := by
 unfold idxN
 rw [List.find?_eq_none.2 (fun x hx => by rw [h x (List.mem_range.1 hx)]; simp)]
theorem idxN_hit (p : Nat → Bool) (n i : Nat) (hi : i < n) (h : ∀ j, j < i → p j = false) (hp : p i = true) : idxN p n = i := by
 unfold idxN
 have e : (List.range n).find? p = some i := by
  rw [List.find?_range_eq_some]
  exact ⟨hp, List.mem_range.2 hi, fun j hj => by simp [h j hj]⟩
 rw [e]
theorem anyN_idx (p : Nat → Bool) (n : Nat) : decide (0 ≤ idxN p n) = anyN p n := by
 unfold idxN anyN
 cases h : (List.range n).find? p with
 | none =>
  have : (List.range n).any p = false := by
   rw [List.any_eq_false]
   exact List.find?_eq_none.1 h
  simp [this]
 | some i =>
  have : (List.range n).any p = true := List.any_eq_true.2 ⟨i, List.mem_of_find?_eq_some h, List.find?_some h⟩
  simp [this]
end Go.Proofs.Ytffjfdoghofkdaa.Ext
namespace Go.Proofs.Ytffjfdoghofkdaa.A
open Go.RowKit Go.Proofs.Ytffjfdoghofkdaa.Ext Go.Proofs.YtffjfdoghofkdaaW.PrintWords Go.Proofs.YtffjfdoghofkdaaW.PrintLast Go.Proofs.YtffjfdoghofkdaaW.PrintMore
attribute [local go_sem] max2_int min2_int max_two min_two max_three min_three max_four min_four
def impl_LetterIndex.f (a0 : Int) : Option (Int) := (strings_IndexByte.f (⟨#[97, 98, 99]⟩ : ByteArray) a0).bind fun t77001 => (some t77001)
theorem impl_LetterIndex.calls (a0 : Int) (r : Int) (w : World) (h : impl_LetterIndex.f a0 = some r) :
  Calls Try.prog 77 #[.int .u8 a0] w fun e w' => e = .returned (.int .i64 r) ∧ Drawn0 w w' := by
 have H : ((strings_IndexByte.f (⟨#[97, 98, 99]⟩ : ByteArray) a0).bind fun t77001 => (some t77001)) = some r := h
 clear h
 replace H := Option.bind_eq_some_iff.mp H
 obtain ⟨t77001, A20, H⟩ := H
 replace H : (some t77001) = some r := H
 have A2 := Aside0.mk A20
 clear A20
 obtain rfl := Option.some.inj H
 go_enter Try.func77, Try.ntmps77
 go_wp2_with (first | ((with_reducible refine gate_callee (f := 65) rfl ?_); refine goesL_ (some 4) rfl rfl Try.func65 (by kernel_rfl) rfl #[.string (⟨#[97, 98, 99]⟩ : ByteArray), .int .u8 a0] rfl za3 ?_; (with_reducible refine (strings_IndexByte.calls (⟨#[97, 98, 99]⟩ : ByteArray) a0 t77001 _ A2.out).mono ?_); rintro e w' ⟨rfl, ⟨nd, rfl⟩⟩; refine ⟨_, rfl, ?_⟩))
 go_ret
 exact ⟨za6, za8⟩
def impl_isLetters.l0 : Nat → ByteArray → Int → Option (Bool)
 | 0, _, _ => none
 | k + 1, x0, x3 => if x3 < (x0.size : Int) then (if 0 ≤ x3 then ((impl_LetterIndex.f (bt x0 x3)).bind fun t81001 => (if t81001 < 0 then (some false) else (impl_isLetters.l0 k x0 (wrap64 (x3 + 1))))) else (none)) else (some true)
def impl_isLetters.f (k : Nat) (a0 : ByteArray) : Option (Bool) := impl_isLetters.l0 k a0 0
theorem impl_isLetters.mono_l : ∀ k, (∀ y0 y1, LeO (impl_isLetters.l0 k y0 y1) (impl_isLetters.l0 (k + 1) y0 y1))
 | 0 => fun _ _ r h => by simp [impl_isLetters.l0] at h
 | k + 1 => by
  have ih0 := impl_isLetters.mono_l k
  ·intro y0 y1
   unfold impl_isLetters.l0
   repeat' first
   | with_reducible first | exact ih0 _ _ | exact LeO.refl _ | exact LeO.none _ | refine LeO.ite ?_ ?_ | refine LeO.bind ?_ (fun _ => ?_)
theorem impl_isLetters.mono : ∀ a0 k, LeO (impl_isLetters.f k a0) (impl_isLetters.f (k + 1) a0) := by
 intro a0 k
 have ih0 := impl_isLetters.mono_l k
 unfold impl_isLetters.f
 repeat' first
   | with_reducible first | exact ih0 _ _ | exact LeO.refl _ | exact LeO.none _ | refine LeO.ite ?_ ?_ | refine LeO.bind ?_ (fun _ => ?_)
theorem impl_isLetters.calls (k : Nat) (a0 : ByteArray) (r : Bool) (w : World) (h : impl_isLetters.f k a0 = some r) :
  Calls Try.prog 81 #[.string a0] w fun e w' => e = .returned (.bool r) ∧ Drawn0 w w' := by
 have H : (impl_isLetters.l0 k a0 0) = some r := h
 clear h
 have H' := Aside0.mk H
 clear H
 go_enter Try.func81, Try.ntmps81
 go_wp2
 first | go_loopg [3] k (fun kq v3 w' => ∃ (x3_1 : Int), v3 = .int .i64 x3_1 ∧ Aside0 (impl_isLetters.l0 kq a0 x3_1 = some r) ∧ Aside0 (kq ≤ k) ∧ Drawn0 w w') | (simp only [Act.put, List.setIfInBounds_toArray, List.set_cons_succ, List.set_cons_zero]; go_loopg [3] k (fun kq v3 w' => ∃ (x3_1 : Int), v3 = .int .i64 x3_1 ∧ Aside0 (impl_isLetters.l0 kq a0 x3_1 = some r) ∧ Aside0 (kq ≤ k) ∧ Drawn0 w w'))
 case atStart => exact ⟨(0), za6, H', ⟨Nat.le_refl _⟩, za8⟩
 case round =>
  clear H'
  obtain ⟨x3_1, rfl, HA, HK1, ⟨m1, rfl⟩⟩ := hrel
  cases gk with
  | zero => exact absurd HA.out (by simp [impl_isLetters.l0])
  | succ k1 =>
  have H := HA.out
  clear HA
  simp only [impl_isLetters.l0] at H
  by_cases c2 : x3_1 < (a0.size : Int)
  rw [if_pos c2] at H
  have c2b0 : decide (x3_1 < (a0.size : Int)) = true := decide_eq_true c2
  clear c2
  by_cases c3 : 0 ≤ x3_1
  rw [if_pos c3] at H
  have c3b0 : decide (0 ≤ x3_1) = true := decide_eq_true c3
  clear c3
  replace H := Option.bind_eq_some_iff.mp H
  obtain ⟨t81001, A50, H⟩ := H
  replace H : (if t81001 < 0 then (some false) else (impl_isLetters.l0 k1 a0 (wrap64 (x3_1 + 1)))) = some r := H
  have A5 := Aside0.mk A50
  clear A50
  by_cases c6 : t81001 < 0
  rw [if_pos c6] at H
  have c6b0 : decide (t81001 < 0) = true := decide_eq_true c6
  clear c6
  obtain rfl := Option.some.inj H
  have fin0_ := Aside0.mk trivial
  rotate_left
  rw [if_neg c6] at H
  have c6b0 : decide (t81001 < 0) = false := decide_eq_false c6
  clear c6
  have H' := Aside0.mk H
  clear H
  have fin1_ := Aside0.mk trivial
  rotate_left
  ·rw [if_neg c3] at H
   exact absurd H (by simp)
  ·rw [if_neg c2] at H
   have c2b0 : decide (x3_1 < (a0.size : Int)) = false := decide_eq_false c2
   clear c2
   obtain rfl := Option.some.inj H
   go_wp2
   go_ret
   exact ⟨za6, za8⟩
  all_goals
   have p4 : 0 ≤ (x3_1 : Int) := of_decide_eq_true za7
   have q4 : x3_1 < (a0.size : Int) := of_decide_eq_true za7
   have hx4 := bt_at a0 x3_1
   replace p4 := eq_true p4
   replace q4 := eq_true q4
   go_wp2_with (((with_reducible refine gate_callee (f := 77) rfl ?_); refine goesL_ (some 13) rfl rfl Try.func77 (by kernel_rfl) rfl #[.int .u8 (bt a0 x3_1)] rfl za3 ?_; (with_reducible refine (impl_LetterIndex.calls (bt a0 x3_1) t81001 _ A5.out).mono ?_); rintro e w' ⟨rfl, ⟨nd, rfl⟩⟩; refine ⟨_, rfl, ?_⟩))
   first
   | (
    clear fin0_
    go_ret
    exact ⟨za6, za8⟩)
   | (
    clear fin1_
    go_roundg k1
    case measure => have := HK1.out; omega
    case rel => exact ⟨(wrap64 (x3_1 + 1)), za6, H', ⟨za11⟩, za8⟩)
def impl_IsWord.f (k : Nat) (a0 : ByteArray) : Option (Bool) := if (a0.size : Int) ≤ 30 then ((impl_isLetters.f k a0).bind fun t58001 => (some t58001)) else (some false)
theorem impl_IsWord.mono : ∀ a0 k, LeO (impl_IsWord.f k a0) (impl_IsWord.f (k + 1) a0) := by
 intro a0 k
 unfold impl_IsWord.f
 repeat' first
   | with_reducible first | exact impl_isLetters.mono _ _ | exact LeO.refl _ | exact LeO.none _ | refine LeO.ite ?_ ?_ | refine LeO.bind ?_ (fun _ => ?_)
theorem impl_IsWord.calls (k : Nat) (a0 : ByteArray) (r : Bool) (w : World) (h : impl_IsWord.f k a0 = some r) :
  Calls Try.prog 58 #[.string a0] w fun e w' => e = .returned (.bool r) ∧ Drawn0 w w' := by
 have H : (if (a0.size : Int) ≤ 30 then ((impl_isLetters.f k a0).bind fun t58001 => (some t58001)) else (some false)) = some r := h
 clear h
 by_cases c2 : (a0.size : Int) ≤ 30
 rw [if_pos c2] at H
 have c2b0 : decide ((a0.size : Int) ≤ 30) = true := decide_eq_true c2
 have c2b1 : decide (a0.size ≤ 30) = true := decide_eq_true (by omega)
 clear c2
 replace H := Option.bind_eq_some_iff.mp H
 obtain ⟨t58001, A30, H⟩ := H
 replace H : (some t58001) = some r := H
 have A3 := Aside0.mk A30
 clear A30
 rotate_left
 rw [if_neg c2] at H
 have c2b0 : decide ((a0.size : Int) ≤ 30) = false := decide_eq_false c2
 have c2b1 : decide (a0.size ≤ 30) = false := decide_eq_false (by omega)
 clear c2
 rotate_left
 all_goals
  obtain rfl := Option.some.inj H
  go_enter Try.func58, Try.ntmps58
  go_wp2_with ((go_at_call 81; (with_reducible refine (impl_isLetters.calls k a0 t58001 _ A3.out).mono ?_); rintro e w' ⟨rfl, ⟨nd, rfl⟩⟩))
  go_ret
  exact ⟨za6, za8⟩
end Go.Proofs.Ytffjfdoghofkdaa.A
namespace Go.Proofs.Ytffjfdoghofkdaa.A
open Go.RowKit Go.Proofs.Ytffjfdoghofkdaa.Ext Go.Proofs.YtffjfdoghofkdaaW.PrintWords Go.Proofs.YtffjfdoghofkdaaW.PrintLast Go.Proofs.YtffjfdoghofkdaaW.PrintMore
attribute [local go_sem] max2_int min2_int max_two min_two max_three min_three max_four min_four
def impl_isVariable.f (a0 : Int) : Option (Bool) := (strings_IndexByte.f (⟨#[88, 89, 90]⟩ : ByteArray) a0).bind fun t78001 => (some (decide (t78001 ≥ 0)))
theorem impl_isVariable.calls (a0 : Int) (r : Bool) (w : World) (h : impl_isVariable.f a0 = some r) :
  Calls Try.prog 78 #[.int .u8 a0] w fun e w' => e = .returned (.bool r) ∧ Drawn0 w w' := by
 have H : ((strings_IndexByte.f (⟨#[88, 89, 90]⟩ : ByteArray) a0).bind fun t78001 => (some (decide (t78001 ≥ 0)))) = some r := h
 clear h
 replace H := Option.bind_eq_some_iff.mp H
 obtain ⟨t78001, A20, H⟩ := H
 replace H : (some (decide (t78001 ≥ 0))) = some r := H
 have A2 := Aside0.mk A20
 clear A20
 obtain rfl := Option.some.inj H
 go_enter Try.func78, Try.ntmps78
 go_wp2_with (first | ((with_reducible refine gate_callee (f := 65) rfl ?_); refine goesL_ (some 4) rfl rfl Try.func65 (by kernel_rfl) rfl #[.string (⟨#[88, 89, 90]⟩ : ByteArray), .int .u8 a0] rfl za3 ?_; (with_reducible refine (strings_IndexByte.calls (⟨#[88, 89, 90]⟩ : ByteArray) a0 t78001 _ A2.out).mono ?_); rintro e w' ⟨rfl, ⟨nd, rfl⟩⟩; refine ⟨_, rfl, ?_⟩))
 go_ret
 exact ⟨za6, za8⟩
def impl_IsTerm.l0 : Nat → ByteArray → Int → Option (Bool)
 | 0, _, _ => none
 | k + 1, x0, x3 => if x3 < (x0.size : Int) then (if 0 ≤ x3 then ((impl_LetterIndex.f (bt x0 x3)).bind fun t52001 => (if t52001 < 0 then ((impl_isVariable.f (bt x0 x3)).bind fun t52002 => (if t52002 = true then (impl_IsTerm.l0 k x0 (wrap64 (x3 + 1))) else (some false))) else (impl_IsTerm.l0 k x0 (wrap64 (x3 + 1))))) else (none)) else (some true)
def impl_IsTerm.f (k : Nat) (a0 : ByteArray) : Option (Bool) := if (a0.size : Int) > 12 then (some false) else (impl_IsTerm.l0 k a0 0)
theorem impl_IsTerm.mono_l : ∀ k, (∀ y0 y1, LeO (impl_IsTerm.l0 k y0 y1) (impl_IsTerm.l0 (k + 1) y0 y1))
 | 0 => fun _ _ r h => by simp [impl_IsTerm.l0] at h
 | k + 1 => by
  have ih0 := impl_IsTerm.mono_l k
  ·intro y0 y1
   unfold impl_IsTerm.l0
   repeat' first
   | with_reducible first | exact ih0 _ _ | exact LeO.refl _ | exact LeO.none _ | refine LeO.ite ?_ ?_ | refine LeO.bind ?_ (fun _ => ?_)
theorem impl_IsTerm.mono : ∀ a0 k, LeO (impl_IsTerm.f k a0) (impl_IsTerm.f (k + 1) a0) := by
 intro a0 k
 have ih0 := impl_IsTerm.mono_l k
 unfold impl_IsTerm.f
 repeat' first
   | with_reducible first | exact ih0 _ _ | exact LeO.refl _ | exact LeO.none _ | refine LeO.ite ?_ ?_ | refine LeO.bind ?_ (fun _ => ?_)
theorem impl_IsTerm.calls (k : Nat) (a0 : ByteArray) (r : Bool) (w : World) (h : impl_IsTerm.f k a0 = some r) :
  Calls Try.prog 52 #[.string a0] w fun e w' => e = .returned (.bool r) ∧ Drawn0 w w' := by
 have H : (if (a0.size : Int) > 12 then (some false) else (impl_IsTerm.l0 k a0 0)) = some r := h
 clear h
 by_cases c2 : (a0.size : Int) > 12
 ·rw [if_pos c2] at H
  have c2b0 : decide (12 < (a0.size : Int)) = true := decide_eq_true c2
  have c2b1 : decide (12 < a0.size) = true := decide_eq_true (by omega)
  clear c2
  obtain rfl := Option.some.inj H
  go_enter Try.func52, Try.ntmps52
  go_wp2
  go_ret
  exact ⟨za6, za8⟩
 ·rw [if_neg c2] at H
  have c2b0 : decide (12 < (a0.size : Int)) = false := decide_eq_false c2
  have c2b1 : decide (12 < a0.size) = false := decide_eq_false (by omega)
  clear c2
  have H' := Aside0.mk H
  clear H
  go_enter Try.func52, Try.ntmps52
  go_wp2
  first | go_loopg [3] k (fun kq v3 w' => ∃ (x3_1 : Int), v3 = .int .i64 x3_1 ∧ Aside0 (impl_IsTerm.l0 kq a0 x3_1 = some r) ∧ Aside0 (kq ≤ k) ∧ Drawn0 w w') | (simp only [Act.put, List.setIfInBounds_toArray, List.set_cons_succ, List.set_cons_zero]; go_loopg [3] k (fun kq v3 w' => ∃ (x3_1 : Int), v3 = .int .i64 x3_1 ∧ Aside0 (impl_IsTerm.l0 kq a0 x3_1 = some r) ∧ Aside0 (kq ≤ k) ∧ Drawn0 w w'))
  case atStart => exact ⟨(0), za6, H', ⟨Nat.le_refl _⟩, za8⟩
  case round =>
   clear H'
   try clear c2
   try clear c2b0
   try clear c2b1
   obtain ⟨x3_1, rfl, HA, HK1, ⟨m1, rfl⟩⟩ := hrel
   cases gk with
   | zero => exact absurd HA.out (by simp [impl_IsTerm.l0])
   | succ k1 =>
   have H := HA.out
   clear HA
   simp only [impl_IsTerm.l0] at H
   by_cases c3 : x3_1 < (a0.size : Int)
   rw [if_pos c3] at H
   have c3b0 : decide (x3_1 < (a0.size : Int)) = true := decide_eq_true c3
   clear c3
   by_cases c4 : 0 ≤ x3_1
   rw [if_pos c4] at H
   have c4b0 : decide (0 ≤ x3_1) = true := decide_eq_true c4
   clear c4
   replace H := Option.bind_eq_some_iff.mp H
   obtain ⟨t52001, A60, H⟩ := H
   replace H : (if t52001 < 0 then ((impl_isVariable.f (bt a0 x3_1)).bind fun t52002 => (if t52002 = true then (impl_IsTerm.l0 k1 a0 (wrap64 (x3_1 + 1))) else (some false))) else (impl_IsTerm.l0 k1 a0 (wrap64 (x3_1 + 1)))) = some r := H
   have A6 := Aside0.mk A60
   clear A60
   by_cases c7 : t52001 < 0
   rw [if_pos c7] at H
   have c7b0 : decide (t52001 < 0) = true := decide_eq_true c7
   clear c7
   replace H := Option.bind_eq_some_iff.mp H
   obtain ⟨t52002, A90, H⟩ := H
   replace H : (if t52002 = true then (impl_IsTerm.l0 k1 a0 (wrap64 (x3_1 + 1))) else (some false)) = some r := H
   have A9 := Aside0.mk A90
   clear A90
   by_cases c10 : t52002 = true
   subst c10
   have H1 : (impl_IsTerm.l0 k1 a0 (wrap64 (x3_1 + 1))) = some r := by rw [if_pos rfl] at H; exact H
   clear H
   have H := H1
   clear H1
   have H' := Aside0.mk H
   clear H
   have fin0_ := Aside0.mk trivial
   rotate_left
   replace c10 := Bool.eq_false_iff.mpr c10
   subst c10
   have H1 : (some false) = some r := by rw [if_neg (show ¬ (false = true) by decide)] at H; exact H
   clear H
   have H := H1
   clear H1
   obtain rfl := Option.some.inj H
   have fin1_ := Aside0.mk trivial
   rotate_left
   ·rw [if_neg c7] at H
    have c7b0 : decide (t52001 < 0) = false := decide_eq_false c7
    clear c7
    have H' := Aside0.mk H
    clear H
    have p5 : 0 ≤ (x3_1 : Int) := of_decide_eq_true za7
    have q5 : x3_1 < (a0.size : Int) := of_decide_eq_true za7
    have hx5 := bt_at a0 x3_1
    replace p5 := eq_true p5
    replace q5 := eq_true q5
    go_wp2_with (first | ((with_reducible refine gate_callee (f := 77) rfl ?_); refine goesL_ (some 16) rfl rfl Try.func77 (by kernel_rfl) rfl #[.int .u8 (bt a0 x3_1)] rfl za3 ?_; (with_reducible refine (impl_LetterIndex.calls (bt a0 x3_1) t52001 _ A6.out).mono ?_); rintro e w' ⟨rfl, ⟨nd, rfl⟩⟩; refine ⟨_, rfl, ?_⟩))
    go_roundg k1
    case measure => have := HK1.out; omega
    case rel => exact ⟨(wrap64 (x3_1 + 1)), za6, H', ⟨za11⟩, za8⟩
   ·rw [if_neg c4] at H
    exact absurd H (by simp)
   ·rw [if_neg c3] at H
    have c3b0 : decide (x3_1 < (a0.size : Int)) = false := decide_eq_false c3
    clear c3
    obtain rfl := Option.some.inj H
    go_wp2
    go_ret
    exact ⟨za6, za8⟩
   all_goals
    have p5 : 0 ≤ (x3_1 : Int) := of_decide_eq_true za7
    have q5 : x3_1 < (a0.size : Int) := of_decide_eq_true za7
    have hx5 := bt_at a0 x3_1
    replace p5 := eq_true p5
    replace q5 := eq_true q5
    go_wp2_with (first | ((with_reducible refine gate_callee (f := 77) rfl ?_); refine goesL_ (some 16) rfl rfl Try.func77 (by kernel_rfl) rfl #[.int .u8 (bt a0 x3_1)] rfl za3 ?_; (with_reducible refine (impl_LetterIndex.calls (bt a0 x3_1) t52001 _ A6.out).mono ?_); rintro e w' ⟨rfl, ⟨nd, rfl⟩⟩; refine ⟨_, rfl, ?_⟩; have p8 : 0 ≤ (x3_1 : Int) := of_decide_eq_true za7; have q8 : x3_1 < (a0.size : Int) := of_decide_eq_true za7; have hx8 := bt_at a0 x3_1; replace p8 := eq_true p8; replace q8 := eq_true q8) | (go_at_call 78; (with_reducible refine (impl_isVariable.calls (bt a0 x3_1) _ _ A9.out).mono ?_); rintro e w' ⟨rfl, ⟨nd, rfl⟩⟩))
    first
    | (
     clear fin0_
     go_roundg k1
     case measure => have := HK1.out; omega
     case rel => exact ⟨(wrap64 (x3_1 + 1)), za6, H', ⟨za11⟩, za8⟩)
    | (
     clear fin1_
     go_ret
     exact ⟨za6, za8⟩)
def impl_IsValues.f (k : Nat) (a0_0 : ByteArray) (a0_1 : ByteArray) (a0_2 : ByteArray) : Option (Bool) := (impl_IsWord.f k a0_0).bind fun t25002 => (if t25002 = true then ((impl_IsWord.f k a0_1).bind fun t25003 => (if t25003 = true then ((impl_IsWord.f k a0_2).bind fun t25004 => (some t25004)) else (some false))) else (some false))
theorem impl_IsValues.mono : ∀ a0 a1 a2 k, LeO (impl_IsValues.f k a0 a1 a2) (impl_IsValues.f (k + 1) a0 a1 a2) := by
 intro a0 a1 a2 k
 unfold impl_IsValues.f
 repeat' first
   | with_reducible first | exact impl_IsWord.mono _ _ | exact LeO.refl _ | exact LeO.none _ | refine LeO.ite ?_ ?_ | refine LeO.bind ?_ (fun _ => ?_)
theorem impl_IsValues.calls (k : Nat) (a0_0 : ByteArray) (a0_1 : ByteArray) (a0_2 : ByteArray) (r : Bool) (w : World) (h : impl_IsValues.f k a0_0 a0_1 a0_2 = some r) :
  Calls Try.prog 25 #[.agg #[.string a0_0, .string a0_1, .string a0_2]] w fun e w' => e = .returned (.bool r) ∧ Below w.heap.size w w' := by
 have hu39 := Try.underlying39
 have HB := Aside0.mk (Below.refl w.heap.size w)
 have H : ((impl_IsWord.f k a0_0).bind fun t25002 => (if t25002 = true then ((impl_IsWord.f k a0_1).bind fun t25003 => (if t25003 = true then ((impl_IsWord.f k a0_2).bind fun t25004 => (some t25004)) else (some false))) else (some false))) = some r := h
 clear h
 replace H := Option.bind_eq_some_iff.mp H
 obtain ⟨t25002, A20, H⟩ := H
 replace H : (if t25002 = true then ((impl_IsWord.f k a0_1).bind fun t25003 => (if t25003 = true then ((impl_IsWord.f k a0_2).bind fun t25004 => (some t25004)) else (some false))) else (some false)) = some r := H
 have A2 := Aside0.mk A20
 clear A20
 by_cases c3 : t25002 = true
 subst c3
 have H1 : ((impl_IsWord.f k a0_1).bind fun t25003 => (if t25003 = true then ((impl_IsWord.f k a0_2).bind fun t25004 => (some t25004)) else (some false))) = some r := by rw [if_pos rfl] at H; exact H
 clear H
 have H := H1
 clear H1
 replace H := Option.bind_eq_some_iff.mp H
 obtain ⟨t25003, A40, H⟩ := H
 replace H : (if t25003 = true then ((impl_IsWord.f k a0_2).bind fun t25004 => (some t25004)) else (some false)) = some r := H
 have A4 := Aside0.mk A40
 clear A40
 by_cases c5 : t25003 = true
 subst c5
 have H1 : ((impl_IsWord.f k a0_2).bind fun t25004 => (some t25004)) = some r := by rw [if_pos rfl] at H; exact H
 clear H
 have H := H1
 clear H1
 replace H := Option.bind_eq_some_iff.mp H
 obtain ⟨t25004, A60, H⟩ := H
 replace H : (some t25004) = some r := H
 have A6 := Aside0.mk A60
 clear A60
 rotate_left
 replace c5 := Bool.eq_false_iff.mpr c5
 subst c5
 have H1 : (some false) = some r := by rw [if_neg (show ¬ (false = true) by decide)] at H; exact H
 clear H
 have H := H1
 clear H1
 rotate_left
 replace c3 := Bool.eq_false_iff.mpr c3
 subst c3
 have H1 : (some false) = some r := by rw [if_neg (show ¬ (false = true) by decide)] at H; exact H
 clear H
 have H := H1
 clear H1
 rotate_left
 all_goals
  obtain rfl := Option.some.inj H
  go_enter Try.func25, Try.ntmps25
  go_wp2_with (first | ((with_reducible refine gate_dst (N := 1) rfl ?_); refine box_event ?hg (N := 1) ?hd (cs := #[.string a0_0, .string a0_1, .string a0_2]) (t := 39) ?hr ?_; (case hd => rfl); (case hg => rfl); (case hr => first | (go_simp; done) | (go_simp; rfl)); intro gb25001 hg w11 hbox hb; have n0_ := Aside0.mk (below_step za2 hb); have n1_ := Aside0.mk (hbox); have n2_ := Aside0.mk ((by rw [hg]; exact (below_size za2) : w.heap.size ≤ gb25001)); have n3_ := Aside0.mk ((by rw [hg]; exact (below_size za2) : w.heap.size ≤ gb25001)); clear HB; have HB := n0_; have BK25001 := n1_; have GW25001 := n2_; have GE25001 := n3_; clear n0_ n1_ n2_ n3_; clear hb hbox hg; obtain ⟨hcz12_0, hcz12_1, hcz12_2, hfz12_0, hfz12_1, hfz12_2⟩ := blk3 BK25001.out) | ((with_reducible refine gate_callee (f := 58) rfl ?_); refine goesL_ (some 5) rfl rfl Try.func58 (by kernel_rfl) rfl #[.string a0_0] rfl za3 ?_; (with_reducible refine (impl_IsWord.calls k a0_0 _ _ A2.out).mono ?_); rintro e w' ⟨rfl, ⟨nd, rfl⟩⟩; refine ⟨_, rfl, ?_⟩) | (go_at_call 58; (with_reducible refine (impl_IsWord.calls k a0_1 _ _ A4.out).mono ?_); rintro e w' ⟨rfl, ⟨nd, rfl⟩⟩) | (go_at_call 58; (with_reducible refine (impl_IsWord.calls k a0_2 t25004 _ A6.out).mono ?_); rintro e w' ⟨rfl, ⟨nd, rfl⟩⟩))
  go_ret
  exact ⟨za5, za2⟩
def impl_WithValue.f (a0_0 : ByteArray) (a0_1 : ByteArray) (a0_2 : ByteArray) (a1 : Int) (a2 : ByteArray) : Option (ByteArray × ByteArray × ByteArray) := if a1 = 88 then (some (a2, a0_1, a0_2)) else (if a1 = 89 then (some (a0_0, a2, a0_2)) else (if a1 = 90 then (some (a0_0, a0_1, a2)) else (some (a0_0, a0_1, a0_2))))
theorem impl_WithValue.calls (a0_0 : ByteArray) (a0_1 : ByteArray) (a0_2 : ByteArray) (a1 : Int) (a2 : ByteArray) (r1 : ByteArray) (r2 : ByteArray) (r3 : ByteArray) (w : World) (h : impl_WithValue.f a0_0 a0_1 a0_2 a1 a2 = some (r1, r2, r3)) :
  Calls Try.prog 66 #[.agg #[.string a0_0, .string a0_1, .string a0_2], .int .u8 a1, .string a2] w fun e w' => e = .returned (.agg #[.string r1, .string r2, .string r3]) ∧ Below w.heap.size w w' := by
 have hu39 := Try.underlying39
 have HB := Aside0.mk (Below.refl w.heap.size w)
 have H : (if a1 = 88 then (some (a2, a0_1, a0_2)) else (if a1 = 89 then (some (a0_0, a2, a0_2)) else (if a1 = 90 then (some (a0_0, a0_1, a2)) else (some (a0_0, a0_1, a0_2))))) = some (r1, r2, r3) := h
 clear h
 by_cases c4 : a1 = 88
 rw [if_pos c4] at H
 have c4b0 : (a1 == 88) = true := beq_iff_eq.mpr c4
 have c4b1 : (a1 != 88) = false := bne_eq_false_iff_eq.mpr c4
 clear c4
 have fin3_ := Aside0.mk trivial
 rotate_left
 rw [if_neg c4] at H
 have c4b0 : (a1 == 88) = false := beq_eq_false_iff_ne.mpr c4
 have c4b1 : (a1 != 88) = true := bne_iff_ne.mpr c4
 by_cases c10 : a1 = 89
 rw [if_pos c10] at H
 have c10b0 : (a1 == 89) = true := beq_iff_eq.mpr c10
 have c10b1 : (a1 != 89) = false := bne_eq_false_iff_eq.mpr c10
 clear c10
 have fin0_ := Aside0.mk trivial
 rotate_left
 rw [if_neg c10] at H
 have c10b0 : (a1 == 89) = false := beq_eq_false_iff_ne.mpr c10
 have c10b1 : (a1 != 89) = true := bne_iff_ne.mpr c10
 by_cases c16 : a1 = 90
 rw [if_pos c16] at H
 have c16b0 : (a1 == 90) = true := beq_iff_eq.mpr c16
 have c16b1 : (a1 != 90) = false := bne_eq_false_iff_eq.mpr c16
 clear c16
 have fin1_ := Aside0.mk trivial
 rotate_left
 rw [if_neg c16] at H
 have c16b0 : (a1 == 90) = false := beq_eq_false_iff_ne.mpr c16
 have c16b1 : (a1 != 90) = true := bne_iff_ne.mpr c16
 have fin2_ := Aside0.mk trivial
 rotate_left
 all_goals
  simp only [Option.some.injEq, Prod.mk.injEq] at H
  obtain ⟨rfl, rfl, rfl⟩ := H
  go_enter Try.func66, Try.ntmps66
  go_wp2_with (first | ((with_reducible refine gate_dst (N := 3) rfl ?_); refine box_event ?hg (N := 3) ?hd (cs := #[.string a0_0, .string a0_1, .string a0_2]) (t := 39) ?hr ?_; (case hd => rfl); (case hg => rfl); (case hr => first | (go_simp; done) | (go_simp; rfl)); intro gb66001 hg w11 hbox hb; have n0_ := Aside0.mk (below_step za2 hb); have n1_ := Aside0.mk (hbox); have n2_ := Aside0.mk ((by rw [hg]; exact (below_size za2) : w.heap.size ≤ gb66001)); have n3_ := Aside0.mk ((by rw [hg]; exact (below_size za2) : w.heap.size ≤ gb66001)); clear HB; have HB := n0_; have BK66001 := n1_; have GW66001 := n2_; have GE66001 := n3_; clear n0_ n1_ n2_ n3_; clear hb hbox hg) | ((with_reducible refine gate_dst (N := 6) rfl ?_); refine box_event ?hg (N := 6) ?hd (cs := #[.string (⟨#[]⟩ : ByteArray), .string (⟨#[]⟩ : ByteArray), .string (⟨#[]⟩ : ByteArray)]) (t := 39) ?hr ?_; (case hd => rfl); (case hg => rfl); (case hr => first | (go_simp; done) | (go_simp; rfl)); intro gb66002 hg w12 hbox hb; have n0_ := Aside0.mk (blk_below (g := gb66001) (o := .cells #[.string a0_0, .string a0_1, .string a0_2] 39 (0, 0)) (za0 BK66001.out) hb); have n1_ := Aside0.mk (below_step za2 hb); have n2_ := Aside0.mk (hbox); have n3_ := Aside0.mk ((by rw [hg]; exact (below_size za2) : w.heap.size ≤ gb66002)); have n4_ := Aside0.mk ((by rw [hg]; exact (below_size za2) : w.heap.size ≤ gb66002)); have n5_ := Aside0.mk ((by rw [hg]; exact Nat.ne_of_lt (blk_lt (g := gb66001) (o := .cells #[.string a0_0, .string a0_1, .string a0_2] 39 (0, 0)) (za0 BK66001.out)) : gb66001 ≠ gb66002)); have n6_ := Aside0.mk ((by rw [hg]; exact Nat.ne_of_gt (blk_lt (g := gb66001) (o := .cells #[.string a0_0, .string a0_1, .string a0_2] 39 (0, 0)) (za0 BK66001.out)) : gb66002 ≠ gb66001)); clear BK66001; clear HB; have BK66001 := n0_; have HB := n1_; have BK66002 := n2_; have GW66002 := n3_; have GE66002 := n4_; have NB66001_66002 := n5_; have NB66002_66001 := n6_; clear n0_ n1_ n2_ n3_ n4_ n5_ n6_; clear hb hbox hg; have hnb13 := NB66001_66002.out; have hnc13 := NB66002_66001.out; obtain ⟨hcz14_0, hcz14_1, hcz14_2, hfz14_0, hfz14_1, hfz14_2⟩ := blk3 BK66001.out; obtain ⟨hcz15_0, hcz15_1, hcz15_2, hfz15_0, hfz15_1, hfz15_2⟩ := blk3 BK66002.out))
  first
  | (
   clear fin0_
   refine bodyPost_ret (results_cell_row rfl _ _ gb66002 39 #[.string a0_0, .string a2, .string a0_2] (0, 0) _ rfl (by (with_reducible repeat (first | refine blk_drewN ?_ _ | refine blk_drew ?_ | refine blk_alloc ?_ _)); refine blk_put (cs := #[.string a0_0, .string a2, .string (⟨#[]⟩ : ByteArray)]) ?_ 2 _ rfl; (with_reducible repeat (first | refine blk_drewN ?_ _ | refine blk_drew ?_ | refine blk_alloc ?_ _)); refine blk_put (cs := #[.string a0_0, .string (⟨#[]⟩ : ByteArray), .string (⟨#[]⟩ : ByteArray)]) ?_ 1 _ rfl; (with_reducible repeat (first | refine blk_drewN ?_ _ | refine blk_drew ?_ | refine blk_alloc ?_ _)); refine blk_put (cs := #[.string (⟨#[]⟩ : ByteArray), .string (⟨#[]⟩ : ByteArray), .string (⟨#[]⟩ : ByteArray)]) ?_ 0 _ rfl; (with_reducible repeat (first | refine blk_drewN ?_ _ | refine blk_drew ?_ | refine blk_alloc ?_ _)); refine blk_far ?_ NB66002_66001.out _; (with_reducible repeat (first | refine blk_drewN ?_ _ | refine blk_drew ?_ | refine blk_alloc ?_ _)); exact BK66002.out) Try.underlying39 rfl (by kernel_rfl)) rfl ?_
   exact ⟨za5, za2⟩)
  | (
   clear fin1_
   refine bodyPost_ret (results_cell_row rfl _ _ gb66002 39 #[.string a0_0, .string a0_1, .string a2] (0, 0) _ rfl (by (with_reducible repeat (first | refine blk_drewN ?_ _ | refine blk_drew ?_ | refine blk_alloc ?_ _)); refine blk_put (cs := #[.string a0_0, .string a0_1, .string (⟨#[]⟩ : ByteArray)]) ?_ 2 _ rfl; (with_reducible repeat (first | refine blk_drewN ?_ _ | refine blk_drew ?_ | refine blk_alloc ?_ _)); refine blk_put (cs := #[.string a0_0, .string (⟨#[]⟩ : ByteArray), .string (⟨#[]⟩ : ByteArray)]) ?_ 1 _ rfl; (with_reducible repeat (first | refine blk_drewN ?_ _ | refine blk_drew ?_ | refine blk_alloc ?_ _)); refine blk_put (cs := #[.string (⟨#[]⟩ : ByteArray), .string (⟨#[]⟩ : ByteArray), .string (⟨#[]⟩ : ByteArray)]) ?_ 0 _ rfl; (with_reducible repeat (first | refine blk_drewN ?_ _ | refine blk_drew ?_ | refine blk_alloc ?_ _)); refine blk_far ?_ NB66002_66001.out _; (with_reducible repeat (first | refine blk_drewN ?_ _ | refine blk_drew ?_ | refine blk_alloc ?_ _)); exact BK66002.out) Try.underlying39 rfl (by kernel_rfl)) rfl ?_
   exact ⟨za5, za2⟩)
  | (
   clear fin2_
   refine bodyPost_ret (results_cell_row rfl _ _ gb66002 39 #[.string a0_0, .string a0_1, .string a0_2] (0, 0) _ rfl (by (with_reducible repeat (first | refine blk_drewN ?_ _ | refine blk_drew ?_ | refine blk_alloc ?_ _)); refine blk_put (cs := #[.string a0_0, .string a0_1, .string (⟨#[]⟩ : ByteArray)]) ?_ 2 _ rfl; (with_reducible repeat (first | refine blk_drewN ?_ _ | refine blk_drew ?_ | refine blk_alloc ?_ _)); refine blk_put (cs := #[.string a0_0, .string (⟨#[]⟩ : ByteArray), .string (⟨#[]⟩ : ByteArray)]) ?_ 1 _ rfl; (with_reducible repeat (first | refine blk_drewN ?_ _ | refine blk_drew ?_ | refine blk_alloc ?_ _)); refine blk_put (cs := #[.string (⟨#[]⟩ : ByteArray), .string (⟨#[]⟩ : ByteArray), .string (⟨#[]⟩ : ByteArray)]) ?_ 0 _ rfl; (with_reducible repeat (first | refine blk_drewN ?_ _ | refine blk_drew ?_ | refine blk_alloc ?_ _)); exact BK66002.out) Try.underlying39 rfl (by kernel_rfl)) rfl ?_
   exact ⟨za5, za2⟩)
  | (
   clear fin3_
   refine bodyPost_ret (results_cell_row rfl _ _ gb66002 39 #[.string a2, .string a0_1, .string a0_2] (0, 0) _ rfl (by (with_reducible repeat (first | refine blk_drewN ?_ _ | refine blk_drew ?_ | refine blk_alloc ?_ _)); refine blk_put (cs := #[.string a2, .string a0_1, .string (⟨#[]⟩ : ByteArray)]) ?_ 2 _ rfl; (with_reducible repeat (first | refine blk_drewN ?_ _ | refine blk_drew ?_ | refine blk_alloc ?_ _)); refine blk_put (cs := #[.string a2, .string (⟨#[]⟩ : ByteArray), .string (⟨#[]⟩ : ByteArray)]) ?_ 1 _ rfl; (with_reducible repeat (first | refine blk_drewN ?_ _ | refine blk_drew ?_ | refine blk_alloc ?_ _)); refine blk_put (cs := #[.string (⟨#[]⟩ : ByteArray), .string (⟨#[]⟩ : ByteArray), .string (⟨#[]⟩ : ByteArray)]) ?_ 0 _ rfl; (with_reducible repeat (first | refine blk_drewN ?_ _ | refine blk_drew ?_ | refine blk_alloc ?_ _)); refine blk_far ?_ NB66002_66001.out _; (with_reducible repeat (first | refine blk_drewN ?_ _ | refine blk_drew ?_ | refine blk_alloc ?_ _)); exact BK66002.out) Try.underlying39 rfl (by kernel_rfl)) rfl ?_
   exact ⟨za5, za2⟩)
def impl_VarsOf.l0 : Nat → ByteArray → ByteArray → Int → Option (ByteArray)
 | 0, _, _, _ => none
 | k + 1, x0, x3, x5 => if x5 < 3 then (if 0 ≤ x5 then ((strings_IndexByte.f x0 (bt (⟨#[88, 89, 90]⟩ : ByteArray) x5)).bind fun t68001 => (if t68001 ≥ 0 then (if x5 ≤ (wrap64 (x5 + 1)) then (if (wrap64 (x5 + 1)) ≤ 3 then (if x3.size + ((⟨#[88, 89, 90]⟩ : ByteArray).extract (x5 : Int).toNat ((wrap64 (x5 + 1)) : Int).toNat).size ≤ 9223372036854775807 then (impl_VarsOf.l0 k x0 (x3 ++ ((⟨#[88, 89, 90]⟩ : ByteArray).extract (x5 : Int).toNat ((wrap64 (x5 + 1)) : Int).toNat)) (wrap64 (x5 + 1))) else (none)) else (none)) else (none)) else (impl_VarsOf.l0 k x0 x3 (wrap64 (x5 + 1))))) else (none)) else (some x3)
def impl_VarsOf.f (k : Nat) (a0 : ByteArray) : Option (ByteArray) := impl_VarsOf.l0 k a0 (⟨#[]⟩ : ByteArray) 0
theorem impl_VarsOf.mono_l : ∀ k, (∀ y0 y1 y2, LeO (impl_VarsOf.l0 k y0 y1 y2) (impl_VarsOf.l0 (k + 1) y0 y1 y2))
 | 0 => fun _ _ _ r h => by simp [impl_VarsOf.l0] at h
 | k + 1 => by
  have ih0 := impl_VarsOf.mono_l k
  ·intro y0 y1 y2
   unfold impl_VarsOf.l0
   repeat' first
   | with_reducible first | exact ih0 _ _ _ | exact LeO.refl _ | exact LeO.none _ | refine LeO.ite ?_ ?_ | refine LeO.bind ?_ (fun _ => ?_)
theorem impl_VarsOf.mono : ∀ a0 k, LeO (impl_VarsOf.f k a0) (impl_VarsOf.f (k + 1) a0) := by
 intro a0 k
 have ih0 := impl_VarsOf.mono_l k
 unfold impl_VarsOf.f
 repeat' first
   | with_reducible first | exact ih0 _ _ _ | exact LeO.refl _ | exact LeO.none _ | refine LeO.ite ?_ ?_ | refine LeO.bind ?_ (fun _ => ?_)
theorem impl_VarsOf.calls (k : Nat) (a0 : ByteArray) (r : ByteArray) (w : World) (h : impl_VarsOf.f k a0 = some r) :
  Calls Try.prog 68 #[.string a0] w fun e w' => e = .returned (.string r) ∧ Drawn0 w w' := by
 have H : (impl_VarsOf.l0 k a0 (⟨#[]⟩ : ByteArray) 0) = some r := h
 clear h
 have H' := Aside0.mk H
 clear H
 go_enter Try.func68, Try.ntmps68
 go_wp2
 first | go_loopg [3, 5] k (fun kq v3 v5 w' => ∃ (x3_1 : ByteArray) (x5_1 : Int), v3 = .string x3_1 ∧ v5 = .int .i64 x5_1 ∧ Aside0 (impl_VarsOf.l0 kq a0 x3_1 x5_1 = some r) ∧ Aside0 (kq ≤ k) ∧ Drawn0 w w') | (simp only [Act.put, List.setIfInBounds_toArray, List.set_cons_succ, List.set_cons_zero]; go_loopg [3, 5] k (fun kq v3 v5 w' => ∃ (x3_1 : ByteArray) (x5_1 : Int), v3 = .string x3_1 ∧ v5 = .int .i64 x5_1 ∧ Aside0 (impl_VarsOf.l0 kq a0 x3_1 x5_1 = some r) ∧ Aside0 (kq ≤ k) ∧ Drawn0 w w'))
 case atStart => exact ⟨((⟨#[]⟩ : ByteArray)), (0), za6, za6, H', ⟨Nat.le_refl _⟩, za8⟩
 case round =>
  clear H'
  obtain ⟨x3_1, x5_1, rfl, rfl, HA, HK1, ⟨m1, rfl⟩⟩ := hrel
  cases gk with
  | zero => exact absurd HA.out (by simp [impl_VarsOf.l0])
  | succ k1 =>
  have H := HA.out
  clear HA
  simp only [impl_VarsOf.l0] at H
  by_cases c2 : x5_1 < 3
  rw [if_pos c2] at H
  have c2b0 : decide (x5_1 < 3) = true := decide_eq_true c2
  clear c2
  by_cases c3 : 0 ≤ x5_1
  rw [if_pos c3] at H
  have c3b0 : decide (0 ≤ x5_1) = true := decide_eq_true c3
  clear c3
  replace H := Option.bind_eq_some_iff.mp H
  obtain ⟨t68001, A50, H⟩ := H
  replace H : (if t68001 ≥ 0 then (if x5_1 ≤ (wrap64 (x5_1 + 1)) then (if (wrap64 (x5_1 + 1)) ≤ 3 then (if x3_1.size + ((⟨#[88, 89, 90]⟩ : ByteArray).extract (x5_1 : Int).toNat ((wrap64 (x5_1 + 1)) : Int).toNat).size ≤ 9223372036854775807 then (impl_VarsOf.l0 k1 a0 (x3_1 ++ ((⟨#[88, 89, 90]⟩ : ByteArray).extract (x5_1 : Int).toNat ((wrap64 (x5_1 + 1)) : Int).toNat)) (wrap64 (x5_1 + 1))) else (none)) else (none)) else (none)) else (impl_VarsOf.l0 k1 a0 x3_1 (wrap64 (x5_1 + 1)))) = some r := H
  have A5 := Aside0.mk A50
  clear A50
  by_cases c6 : t68001 ≥ 0
  rw [if_pos c6] at H
  have c6b0 : decide (0 ≤ t68001) = true := decide_eq_true c6
  clear c6
  have c7b0 := eq_true (of_decide_eq_true za7 : 0 ≤ x5_1)
  by_cases c8 : x5_1 ≤ (wrap64 (x5_1 + 1))
  rw [if_pos c8] at H
  have c8b0 := eq_true c8
  have c8b1 : decide (x5_1 ≤ (wrap64 (x5_1 + 1))) = true := decide_eq_true c8
  by_cases c9 : (wrap64 (x5_1 + 1)) ≤ 3
  rw [if_pos c9] at H
  have c9b0 := eq_true c9
  have c9b1 : decide ((wrap64 (x5_1 + 1)) ≤ 3) = true := decide_eq_true c9
  by_cases c10 : x3_1.size + ((⟨#[88, 89, 90]⟩ : ByteArray).extract (x5_1 : Int).toNat ((wrap64 (x5_1 + 1)) : Int).toNat).size ≤ 9223372036854775807
  rw [if_pos c10] at H
  have c10z := c10
  try simp at c10z
  try replace c10z := eq_false (Nat.not_lt.2 c10z)
  have c10b0 := eq_true c10
  have c10b1 : decide (x3_1.size + ((⟨#[88, 89, 90]⟩ : ByteArray).extract (x5_1 : Int).toNat ((wrap64 (x5_1 + 1)) : Int).toNat).size ≤ 9223372036854775807) = true := decide_eq_true c10
  try have c10b2 : (9223372036854775807 < x3_1.size + ((⟨#[88, 89, 90]⟩ : ByteArray).extract (x5_1 : Int).toNat ((wrap64 (x5_1 + 1)) : Int).toNat).size) = False := eq_false (Nat.not_lt.2 c10)
  have fin0_ := Aside0.mk trivial
  rotate_left
  ·rw [if_neg c10] at H
   exact absurd H (by simp)
  ·rw [if_neg c9] at H
   exact absurd H (by simp)
  ·rw [if_neg c8] at H
   exact absurd H (by simp)
  rw [if_neg c6] at H
  have c6b0 : decide (0 ≤ t68001) = false := decide_eq_false c6
  clear c6
  have fin1_ := Aside0.mk trivial
  rotate_left
  ·rw [if_neg c3] at H
   exact absurd H (by simp)
  ·rw [if_neg c2] at H
   have c2b0 : decide (x5_1 < 3) = false := decide_eq_false c2
   clear c2
   obtain rfl := Option.some.inj H
   go_wp2
   go_ret
   exact ⟨za6, za8⟩
  all_goals
   have H' := Aside0.mk H
   clear H
   have p4 : 0 ≤ (x5_1 : Int) := of_decide_eq_true za7
   have q4 : x5_1 < (3 : Int) := of_decide_eq_true za7
   have hx4 := bt_at (⟨#[88, 89, 90]⟩ : ByteArray) x5_1
   replace p4 := eq_true p4
   replace q4 := eq_true q4
   go_wp2_with (((with_reducible refine gate_callee (f := 65) rfl ?_); refine goesL_ (some 11) rfl rfl Try.func65 (by kernel_rfl) rfl #[.string a0, .int .u8 (bt (⟨#[88, 89, 90]⟩ : ByteArray) x5_1)] rfl za3 ?_; (with_reducible refine (strings_IndexByte.calls a0 (bt (⟨#[88, 89, 90]⟩ : ByteArray) x5_1) t68001 _ A5.out).mono ?_); rintro e w' ⟨rfl, ⟨nd, rfl⟩⟩; refine ⟨_, rfl, ?_⟩))
   first
   | (
    clear fin0_
    go_roundg k1
    case measure => have := HK1.out; omega
    case rel => exact ⟨(x3_1 ++ ((⟨#[88, 89, 90]⟩ : ByteArray).extract (x5_1 : Int).toNat ((wrap64 (x5_1 + 1)) : Int).toNat)), (wrap64 (x5_1 + 1)), za6, za6, H', ⟨za11⟩, za8⟩)
   | (
    clear fin1_
    go_roundg k1
    case measure => have := HK1.out; omega
    case rel => exact ⟨(x3_1), (wrap64 (x5_1 + 1)), za6, za6, H', ⟨za11⟩, za8⟩)
def impl_ValueOf.f (a0_0 : ByteArray) (a0_1 : ByteArray) (a0_2 : ByteArray) (a1 : Int) : Option (ByteArray) := if a1 = 88 then (some a0_0) else (if a1 = 89 then (some a0_1) else (if a1 = 90 then (some a0_2) else (some (⟨#[]⟩ : ByteArray))))
theorem impl_ValueOf.calls (a0_0 : ByteArray) (a0_1 : ByteArray) (a0_2 : ByteArray) (a1 : Int) (r : ByteArray) (w : World) (h : impl_ValueOf.f a0_0 a0_1 a0_2 a1 = some r) :
  Calls Try.prog 84 #[.agg #[.string a0_0, .string a0_1, .string a0_2], .int .u8 a1] w fun e w' => e = .returned (.string r) ∧ Below w.heap.size w w' := by
 have hu39 := Try.underlying39
 have HB := Aside0.mk (Below.refl w.heap.size w)
 have H : (if a1 = 88 then (some a0_0) else (if a1 = 89 then (some a0_1) else (if a1 = 90 then (some a0_2) else (some (⟨#[]⟩ : ByteArray))))) = some r := h
 clear h
 by_cases c3 : a1 = 88
 rw [if_pos c3] at H
 have c3b0 : (a1 == 88) = true := beq_iff_eq.mpr c3
 have c3b1 : (a1 != 88) = false := bne_eq_false_iff_eq.mpr c3
 clear c3
 rotate_left
 rw [if_neg c3] at H
 have c3b0 : (a1 == 88) = false := beq_eq_false_iff_ne.mpr c3
 have c3b1 : (a1 != 88) = true := bne_iff_ne.mpr c3
 by_cases c6 : a1 = 89
 rw [if_pos c6] at H
 have c6b0 : (a1 == 89) = true := beq_iff_eq.mpr c6
 have c6b1 : (a1 != 89) = false := bne_eq_false_iff_eq.mpr c6
 clear c6
 rotate_left
 rw [if_neg c6] at H
 have c6b0 : (a1 == 89) = false := beq_eq_false_iff_ne.mpr c6
 have c6b1 : (a1 != 89) = true := bne_iff_ne.mpr c6
 by_cases c9 : a1 = 90
 rw [if_pos c9] at H
 have c9b0 : (a1 == 90) = true := beq_iff_eq.mpr c9
 have c9b1 : (a1 != 90) = false := bne_eq_false_iff_eq.mpr c9
 clear c9
 rotate_left
 rw [if_neg c9] at H
 have c9b0 : (a1 == 90) = false := beq_eq_false_iff_ne.mpr c9
 have c9b1 : (a1 != 90) = true := bne_iff_ne.mpr c9
 rotate_left
 all_goals
  obtain rfl := Option.some.inj H
  go_enter Try.func84, Try.ntmps84
  go_wp2_with (((with_reducible refine gate_dst (N := 2) rfl ?_); refine box_event ?hg (N := 2) ?hd (cs := #[.string a0_0, .string a0_1, .string a0_2]) (t := 39) ?hr ?_; (case hd => rfl); (case hg => rfl); (case hr => first | (go_simp; done) | (go_simp; rfl)); intro gb84001 hg w10 hbox hb; have n0_ := Aside0.mk (below_step za2 hb); have n1_ := Aside0.mk (hbox); have n2_ := Aside0.mk ((by rw [hg]; exact (below_size za2) : w.heap.size ≤ gb84001)); have n3_ := Aside0.mk ((by rw [hg]; exact (below_size za2) : w.heap.size ≤ gb84001)); clear HB; have HB := n0_; have BK84001 := n1_; have GW84001 := n2_; have GE84001 := n3_; clear n0_ n1_ n2_ n3_; clear hb hbox hg; obtain ⟨hcz11_0, hcz11_1, hcz11_2, hfz11_0, hfz11_1, hfz11_2⟩ := blk3 BK84001.out))
  go_ret
  exact ⟨za5, za2⟩
end Go.Proofs.Ytffjfdoghofkdaa.A
namespace Go.Proofs.Ytffjfdoghofkdaa.A
open Go.RowKit Go.Proofs.Ytffjfdoghofkdaa.Ext Go.Proofs.YtffjfdoghofkdaaW.PrintWords Go.Proofs.YtffjfdoghofkdaaW.PrintLast Go.Proofs.YtffjfdoghofkdaaW.PrintMore
attribute [local go_sem] max2_int min2_int max_two min_two max_three min_three max_four min_four
def impl_isZeroRegex.f (a0_0 : Int) (a0_1 : ByteArray) (l0_2 : List (S35)) : Option (Bool) := if a0_0 = 0 then (if a0_1.toList = ([] : List UInt8) then (some ((l0_2.length : Int) == 0)) else (some false)) else (some false)
theorem impl_isZeroRegex.calls (a0_0 : Int) (a0_1 : ByteArray) (A0_2 : Option Addr) (c0_2 : Nat) (l0_2 : List (S35)) (r : Bool) (w : World) (hr0_2 : Kd.C k35 w A0_2 l0_2.length l0_2) (hc0_2 : l0_2.length ≤ c0_2) (h : impl_isZeroRegex.f a0_0 a0_1 l0_2 = some r) :
  Calls Try.prog 53 #[.agg #[.int .i64 a0_0, .string a0_1, .slice A0_2 l0_2.length c0_2]] w fun e w' => e = .returned (.bool r) ∧ Below w.heap.size w w' := by
 have hu35 := Try.underlying35
 have HR0_2 := Aside0.mk hr0_2
 have HC0_2 := Aside0.mk hc0_2
 clear hr0_2 hc0_2
 have HB := Aside0.mk (Below.refl w.heap.size w)
 have H : (if a0_0 = 0 then (if a0_1.toList = ([] : List UInt8) then (some ((l0_2.length : Int) == 0)) else (some false)) else (some false)) = some r := h
 clear h
 by_cases c2 : a0_0 = 0
 rw [if_pos c2] at H
 have c2b0 : (a0_0 == 0) = true := beq_iff_eq.mpr c2
 have c2b1 : (a0_0 != 0) = false := bne_eq_false_iff_eq.mpr c2
 clear c2
 by_cases c3 : a0_1.toList = ([] : List UInt8)
 rw [if_pos c3] at H
 have c3b0 : (a0_1.toList == ([] : List UInt8)) = true := beq_iff_eq.mpr c3
 have c3b1 : (a0_1.toList != ([] : List UInt8)) = false := bne_eq_false_iff_eq.mpr c3
 clear c3
 rotate_left
 rw [if_neg c3] at H
 have c3b0 : (a0_1.toList == ([] : List UInt8)) = false := beq_eq_false_iff_ne.mpr c3
 have c3b1 : (a0_1.toList != ([] : List UInt8)) = true := bne_iff_ne.mpr c3
 rotate_left
 rw [if_neg c2] at H
 have c2b0 : (a0_0 == 0) = false := beq_eq_false_iff_ne.mpr c2
 have c2b1 : (a0_0 != 0) = true := bne_iff_ne.mpr c2
 rotate_left
 all_goals
  obtain rfl := Option.some.inj H
  go_enter Try.func53, Try.ntmps53
  go_wp2_with (((with_reducible refine gate_dst (N := 1) rfl ?_); (try (refine gate_guard (by rfl) ?_; dsimp only)); refine box_event ?hg (N := 1) ?hd (cs := #[.int .i64 a0_0, .string a0_1, .slice A0_2 l0_2.length c0_2]) (t := 35) ?hr ?_; (case hd => rfl); (case hg => rfl); (case hr => first | (go_simp; done) | (go_simp; rfl)); intro gb53001 hg w4 hbox hb; have n0_ := Aside0.mk (below_step za2 hb); have n1_ := Aside0.mk (hbox); have n2_ := Aside0.mk ((by rw [hg]; exact (below_size za2) : w.heap.size ≤ gb53001)); have n3_ := Aside0.mk ((by rw [hg]; exact (below_size za2) : w.heap.size ≤ gb53001)); clear HB; have HB := n0_; have BK53001 := n1_; have GW53001 := n2_; have GE53001 := n3_; clear n0_ n1_ n2_ n3_; clear hb hbox hg; obtain ⟨hcz5_0, hcz5_1, hcz5_2, hfz5_0, hfz5_1, hfz5_2⟩ := blk3 BK53001.out))
  go_ret
  exact ⟨za5, za2⟩
mutual
def impl_argsOf.j0 : Nat → Int → Bool → Option (Int)
 | 0, _, _ => none
 | k + 1, x3, x4 => if x4 = true then (some 0) else (if x3 = 8 then (impl_argsOf.j1 k x3 (x3 == 8)) else (impl_argsOf.j1 k x3 (x3 == 9)))
def impl_argsOf.j1 : Nat → Int → Bool → Option (Int)
 | 0, _, _ => none
 | k + 1, x3, x9 => if x9 = true then (some 1) else (if x3 = 5 then (some 2) else (if x3 = 6 then (some 2) else (if x3 = 7 then (some 2) else (some (-1)))))
end
def impl_argsOf.f (k : Nat) (a0 : Int) : Option (Int) := if a0 = 1 then (impl_argsOf.j0 k a0 (a0 == 1)) else (if a0 = 2 then (impl_argsOf.j0 k a0 (a0 == 2)) else (if a0 = 3 then (impl_argsOf.j0 k a0 (a0 == 3)) else (impl_argsOf.j0 k a0 (a0 == 4))))
theorem impl_argsOf.mono_l : ∀ k, (∀ y0 y1, LeO (impl_argsOf.j0 k y0 y1) (impl_argsOf.j0 (k + 1) y0 y1)) ∧ (∀ y0 y1, LeO (impl_argsOf.j1 k y0 y1) (impl_argsOf.j1 (k + 1) y0 y1))
 | 0 => ⟨fun _ _ r h => by simp [impl_argsOf.j0] at h, fun _ _ r h => by simp [impl_argsOf.j1] at h⟩
 | k + 1 => by
  obtain ⟨ih0, ih1⟩ := impl_argsOf.mono_l k
  refine ⟨?_, ?_⟩
  ·intro y0 y1
   unfold impl_argsOf.j0
   repeat' first
   | with_reducible first | exact ih0 _ _ | exact ih1 _ _ | exact LeO.refl _ | exact LeO.none _ | refine LeO.ite ?_ ?_ | refine LeO.bind ?_ (fun _ => ?_)
  ·intro y0 y1
   unfold impl_argsOf.j1
   repeat' first
   | with_reducible first | exact ih0 _ _ | exact ih1 _ _ | exact LeO.refl _ | exact LeO.none _ | refine LeO.ite ?_ ?_ | refine LeO.bind ?_ (fun _ => ?_)
theorem impl_argsOf.mono : ∀ a0 k, LeO (impl_argsOf.f k a0) (impl_argsOf.f (k + 1) a0) := by
 intro a0 k
 obtain ⟨ih0, ih1⟩ := impl_argsOf.mono_l k
 unfold impl_argsOf.f
 repeat' first
   | with_reducible first | exact ih0 _ _ | exact ih1 _ _ | exact LeO.refl _ | exact LeO.none _ | refine LeO.ite ?_ ?_ | refine LeO.bind ?_ (fun _ => ?_)
theorem impl_argsOf.calls (k : Nat) (a0 : Int) (r : Int) (w : World) (h : impl_argsOf.f k a0 = some r) :
  Calls Try.prog 93 #[.int .i64 a0] w fun e w' => e = .returned (.int .i64 r) ∧ Drawn0 w w' := by
 have H : (if a0 = 1 then (impl_argsOf.j0 k a0 (a0 == 1)) else (if a0 = 2 then (impl_argsOf.j0 k a0 (a0 == 2)) else (if a0 = 3 then (impl_argsOf.j0 k a0 (a0 == 3)) else (impl_argsOf.j0 k a0 (a0 == 4))))) = some r := h
 clear h
 have HC2 := Aside0.mk H
 clear H
 go_enter Try.func93, Try.ntmps93
 go_upto_if 4 with (fail)
 go_cut [4] (fun v4 wc => ∃ (kq : Nat) (x4_1 : Bool), v4 = .bool x4_1 ∧ Aside0 (impl_argsOf.j0 kq a0 x4_1 = some r) ∧ Aside0 (kq ≤ k) ∧ Drawn0 w wc)
 case first =>
  have H := HC2.out
  clear HC2
  by_cases c3 : a0 = 1
  ·rw [if_pos c3] at H
   have c3b0 : (a0 == 1) = true := beq_iff_eq.mpr c3
   have c3b1 : (a0 != 1) = false := bne_eq_false_iff_eq.mpr c3
   clear c3
   (first | rw [c3b0] | (simp only [i64_w, i32_w]; rw [c3b0]) | skip)
   have H' := Aside0.mk H
   clear H
   go_wp2
   go_meet
   case rel => exact ⟨_, ((a0 == 1)), za6, H', ⟨za18⟩, za8⟩
  rw [if_neg c3] at H
  have c3b0 : (a0 == 1) = false := beq_eq_false_iff_ne.mpr c3
  have c3b1 : (a0 != 1) = true := bne_iff_ne.mpr c3
  (first | rw [c3b0] | (simp only [i64_w, i32_w]; rw [c3b0]) | skip)
  by_cases c4 : a0 = 2
  ·rw [if_pos c4] at H
   have c4b0 : (a0 == 2) = true := beq_iff_eq.mpr c4
   have c4b1 : (a0 != 2) = false := bne_eq_false_iff_eq.mpr c4
   clear c4
   have H' := Aside0.mk H
   clear H
   go_wp2
   go_meet
   case rel => exact ⟨_, ((a0 == 2)), za6, H', ⟨za18⟩, za8⟩
  rw [if_neg c4] at H
  have c4b0 : (a0 == 2) = false := beq_eq_false_iff_ne.mpr c4
  have c4b1 : (a0 != 2) = true := bne_iff_ne.mpr c4
  by_cases c5 : a0 = 3
  ·rw [if_pos c5] at H
   have c5b0 : (a0 == 3) = true := beq_iff_eq.mpr c5
   have c5b1 : (a0 != 3) = false := bne_eq_false_iff_eq.mpr c5
   clear c5
   have H' := Aside0.mk H
   clear H
   go_wp2
   go_meet
   case rel => exact ⟨_, ((a0 == 3)), za6, H', ⟨za18⟩, za8⟩
  ·rw [if_neg c5] at H
   have c5b0 : (a0 == 3) = false := beq_eq_false_iff_ne.mpr c5
   have c5b1 : (a0 != 3) = true := bne_iff_ne.mpr c5
   have H' := Aside0.mk H
   clear H
   go_wp2
   go_meet
   case rel => exact ⟨_, ((a0 == 4)), za6, H', ⟨za18⟩, za8⟩
 case rest =>
  clear HC2
  obtain ⟨kq, x4_1, rfl, HA, HJ1, ⟨mc1, rfl⟩⟩ := hcut
  cases kq with
  | zero => exact absurd HA.out (by simp [impl_argsOf.j0])
  | succ kj1 =>
  have H := HA.out
  clear HA
  simp only [impl_argsOf.j0] at H
  by_cases c6 : x4_1 = true
  ·subst c6
   have H1 : (some 0) = some r := by rw [if_pos rfl] at H; exact H
   clear H
   have H := H1
   clear H1
   obtain rfl := Option.some.inj H
   go_wp2
   go_ret
   exact ⟨za6, za8⟩
  ·replace c6 := Bool.eq_false_iff.mpr c6
   subst c6
   have H1 : (if a0 = 8 then (impl_argsOf.j1 kj1 a0 (a0 == 8)) else (impl_argsOf.j1 kj1 a0 (a0 == 9))) = some r := by rw [if_neg (show ¬ (false = true) by decide)] at H; exact H
   clear H
   have H := H1
   clear H1
   have HC7 := Aside0.mk H
   clear H
   go_upto_if 9 with (fail)
   go_cut [9] (fun v9 wc => ∃ (kq : Nat) (x9_6 : Bool), v9 = .bool x9_6 ∧ Aside0 (impl_argsOf.j1 kq a0 x9_6 = some r) ∧ Aside0 (kq ≤ kj1) ∧ Drawn0 w wc)
   case first =>
    have H := HC7.out
    clear HC7
    by_cases c8 : a0 = 8
    ·rw [if_pos c8] at H
     have c8b0 : (a0 == 8) = true := beq_iff_eq.mpr c8
     have c8b1 : (a0 != 8) = false := bne_eq_false_iff_eq.mpr c8
     clear c8
     (first | rw [c8b0] | (simp only [i64_w, i32_w]; rw [c8b0]) | skip)
     have H' := Aside0.mk H
     clear H
     go_wp2
     go_meet
     case rel => exact ⟨_, ((a0 == 8)), za6, H', ⟨by have := HJ1.out; first | omega | exact Nat.le_refl _⟩, za8⟩
    ·rw [if_neg c8] at H
     have c8b0 : (a0 == 8) = false := beq_eq_false_iff_ne.mpr c8
     have c8b1 : (a0 != 8) = true := bne_iff_ne.mpr c8
     (first | rw [c8b0] | (simp only [i64_w, i32_w]; rw [c8b0]) | skip)
     have H' := Aside0.mk H
     clear H
     go_wp2
     go_meet
     case rel => exact ⟨_, ((a0 == 9)), za6, H', ⟨by have := HJ1.out; first | omega | exact Nat.le_refl _⟩, za8⟩
   case rest =>
    clear HC7
    try clear c6
    obtain ⟨kq, x9_6, rfl, HA, HJ6, ⟨mc6, rfl⟩⟩ := hcut
    cases kq with
    | zero => exact absurd HA.out (by simp [impl_argsOf.j1])
    | succ kj6 =>
    have H := HA.out
    clear HA
    simp only [impl_argsOf.j1] at H
    by_cases c9 : x9_6 = true
    subst c9
    have H1 : (some 1) = some r := by rw [if_pos rfl] at H; exact H
    clear H
    have H := H1
    clear H1
    rotate_left
    replace c9 := Bool.eq_false_iff.mpr c9
    subst c9
    have H1 : (if a0 = 5 then (some 2) else (if a0 = 6 then (some 2) else (if a0 = 7 then (some 2) else (some (-1))))) = some r := by rw [if_neg (show ¬ (false = true) by decide)] at H; exact H
    clear H
    have H := H1
    clear H1
    by_cases c10 : a0 = 5
    rw [if_pos c10] at H
    have c10b0 : (a0 == 5) = true := beq_iff_eq.mpr c10
    have c10b1 : (a0 != 5) = false := bne_eq_false_iff_eq.mpr c10
    clear c10
    rotate_left
    rw [if_neg c10] at H
    have c10b0 : (a0 == 5) = false := beq_eq_false_iff_ne.mpr c10
    have c10b1 : (a0 != 5) = true := bne_iff_ne.mpr c10
    by_cases c11 : a0 = 6
    rw [if_pos c11] at H
    have c11b0 : (a0 == 6) = true := beq_iff_eq.mpr c11
    have c11b1 : (a0 != 6) = false := bne_eq_false_iff_eq.mpr c11
    clear c11
    rotate_left
    rw [if_neg c11] at H
    have c11b0 : (a0 == 6) = false := beq_eq_false_iff_ne.mpr c11
    have c11b1 : (a0 != 6) = true := bne_iff_ne.mpr c11
    by_cases c12 : a0 = 7
    rw [if_pos c12] at H
    have c12b0 : (a0 == 7) = true := beq_iff_eq.mpr c12
    have c12b1 : (a0 != 7) = false := bne_eq_false_iff_eq.mpr c12
    clear c12
    rotate_left
    rw [if_neg c12] at H
    have c12b0 : (a0 == 7) = false := beq_eq_false_iff_ne.mpr c12
    have c12b1 : (a0 != 7) = true := bne_iff_ne.mpr c12
    rotate_left
    all_goals
     obtain rfl := Option.some.inj H
     go_wp2
     go_ret
     exact ⟨za6, za8⟩
mutual
def impl_nodesOf.j0 : Nat → Int → Bool → Int → ByteArray → List (S35) → Option (Int)
 | 0, _, _, _, _, _ => none
 | k + 1, x1, x18, x79002000, x79002001, x79002002 => if x18 = true then (some 17) else (if x79002000 = 3 then (if (x79002001.size : Int) = 1 then ((impl_IsWord.f k x79002001).bind fun t79003 => (if t79003 = true then (impl_nodesOf.j1 k x1 x79002000 x79002001 x79002002) else (some 17))) else (some 17)) else (if x79002001.toList = ([] : List UInt8) then (impl_nodesOf.j1 k x1 x79002000 x79002001 x79002002) else (some 17)))
def impl_nodesOf.j1 : Nat → Int → Int → ByteArray → List (S35) → Option (Int)
 | 0, _, _, _, _ => none
 | k + 1, x1, x79002000, x79002001, x79002002 => impl_nodesOf.l0 k x1 1 x79002002 (x79002002.length : Int) 0
def impl_nodesOf.l0 : Nat → Int → Int → List (S35) → Int → Int → Option (Int)
 | 0, _, _, _, _, _ => none
 | k + 1, x1, x5, x36, x37, x38 => if x38 < x37 then (if 0 ≤ x38 then (if x38 < (x36.length : Int) then ((impl_nodesOf.f k ((rd_T35 x36 x38).f0) ((rd_T35 x36 x38).f1) ((rd_T35 x36 x38).f2) (wrap64 (x1 - 1))).bind fun t79006 => (impl_nodesOf.l0 k x1 (wrap64 (x5 + t79006)) x36 x37 (wrap64 (x38 + 1)))) else (none)) else (none)) else (some (mn x5 17))
def impl_nodesOf.f : Nat → Int → ByteArray → List (S35) → Int → Option (Int)
 | 0, _, _, _, _ => none
 | k + 1, a0_0, a0_1, l0_2, a1 => if a1 = 0 then (impl_nodesOf.j0 k a1 true a0_0 a0_1 l0_2) else ((impl_argsOf.f k a0_0).bind fun t79002 => (impl_nodesOf.j0 k a1 ((l0_2.length : Int) != t79002) a0_0 a0_1 l0_2))
end
theorem impl_nodesOf.mono_l : ∀ k, (∀ y0 y1 y2 y3, LeO (impl_nodesOf.f k y0 y1 y2 y3) (impl_nodesOf.f (k + 1) y0 y1 y2 y3)) ∧ (∀ y0 y1 y2 y3 y4, LeO (impl_nodesOf.j0 k y0 y1 y2 y3 y4) (impl_nodesOf.j0 (k + 1) y0 y1 y2 y3 y4)) ∧ (∀ y0 y1 y2 y3, LeO (impl_nodesOf.j1 k y0 y1 y2 y3) (impl_nodesOf.j1 (k + 1) y0 y1 y2 y3)) ∧ (∀ y0 y1 y2 y3 y4, LeO (impl_nodesOf.l0 k y0 y1 y2 y3 y4) (impl_nodesOf.l0 (k + 1) y0 y1 y2 y3 y4))
 | 0 => ⟨fun _ _ _ _ r h => by simp [impl_nodesOf.f] at h, fun _ _ _ _ _ r h => by simp [impl_nodesOf.j0] at h, fun _ _ _ _ r h => by simp [impl_nodesOf.j1] at h, fun _ _ _ _ _ r h => by simp [impl_nodesOf.l0] at h⟩
 | k + 1 => by
  obtain ⟨ih0, ih1, ih2, ih3⟩ := impl_nodesOf.mono_l k
  refine ⟨?_, ?_, ?_, ?_⟩
  ·intro y0 y1 y2 y3
   unfold impl_nodesOf.f
   repeat' first
   | with_reducible first | exact ih0 _ _ _ _ | exact ih1 _ _ _ _ _ | exact ih2 _ _ _ _ | exact ih3 _ _ _ _ _ | exact impl_IsWord.mono _ _ | exact impl_argsOf.mono _ _ | exact LeO.refl _ | exact LeO.none _ | refine LeO.ite ?_ ?_ | refine LeO.bind ?_ (fun _ => ?_)
  ·intro y0 y1 y2 y3 y4
   unfold impl_nodesOf.j0
   repeat' first
   | with_reducible first | exact ih0 _ _ _ _ | exact ih1 _ _ _ _ _ | exact ih2 _ _ _ _ | exact ih3 _ _ _ _ _ | exact impl_IsWord.mono _ _ | exact impl_argsOf.mono _ _ | exact LeO.refl _ | exact LeO.none _ | refine LeO.ite ?_ ?_ | refine LeO.bind ?_ (fun _ => ?_)
  ·intro y0 y1 y2 y3
   unfold impl_nodesOf.j1
   repeat' first
   | with_reducible first | exact ih0 _ _ _ _ | exact ih1 _ _ _ _ _ | exact ih2 _ _ _ _ | exact ih3 _ _ _ _ _ | exact impl_IsWord.mono _ _ | exact impl_argsOf.mono _ _ | exact LeO.refl _ | exact LeO.none _ | refine LeO.ite ?_ ?_ | refine LeO.bind ?_ (fun _ => ?_)
  ·intro y0 y1 y2 y3 y4
   unfold impl_nodesOf.l0
   repeat' first
   | with_reducible first | exact ih0 _ _ _ _ | exact ih1 _ _ _ _ _ | exact ih2 _ _ _ _ | exact ih3 _ _ _ _ _ | exact impl_IsWord.mono _ _ | exact impl_argsOf.mono _ _ | exact LeO.refl _ | exact LeO.none _ | refine LeO.ite ?_ ?_ | refine LeO.bind ?_ (fun _ => ?_)
theorem impl_nodesOf.mono : ∀ a0 a1 a2 a3 k, LeO (impl_nodesOf.f k a0 a1 a2 a3) (impl_nodesOf.f (k + 1) a0 a1 a2 a3) := by
 intro a0 a1 a2 a3 k
 obtain ⟨ih0, ih1, ih2, ih3⟩ := impl_nodesOf.mono_l k
 exact ih0 a0 a1 a2 a3
theorem impl_nodesOf.calls (k : Nat) : ∀ (a0_0 : Int) (a0_1 : ByteArray) (A0_2 : Option Addr) (c0_2 : Nat) (l0_2 : List (S35)) (a1 : Int) (r : Int) (w : World) (hr0_2 : Kd.C k35 w A0_2 l0_2.length l0_2) (hc0_2 : l0_2.length ≤ c0_2) (h : impl_nodesOf.f k a0_0 a0_1 l0_2 a1 = some r),
  Calls Try.prog 79 #[.agg #[.int .i64 a0_0, .string a0_1, .slice A0_2 l0_2.length c0_2], .int .i64 a1] w fun e w' => e = .returned (.int .i64 r) ∧ Below w.heap.size w w' := by
 induction k using Nat.strongRecOn with
 | _ k ih =>
 intro a0_0 a0_1 A0_2 c0_2 l0_2 a1 r w hr0_2 hc0_2 h
 cases k with
 | zero => exact absurd h (by simp [impl_nodesOf.f])
 | succ k =>
 simp only [impl_nodesOf.f] at h
 have hu35 := Try.underlying35
 have HR0_2 := Aside0.mk hr0_2
 have HC0_2 := Aside0.mk hc0_2
 clear hr0_2 hc0_2
 have HB := Aside0.mk (Below.refl w.heap.size w)
 have H : (if a1 = 0 then (impl_nodesOf.j0 k a1 true a0_0 a0_1 l0_2) else ((impl_argsOf.f k a0_0).bind fun t79002 => (impl_nodesOf.j0 k a1 ((l0_2.length : Int) != t79002) a0_0 a0_1 l0_2))) = some r := h
 clear h
 have HC3 := Aside0.mk H
 clear H
 go_enter Try.func79, Try.ntmps79
 go_upto_region 1 with (first | ((with_reducible refine gate_dst (N := 2) rfl ?_); (try (refine gate_guard (by rfl) ?_; dsimp only)); refine box_event ?hg (N := 2) ?hd (cs := #[.int .i64 a0_0, .string a0_1, .slice A0_2 l0_2.length c0_2]) (t := 35) ?hr ?_; (case hd => rfl); (case hg => rfl); (case hr => first | (go_simp; done) | (go_simp; rfl)); intro gb79001 hg w4 hbox hb; have n0_ := Aside0.mk (below_step za2 hb); have n1_ := Aside0.mk (hbox); have n2_ := Aside0.mk ((by rw [hg]; exact (below_size za2) : w.heap.size ≤ gb79001)); have n3_ := Aside0.mk ((by rw [hg]; exact (below_size za2) : w.heap.size ≤ gb79001)); clear HB; have HB := n0_; have BK79001 := n1_; have GW79001 := n2_; have GE79001 := n3_; clear n0_ n1_ n2_ n3_; clear hb hbox hg))
 repeat (go_quiet (first | ((with_reducible refine gate_dst (N := 2) rfl ?_); (try (refine gate_guard (by rfl) ?_; dsimp only)); refine box_event ?hg (N := 2) ?hd (cs := #[.int .i64 a0_0, .string a0_1, .slice A0_2 l0_2.length c0_2]) (t := 35) ?hr ?_; (case hd => rfl); (case hg => rfl); (case hr => first | (go_simp; done) | (go_simp; rfl)); intro gb79001 hg w4 hbox hb; have n0_ := Aside0.mk (below_step za2 hb); have n1_ := Aside0.mk (hbox); have n2_ := Aside0.mk ((by rw [hg]; exact (below_size za2) : w.heap.size ≤ gb79001)); have n3_ := Aside0.mk ((by rw [hg]; exact (below_size za2) : w.heap.size ≤ gb79001)); clear HB; have HB := n0_; have BK79001 := n1_; have GW79001 := n2_; have GE79001 := n3_; clear n0_ n1_ n2_ n3_; clear hb hbox hg)); go_upto_region 1 with (first | ((with_reducible refine gate_dst (N := 2) rfl ?_); (try (refine gate_guard (by rfl) ?_; dsimp only)); refine box_event ?hg (N := 2) ?hd (cs := #[.int .i64 a0_0, .string a0_1, .slice A0_2 l0_2.length c0_2]) (t := 35) ?hr ?_; (case hd => rfl); (case hg => rfl); (case hr => first | (go_simp; done) | (go_simp; rfl)); intro gb79001 hg w4 hbox hb; have n0_ := Aside0.mk (below_step za2 hb); have n1_ := Aside0.mk (hbox); have n2_ := Aside0.mk ((by rw [hg]; exact (below_size za2) : w.heap.size ≤ gb79001)); have n3_ := Aside0.mk ((by rw [hg]; exact (below_size za2) : w.heap.size ≤ gb79001)); clear HB; have HB := n0_; have BK79001 := n1_; have GW79001 := n2_; have GE79001 := n3_; clear n0_ n1_ n2_ n3_; clear hb hbox hg)))
 (try simp only [Act.put, List.setIfInBounds_toArray, List.set_cons_zero, List.set_cons_succ])
 go_cut [18] (fun v18 wc => ∃ (kq : Nat) (x18_2 : Bool), v18 = .bool x18_2 ∧ Aside0 (impl_nodesOf.j0 kq a1 x18_2 a0_0 a0_1 l0_2 = some r) ∧ Aside0 (kq ≤ k) ∧ Aside0 (wc.heap[gb79001]? = some (.cells #[.int .i64 a0_0, .string a0_1, (.slice A0_2 l0_2.length c0_2)] 35 (0, 0))) ∧ Aside0 (Below w.heap.size w wc))
 case first =>
  have H := HC3.out
  clear HC3
  by_cases c5 : a1 = 0
  ·rw [if_pos c5] at H
   have c5b0 : (a1 == 0) = true := beq_iff_eq.mpr c5
   have c5b1 : (a1 != 0) = false := bne_eq_false_iff_eq.mpr c5
   clear c5
   (first | rw [c5b0] | (simp only [i64_w, i32_w]; rw [c5b0]) | skip)
   have H' := Aside0.mk H
   clear H
   go_wp2
   repeat (go_quiet (fail); try go_wp2)
   go_meet
   case rel => exact ⟨_, (true), za6, H', ⟨za18⟩, ⟨za0 BK79001.out⟩, ⟨za2⟩⟩
  ·rw [if_neg c5] at H
   have c5b0 : (a1 == 0) = false := beq_eq_false_iff_ne.mpr c5
   have c5b1 : (a1 != 0) = true := bne_iff_ne.mpr c5
   (first | rw [c5b0] | (simp only [i64_w, i32_w]; rw [c5b0]) | skip)
   replace H := Option.bind_eq_some_iff.mp H
   obtain ⟨t79002, A60, H⟩ := H
   replace H : (impl_nodesOf.j0 k a1 ((l0_2.length : Int) != t79002) a0_0 a0_1 l0_2) = some r := H
   have A6 := Aside0.mk A60
   clear A60
   have H' := Aside0.mk H
   clear H
   obtain ⟨hcz7_0, hcz7_1, hcz7_2, hfz7_0, hfz7_1, hfz7_2⟩ := blk3 BK79001.out
   go_wp2_with (first | (go_at_call 93; (with_reducible refine (impl_argsOf.calls k a0_0 t79002 _ A6.out).mono ?_); rintro e w' ⟨rfl, ⟨nd, rfl⟩⟩; (try first | exact ⟨rfl, _, World.drewN_drewN _ _ _⟩ | exact ⟨rfl, _, Eq.trans (World.drewN_drewN _ _ _) (congrArg (World.drewN _) (Nat.add_assoc _ _ _))⟩)))
   repeat (go_quiet (first | (go_at_call 93; (with_reducible refine (impl_argsOf.calls k a0_0 t79002 _ A6.out).mono ?_); rintro e w' ⟨rfl, ⟨nd, rfl⟩⟩; (try first | exact ⟨rfl, _, World.drewN_drewN _ _ _⟩ | exact ⟨rfl, _, Eq.trans (World.drewN_drewN _ _ _) (congrArg (World.drewN _) (Nat.add_assoc _ _ _))⟩))); try go_wp2_with (first | (go_at_call 93; (with_reducible refine (impl_argsOf.calls k a0_0 t79002 _ A6.out).mono ?_); rintro e w' ⟨rfl, ⟨nd, rfl⟩⟩; (try first | exact ⟨rfl, _, World.drewN_drewN _ _ _⟩ | exact ⟨rfl, _, Eq.trans (World.drewN_drewN _ _ _) (congrArg (World.drewN _) (Nat.add_assoc _ _ _))⟩))))
   go_meet
   case rel => exact ⟨_, (((l0_2.length : Int) != t79002)), za6, H', ⟨za18⟩, ⟨za0 BK79001.out⟩, ⟨za2⟩⟩
 case rest =>
  clear HC3
  obtain ⟨kq, x18_2, rfl, HA, HJ2, BK79001, HB⟩ := hcut
  cases kq with
  | zero => exact absurd HA.out (by simp [impl_nodesOf.j0])
  | succ kj2 =>
  have H := HA.out
  clear HA
  simp only [impl_nodesOf.j0] at H
  by_cases c8 : x18_2 = true
  ·subst c8
   have H1 : (some 17) = some r := by rw [if_pos rfl] at H; exact H
   clear H
   have H := H1
   clear H1
   obtain rfl := Option.some.inj H
   go_wp2
   repeat (go_quiet (fail); try go_wp2)
   go_ret
   exact ⟨za5, za2⟩
  ·replace c8 := Bool.eq_false_iff.mpr c8
   subst c8
   have H1 : (if a0_0 = 3 then (if (a0_1.size : Int) = 1 then ((impl_IsWord.f kj2 a0_1).bind fun t79003 => (if t79003 = true then (impl_nodesOf.j1 kj2 a1 a0_0 a0_1 l0_2) else (some 17))) else (some 17)) else (if a0_1.toList = ([] : List UInt8) then (impl_nodesOf.j1 kj2 a1 a0_0 a0_1 l0_2) else (some 17))) = some r := by rw [if_neg (show ¬ (false = true) by decide)] at H; exact H
   clear H
   have H := H1
   clear H1
   have HC9 := Aside0.mk H
   clear H
   obtain ⟨hcz10_0, hcz10_1, hcz10_2, hfz10_0, hfz10_1, hfz10_2⟩ := blk3 BK79001.out
   go_upto_if 21 with (fail)
   repeat (go_quiet (fail); go_upto_if 21 with (fail))
   go_cut [] (fun wc => ∃ (kq : Nat), Aside0 (impl_nodesOf.j1 kq a1 a0_0 a0_1 l0_2 = some r) ∧ Aside0 (kq ≤ kj2) ∧ Aside0 (wc.heap[gb79001]? = some (.cells #[.int .i64 a0_0, .string a0_1, (.slice A0_2 l0_2.length c0_2)] 35 (0, 0))) ∧ Aside0 (Below w.heap.size w wc))
   case first =>
    have H := HC9.out
    clear HC9
    by_cases c11 : a0_0 = 3
    rw [if_pos c11] at H
    have c11b0 : (a0_0 == 3) = true := beq_iff_eq.mpr c11
    have c11b1 : (a0_0 != 3) = false := bne_eq_false_iff_eq.mpr c11
    clear c11
    (first | rw [c11b0] | (simp only [i64_w, i32_w]; rw [c11b0]) | skip)
    by_cases c12 : (a0_1.size : Int) = 1
    rw [if_pos c12] at H
    have c12b0 : ((a0_1.size : Int) == 1) = true := beq_iff_eq.mpr c12
    have c12b1 : ((a0_1.size : Int) != 1) = false := bne_eq_false_iff_eq.mpr c12
    clear c12
    replace H := Option.bind_eq_some_iff.mp H
    obtain ⟨t79003, A130, H⟩ := H
    replace H : (if t79003 = true then (impl_nodesOf.j1 kj2 a1 a0_0 a0_1 l0_2) else (some 17)) = some r := H
    have A13 := Aside0.mk A130
    clear A130
    by_cases c14 : t79003 = true
    subst c14
    have H1 : (impl_nodesOf.j1 kj2 a1 a0_0 a0_1 l0_2) = some r := by rw [if_pos rfl] at H; exact H
    clear H
    have H := H1
    clear H1
    have H' := Aside0.mk H
    clear H
    have fin0_ := Aside0.mk trivial
    rotate_left
    replace c14 := Bool.eq_false_iff.mpr c14
    subst c14
    have H1 : (some 17) = some r := by rw [if_neg (show ¬ (false = true) by decide)] at H; exact H
    clear H
    have H := H1
    clear H1
    obtain rfl := Option.some.inj H
    have fin1_ := Aside0.mk trivial
    rotate_left
    rw [if_neg c12] at H
    have c12b0 : ((a0_1.size : Int) == 1) = false := beq_eq_false_iff_ne.mpr c12
    have c12b1 : ((a0_1.size : Int) != 1) = true := bne_iff_ne.mpr c12
    obtain rfl := Option.some.inj H
    have fin1_ := Aside0.mk trivial
    rotate_left
    rw [if_neg c11] at H
    have c11b0 : (a0_0 == 3) = false := beq_eq_false_iff_ne.mpr c11
    have c11b1 : (a0_0 != 3) = true := bne_iff_ne.mpr c11
    (first | rw [c11b0] | (simp only [i64_w, i32_w]; rw [c11b0]) | skip)
    by_cases c18 : a0_1.toList = ([] : List UInt8)
    rw [if_pos c18] at H
    have c18b0 : (a0_1.toList == ([] : List UInt8)) = true := beq_iff_eq.mpr c18
    have c18b1 : (a0_1.toList != ([] : List UInt8)) = false := bne_eq_false_iff_eq.mpr c18
    clear c18
    have H' := Aside0.mk H
    clear H
    have fin0_ := Aside0.mk trivial
    rotate_left
    rw [if_neg c18] at H
    have c18b0 : (a0_1.toList == ([] : List UInt8)) = false := beq_eq_false_iff_ne.mpr c18
    have c18b1 : (a0_1.toList != ([] : List UInt8)) = true := bne_iff_ne.mpr c18
    obtain rfl := Option.some.inj H
    have fin1_ := Aside0.mk trivial
    rotate_left
    all_goals
    obtain ⟨hcz15_0, hcz15_1, hcz15_2, hfz15_0, hfz15_1, hfz15_2⟩ := blk3 BK79001.out
    go_wp2_with ((go_at_call 58; (with_reducible refine (impl_IsWord.calls kj2 a0_1 _ _ A13.out).mono ?_); rintro e w' ⟨rfl, ⟨nd, rfl⟩⟩; (try first | exact ⟨rfl, _, World.drewN_drewN _ _ _⟩ | exact ⟨rfl, _, Eq.trans (World.drewN_drewN _ _ _) (congrArg (World.drewN _) (Nat.add_assoc _ _ _))⟩)))
    repeat (go_quiet ((go_at_call 58; (with_reducible refine (impl_IsWord.calls kj2 a0_1 _ _ A13.out).mono ?_); rintro e w' ⟨rfl, ⟨nd, rfl⟩⟩; (try first | exact ⟨rfl, _, World.drewN_drewN _ _ _⟩ | exact ⟨rfl, _, Eq.trans (World.drewN_drewN _ _ _) (congrArg (World.drewN _) (Nat.add_assoc _ _ _))⟩))); try go_wp2_with ((go_at_call 58; (with_reducible refine (impl_IsWord.calls kj2 a0_1 _ _ A13.out).mono ?_); rintro e w' ⟨rfl, ⟨nd, rfl⟩⟩; (try first | exact ⟨rfl, _, World.drewN_drewN _ _ _⟩ | exact ⟨rfl, _, Eq.trans (World.drewN_drewN _ _ _) (congrArg (World.drewN _) (Nat.add_assoc _ _ _))⟩))))
    first
    | (
      clear fin0_
      go_meet
      case rel => exact ⟨_, H', ⟨by have := HJ2.out; first | omega | exact Nat.le_refl _⟩, ⟨za0 BK79001.out⟩, ⟨za2⟩⟩)
    | (
      clear fin1_
      go_ret
      exact ⟨za5, za2⟩)
   case rest =>
    clear HC9
    try clear c8
    try clear hcz10_0
    try clear hcz10_1
    try clear hcz10_2
    try clear hfz10_0
    try clear hfz10_1
    try clear hfz10_2
    obtain ⟨kq, HA, HJ8, BK79001, HB⟩ := hcut
    cases kq with
    | zero => exact absurd HA.out (by simp [impl_nodesOf.j1])
    | succ kj8 =>
    have H := HA.out
    clear HA
    simp only [impl_nodesOf.j1] at H
    have H' := Aside0.mk H
    clear H
    obtain ⟨hcz21_0, hcz21_1, hcz21_2, hfz21_0, hfz21_1, hfz21_2⟩ := blk3 BK79001.out
    go_wp2
    repeat (go_quiet (fail); try go_wp2)
    first | go_loopg [5, 38] kj8 (fun kq v5 v38 w' => ∃ (x5_3 : Int) (x38_3 : Int), v5 = .int .i64 x5_3 ∧ v38 = .int .i64 x38_3 ∧ Aside0 (impl_nodesOf.l0 kq a1 x5_3 l0_2 (l0_2.length : Int) x38_3 = some r) ∧ Aside0 (kq ≤ kj8) ∧ Aside0 (w'.heap[gb79001]? = some (.cells #[.int .i64 a0_0, .string a0_1, (.slice A0_2 l0_2.length c0_2)] 35 (0, 0))) ∧ Aside0 (Below w.heap.size w w')) | (simp only [Act.put, List.setIfInBounds_toArray, List.set_cons_succ, List.set_cons_zero]; go_loopg [5, 38] kj8 (fun kq v5 v38 w' => ∃ (x5_3 : Int) (x38_3 : Int), v5 = .int .i64 x5_3 ∧ v38 = .int .i64 x38_3 ∧ Aside0 (impl_nodesOf.l0 kq a1 x5_3 l0_2 (l0_2.length : Int) x38_3 = some r) ∧ Aside0 (kq ≤ kj8) ∧ Aside0 (w'.heap[gb79001]? = some (.cells #[.int .i64 a0_0, .string a0_1, (.slice A0_2 l0_2.length c0_2)] 35 (0, 0))) ∧ Aside0 (Below w.heap.size w w')))
    case atStart => exact ⟨(1), (0), za6, za6, H', ⟨Nat.le_refl _⟩, ⟨za0 BK79001.out⟩, ⟨za2⟩⟩
    case round =>
     clear H'
     try clear c8
     try clear hcz10_0
     try clear hcz10_1
     try clear hcz10_2
     try clear hcz21_0
     try clear hcz21_1
     try clear hcz21_2
     try clear hfz10_0
     try clear hfz10_1
     try clear hfz10_2
     try clear hfz21_0
     try clear hfz21_1
     try clear hfz21_2
     obtain ⟨x5_3, x38_3, rfl, rfl, HA, HK3, BK79001, HB⟩ := hrel
     cases gk with
     | zero => exact absurd HA.out (by simp [impl_nodesOf.l0])
     | succ k3 =>
     have H := HA.out
     clear HA
     simp only [impl_nodesOf.l0] at H
     by_cases c22 : x38_3 < (l0_2.length : Int)
     rw [if_pos c22] at H
     have c22b0 : decide (x38_3 < (l0_2.length : Int)) = true := decide_eq_true c22
     clear c22
     by_cases c23 : 0 ≤ x38_3
     rw [if_pos c23] at H
     have c23b0 : decide (0 ≤ x38_3) = true := decide_eq_true c23
     clear c23
     by_cases c24 : x38_3 < (l0_2.length : Int)
     ·rw [if_pos c24] at H
      have c24b0 : decide (x38_3 < (l0_2.length : Int)) = true := decide_eq_true c24
      clear c24
      replace H := Option.bind_eq_some_iff.mp H
      obtain ⟨t79006, A250, H⟩ := H
      replace H : (impl_nodesOf.l0 k3 a1 (wrap64 (x5_3 + t79006)) l0_2 (l0_2.length : Int) (wrap64 (x38_3 + 1))) = some r := H
      have A25 := Aside0.mk A250
      clear A250
      have H' := Aside0.mk H
      clear H
      have p79004 : 0 ≤ (x38_3 : Int) := of_decide_eq_true za7
      have q79004 : x38_3 < (l0_2.length : Int) := of_decide_eq_true za7
      obtain ⟨ad79004, A79004_2, c79004_2, e79004, hx79004_0, hx79004_1, hx79004_2, hl79004_2, hi79004_2⟩ := at_T35 HR0_2.out x38_3 p79004 q79004
      cases e79004
      replace hx79004_0 := (HB.out.cell (World.block_lt_of_cell? w _ hx79004_0)).trans hx79004_0
      replace hx79004_1 := (HB.out.cell (World.block_lt_of_cell? w _ hx79004_1)).trans hx79004_1
      replace hx79004_2 := (HB.out.cell (World.block_lt_of_cell? w _ hx79004_2)).trans hx79004_2
      have HR79004_2 := Aside0.mk hi79004_2
      have HC79004_2 := Aside0.mk hl79004_2
      clear hi79004_2 hl79004_2
      replace p79004 := eq_true p79004
      replace q79004 := eq_true q79004
      go_wp2_with (first | ((with_reducible refine gate_dst (N := 7) rfl ?_); (try (refine gate_guard (by rfl) ?_; dsimp only)); refine box_event ?hg (N := 7) ?hd (cs := #[.int .i64 0, .string (⟨#[]⟩ : ByteArray), .slice none 0 0]) (t := 35) ?hr ?_; (case hd => rfl); (case hg => rfl); (case hr => first | (go_simp; done) | (go_simp; rfl)); intro gb79005 hg w26 hbox hb; have n0_ := Aside0.mk (blk_below (g := gb79001) (o := .cells #[.int .i64 a0_0, .string a0_1, .slice (some ad79004) l0_2.length c0_2] 35 (0, 0)) (za0 BK79001.out) hb); have n1_ := Aside0.mk (below_step za2 hb); have n2_ := Aside0.mk (hbox); have n3_ := Aside0.mk ((by rw [hg]; exact (below_size za2) : w.heap.size ≤ gb79005)); have n4_ := Aside0.mk ((by rw [hg]; exact (below_size za2) : w.heap.size ≤ gb79005)); have n5_ := Aside0.mk ((by rw [hg]; exact Nat.ne_of_lt (blk_lt (g := gb79001) (o := .cells #[.int .i64 a0_0, .string a0_1, .slice (some ad79004) l0_2.length c0_2] 35 (0, 0)) (za0 BK79001.out)) : gb79001 ≠ gb79005)); have n6_ := Aside0.mk ((by rw [hg]; exact Nat.ne_of_gt (blk_lt (g := gb79001) (o := .cells #[.int .i64 a0_0, .string a0_1, .slice (some ad79004) l0_2.length c0_2] 35 (0, 0)) (za0 BK79001.out)) : gb79005 ≠ gb79001)); clear BK79001; clear HB; have BK79001 := n0_; have HB := n1_; have BK79005 := n2_; have GW79005 := n3_; have GE79005 := n4_; have NB79001_79005 := n5_; have NB79005_79001 := n6_; clear n0_ n1_ n2_ n3_ n4_ n5_ n6_; clear hb hbox hg; have hnb27 := NB79005_79001.out; have hnc27 := NB79001_79005.out; obtain ⟨hcz28_0, hcz28_1, hcz28_2, hfz28_0, hfz28_1, hfz28_2⟩ := blk3 BK79005.out) | (go_at_call 79; (with_reducible refine (ih k3 (by have := HJ2.out; have := HJ8.out; have := HK3.out; omega) ((rd_T35 l0_2 x38_3).f0) ((rd_T35 l0_2 x38_3).f1) _ _ ((rd_T35 l0_2 x38_3).f2) (wrap64 (a1 - 1)) t79006 _ ?side1 ?side2 A25.out).mono ?_); (case side1 => exact Kd.C_below HR79004_2.out za2); (case side2 => exact HC79004_2.out); rintro e w29 ⟨rfl, hb⟩; have n0_ := Aside0.mk (blk_below (g := gb79001) (o := .cells #[.int .i64 a0_0, .string a0_1, .slice (some ad79004) l0_2.length c0_2] 35 (0, 0)) za12 hb); have n1_ := Aside0.mk (blk_below (g := gb79005) (o := .cells #[.int .i64 ((rd_T35 l0_2 x38_3).f0), .string ((rd_T35 l0_2 x38_3).f1), .slice A79004_2 ((rd_T35 l0_2 x38_3).f2).length c79004_2] 35 (0, 0)) za10 hb); have n2_ := Aside0.mk (below_step za2 hb); clear BK79001; clear BK79005; clear HB; have BK79001 := n0_; have BK79005 := n1_; have HB := n2_; clear n0_ n1_ n2_; (try clear hb); (try clear hb2); (try clear hk); (try clear hi)))
      repeat (go_quiet (first | ((with_reducible refine gate_dst (N := 7) rfl ?_); (try (refine gate_guard (by rfl) ?_; dsimp only)); refine box_event ?hg (N := 7) ?hd (cs := #[.int .i64 0, .string (⟨#[]⟩ : ByteArray), .slice none 0 0]) (t := 35) ?hr ?_; (case hd => rfl); (case hg => rfl); (case hr => first | (go_simp; done) | (go_simp; rfl)); intro gb79005 hg w26 hbox hb; have n0_ := Aside0.mk (blk_below (g := gb79001) (o := .cells #[.int .i64 a0_0, .string a0_1, .slice (some ad79004) l0_2.length c0_2] 35 (0, 0)) (za0 BK79001.out) hb); have n1_ := Aside0.mk (below_step za2 hb); have n2_ := Aside0.mk (hbox); have n3_ := Aside0.mk ((by rw [hg]; exact (below_size za2) : w.heap.size ≤ gb79005)); have n4_ := Aside0.mk ((by rw [hg]; exact (below_size za2) : w.heap.size ≤ gb79005)); have n5_ := Aside0.mk ((by rw [hg]; exact Nat.ne_of_lt (blk_lt (g := gb79001) (o := .cells #[.int .i64 a0_0, .string a0_1, .slice (some ad79004) l0_2.length c0_2] 35 (0, 0)) (za0 BK79001.out)) : gb79001 ≠ gb79005)); have n6_ := Aside0.mk ((by rw [hg]; exact Nat.ne_of_gt (blk_lt (g := gb79001) (o := .cells #[.int .i64 a0_0, .string a0_1, .slice (some ad79004) l0_2.length c0_2] 35 (0, 0)) (za0 BK79001.out)) : gb79005 ≠ gb79001)); clear BK79001; clear HB; have BK79001 := n0_; have HB := n1_; have BK79005 := n2_; have GW79005 := n3_; have GE79005 := n4_; have NB79001_79005 := n5_; have NB79005_79001 := n6_; clear n0_ n1_ n2_ n3_ n4_ n5_ n6_; clear hb hbox hg; have hnb27 := NB79005_79001.out; have hnc27 := NB79001_79005.out; obtain ⟨hcz28_0, hcz28_1, hcz28_2, hfz28_0, hfz28_1, hfz28_2⟩ := blk3 BK79005.out) | (go_at_call 79; (with_reducible refine (ih k3 (by have := HJ2.out; have := HJ8.out; have := HK3.out; omega) ((rd_T35 l0_2 x38_3).f0) ((rd_T35 l0_2 x38_3).f1) _ _ ((rd_T35 l0_2 x38_3).f2) (wrap64 (a1 - 1)) t79006 _ ?side1 ?side2 A25.out).mono ?_); (case side1 => exact Kd.C_below HR79004_2.out za2); (case side2 => exact HC79004_2.out); rintro e w29 ⟨rfl, hb⟩; have n0_ := Aside0.mk (blk_below (g := gb79001) (o := .cells #[.int .i64 a0_0, .string a0_1, .slice (some ad79004) l0_2.length c0_2] 35 (0, 0)) za12 hb); have n1_ := Aside0.mk (blk_below (g := gb79005) (o := .cells #[.int .i64 ((rd_T35 l0_2 x38_3).f0), .string ((rd_T35 l0_2 x38_3).f1), .slice A79004_2 ((rd_T35 l0_2 x38_3).f2).length c79004_2] 35 (0, 0)) za10 hb); have n2_ := Aside0.mk (below_step za2 hb); clear BK79001; clear BK79005; clear HB; have BK79001 := n0_; have BK79005 := n1_; have HB := n2_; clear n0_ n1_ n2_; (try clear hb); (try clear hb2); (try clear hk); (try clear hi))); try go_wp2_with (first | ((with_reducible refine gate_dst (N := 7) rfl ?_); (try (refine gate_guard (by rfl) ?_; dsimp only)); refine box_event ?hg (N := 7) ?hd (cs := #[.int .i64 0, .string (⟨#[]⟩ : ByteArray), .slice none 0 0]) (t := 35) ?hr ?_; (case hd => rfl); (case hg => rfl); (case hr => first | (go_simp; done) | (go_simp; rfl)); intro gb79005 hg w26 hbox hb; have n0_ := Aside0.mk (blk_below (g := gb79001) (o := .cells #[.int .i64 a0_0, .string a0_1, .slice (some ad79004) l0_2.length c0_2] 35 (0, 0)) (za0 BK79001.out) hb); have n1_ := Aside0.mk (below_step za2 hb); have n2_ := Aside0.mk (hbox); have n3_ := Aside0.mk ((by rw [hg]; exact (below_size za2) : w.heap.size ≤ gb79005)); have n4_ := Aside0.mk ((by rw [hg]; exact (below_size za2) : w.heap.size ≤ gb79005)); have n5_ := Aside0.mk ((by rw [hg]; exact Nat.ne_of_lt (blk_lt (g := gb79001) (o := .cells #[.int .i64 a0_0, .string a0_1, .slice (some ad79004) l0_2.length c0_2] 35 (0, 0)) (za0 BK79001.out)) : gb79001 ≠ gb79005)); have n6_ := Aside0.mk ((by rw [hg]; exact Nat.ne_of_gt (blk_lt (g := gb79001) (o := .cells #[.int .i64 a0_0, .string a0_1, .slice (some ad79004) l0_2.length c0_2] 35 (0, 0)) (za0 BK79001.out)) : gb79005 ≠ gb79001)); clear BK79001; clear HB; have BK79001 := n0_; have HB := n1_; have BK79005 := n2_; have GW79005 := n3_; have GE79005 := n4_; have NB79001_79005 := n5_; have NB79005_79001 := n6_; clear n0_ n1_ n2_ n3_ n4_ n5_ n6_; clear hb hbox hg; have hnb27 := NB79005_79001.out; have hnc27 := NB79001_79005.out; obtain ⟨hcz28_0, hcz28_1, hcz28_2, hfz28_0, hfz28_1, hfz28_2⟩ := blk3 BK79005.out) | (go_at_call 79; (with_reducible refine (ih k3 (by have := HJ2.out; have := HJ8.out; have := HK3.out; omega) ((rd_T35 l0_2 x38_3).f0) ((rd_T35 l0_2 x38_3).f1) _ _ ((rd_T35 l0_2 x38_3).f2) (wrap64 (a1 - 1)) t79006 _ ?side1 ?side2 A25.out).mono ?_); (case side1 => exact Kd.C_below HR79004_2.out za2); (case side2 => exact HC79004_2.out); rintro e w29 ⟨rfl, hb⟩; have n0_ := Aside0.mk (blk_below (g := gb79001) (o := .cells #[.int .i64 a0_0, .string a0_1, .slice (some ad79004) l0_2.length c0_2] 35 (0, 0)) za12 hb); have n1_ := Aside0.mk (blk_below (g := gb79005) (o := .cells #[.int .i64 ((rd_T35 l0_2 x38_3).f0), .string ((rd_T35 l0_2 x38_3).f1), .slice A79004_2 ((rd_T35 l0_2 x38_3).f2).length c79004_2] 35 (0, 0)) za10 hb); have n2_ := Aside0.mk (below_step za2 hb); clear BK79001; clear BK79005; clear HB; have BK79001 := n0_; have BK79005 := n1_; have HB := n2_; clear n0_ n1_ n2_; (try clear hb); (try clear hb2); (try clear hk); (try clear hi))))
      go_roundg k3
      case measure => have := HJ2.out; have := HJ8.out; have := HK3.out; omega
      case rel => exact ⟨(wrap64 (x5_3 + t79006)), (wrap64 (x38_3 + 1)), za6, za6, H', ⟨by have := HJ2.out; have := HJ8.out; have := HK3.out; omega⟩, ⟨za0 BK79001.out⟩, ⟨za2⟩⟩
     ·rw [if_neg c24] at H
      exact absurd H (by simp)
     ·rw [if_neg c23] at H
      exact absurd H (by simp)
     ·rw [if_neg c22] at H
      have c22b0 : decide (x38_3 < (l0_2.length : Int)) = false := decide_eq_false c22
      clear c22
      obtain ⟨ji30, hji30⟩ : ∃ j_ : Int, (mn x5_3 17) = j_ := ⟨_, rfl⟩
      replace H : (some ji30) = some r := by first | (rw [hji30] at H; exact H) | (simp only [hji30] at H ⊢; exact H)
      have hji30_ : (if 17 < x5_3 then 17 else x5_3) = ji30 := hji30
      obtain rfl := Option.some.inj H
      go_wp2
      repeat (go_quiet (fail); try go_wp2)
      go_ret
      exact ⟨by first | rfl | (simp [errW_none, errW_some] <;> rfl) | (simp only [← hji30]; first | rfl | (simp [errW_none, errW_some] <;> rfl)) | (simp [*, errW_none, errW_some] <;> rfl), za2⟩
def impl_IsValidRegex.f (k : Nat) (a0_0 : Int) (a0_1 : ByteArray) (l0_2 : List (S35)) : Option (Bool) := (impl_nodesOf.f k a0_0 a0_1 l0_2 6).bind fun t54002 => (some (decide (t54002 ≤ 16)))
theorem impl_IsValidRegex.mono : ∀ a0 a1 a2 k, LeO (impl_IsValidRegex.f k a0 a1 a2) (impl_IsValidRegex.f (k + 1) a0 a1 a2) := by
 intro a0 a1 a2 k
 unfold impl_IsValidRegex.f
 repeat' first
   | with_reducible first | exact impl_nodesOf.mono _ _ _ _ _ | exact LeO.refl _ | exact LeO.none _ | refine LeO.ite ?_ ?_ | refine LeO.bind ?_ (fun _ => ?_)
theorem impl_IsValidRegex.calls (k : Nat) (a0_0 : Int) (a0_1 : ByteArray) (A0_2 : Option Addr) (c0_2 : Nat) (l0_2 : List (S35)) (r : Bool) (w : World) (hr0_2 : Kd.C k35 w A0_2 l0_2.length l0_2) (hc0_2 : l0_2.length ≤ c0_2) (h : impl_IsValidRegex.f k a0_0 a0_1 l0_2 = some r) :
  Calls Try.prog 54 #[.agg #[.int .i64 a0_0, .string a0_1, .slice A0_2 l0_2.length c0_2]] w fun e w' => e = .returned (.bool r) ∧ Below w.heap.size w w' := by
 have hu35 := Try.underlying35
 have HR0_2 := Aside0.mk hr0_2
 have HC0_2 := Aside0.mk hc0_2
 clear hr0_2 hc0_2
 have HB := Aside0.mk (Below.refl w.heap.size w)
 have H : ((impl_nodesOf.f k a0_0 a0_1 l0_2 6).bind fun t54002 => (some (decide (t54002 ≤ 16)))) = some r := h
 clear h
 replace H := Option.bind_eq_some_iff.mp H
 obtain ⟨t54002, A20, H⟩ := H
 replace H : (some (decide (t54002 ≤ 16))) = some r := H
 have A2 := Aside0.mk A20
 clear A20
 obtain rfl := Option.some.inj H
 go_enter Try.func54, Try.ntmps54
 go_wp2_with (first | ((with_reducible refine gate_dst (N := 1) rfl ?_); refine box_event ?hg (N := 1) ?hd (cs := #[.int .i64 a0_0, .string a0_1, .slice A0_2 l0_2.length c0_2]) (t := 35) ?hr ?_; (case hd => rfl); (case hg => rfl); (case hr => first | (go_simp; done) | (go_simp; rfl)); intro gb54001 hg w3 hbox hb; have n0_ := Aside0.mk (below_step za2 hb); have n1_ := Aside0.mk (hbox); have n2_ := Aside0.mk ((by rw [hg]; exact (below_size za2) : w.heap.size ≤ gb54001)); have n3_ := Aside0.mk ((by rw [hg]; exact (below_size za2) : w.heap.size ≤ gb54001)); clear HB; have HB := n0_; have BK54001 := n1_; have GW54001 := n2_; have GE54001 := n3_; clear n0_ n1_ n2_ n3_; clear hb hbox hg; obtain ⟨hcz4_0, hcz4_1, hcz4_2, hfz4_0, hfz4_1, hfz4_2⟩ := blk3 BK54001.out) | ((with_reducible refine gate_callee (f := 79) rfl ?_); refine goesL_ (some 4) rfl rfl Try.func79 (by kernel_rfl) rfl #[.agg #[.int .i64 a0_0, .string a0_1, .slice A0_2 l0_2.length c0_2], .int .i64 6] rfl za3 ?_; (with_reducible refine (impl_nodesOf.calls k a0_0 a0_1 _ _ l0_2 6 t54002 _ ?side1 ?side2 A2.out).mono ?_); (case side1 => repeat (first | exact (Kd.C_below HR0_2.out HB.out) | (with_reducible refine Kd.C_alloc ?_ _) | (with_reducible refine Kd.C_drewN ?_ _) | (with_reducible refine Kd.C_drew ?_))); (case side2 => exact HC0_2.out); rintro e w5 ⟨rfl, hb⟩; refine ⟨_, rfl, ?_⟩; have n0_ := Aside0.mk (blk_below (g := gb54001) (o := .cells #[.int .i64 a0_0, .string a0_1, .slice A0_2 l0_2.length c0_2] 35 (0, 0)) (za0 BK54001.out) hb); have n1_ := Aside0.mk (below_step za2 hb); clear BK54001; clear HB; have BK54001 := n0_; have HB := n1_; clear n0_ n1_; (try clear hb); (try clear hb2); (try clear hk); (try clear hi)))
 go_ret
 exact ⟨za5, za2⟩
end Go.Proofs.Ytffjfdoghofkdaa.A
namespace Go.Proofs.Ytffjfdoghofkdaa.A
open Go.RowKit Go.Proofs.Ytffjfdoghofkdaa.Ext Go.Proofs.YtffjfdoghofkdaaW.PrintWords Go.Proofs.YtffjfdoghofkdaaW.PrintLast Go.Proofs.YtffjfdoghofkdaaW.PrintMore
attribute [local go_sem] max2_int min2_int max_two min_two max_three min_three max_four min_four
def impl_within.f (a0 : Int) (a1 : Int) (a2 : Int) : Option (Bool) := if a0 ≥ a1 then (some (decide (a0 ≤ a2))) else (some false)
theorem impl_within.calls (a0 : Int) (a1 : Int) (a2 : Int) (r : Bool) (w : World) (h : impl_within.f a0 a1 a2 = some r) :
  Calls Try.prog 55 #[.int .i64 a0, .int .i64 a1, .int .i64 a2] w fun e w' => e = .returned (.bool r) ∧ Drawn0 w w' := by
 have H : (if a0 ≥ a1 then (some (decide (a0 ≤ a2))) else (some false)) = some r := h
 clear h
 by_cases c4 : a0 ≥ a1
 rw [if_pos c4] at H
 have c4b0 : decide (a1 ≤ a0) = true := decide_eq_true c4
 rotate_left
 rw [if_neg c4] at H
 have c4b0 : decide (a1 ≤ a0) = false := decide_eq_false c4
 rotate_left
 all_goals
  clear c4
  obtain rfl := Option.some.inj H
  go_enter Try.func55, Try.ntmps55
  go_wp2
  go_ret
  exact ⟨za6, za8⟩
end Go.Proofs.Ytffjfdoghofkdaa.A
namespace Go.Proofs.Ytffjfdoghofkdaa.A
open Go.RowKit Go.Proofs.Ytffjfdoghofkdaa.Ext Go.Proofs.YtffjfdoghofkdaaW.PrintWords Go.Proofs.YtffjfdoghofkdaaW.PrintLast Go.Proofs.YtffjfdoghofkdaaW.PrintMore
attribute [local go_sem] max2_int min2_int max_two min_two max_three min_three max_four min_four
def impl_IsValidConstraint_1.f (a0 : Int) : Option (Bool) := (impl_within.f a0 (-9) 9).bind fun t57001 => (some (!t57001))
theorem impl_IsValidConstraint_1.calls (a0 : Int) (r : Bool) (w : World) (h : impl_IsValidConstraint_1.f a0 = some r) :
  Calls Try.prog 57 #[.int .i64 a0] w fun e w' => e = .returned (.bool r) ∧ Drawn0 w w' := by
 have H : ((impl_within.f a0 (-9) 9).bind fun t57001 => (some (!t57001))) = some r := h
 clear h
 replace H := Option.bind_eq_some_iff.mp H
 obtain ⟨t57001, A20, H⟩ := H
 replace H : (some (!t57001)) = some r := H
 have A2 := Aside0.mk A20
 clear A20
 obtain rfl := Option.some.inj H
 go_enter Try.func57, Try.ntmps57
 go_wp2_with (first | ((with_reducible refine gate_callee (f := 55) rfl ?_); refine goesL_ (some 4) rfl rfl Try.func55 (by kernel_rfl) rfl #[.int .i64 a0, .int .i64 (-9), .int .i64 9] rfl za3 ?_; (with_reducible refine (impl_within.calls a0 (-9) 9 t57001 _ A2.out).mono ?_); rintro e w' ⟨rfl, ⟨nd, rfl⟩⟩; refine ⟨_, rfl, ?_⟩))
 go_ret
 exact ⟨za6, za8⟩
end Go.Proofs.Ytffjfdoghofkdaa.A
namespace Go.Proofs.Ytffjfdoghofkdaa.Ext
open Go.RowKit Go.Proofs.YtffjfdoghofkdaaW.PrintWords Go.Proofs.YtffjfdoghofkdaaW.PrintLast
theorem goesF_ {P : Program} {ops : Array Oper} {Q : Exit → Act → World → Prop} {rest : List Oper} {oi : Oper} {a : Act} {w : World} (N : Option Tmp) (hd : oi.dst = N) (hg : oi.guard = none) {f : FuncId} {fn : Func} {as_ : Array Operand} {ts : Array TypeId} {c : Operand} (hf : P.funcs[f]? = some fn) (hname : (fn.name == "runtime.NumGoroutine") = false) (hb : fn.body.isSome = true) (args : Array Value)
  (hop : oi.op = .call { callee := .value c, args := as_, argTypes := ts }) (hc : a.eval c = .func (.func f) #[] #[]) (hargs : as_.map a.eval = args)
  (h : Calls P f args w fun e w' => ∃ v, e = .returned v ∧ wpList P ops Q rest (a.put N v) w') : wpList P ops Q (oi :: rest) a w := by
 refine wpList_plain hg fun K hK => ?_
 have he := enters_ hf hname hb args w
 have hrun : (execOp a.eval oi).run P w = .ok (.enter f args) w := by
  unfold execOp
  rw [hop]
  simp [hc, resolve, Deferred.ofValue, invoke, hargs, he]
 unfold Oper.wp
 rw [hrun, Oper.upon_enter]
 refine h.mono fun e w'' hh => ?_
 obtain ⟨v, rfl, hk⟩ := hh
 subst hd
 exact hK _ _ hk
end Go.Proofs.Ytffjfdoghofkdaa.Ext
namespace Go.Proofs.Ytffjfdoghofkdaa.A
open Go.RowKit Go.Proofs.Ytffjfdoghofkdaa.Ext Go.Proofs.YtffjfdoghofkdaaW.PrintWords Go.Proofs.YtffjfdoghofkdaaW.PrintLast Go.Proofs.YtffjfdoghofkdaaW.PrintMore
attribute [local go_sem] max2_int min2_int max_two min_two max_three min_three max_four min_four
def slices_IndexFunc_int_int.l0 : Nat → List Int → Int → Int → Option (Int)
 | 0, _, _, _ => none
 | k + 1, x0, x7, x8 => if x8 < x7 then (if 0 ≤ x8 then (if x8 < (x0.length : Int) then ((impl_IsValidConstraint_1.f (rd x0 x8)).bind fun t80002 => (if t80002 = true then (some x8) else (slices_IndexFunc_int_int.l0 k x0 x7 (wrap64 (x8 + 1))))) else (none)) else (none)) else (some (-1))
def slices_IndexFunc_int_int.f (k : Nat) (l0 : List Int) : Option (Int) := slices_IndexFunc_int_int.l0 k l0 (l0.length : Int) 0
theorem slices_IndexFunc_int_int.mono_l : ∀ k, (∀ y0 y1 y2, LeO (slices_IndexFunc_int_int.l0 k y0 y1 y2) (slices_IndexFunc_int_int.l0 (k + 1) y0 y1 y2))
 | 0 => fun _ _ _ r h => by simp [slices_IndexFunc_int_int.l0] at h
 | k + 1 => by
  have ih0 := slices_IndexFunc_int_int.mono_l k
  ·intro y0 y1 y2
   unfold slices_IndexFunc_int_int.l0
   repeat' first
   | with_reducible first | exact ih0 _ _ _ | exact LeO.refl _ | exact LeO.none _ | refine LeO.ite ?_ ?_ | refine LeO.bind ?_ (fun _ => ?_)
theorem slices_IndexFunc_int_int.mono : ∀ a0 k, LeO (slices_IndexFunc_int_int.f k a0) (slices_IndexFunc_int_int.f (k + 1) a0) := by
 intro a0 k
 have ih0 := slices_IndexFunc_int_int.mono_l k
 unfold slices_IndexFunc_int_int.f
 repeat' first
   | with_reducible first | exact ih0 _ _ _ | exact LeO.refl _ | exact LeO.none _ | refine LeO.ite ?_ ?_ | refine LeO.bind ?_ (fun _ => ?_)
theorem slices_IndexFunc_int_int.calls (k : Nat) (A0 : Option Addr) (c0 : Nat) (l0 : List Int) (r : Int) (w : World) (hr0 : Kd.C (Kd.int .i64) w A0 l0.length l0) (hc0 : l0.length ≤ c0) (h : slices_IndexFunc_int_int.f k l0 = some r) :
  Calls Try.prog 80 #[.slice A0 l0.length c0, .func (.func 57) #[] #[]] w fun e w' => e = .returned (.int .i64 r) ∧ Drawn0 w w' := by
 have HR0 := Aside0.mk hr0
 have HC0 := Aside0.mk hc0
 clear hr0 hc0
 have H : (slices_IndexFunc_int_int.l0 k l0 (l0.length : Int) 0) = some r := h
 clear h
 have H' := Aside0.mk H
 clear H
 go_enter Try.func80, Try.ntmps80
 go_wp2
 first | go_loopg [8] k (fun kq v8 w' => ∃ (x8_1 : Int), v8 = .int .i64 x8_1 ∧ Aside0 (slices_IndexFunc_int_int.l0 kq l0 (l0.length : Int) x8_1 = some r) ∧ Aside0 (kq ≤ k) ∧ Drawn0 w w') | (simp only [Act.put, List.setIfInBounds_toArray, List.set_cons_succ, List.set_cons_zero]; go_loopg [8] k (fun kq v8 w' => ∃ (x8_1 : Int), v8 = .int .i64 x8_1 ∧ Aside0 (slices_IndexFunc_int_int.l0 kq l0 (l0.length : Int) x8_1 = some r) ∧ Aside0 (kq ≤ k) ∧ Drawn0 w w'))
 case atStart => exact ⟨(0), za6, H', ⟨Nat.le_refl _⟩, za8⟩
 case round =>
  clear H'
  obtain ⟨x8_1, rfl, HA, HK1, ⟨m1, rfl⟩⟩ := hrel
  cases gk with
  | zero => exact absurd HA.out (by simp [slices_IndexFunc_int_int.l0])
  | succ k1 =>
  have H := HA.out
  clear HA
  simp only [slices_IndexFunc_int_int.l0] at H
  by_cases c2 : x8_1 < (l0.length : Int)
  rw [if_pos c2] at H
  have c2b0 : decide (x8_1 < (l0.length : Int)) = true := decide_eq_true c2
  clear c2
  by_cases c3 : 0 ≤ x8_1
  rw [if_pos c3] at H
  have c3b0 : decide (0 ≤ x8_1) = true := decide_eq_true c3
  clear c3
  by_cases c4 : x8_1 < (l0.length : Int)
  rw [if_pos c4] at H
  have c4b0 : decide (x8_1 < (l0.length : Int)) = true := decide_eq_true c4
  clear c4
  replace H := Option.bind_eq_some_iff.mp H
  obtain ⟨t80002, A50, H⟩ := H
  replace H : (if t80002 = true then (some x8_1) else (slices_IndexFunc_int_int.l0 k1 l0 (l0.length : Int) (wrap64 (x8_1 + 1)))) = some r := H
  have A5 := Aside0.mk A50
  clear A50
  by_cases c6 : t80002 = true
  subst c6
  have H1 : (some x8_1) = some r := by rw [if_pos rfl] at H; exact H
  clear H
  have H := H1
  clear H1
  obtain rfl := Option.some.inj H
  have fin0_ := Aside0.mk trivial
  rotate_left
  replace c6 := Bool.eq_false_iff.mpr c6
  subst c6
  have H1 : (slices_IndexFunc_int_int.l0 k1 l0 (l0.length : Int) (wrap64 (x8_1 + 1))) = some r := by rw [if_neg (show ¬ (false = true) by decide)] at H; exact H
  clear H
  have H := H1
  clear H1
  have H' := Aside0.mk H
  clear H
  have fin1_ := Aside0.mk trivial
  rotate_left
  ·rw [if_neg c4] at H
   exact absurd H (by simp)
  ·rw [if_neg c3] at H
   exact absurd H (by simp)
  ·rw [if_neg c2] at H
   have c2b0 : decide (x8_1 < (l0.length : Int)) = false := decide_eq_false c2
   clear c2
   obtain rfl := Option.some.inj H
   go_wp2
   go_ret
   exact ⟨za6, za8⟩
  all_goals
   have p80001 : 0 ≤ (x8_1 : Int) := of_decide_eq_true za7
   have q80001 : x8_1 < (l0.length : Int) := of_decide_eq_true za7
   obtain ⟨ad80001, e80001, hx80001_0⟩ := Kd.at_int HR0.out x8_1 p80001 q80001
   cases e80001
   replace p80001 := eq_true p80001
   replace q80001 := eq_true q80001
   go_wp2_with (((with_reducible refine gate_dst (N := 16) rfl ?_); refine goesF_ (some 16) rfl rfl Try.func57 (by kernel_rfl) rfl #[.int .i64 (rd l0 x8_1)] rfl (by first | rfl | (go_simp; done)) za3 ?_; (with_reducible refine (impl_IsValidConstraint_1.calls (rd l0 x8_1) _ _ A5.out).mono ?_); rintro e w' ⟨rfl, ⟨nd, rfl⟩⟩; refine ⟨_, rfl, ?_⟩))
   first
   | (
    clear fin0_
    go_ret
    exact ⟨za6, za8⟩)
   | (
    clear fin1_
    go_roundg k1
    case measure => have := HK1.out; omega
    case rel => exact ⟨(wrap64 (x8_1 + 1)), za6, H', ⟨za11⟩, za8⟩)
end Go.Proofs.Ytffjfdoghofkdaa.A
namespace Go.Proofs.Ytffjfdoghofkdaa.A
open Go.RowKit Go.Proofs.Ytffjfdoghofkdaa.Ext Go.Proofs.YtffjfdoghofkdaaW.PrintWords Go.Proofs.YtffjfdoghofkdaaW.PrintLast Go.Proofs.YtffjfdoghofkdaaW.PrintMore
attribute [local go_sem] max2_int min2_int max_two min_two max_three min_three max_four min_four
def slices_ContainsFunc_int_int.f (k : Nat) (l0 : List Int) : Option (Bool) := (slices_IndexFunc_int_int.f k l0).bind fun t56001 => (some (decide (t56001 ≥ 0)))
theorem slices_ContainsFunc_int_int.mono : ∀ a0 k, LeO (slices_ContainsFunc_int_int.f k a0) (slices_ContainsFunc_int_int.f (k + 1) a0) := by
 intro a0 k
 unfold slices_ContainsFunc_int_int.f
 repeat' first
   | with_reducible first | exact slices_IndexFunc_int_int.mono _ _ | exact LeO.refl _ | exact LeO.none _ | refine LeO.ite ?_ ?_ | refine LeO.bind ?_ (fun _ => ?_)
theorem slices_ContainsFunc_int_int.calls (k : Nat) (A0 : Option Addr) (c0 : Nat) (l0 : List Int) (r : Bool) (w : World) (hr0 : Kd.C (Kd.int .i64) w A0 l0.length l0) (hc0 : l0.length ≤ c0) (h : slices_ContainsFunc_int_int.f k l0 = some r) :
  Calls Try.prog 56 #[.slice A0 l0.length c0, .func (.func 57) #[] #[]] w fun e w' => e = .returned (.bool r) ∧ Drawn0 w w' := by
 have HR0 := Aside0.mk hr0
 have HC0 := Aside0.mk hc0
 clear hr0 hc0
 have H : ((slices_IndexFunc_int_int.f k l0).bind fun t56001 => (some (decide (t56001 ≥ 0)))) = some r := h
 clear h
 replace H := Option.bind_eq_some_iff.mp H
 obtain ⟨t56001, A20, H⟩ := H
 replace H : (some (decide (t56001 ≥ 0))) = some r := H
 have A2 := Aside0.mk A20
 clear A20
 obtain rfl := Option.some.inj H
 go_enter Try.func56, Try.ntmps56
 go_wp2_with (first | ((with_reducible refine gate_callee (f := 80) rfl ?_); refine goesL_ (some 7) rfl rfl Try.func80 (by kernel_rfl) rfl #[.slice A0 l0.length c0, .func (.func 57) #[] #[]] rfl za3 ?_; (with_reducible refine (slices_IndexFunc_int_int.calls k _ _ l0 t56001 _ ?side1 ?side2 A2.out).mono ?_); (case side1 => repeat (first | exact HR0.out | (with_reducible refine Kd.C_alloc ?_ _) | (with_reducible refine Kd.C_drewN ?_ _) | (with_reducible refine Kd.C_drew ?_))); (case side2 => exact HC0.out); rintro e w' ⟨rfl, ⟨nd, rfl⟩⟩; refine ⟨_, rfl, ?_⟩))
 go_ret
 exact ⟨za6, za8⟩
end Go.Proofs.Ytffjfdoghofkdaa.A
namespace Go.Proofs.Ytffjfdoghofkdaa.Ext
open Go Go.RowKit Go.Proofs.YtffjfdoghofkdaaW.PrintWords Go.Proofs.YtffjfdoghofkdaaW.PrintLast Go.Proofs.Ytffjfdoghofkdaa.A
theorem two_new (w : World) (o1 o2 : Obj) : ((w.alloc o1).alloc o2).drew.heap[w.heap.size]? = some o1 ∧ ((w.alloc o1).alloc o2).drew.heap[w.heap.size + 1]? = some o2 ∧ Below w.heap.size w ((w.alloc o1).alloc o2).drew := by
 refine ⟨blk_drew (blk_alloc (blk_new w o1) o2), ?_, below_drew (below_alloc (below_alloc (Below.refl _ _) _) _)⟩
 have := blk_new (w.alloc o1) o2
 rw [show (w.alloc o1).heap.size = w.heap.size + 1 by simp] at this
 exact blk_drew this
section
variable (w0 : World) (g b : Nat) (hgb : g ≠ b) (hg : w0.heap.size ≤ g) (hb : w0.heap.size ≤ b) (s : ByteArray) (n : Nat) (hn : n ≤ 401) (hsn : s.size + 1 = n) (z : Nat) (hz : z ≤ 16) (T : Nat → Nat → Nat → Bool)
 (bs : ByteArray) (A : Option Addr) (c id i j : Nat) (hij : i ≤ j) (hj : j < n) (m : List Int) (W : World) (hl : m.length = z * n * n) (hM : MSt g b s n m W) (hB : Below w0.heap.size w0 W)
include hgb hg hb hn hsn hz hij hj hl hM hB
set_option maxHeartbeats 4000000 in
theorem find_not (y : S35) (u : Rx) (hC : Kd.C k35 w0 A 1 [y]) (hid : id + 1 + u.size ≤ z)
  (hc : ∀ A2 c2, y.f2.length ≤ c2 → Kd.C k35 w0 A2 y.f2.length y.f2 → MC w0 g b s n z T u y.f0 y.f1 A2 y.f2.length c2 (id + 1) n)
  (hG : Gd n T m (RgF id (1 + u.size) (j - i))) :
  Calls Try.prog 94 #[.pointer (some ⟨g, 0, none⟩), .agg #[.int .i64 9, .string bs, .slice A 1 c], .int .i64 (id : Int), .int .i64 (i : Int), .int .i64 (j : Int)] W (MPost w0 W g b s n T m (RgF id (1 + u.size) (j - i)) (!mt s u i j)) := by
 obtain ⟨ad, A2, c2, rfl, e0, e1, e2, h3, h4⟩ := arg0_at hC hB
 have hsub : ∀ a' i' j', RgM (id + 1) u.size (j - i) a' i' j' → RgF id (1 + u.size) (j - i) a' i' j' := fun a' i' j' h => ⟨by have := h.1; omega, by have := h.2.1; omega, fun e => by have := h.1; omega⟩
 have HC := Aside0.mk (fun (W' : World) (hM' : MSt g b s n m W') (hB' : Below w0.heap.size w0 W') => hc A2 c2 h3 h4 i j ((id : Int) + 1) i j m W' (by omega) rfl rfl hij hj (by omega) hl hM' (hG.sub hsub) hB')
 have HS := Aside0.mk hsub
 have HM := Aside0.mk hM
 have HB := Aside0.mk hB
 have HG := Aside0.mk hG
 clear hM hB hG hl hsub hc h3 h4 hC
 go_enter Try.func94, Try.ntmps94
 go_wp2_with (first | ((with_reducible refine gate_dst (N := 6) rfl ?_); refine box_event ?hg (N := 6) ?hd (cs := #[.int .i64 9, .string bs, .slice (some ad) 1 c]) (t := 35) ?hr ?_; (case hd => rfl); (case hg => rfl); (case hr => first | (go_simp; done) | (go_simp; rfl)); intro gx hgx w3 hbox hb3; have M3 := Aside0.mk (HM.out.below hb3); have K3 := Aside0.mk (KeepBut.of_below hb3 b none); have B3 := Aside0.mk (below_step HB.out hb3 : Below w0.heap.size w0 w3); have X3 := Aside0.mk hbox; have G3 := Aside0.mk (show W.heap.size ≤ gx by omega); have N3 := Aside0.mk (show b < W.heap.size from blk_lt HM.out.hb); have e0 := pw_cell_below hb3 e0; have e1 := pw_cell_below hb3 e1; have e2 := pw_cell_below hb3 e2; clear hb3 hbox hgx; obtain ⟨y0, y1, y2, g0, g1, g2⟩ := blk3 X3.out; obtain ⟨z0, z1, z2, f0, f1, f2⟩ := blk3 M3.out.hm) | (go_at_call 86; (with_reducible refine (HC.out _ M3.out B3.out).mono ?_); rintro e w5 ⟨rfl, m5, hl5, M5, G5, S5, K5, B5⟩; have n0_ := Aside0.mk hl5; have n1_ := Aside0.mk G5; have n2_ := Aside0.mk S5; have n3_ := Aside0.mk K5; have n4_ := Aside0.mk B5; have n5_ := Aside0.mk M5; clear hl5 G5 S5 K5 B5 M5))
 go_ret
 exact ⟨rfl, m5, n0_.out, n5_.out, HG.out.next n1_.out n2_.out, Sm3.next (Sm3.refl _ _ _) n2_.out HS.out, K3.out.trans n3_.out (.inl rfl), n4_.out⟩
set_option maxHeartbeats 4000000 in
theorem find_or (x y : S35) (t u : Rx) (hC : Kd.C k35 w0 A 2 [x, y]) (hid : id + 1 + t.size + u.size ≤ z)
  (hx : ∀ A2 c2, x.f2.length ≤ c2 → Kd.C k35 w0 A2 x.f2.length x.f2 → MC w0 g b s n z T t x.f0 x.f1 A2 x.f2.length c2 (id + 1) n)
  (hy : ∀ A2 c2, y.f2.length ≤ c2 → Kd.C k35 w0 A2 y.f2.length y.f2 → MC w0 g b s n z T u y.f0 y.f1 A2 y.f2.length c2 (id + 1 + t.size) n)
  (hsz : ∀ A2 c2 W', x.f2.length ≤ c2 → Kd.C k35 W' A2 x.f2.length x.f2 → Calls Try.prog 85 #[.agg #[.int .i64 x.f0, .string x.f1, .slice A2 x.f2.length c2]] W' fun e w' => e = .returned (.int .i64 (t.size : Int)) ∧ Below W'.heap.size W' w')
  (hG : Gd n T m (RgF id (1 + t.size + u.size) (j - i))) :
  Calls Try.prog 94 #[.pointer (some ⟨g, 0, none⟩), .agg #[.int .i64 6, .string bs, .slice A 2 c], .int .i64 (id : Int), .int .i64 (i : Int), .int .i64 (j : Int)] W (MPost w0 W g b s n T m (RgF id (1 + t.size + u.size) (j - i)) (mt s t i j || mt s u i j)) := by
 obtain ⟨ad, A2, c2, rfl, e0, e1, e2, h3, h4⟩ := arg0_at hC hB
 obtain ⟨A3, c3, e3, e4, e5, h5, h6⟩ := arg1_at hC hB
 have HM := Aside0.mk hM
 have HB := Aside0.mk hB
 have HG := Aside0.mk hG
 have hs1 : ∀ a' i' j', RgM (id + 1) t.size (j - i) a' i' j' → RgF id (1 + t.size + u.size) (j - i) a' i' j' := fun a' i' j' h => ⟨by have := h.1; omega, by have := h.2.1; omega, fun e => by have := h.1; omega⟩
 have hs2 : ∀ a' i' j', RgM (id + 1 + t.size) u.size (j - i) a' i' j' → RgF id (1 + t.size + u.size) (j - i) a' i' j' := fun a' i' j' h => ⟨by have := h.1; omega, by have := h.2.1; omega, fun e => by have := h.1; omega⟩
 have HX := Aside0.mk (fun (W' : World) (hM' : MSt g b s n m W') (hB' : Below w0.heap.size w0 W') => hx A2 c2 h3 h4 i j ((id : Int) + 1) i j m W' (by omega) rfl rfl hij hj (by omega) hl hM' (hG.sub hs1) hB')
 have HY := Aside0.mk (fun (m' : List Int) (W' : World) (hl' : m'.length = m.length) (hM' : MSt g b s n m' W') (hG' : Gd n T m' (RgF id (1 + t.size + u.size) (j - i))) (hB' : Below w0.heap.size w0 W') => hy A3 c3 h5 h6 i j ((id : Int) + 1 + (t.size : Int)) i j m' W' (by omega) rfl rfl hij hj (by omega) (hl'.trans hl) hM' (hG'.sub hs2) hB')
 have HZ := Aside0.mk (fun (W' : World) (hB' : Below w0.heap.size w0 W') => hsz A2 c2 W' h3 (Kd.C_below h4 hB'))
 have HS1 := Aside0.mk hs1
 have HS2 := Aside0.mk hs2
 have ht0 : 0 < t.size := t.size_pos
 clear hM hB hG hl hx hy h3 h4 h5 h6 hC hsz hs1 hs2
 go_enter Try.func94, Try.ntmps94
 go_upto_region 22 with ((with_reducible refine gate_dst (N := 6) rfl ?_); refine box_event ?hg (N := 6) ?hd (cs := #[.int .i64 6, .string bs, .slice (some ad) 2 c]) (t := 35) ?hr ?_; (case hd => rfl); (case hg => rfl); (case hr => first | (go_simp; done) | (go_simp; rfl)); intro gx hgx w3 hbox hb3; have M3 := Aside0.mk (HM.out.below hb3); have K3 := Aside0.mk (KeepBut.of_below hb3 b none); have B3 := Aside0.mk (below_step HB.out hb3 : Below w0.heap.size w0 w3); have X3 := Aside0.mk hbox; have G3 := Aside0.mk (show W.heap.size ≤ gx by omega); have N3 := Aside0.mk (show b < W.heap.size from blk_lt HM.out.hb); have e0 := pw_cell_below hb3 e0; have e1 := pw_cell_below hb3 e1; have e2 := pw_cell_below hb3 e2; have e3 := pw_cell_below hb3 e3; have e4 := pw_cell_below hb3 e4; have e5 := pw_cell_below hb3 e5; clear hb3 hbox hgx; obtain ⟨y0, y1, y2, g0, g1, g2⟩ := blk3 X3.out; obtain ⟨z0, z1, z2, f0, f1, f2⟩ := blk3 M3.out.hm)
 have l1 : gx < w3.heap.size := blk_lt X3.out
 have l2 : ad.block < w3.heap.size := World.block_lt_of_cell? w3 _ e0
 go_cut [12, 13] (fun v12 v13 wc => ∃ (L R : Nat), v12 = .pointer (some ⟨L, 0, none⟩) ∧ v13 = .pointer (some ⟨R, 0, none⟩) ∧ Aside0 (wc.heap[L]? = some (.cells #[.int .i64 x.f0, .string x.f1, .slice A2 x.f2.length c2] 35 (0, 0))) ∧ Aside0 (wc.heap[R]? = some (.cells #[.int .i64 y.f0, .string y.f1, .slice A3 y.f2.length c3] 35 (0, 0))) ∧ Aside0 (wc.heap[gx]? = some (.cells #[.int .i64 6, .string bs, .slice (some ad) 2 c] 35 (0, 0))) ∧ Aside0 (MSt g b s n m wc) ∧ Aside0 (KeepBut W wc b none) ∧ Aside0 (Below w0.heap.size w0 wc) ∧ Aside0 (W.heap.size ≤ L ∧ W.heap.size ≤ R ∧ W.heap.size ≤ gx))
 case first =>
  have hw3 : Aside0 (W.heap.size ≤ w3.heap.size) := ⟨K3.out.1⟩
  go_region
  all_goals
   try go_wp2
   go_meet
   case rel =>
    first
    | exact ⟨_, _, rfl, rfl, ⟨(two_new w3 _ _).2.1⟩, ⟨(two_new w3 _ _).1⟩, ⟨blk_below X3.out (two_new w3 _ _).2.2⟩, ⟨M3.out.below (two_new w3 _ _).2.2⟩, ⟨K3.out.trans (KeepBut.of_below (two_new w3 _ _).2.2 b none) (.inl rfl)⟩, ⟨below_step B3.out (two_new w3 _ _).2.2⟩, ⟨by have := hw3.out; omega, hw3.out, G3.out⟩⟩
    | exact ⟨_, _, rfl, rfl, ⟨(two_new w3 _ _).1⟩, ⟨(two_new w3 _ _).2.1⟩, ⟨blk_below X3.out (two_new w3 _ _).2.2⟩, ⟨M3.out.below (two_new w3 _ _).2.2⟩, ⟨K3.out.trans (KeepBut.of_below (two_new w3 _ _).2.2 b none) (.inl rfl)⟩, ⟨below_step B3.out (two_new w3 _ _).2.2⟩, ⟨hw3.out, by have := hw3.out; omega, G3.out⟩⟩
 case rest =>
  clear M3 K3 B3 X3 HM HB e0 e1 e2 e3 e4 e5 y0 y1 y2 g0 g1 g2 z0 z1 z2 f0 f1 f2 l1 l2
  obtain ⟨L, R, rfl, rfl, XL, XR, XG, HM, HK, HB, HW⟩ := hcut
  obtain ⟨y0, y1, y2, g0, g1, g2⟩ := blk3 XL.out
  go_upto_region 24 with (go_at_call 85; (with_reducible refine (HZ.out _ HB.out).mono ?_); rintro e w6 ⟨rfl, hb6⟩; have n0_ := Aside0.mk (blk_below XL.out hb6); have n1_ := Aside0.mk (blk_below XR.out hb6); have n2_ := Aside0.mk (blk_below XG.out hb6); have n3_ := Aside0.mk (HM.out.below hb6); have n4_ := Aside0.mk (HK.out.trans (KeepBut.of_below hb6 b none) (.inl rfl)); have n5_ := Aside0.mk (below_step HB.out hb6); clear XL XR XG HM HK HB hb6 y0 y1 y2 g0 g1 g2; have XL := n0_; have XR := n1_; have XG := n2_; have HM := n3_; have HK := n4_; have HB := n5_; clear n0_ n1_ n2_ n3_ n4_ n5_; obtain ⟨y0, y1, y2, g0, g1, g2⟩ := blk3 XL.out; obtain ⟨x0, x1, x2, h0, h1, h2⟩ := blk3 XR.out; obtain ⟨z0, z1, z2, f0, f1, f2⟩ := blk3 XG.out)
  cases hv : mt s t i j
  ·go_wp2_with (first | (go_at_call 86; (with_reducible refine (HX.out _ HM.out HB.out).mono ?_); rintro e w7 ⟨he, m7, hl7, M7, G7, S7, K7, B7⟩; rw [hv] at he; subst he; have L7 := Aside0.mk hl7; have D7 := Aside0.mk (HG.out.next G7 S7); have S7' := Aside0.mk (Sm3.next (Sm3.refl n m _) S7 HS1.out); have Q7 := Aside0.mk (HK.out.trans K7 (.inl rfl)); have XR7 := Aside0.mk (K7.blk XR.out za17 (by simp)); have B7' := Aside0.mk B7; have M7' := Aside0.mk M7; clear hl7 M7 G7 S7 K7 B7 x0 x1 x2 h0 h1 h2 y0 y1 y2 g0 g1 g2 z0 z1 z2 f0 f1 f2; obtain ⟨x0, x1, x2, h0, h1, h2⟩ := blk3 XR7.out) | (go_at_call 86; (with_reducible refine (HY.out m7 _ L7.out M7'.out D7.out B7'.out).mono ?_); rintro e w8 ⟨rfl, m8, hl8, M8, G8, S8, K8, B8⟩; have L8 := Aside0.mk (hl8.trans L7.out); have D8 := Aside0.mk (D7.out.next G8 S8); have S8' := Aside0.mk (Sm3.next S7'.out S8 HS2.out); have Q8 := Aside0.mk (Q7.out.trans K8 (.inl rfl)); have B8' := Aside0.mk B8; have M8' := Aside0.mk M8; clear hl8 M8 G8 S8 K8 B8))
   go_ret
   exact ⟨by rw [hv]; rfl, m8, L8.out, M8'.out, D8.out, S8'.out, Q8.out, B8'.out⟩
  ·go_wp2_with (go_at_call 86; (with_reducible refine (HX.out _ HM.out HB.out).mono ?_); rintro e w7 ⟨he, m7, hl7, M7, G7, S7, K7, B7⟩; rw [hv] at he; subst he; have L7 := Aside0.mk hl7; have D7 := Aside0.mk (HG.out.next G7 S7); have S7' := Aside0.mk (Sm3.next (Sm3.refl n m _) S7 HS1.out); have Q7 := Aside0.mk (HK.out.trans K7 (.inl rfl)); have XR7 := Aside0.mk (K7.blk XR.out za17 (by simp)); have B7' := Aside0.mk B7; have M7' := Aside0.mk M7; clear hl7 M7 G7 S7 K7 B7 x0 x1 x2 h0 h1 h2 y0 y1 y2 g0 g1 g2 z0 z1 z2 f0 f1 f2; obtain ⟨x0, x1, x2, h0, h1, h2⟩ := blk3 XR7.out)
   go_ret
   exact ⟨by rw [hv]; rfl, m7, L7.out, M7'.out, D7.out, S7'.out, Q7.out, B7'.out⟩
set_option maxHeartbeats 4000000 in
theorem find_and (x y : S35) (t u : Rx) (hC : Kd.C k35 w0 A 2 [x, y]) (hid : id + 1 + t.size + u.size ≤ z)
  (hx : ∀ A2 c2, x.f2.length ≤ c2 → Kd.C k35 w0 A2 x.f2.length x.f2 → MC w0 g b s n z T t x.f0 x.f1 A2 x.f2.length c2 (id + 1) n)
  (hy : ∀ A2 c2, y.f2.length ≤ c2 → Kd.C k35 w0 A2 y.f2.length y.f2 → MC w0 g b s n z T u y.f0 y.f1 A2 y.f2.length c2 (id + 1 + t.size) n)
  (hsz : ∀ A2 c2 W', x.f2.length ≤ c2 → Kd.C k35 W' A2 x.f2.length x.f2 → Calls Try.prog 85 #[.agg #[.int .i64 x.f0, .string x.f1, .slice A2 x.f2.length c2]] W' fun e w' => e = .returned (.int .i64 (t.size : Int)) ∧ Below W'.heap.size W' w')
  (hG : Gd n T m (RgF id (1 + t.size + u.size) (j - i))) :
  Calls Try.prog 94 #[.pointer (some ⟨g, 0, none⟩), .agg #[.int .i64 7, .string bs, .slice A 2 c], .int .i64 (id : Int), .int .i64 (i : Int), .int .i64 (j : Int)] W (MPost w0 W g b s n T m (RgF id (1 + t.size + u.size) (j - i)) (mt s t i j && mt s u i j)) := by
 obtain ⟨ad, A2, c2, rfl, e0, e1, e2, h3, h4⟩ := arg0_at hC hB
 obtain ⟨A3, c3, e3, e4, e5, h5, h6⟩ := arg1_at hC hB
 have HM := Aside0.mk hM
 have HB := Aside0.mk hB
 have HG := Aside0.mk hG
 have hs1 : ∀ a' i' j', RgM (id + 1) t.size (j - i) a' i' j' → RgF id (1 + t.size + u.size) (j - i) a' i' j' := fun a' i' j' h => ⟨by have := h.1; omega, by have := h.2.1; omega, fun e => by have := h.1; omega⟩
 have hs2 : ∀ a' i' j', RgM (id + 1 + t.size) u.size (j - i) a' i' j' → RgF id (1 + t.size + u.size) (j - i) a' i' j' := fun a' i' j' h => ⟨by have := h.1; omega, by have := h.2.1; omega, fun e => by have := h.1; omega⟩
 have HX := Aside0.mk (fun (W' : World) (hM' : MSt g b s n m W') (hB' : Below w0.heap.size w0 W') => hx A2 c2 h3 h4 i j ((id : Int) + 1) i j m W' (by omega) rfl rfl hij hj (by omega) hl hM' (hG.sub hs1) hB')
 have HY := Aside0.mk (fun (m' : List Int) (W' : World) (hl' : m'.length = m.length) (hM' : MSt g b s n m' W') (hG' : Gd n T m' (RgF id (1 + t.size + u.size) (j - i))) (hB' : Below w0.heap.size w0 W') => hy A3 c3 h5 h6 i j ((id : Int) + 1 + (t.size : Int)) i j m' W' (by omega) rfl rfl hij hj (by omega) (hl'.trans hl) hM' (hG'.sub hs2) hB')
 have HZ := Aside0.mk (fun (W' : World) (hB' : Below w0.heap.size w0 W') => hsz A2 c2 W' h3 (Kd.C_below h4 hB'))
 have HS1 := Aside0.mk hs1
 have HS2 := Aside0.mk hs2
 have ht0 : 0 < t.size := t.size_pos
 clear hM hB hG hl hx hy h3 h4 h5 h6 hC hsz hs1 hs2
 go_enter Try.func94, Try.ntmps94
 go_upto_region 22 with ((with_reducible refine gate_dst (N := 6) rfl ?_); refine box_event ?hg (N := 6) ?hd (cs := #[.int .i64 7, .string bs, .slice (some ad) 2 c]) (t := 35) ?hr ?_; (case hd => rfl); (case hg => rfl); (case hr => first | (go_simp; done) | (go_simp; rfl)); intro gx hgx w3 hbox hb3; have M3 := Aside0.mk (HM.out.below hb3); have K3 := Aside0.mk (KeepBut.of_below hb3 b none); have B3 := Aside0.mk (below_step HB.out hb3 : Below w0.heap.size w0 w3); have X3 := Aside0.mk hbox; have G3 := Aside0.mk (show W.heap.size ≤ gx by omega); have N3 := Aside0.mk (show b < W.heap.size from blk_lt HM.out.hb); have e0 := pw_cell_below hb3 e0; have e1 := pw_cell_below hb3 e1; have e2 := pw_cell_below hb3 e2; have e3 := pw_cell_below hb3 e3; have e4 := pw_cell_below hb3 e4; have e5 := pw_cell_below hb3 e5; clear hb3 hbox hgx; obtain ⟨y0, y1, y2, g0, g1, g2⟩ := blk3 X3.out; obtain ⟨z0, z1, z2, f0, f1, f2⟩ := blk3 M3.out.hm)
 have l1 : gx < w3.heap.size := blk_lt X3.out
 have l2 : ad.block < w3.heap.size := World.block_lt_of_cell? w3 _ e0
 go_cut [12, 13] (fun v12 v13 wc => ∃ (L R : Nat), v12 = .pointer (some ⟨L, 0, none⟩) ∧ v13 = .pointer (some ⟨R, 0, none⟩) ∧ Aside0 (wc.heap[L]? = some (.cells #[.int .i64 x.f0, .string x.f1, .slice A2 x.f2.length c2] 35 (0, 0))) ∧ Aside0 (wc.heap[R]? = some (.cells #[.int .i64 y.f0, .string y.f1, .slice A3 y.f2.length c3] 35 (0, 0))) ∧ Aside0 (wc.heap[gx]? = some (.cells #[.int .i64 7, .string bs, .slice (some ad) 2 c] 35 (0, 0))) ∧ Aside0 (MSt g b s n m wc) ∧ Aside0 (KeepBut W wc b none) ∧ Aside0 (Below w0.heap.size w0 wc) ∧ Aside0 (W.heap.size ≤ L ∧ W.heap.size ≤ R ∧ W.heap.size ≤ gx))
 case first =>
  have hw3 : Aside0 (W.heap.size ≤ w3.heap.size) := ⟨K3.out.1⟩
  go_region
  all_goals
   try go_wp2
   go_meet
   case rel =>
    first
    | exact ⟨_, _, rfl, rfl, ⟨(two_new w3 _ _).2.1⟩, ⟨(two_new w3 _ _).1⟩, ⟨blk_below X3.out (two_new w3 _ _).2.2⟩, ⟨M3.out.below (two_new w3 _ _).2.2⟩, ⟨K3.out.trans (KeepBut.of_below (two_new w3 _ _).2.2 b none) (.inl rfl)⟩, ⟨below_step B3.out (two_new w3 _ _).2.2⟩, ⟨by have := hw3.out; omega, hw3.out, G3.out⟩⟩
    | exact ⟨_, _, rfl, rfl, ⟨(two_new w3 _ _).1⟩, ⟨(two_new w3 _ _).2.1⟩, ⟨blk_below X3.out (two_new w3 _ _).2.2⟩, ⟨M3.out.below (two_new w3 _ _).2.2⟩, ⟨K3.out.trans (KeepBut.of_below (two_new w3 _ _).2.2 b none) (.inl rfl)⟩, ⟨below_step B3.out (two_new w3 _ _).2.2⟩, ⟨hw3.out, by have := hw3.out; omega, G3.out⟩⟩
 case rest =>
  clear M3 K3 B3 X3 HM HB e0 e1 e2 e3 e4 e5 y0 y1 y2 g0 g1 g2 z0 z1 z2 f0 f1 f2 l1 l2
  obtain ⟨L, R, rfl, rfl, XL, XR, XG, HM, HK, HB, HW⟩ := hcut
  obtain ⟨y0, y1, y2, g0, g1, g2⟩ := blk3 XL.out
  go_upto_region 24 with (go_at_call 85; (with_reducible refine (HZ.out _ HB.out).mono ?_); rintro e w6 ⟨rfl, hb6⟩; have n0_ := Aside0.mk (blk_below XL.out hb6); have n1_ := Aside0.mk (blk_below XR.out hb6); have n2_ := Aside0.mk (blk_below XG.out hb6); have n3_ := Aside0.mk (HM.out.below hb6); have n4_ := Aside0.mk (HK.out.trans (KeepBut.of_below hb6 b none) (.inl rfl)); have n5_ := Aside0.mk (below_step HB.out hb6); clear XL XR XG HM HK HB hb6 y0 y1 y2 g0 g1 g2; have XL := n0_; have XR := n1_; have XG := n2_; have HM := n3_; have HK := n4_; have HB := n5_; clear n0_ n1_ n2_ n3_ n4_ n5_; obtain ⟨y0, y1, y2, g0, g1, g2⟩ := blk3 XL.out; obtain ⟨x0, x1, x2, h0, h1, h2⟩ := blk3 XR.out; obtain ⟨z0, z1, z2, f0, f1, f2⟩ := blk3 XG.out)
  cases hv : mt s t i j
  ·go_wp2_with (go_at_call 86; (with_reducible refine (HX.out _ HM.out HB.out).mono ?_); rintro e w7 ⟨he, m7, hl7, M7, G7, S7, K7, B7⟩; rw [hv] at he; subst he; have L7 := Aside0.mk hl7; have D7 := Aside0.mk (HG.out.next G7 S7); have S7' := Aside0.mk (Sm3.next (Sm3.refl n m _) S7 HS1.out); have Q7 := Aside0.mk (HK.out.trans K7 (.inl rfl)); have XR7 := Aside0.mk (K7.blk XR.out za17 (by simp)); have B7' := Aside0.mk B7; have M7' := Aside0.mk M7; clear hl7 M7 G7 S7 K7 B7 x0 x1 x2 h0 h1 h2 y0 y1 y2 g0 g1 g2 z0 z1 z2 f0 f1 f2; obtain ⟨x0, x1, x2, h0, h1, h2⟩ := blk3 XR7.out)
   go_ret
   exact ⟨by rw [hv]; rfl, m7, L7.out, M7'.out, D7.out, S7'.out, Q7.out, B7'.out⟩
  ·go_wp2_with (first | (go_at_call 86; (with_reducible refine (HX.out _ HM.out HB.out).mono ?_); rintro e w7 ⟨he, m7, hl7, M7, G7, S7, K7, B7⟩; rw [hv] at he; subst he; have L7 := Aside0.mk hl7; have D7 := Aside0.mk (HG.out.next G7 S7); have S7' := Aside0.mk (Sm3.next (Sm3.refl n m _) S7 HS1.out); have Q7 := Aside0.mk (HK.out.trans K7 (.inl rfl)); have XR7 := Aside0.mk (K7.blk XR.out za17 (by simp)); have B7' := Aside0.mk B7; have M7' := Aside0.mk M7; clear hl7 M7 G7 S7 K7 B7 x0 x1 x2 h0 h1 h2 y0 y1 y2 g0 g1 g2 z0 z1 z2 f0 f1 f2; obtain ⟨x0, x1, x2, h0, h1, h2⟩ := blk3 XR7.out) | (go_at_call 86; (with_reducible refine (HY.out m7 _ L7.out M7'.out D7.out B7'.out).mono ?_); rintro e w8 ⟨rfl, m8, hl8, M8, G8, S8, K8, B8⟩; have L8 := Aside0.mk (hl8.trans L7.out); have D8 := Aside0.mk (D7.out.next G8 S8); have S8' := Aside0.mk (Sm3.next S7'.out S8 HS2.out); have Q8 := Aside0.mk (Q7.out.trans K8 (.inl rfl)); have B8' := Aside0.mk B8; have M8' := Aside0.mk M8; clear hl8 M8 G8 S8 K8 B8))
   go_ret
   exact ⟨by rw [hv]; rfl, m8, L8.out, M8'.out, D8.out, S8'.out, Q8.out, B8'.out⟩
end
end Go.Proofs.Ytffjfdoghofkdaa.Ext
namespace Go.Proofs.Ytffjfdoghofkdaa.Ext
open Go Go.RowKit Go.Proofs.YtffjfdoghofkdaaW.PrintWords Go.Proofs.YtffjfdoghofkdaaW.PrintLast Go.Proofs.Ytffjfdoghofkdaa.A
section
variable (w0 : World) (g b : Nat) (hgb : g ≠ b) (hg : w0.heap.size ≤ g) (hb : w0.heap.size ≤ b) (s : ByteArray) (n : Nat) (hn : n ≤ 401) (hsn : s.size + 1 = n) (z : Nat) (hz : z ≤ 16) (T : Nat → Nat → Nat → Bool)
 (bs : ByteArray) (A : Option Addr) (c id i j : Nat) (hij : i ≤ j) (hj : j < n) (m : List Int) (W : World) (hl : m.length = z * n * n) (hM : MSt g b s n m W) (hB : Below w0.heap.size w0 W)
include hgb hg hb hn hsn hz hij hj hl hM hB
set_option maxHeartbeats 4000000 in
theorem find_cat (x y : S35) (t u : Rx) (hC : Kd.C k35 w0 A 2 [x, y]) (hid : id + 1 + t.size + u.size ≤ z)
  (hx : ∀ A2 c2, x.f2.length ≤ c2 → Kd.C k35 w0 A2 x.f2.length x.f2 → MC w0 g b s n z T t x.f0 x.f1 A2 x.f2.length c2 (id + 1) n)
  (hy : ∀ A2 c2, y.f2.length ≤ c2 → Kd.C k35 w0 A2 y.f2.length y.f2 → MC w0 g b s n z T u y.f0 y.f1 A2 y.f2.length c2 (id + 1 + t.size) n)
  (hsz : ∀ A2 c2 W', x.f2.length ≤ c2 → Kd.C k35 W' A2 x.f2.length x.f2 → Calls Try.prog 85 #[.agg #[.int .i64 x.f0, .string x.f1, .slice A2 x.f2.length c2]] W' fun e w' => e = .returned (.int .i64 (t.size : Int)) ∧ Below W'.heap.size W' w')
  (hG : Gd n T m (RgF id (1 + t.size + u.size) (j - i))) :
  Calls Try.prog 94 #[.pointer (some ⟨g, 0, none⟩), .agg #[.int .i64 5, .string bs, .slice A 2 c], .int .i64 (id : Int), .int .i64 (i : Int), .int .i64 (j : Int)] W (MPost w0 W g b s n T m (RgF id (1 + t.size + u.size) (j - i)) (exIn (fun k => mt s t i k && mt s u k j) i j)) := by
 obtain ⟨ad, A2, c2, rfl, e0, e1, e2, h3, h4⟩ := arg0_at hC hB
 obtain ⟨A3, c3, e3, e4, e5, h5, h6⟩ := arg1_at hC hB
 have HM := Aside0.mk hM
 have HB := Aside0.mk hB
 have HG := Aside0.mk hG
 have hs1 : ∀ l' a' i' j', RgM (id + 1) t.size l' a' i' j' → RgF id (1 + t.size + u.size) (j - i) a' i' j' := fun l' a' i' j' h => ⟨by have := h.1; omega, by have := h.2.1; omega, fun e => by have := h.1; omega⟩
 have hs2 : ∀ l' a' i' j', RgM (id + 1 + t.size) u.size l' a' i' j' → RgF id (1 + t.size + u.size) (j - i) a' i' j' := fun l' a' i' j' h => ⟨by have := h.1; omega, by have := h.2.1; omega, fun e => by have := h.1; omega⟩
 have HX := Aside0.mk (fun (kk : Nat) (m' : List Int) (W' : World) (h1 : i ≤ kk) (h2 : kk ≤ j) (hl' : m'.length = m.length) (hM' : MSt g b s n m' W') (hG' : Gd n T m' (RgF id (1 + t.size + u.size) (j - i))) (hB' : Below w0.heap.size w0 W') => hx A2 c2 h3 h4 i kk ((id : Int) + 1) i kk m' W' (by omega) rfl rfl h1 (by omega) (by omega) (hl'.trans hl) hM' (hG'.sub (hs1 _)) hB')
 have HY := Aside0.mk (fun (kk : Nat) (m' : List Int) (W' : World) (h1 : i ≤ kk) (h2 : kk ≤ j) (hl' : m'.length = m.length) (hM' : MSt g b s n m' W') (hG' : Gd n T m' (RgF id (1 + t.size + u.size) (j - i))) (hB' : Below w0.heap.size w0 W') => hy A3 c3 h5 h6 kk j ((id : Int) + 1 + (t.size : Int)) kk j m' W' (by omega) rfl rfl h2 hj (by omega) (hl'.trans hl) hM' (hG'.sub (hs2 _)) hB')
 have HZ := Aside0.mk (fun (W' : World) (hB' : Below w0.heap.size w0 W') => hsz A2 c2 W' h3 (Kd.C_below h4 hB'))
 have HS1 := Aside0.mk hs1
 have HS2 := Aside0.mk hs2
 have ht0 : 0 < t.size := t.size_pos
 clear hM hB hG hl hx hy h3 h4 h5 h6 hC hsz hs1 hs2
 go_enter Try.func94, Try.ntmps94
 go_upto_region 22 with ((with_reducible refine gate_dst (N := 6) rfl ?_); refine box_event ?hg (N := 6) ?hd (cs := #[.int .i64 5, .string bs, .slice (some ad) 2 c]) (t := 35) ?hr ?_; (case hd => rfl); (case hg => rfl); (case hr => first | (go_simp; done) | (go_simp; rfl)); intro gx hgx w3 hbox hb3; have M3 := Aside0.mk (HM.out.below hb3); have K3 := Aside0.mk (KeepBut.of_below hb3 b none); have B3 := Aside0.mk (below_step HB.out hb3 : Below w0.heap.size w0 w3); have X3 := Aside0.mk hbox; have G3 := Aside0.mk (show W.heap.size ≤ gx by omega); have N3 := Aside0.mk (show b < W.heap.size from blk_lt HM.out.hb); have e0 := pw_cell_below hb3 e0; have e1 := pw_cell_below hb3 e1; have e2 := pw_cell_below hb3 e2; have e3 := pw_cell_below hb3 e3; have e4 := pw_cell_below hb3 e4; have e5 := pw_cell_below hb3 e5; clear hb3 hbox hgx; obtain ⟨y0, y1, y2, g0, g1, g2⟩ := blk3 X3.out; obtain ⟨z0, z1, z2, f0, f1, f2⟩ := blk3 M3.out.hm)
 have l1 : gx < w3.heap.size := blk_lt X3.out
 have l2 : ad.block < w3.heap.size := World.block_lt_of_cell? w3 _ e0
 go_cut [12, 13] (fun v12 v13 wc => ∃ (L R : Nat), v12 = .pointer (some ⟨L, 0, none⟩) ∧ v13 = .pointer (some ⟨R, 0, none⟩) ∧ Aside0 (wc.heap[L]? = some (.cells #[.int .i64 x.f0, .string x.f1, .slice A2 x.f2.length c2] 35 (0, 0))) ∧ Aside0 (wc.heap[R]? = some (.cells #[.int .i64 y.f0, .string y.f1, .slice A3 y.f2.length c3] 35 (0, 0))) ∧ Aside0 (wc.heap[gx]? = some (.cells #[.int .i64 5, .string bs, .slice (some ad) 2 c] 35 (0, 0))) ∧ Aside0 (MSt g b s n m wc) ∧ Aside0 (KeepBut W wc b none) ∧ Aside0 (Below w0.heap.size w0 wc) ∧ Aside0 (W.heap.size ≤ L ∧ W.heap.size ≤ R ∧ W.heap.size ≤ gx))
 case first =>
  have hw3 : Aside0 (W.heap.size ≤ w3.heap.size) := ⟨K3.out.1⟩
  go_region
  all_goals
   try go_wp2
   go_meet
   case rel =>
    first
    | exact ⟨_, _, rfl, rfl, ⟨(two_new w3 _ _).2.1⟩, ⟨(two_new w3 _ _).1⟩, ⟨blk_below X3.out (two_new w3 _ _).2.2⟩, ⟨M3.out.below (two_new w3 _ _).2.2⟩, ⟨K3.out.trans (KeepBut.of_below (two_new w3 _ _).2.2 b none) (.inl rfl)⟩, ⟨below_step B3.out (two_new w3 _ _).2.2⟩, ⟨by have := hw3.out; omega, hw3.out, G3.out⟩⟩
    | exact ⟨_, _, rfl, rfl, ⟨(two_new w3 _ _).1⟩, ⟨(two_new w3 _ _).2.1⟩, ⟨blk_below X3.out (two_new w3 _ _).2.2⟩, ⟨M3.out.below (two_new w3 _ _).2.2⟩, ⟨K3.out.trans (KeepBut.of_below (two_new w3 _ _).2.2 b none) (.inl rfl)⟩, ⟨below_step B3.out (two_new w3 _ _).2.2⟩, ⟨hw3.out, by have := hw3.out; omega, G3.out⟩⟩
 case rest =>
  clear M3 K3 B3 X3 HM HB e0 e1 e2 e3 e4 e5 y0 y1 y2 g0 g1 g2 z0 z1 z2 f0 f1 f2 l1 l2
  obtain ⟨L, R, rfl, rfl, XL, XR, XG, HM, HK, HB, HW⟩ := hcut
  obtain ⟨y0, y1, y2, g0, g1, g2⟩ := blk3 XL.out
  go_upto_region 24 with (go_at_call 85; (with_reducible refine (HZ.out _ HB.out).mono ?_); rintro e w6 ⟨rfl, hb6⟩; have n0_ := Aside0.mk (blk_below XL.out hb6); have n1_ := Aside0.mk (blk_below XR.out hb6); have n2_ := Aside0.mk (blk_below XG.out hb6); have n3_ := Aside0.mk (HM.out.below hb6); have n4_ := Aside0.mk (HK.out.trans (KeepBut.of_below hb6 b none) (.inl rfl)); have n5_ := Aside0.mk (below_step HB.out hb6); clear XL XR XG HM HK HB hb6 y0 y1 y2 g0 g1 g2; have XL := n0_; have XR := n1_; have XG := n2_; have HM := n3_; have HK := n4_; have HB := n5_; clear n0_ n1_ n2_ n3_ n4_ n5_; obtain ⟨y0, y1, y2, g0, g1, g2⟩ := blk3 XL.out; obtain ⟨x0, x1, x2, h0, h1, h2⟩ := blk3 XR.out; obtain ⟨z0, z1, z2, f0, f1, f2⟩ := blk3 XG.out)
  go_wp2
  clear x0 x1 x2 h0 h1 h2 y0 y1 y2 g0 g1 g2 z0 z1 z2 f0 f1 f2
  go_loopg [15] (j + 1 - i) (fun kq v15 w' => ∃ (kk : Nat) (mm : List Int), v15 = .int .i64 (kk : Int) ∧ Aside0 (kk + kq = j + 1) ∧ Aside0 (i ≤ kk) ∧ Aside0 (∀ k', i ≤ k' → k' < kk → (mt s t i k' && mt s u k' j) = false) ∧ Aside0 (mm.length = m.length) ∧ Aside0 (MSt g b s n mm w') ∧ Aside0 (Gd n T mm (RgF id (1 + t.size + u.size) (j - i))) ∧ Aside0 (Sm3 n m mm (RgF id (1 + t.size + u.size) (j - i))) ∧ Aside0 (KeepBut W w' b none) ∧ Aside0 (Below w0.heap.size w0 w') ∧ Aside0 (w'.heap[L]? = some (.cells #[.int .i64 x.f0, .string x.f1, .slice A2 x.f2.length c2] 35 (0, 0))) ∧ Aside0 (w'.heap[R]? = some (.cells #[.int .i64 y.f0, .string y.f1, .slice A3 y.f2.length c3] 35 (0, 0))))
  case atStart => exact ⟨i, m, rfl, ⟨by omega⟩, ⟨Nat.le_refl _⟩, ⟨fun k' h1 h2 => by omega⟩, ⟨rfl⟩, HM, HG, ⟨Sm3.refl _ _ _⟩, HK, HB, XL, XR⟩
  case round =>
   clear HM HG HK HB XL XR XG
   obtain ⟨kk, mm, rfl, HQ, HK1, HN, HL, HM, HD, HS, HK, HB, XL, XR⟩ := hrel
   obtain ⟨y0, y1, y2, g0, g1, g2⟩ := blk3 XL.out
   obtain ⟨x0, x1, x2, h0, h1, h2⟩ := blk3 XR.out
   by_cases hle : kk ≤ j
   ·have HK2 := Aside0.mk hle
    have hd : decide (kk ≤ j) = true := decide_eq_true hle
    clear hle
    have hk9 : kk ≤ 401 := by have := HK2.out; omega
    cases gk with
    | zero => exact absurd HQ.out (by have := HK2.out; omega)
    | succ k1 =>
     cases hv : mt s t i kk
     ·go_wp2_with (go_at_call 86; (with_reducible refine (HX.out kk mm _ HK1.out HK2.out HL.out HM.out HD.out HB.out).mono ?_); rintro e w7 ⟨he, m7, hl7, M7, G7, S7, K7, B7⟩; rw [hv] at he; subst he; have L7 := Aside0.mk (hl7.trans HL.out); have D7 := Aside0.mk (HD.out.next G7 S7); have S7' := Aside0.mk (Sm3.next HS.out S7 (HS1.out _)); have Q7 := Aside0.mk (HK.out.trans K7 (.inl rfl)); have XR7 := Aside0.mk (K7.blk XR.out za17 (by simp)); have XL7 := Aside0.mk (K7.blk XL.out za17 (by simp)); have B7' := Aside0.mk B7; have M7' := Aside0.mk M7; clear hl7 M7 G7 S7 K7 B7 x0 x1 x2 h0 h1 h2 y0 y1 y2 g0 g1 g2; obtain ⟨x0, x1, x2, h0, h1, h2⟩ := blk3 XR7.out)
      go_roundg k1
      case measure => omega
      case rel => exact ⟨kk + 1, m7, za20, ⟨by have := HQ.out; omega⟩, ⟨za11⟩, ⟨fun k' h1 h2 => by
        by_cases e : k' = kk
        ·subst e; rw [hv]; rfl
        ·exact HN.out k' h1 (by omega)⟩, L7, M7', D7, S7', Q7, B7', XL7, XR7⟩
     ·cases hv2 : mt s u kk j
      ·go_wp2_with (first | (go_at_call 86; (with_reducible refine (HX.out kk mm _ HK1.out HK2.out HL.out HM.out HD.out HB.out).mono ?_); rintro e w7 ⟨he, m7, hl7, M7, G7, S7, K7, B7⟩; rw [hv] at he; subst he; have L7 := Aside0.mk (hl7.trans HL.out); have D7 := Aside0.mk (HD.out.next G7 S7); have S7' := Aside0.mk (Sm3.next HS.out S7 (HS1.out _)); have Q7 := Aside0.mk (HK.out.trans K7 (.inl rfl)); have XR7 := Aside0.mk (K7.blk XR.out za17 (by simp)); have XL7 := Aside0.mk (K7.blk XL.out za17 (by simp)); have B7' := Aside0.mk B7; have M7' := Aside0.mk M7; clear hl7 M7 G7 S7 K7 B7 x0 x1 x2 h0 h1 h2 y0 y1 y2 g0 g1 g2; obtain ⟨x0, x1, x2, h0, h1, h2⟩ := blk3 XR7.out) | (go_at_call 86; (with_reducible refine (HY.out kk m7 _ HK1.out HK2.out L7.out M7'.out D7.out B7'.out).mono ?_); rintro e w8 ⟨he, m8, hl8, M8, G8, S8, K8, B8⟩; rw [hv2] at he; subst he; have L8 := Aside0.mk (hl8.trans L7.out); have D8 := Aside0.mk (D7.out.next G8 S8); have S8' := Aside0.mk (Sm3.next S7'.out S8 (HS2.out _)); have Q8 := Aside0.mk (Q7.out.trans K8 (.inl rfl)); have XR8 := Aside0.mk (K8.blk XR7.out za17 (by simp)); have XL8 := Aside0.mk (K8.blk XL7.out za17 (by simp)); have B8' := Aside0.mk B8; have M8' := Aside0.mk M8; clear hl8 M8 G8 S8 K8 B8))
       go_roundg k1
       case measure => omega
       case rel => exact ⟨kk + 1, m8, za20, ⟨by have := HQ.out; omega⟩, ⟨za11⟩, ⟨fun k' h1 h2 => by
         by_cases e : k' = kk
         ·subst e; rw [hv, hv2]; rfl
         ·exact HN.out k' h1 (by omega)⟩, L8, M8', D8, S8', Q8, B8', XL8, XR8⟩
      ·go_wp2_with (first | (go_at_call 86; (with_reducible refine (HX.out kk mm _ HK1.out HK2.out HL.out HM.out HD.out HB.out).mono ?_); rintro e w7 ⟨he, m7, hl7, M7, G7, S7, K7, B7⟩; rw [hv] at he; subst he; have L7 := Aside0.mk (hl7.trans HL.out); have D7 := Aside0.mk (HD.out.next G7 S7); have S7' := Aside0.mk (Sm3.next HS.out S7 (HS1.out _)); have Q7 := Aside0.mk (HK.out.trans K7 (.inl rfl)); have XR7 := Aside0.mk (K7.blk XR.out za17 (by simp)); have XL7 := Aside0.mk (K7.blk XL.out za17 (by simp)); have B7' := Aside0.mk B7; have M7' := Aside0.mk M7; clear hl7 M7 G7 S7 K7 B7 x0 x1 x2 h0 h1 h2 y0 y1 y2 g0 g1 g2; obtain ⟨x0, x1, x2, h0, h1, h2⟩ := blk3 XR7.out) | (go_at_call 86; (with_reducible refine (HY.out kk m7 _ HK1.out HK2.out L7.out M7'.out D7.out B7'.out).mono ?_); rintro e w8 ⟨he, m8, hl8, M8, G8, S8, K8, B8⟩; rw [hv2] at he; subst he; have L8 := Aside0.mk (hl8.trans L7.out); have D8 := Aside0.mk (D7.out.next G8 S8); have S8' := Aside0.mk (Sm3.next S7'.out S8 (HS2.out _)); have Q8 := Aside0.mk (Q7.out.trans K8 (.inl rfl)); have XR8 := Aside0.mk (K8.blk XR7.out za17 (by simp)); have XL8 := Aside0.mk (K8.blk XL7.out za17 (by simp)); have B8' := Aside0.mk B8; have M8' := Aside0.mk M8; clear hl8 M8 G8 S8 K8 B8))
       go_ret
       exact ⟨by rw [(exIn_iff _ _ _).2 ⟨kk, HK1.out, HK2.out, by rw [hv, hv2]; rfl⟩]; rfl, m8, L8.out, M8'.out, D8.out, S8'.out, Q8.out, B8'.out⟩
   ·have hd : decide (kk ≤ j) = false := decide_eq_false hle
    have HE : exIn (fun k => mt s t i k && mt s u k j) i j = false := by
     rw [Bool.eq_false_iff]
     intro h
     obtain ⟨k', h1, h2, h3⟩ := (exIn_iff _ _ _).1 h
     rw [HN.out k' h1 (by omega)] at h3
     exact absurd h3 (by simp)
    have HE2 := Aside0.mk HE
    clear hle HE
    go_wp2
    go_ret
    exact ⟨by rw [HE2.out]; rfl, mm, HL.out, HM.out, HD.out, HS.out, HK.out, HB.out⟩
end
end Go.Proofs.Ytffjfdoghofkdaa.Ext
namespace Go.Proofs.Ytffjfdoghofkdaa.Ext
open Go Go.RowKit Go.Proofs.YtffjfdoghofkdaaW.PrintWords Go.Proofs.YtffjfdoghofkdaaW.PrintLast Go.Proofs.Ytffjfdoghofkdaa.A
section
variable (w0 : World) (g b : Nat) (hgb : g ≠ b) (hg : w0.heap.size ≤ g) (hb : w0.heap.size ≤ b) (s : ByteArray) (n : Nat) (hn : n ≤ 401) (hsn : s.size + 1 = n) (z : Nat) (hz : z ≤ 16) (T : Nat → Nat → Nat → Bool)
 (bs : ByteArray) (A : Option Addr) (c id i j : Nat) (hij : i ≤ j) (hj : j < n) (m : List Int) (W : World) (hl : m.length = z * n * n) (hM : MSt g b s n m W) (hB : Below w0.heap.size w0 W)
include hgb hg hb hn hsn hz hij hj hl hM hB
set_option maxHeartbeats 4000000 in
theorem find_star (x : S35) (u : Rx) (hC : Kd.C k35 w0 A 1 [x]) (hid : id + 1 + u.size ≤ z)
  (hx : ∀ A2 c2, x.f2.length ≤ c2 → Kd.C k35 w0 A2 x.f2.length x.f2 → MC w0 g b s n z T u x.f0 x.f1 A2 x.f2.length c2 (id + 1) n)
  (hs : MC w0 g b s n z T (.star u) 8 bs A 1 c id (j - i))
  (hG : Gd n T m (RgF id (1 + u.size) (j - i))) :
  Calls Try.prog 94 #[.pointer (some ⟨g, 0, none⟩), .agg #[.int .i64 8, .string bs, .slice A 1 c], .int .i64 (id : Int), .int .i64 (i : Int), .int .i64 (j : Int)] W (MPost w0 W g b s n T m (RgF id (1 + u.size) (j - i)) (mt s (.star u) i j)) := by
 obtain ⟨ad, A2, c2, rfl, e0, e1, e2, h3, h4⟩ := arg0_at hC (Below.refl _ w0)
 have hs1 : ∀ l' a' i' j', RgM (id + 1) u.size l' a' i' j' → RgF id (1 + u.size) (j - i) a' i' j' := fun l' a' i' j' h => ⟨by have := h.1; omega, by have := h.2.1; omega, fun e => by have := h.1; omega⟩
 have hs2 : ∀ kk, i + 1 ≤ kk → kk ≤ j → ∀ a' i' j', RgM id (Rx.star u).size (j - kk) a' i' j' → RgF id (1 + u.size) (j - i) a' i' j' := fun kk hk hk2 a' i' j' h => ⟨h.1, h.2.1, fun e => by have := h.2.2 e; simp only [Rx.size] at h; omega⟩
 have HX := Aside0.mk (fun (kk : Nat) (m' : List Int) (W' : World) (h1 : i + 1 ≤ kk) (h2 : kk ≤ j) (hl' : m'.length = m.length) (hM' : MSt g b s n m' W') (hG' : Gd n T m' (RgF id (1 + u.size) (j - i))) (hB' : Below w0.heap.size w0 W') => hx A2 c2 h3 h4 i kk ((id : Int) + 1) i kk m' W' (by omega) rfl rfl (by omega) (by omega) (by omega) (hl'.trans hl) hM' (hG'.sub (hs1 _)) hB')
 have HY := Aside0.mk (fun (kk : Nat) (m' : List Int) (W' : World) (h1 : i + 1 ≤ kk) (h2 : kk ≤ j) (hl' : m'.length = m.length) (hM' : MSt g b s n m' W') (hG' : Gd n T m' (RgF id (1 + u.size) (j - i))) (hB' : Below w0.heap.size w0 W') => hs kk j (id : Int) kk j m' W' rfl rfl rfl h2 hj (by omega) (hl'.trans hl) hM' (hG'.sub (hs2 kk h1 h2)) hB')
 have HS1 := Aside0.mk hs1
 have HS2 := Aside0.mk hs2
 have HM := Aside0.mk hM
 have HB := Aside0.mk hB
 have HG := Aside0.mk hG
 clear hM hB hG hl hx h3 h4 hC hs hs1 hs2
 by_cases hd : i = j
 ·subst hd
  go_enter Try.func94, Try.ntmps94
  go_wp2_with ((with_reducible refine gate_dst (N := 6) rfl ?_); refine box_event ?hg (N := 6) ?hd (cs := #[.int .i64 8, .string bs, .slice (some ad) 1 c]) (t := 35) ?hr ?_; (case hd => rfl); (case hg => rfl); (case hr => first | (go_simp; done) | (go_simp; rfl)); intro gx hgx w3 hbox hb3; have M3 := Aside0.mk (HM.out.below hb3); have K3 := Aside0.mk (KeepBut.of_below hb3 b none); have B3 := Aside0.mk (below_step HB.out hb3 : Below w0.heap.size w0 w3); have X3 := Aside0.mk hbox; have G3 := Aside0.mk (show W.heap.size ≤ gx by omega); have N3 := Aside0.mk (show b < W.heap.size from blk_lt HM.out.hb); have e0' := pw_cell_below (below_then HB.out HB.out.size hb3) e0; have e1' := pw_cell_below (below_then HB.out HB.out.size hb3) e1; have e2' := pw_cell_below (below_then HB.out HB.out.size hb3) e2; clear hb3 hbox hgx; obtain ⟨y0, y1, y2, g0, g1, g2⟩ := blk3 X3.out; obtain ⟨z0, z1, z2, f0, f1, f2⟩ := blk3 M3.out.hm)
  go_ret
  exact ⟨by rw [star_self]; rfl, m, rfl, M3.out, HG.out, Sm3.refl _ _ _, K3.out, B3.out⟩
 ·have hlt : i < j := by omega
  have HR := Aside0.mk (star_first s u i j hlt)
  have hd2 : (i == j) = false := by simpa using hd
  have hd3 : ((i : Int) == (j : Int)) = false := by simp; omega
  clear hd
  have hi9 : i ≤ 401 := by omega
  go_enter Try.func94, Try.ntmps94
  go_wp2_with ((with_reducible refine gate_dst (N := 6) rfl ?_); refine box_event ?hg (N := 6) ?hd (cs := #[.int .i64 8, .string bs, .slice (some ad) 1 c]) (t := 35) ?hr ?_; (case hd => rfl); (case hg => rfl); (case hr => first | (go_simp; done) | (go_simp; rfl)); intro gx hgx w3 hbox hb3; have M3 := Aside0.mk (HM.out.below hb3); have K3 := Aside0.mk (KeepBut.of_below hb3 b none); have B3 := Aside0.mk (below_step HB.out hb3 : Below w0.heap.size w0 w3); have X3 := Aside0.mk hbox; have G3 := Aside0.mk (show W.heap.size ≤ gx by omega); have N3 := Aside0.mk (show b < W.heap.size from blk_lt HM.out.hb); have e0' := pw_cell_below (below_then HB.out HB.out.size hb3) e0; have e1' := pw_cell_below (below_then HB.out HB.out.size hb3) e1; have e2' := pw_cell_below (below_then HB.out HB.out.size hb3) e2; clear hb3 hbox hgx; obtain ⟨y0, y1, y2, g0, g1, g2⟩ := blk3 X3.out; obtain ⟨z0, z1, z2, f0, f1, f2⟩ := blk3 M3.out.hm)
  clear y0 y1 y2 g0 g1 g2 z0 z1 z2 f0 f1 f2 hd2 hd3
  go_loopg [11] (j - i) (fun kq v11 w' => ∃ (kk : Nat) (mm : List Int), v11 = .int .i64 (kk : Int) ∧ Aside0 (kk + kq = j + 1) ∧ Aside0 (i + 1 ≤ kk) ∧ Aside0 (∀ k', i + 1 ≤ k' → k' < kk → (mt s u i k' && mt s (.star u) k' j) = false) ∧ Aside0 (mm.length = m.length) ∧ Aside0 (MSt g b s n mm w') ∧ Aside0 (Gd n T mm (RgF id (1 + u.size) (j - i))) ∧ Aside0 (Sm3 n m mm (RgF id (1 + u.size) (j - i))) ∧ Aside0 (KeepBut W w' b none) ∧ Aside0 (Below w0.heap.size w0 w') ∧ Aside0 (w'.heap[gx]? = some (.cells #[.int .i64 8, .string bs, .slice (some ad) 1 c] 35 (0, 0))))
  case atStart => exact ⟨i + 1, m, za20, ⟨by omega⟩, ⟨Nat.le_refl _⟩, ⟨fun k' h1 h2 => by omega⟩, ⟨rfl⟩, M3, HG, ⟨Sm3.refl _ _ _⟩, K3, B3, X3⟩
  case round =>
   clear HM HG HB M3 K3 B3 X3
   obtain ⟨kk, mm, rfl, HQ, HK1, HN, HL, HM, HD, HS, HK, HB, XG⟩ := hrel
   obtain ⟨y0, y1, y2, g0, g1, g2⟩ := blk3 XG.out
   have e0' := (HB.out.cell (World.block_lt_of_cell? w0 _ e0)).trans e0; have e1' := (HB.out.cell (World.block_lt_of_cell? w0 _ e1)).trans e1; have e2' := (HB.out.cell (World.block_lt_of_cell? w0 _ e2)).trans e2
   by_cases hle : kk ≤ j
   ·have HK2 := Aside0.mk hle
    have hd : decide (kk ≤ j) = true := decide_eq_true hle
    clear hle
    have hk9 : kk ≤ 401 := by have := HK2.out; omega
    cases gk with
    | zero => exact absurd HQ.out (by have := HK2.out; omega)
    | succ k1 =>
     cases hv : mt s u i kk
     ·go_wp2_with (go_at_call 86; (with_reducible refine (HX.out kk mm _ HK1.out HK2.out HL.out HM.out HD.out HB.out).mono ?_); rintro e w7 ⟨he, m7, hl7, M7, G7, S7, K7, B7⟩; rw [hv] at he; subst he; have L7 := Aside0.mk (hl7.trans HL.out); have D7 := Aside0.mk (HD.out.next G7 S7); have S7' := Aside0.mk (Sm3.next HS.out S7 (HS1.out _)); have Q7 := Aside0.mk (HK.out.trans K7 (.inl rfl)); have XG7 := Aside0.mk (K7.blk XG.out (by have := G3.out; have := N3.out; omega) (by simp)); have B7' := Aside0.mk B7; have M7' := Aside0.mk M7; clear hl7 M7 G7 S7 K7 B7 y0 y1 y2 g0 g1 g2 e0' e1' e2'; obtain ⟨y0, y1, y2, g0, g1, g2⟩ := blk3 XG7.out)
      go_roundg k1
      case measure => omega
      case rel => exact ⟨kk + 1, m7, za20, ⟨by have := HQ.out; omega⟩, ⟨za11⟩, ⟨fun k' h1 h2 => by
        by_cases e : k' = kk
        ·subst e; rw [hv]; rfl
        ·exact HN.out k' h1 (by omega)⟩, L7, M7', D7, S7', Q7, B7', XG7⟩
     ·cases hv2 : mt s (.star u) kk j
      ·go_wp2_with (first | (go_at_call 86; (with_reducible refine (HX.out kk mm _ HK1.out HK2.out HL.out HM.out HD.out HB.out).mono ?_); rintro e w7 ⟨he, m7, hl7, M7, G7, S7, K7, B7⟩; rw [hv] at he; subst he; have L7 := Aside0.mk (hl7.trans HL.out); have D7 := Aside0.mk (HD.out.next G7 S7); have S7' := Aside0.mk (Sm3.next HS.out S7 (HS1.out _)); have Q7 := Aside0.mk (HK.out.trans K7 (.inl rfl)); have XG7 := Aside0.mk (K7.blk XG.out (by have := G3.out; have := N3.out; omega) (by simp)); have B7' := Aside0.mk B7; have M7' := Aside0.mk M7; clear hl7 M7 G7 S7 K7 B7 y0 y1 y2 g0 g1 g2 e0' e1' e2'; obtain ⟨y0, y1, y2, g0, g1, g2⟩ := blk3 XG7.out) | (go_at_call 86; (with_reducible refine (HY.out kk m7 _ HK1.out HK2.out L7.out M7'.out D7.out B7'.out).mono ?_); rintro e w8 ⟨he, m8, hl8, M8, G8, S8, K8, B8⟩; rw [hv2] at he; subst he; have L8 := Aside0.mk (hl8.trans L7.out); have D8 := Aside0.mk (D7.out.next G8 S8); have S8' := Aside0.mk (Sm3.next S7'.out S8 (HS2.out kk HK1.out HK2.out)); have Q8 := Aside0.mk (Q7.out.trans K8 (.inl rfl)); have XG8 := Aside0.mk (K8.blk XG7.out (by have := G3.out; have := N3.out; omega) (by simp)); have B8' := Aside0.mk B8; have M8' := Aside0.mk M8; clear hl8 M8 G8 S8 K8 B8))
       go_roundg k1
       case measure => omega
       case rel => exact ⟨kk + 1, m8, za20, ⟨by have := HQ.out; omega⟩, ⟨za11⟩, ⟨fun k' h1 h2 => by
         by_cases e : k' = kk
         ·subst e; rw [hv, hv2]; rfl
         ·exact HN.out k' h1 (by omega)⟩, L8, M8', D8, S8', Q8, B8', XG8⟩
      ·go_wp2_with (first | (go_at_call 86; (with_reducible refine (HX.out kk mm _ HK1.out HK2.out HL.out HM.out HD.out HB.out).mono ?_); rintro e w7 ⟨he, m7, hl7, M7, G7, S7, K7, B7⟩; rw [hv] at he; subst he; have L7 := Aside0.mk (hl7.trans HL.out); have D7 := Aside0.mk (HD.out.next G7 S7); have S7' := Aside0.mk (Sm3.next HS.out S7 (HS1.out _)); have Q7 := Aside0.mk (HK.out.trans K7 (.inl rfl)); have XG7 := Aside0.mk (K7.blk XG.out (by have := G3.out; have := N3.out; omega) (by simp)); have B7' := Aside0.mk B7; have M7' := Aside0.mk M7; clear hl7 M7 G7 S7 K7 B7 y0 y1 y2 g0 g1 g2 e0' e1' e2'; obtain ⟨y0, y1, y2, g0, g1, g2⟩ := blk3 XG7.out) | (go_at_call 86; (with_reducible refine (HY.out kk m7 _ HK1.out HK2.out L7.out M7'.out D7.out B7'.out).mono ?_); rintro e w8 ⟨he, m8, hl8, M8, G8, S8, K8, B8⟩; rw [hv2] at he; subst he; have L8 := Aside0.mk (hl8.trans L7.out); have D8 := Aside0.mk (D7.out.next G8 S8); have S8' := Aside0.mk (Sm3.next S7'.out S8 (HS2.out kk HK1.out HK2.out)); have Q8 := Aside0.mk (Q7.out.trans K8 (.inl rfl)); have XG8 := Aside0.mk (K8.blk XG7.out (by have := G3.out; have := N3.out; omega) (by simp)); have B8' := Aside0.mk B8; have M8' := Aside0.mk M8; clear hl8 M8 G8 S8 K8 B8))
       go_ret
       exact ⟨by rw [HR.out, (exIn_iff _ _ _).2 ⟨kk, HK1.out, HK2.out, by rw [hv, hv2]; rfl⟩]; rfl, m8, L8.out, M8'.out, D8.out, S8'.out, Q8.out, B8'.out⟩
   ·have hd : decide (kk ≤ j) = false := decide_eq_false hle
    have HE : exIn (fun k => mt s u i k && mt s (.star u) k j) (i + 1) j = false := by
     rw [Bool.eq_false_iff]
     intro h
     obtain ⟨k', h1, h2, h3⟩ := (exIn_iff _ _ _).1 h
     rw [HN.out k' h1 (by omega)] at h3
     exact absurd h3 (by simp)
    have HE2 := Aside0.mk HE
    clear hle HE
    go_wp2
    go_ret
    exact ⟨by rw [HR.out, HE2.out]; rfl, mm, HL.out, HM.out, HD.out, HS.out, HK.out, HB.out⟩
end
end Go.Proofs.Ytffjfdoghofkdaa.Ext
namespace Go.Proofs.Ytffjfdoghofkdaa.A
open Go.RowKit Go.Proofs.Ytffjfdoghofkdaa.Ext Go.Proofs.YtffjfdoghofkdaaW.PrintWords Go.Proofs.YtffjfdoghofkdaaW.PrintLast Go.Proofs.YtffjfdoghofkdaaW.PrintMore
attribute [local go_sem] max2_int min2_int max_two min_two max_three min_three max_four min_four
mutual
def impl_size.l0 : Nat → Int → List (S35) → Int → Int → Option (Int)
 | 0, _, _, _, _ => none
 | k + 1, x3, x7, x8, x9 => if x9 < x8 then (if 0 ≤ x9 then (if x9 < (x7.length : Int) then ((impl_size.f k ((rd_T35 x7 x9).f0) ((rd_T35 x7 x9).f1) ((rd_T35 x7 x9).f2)).bind fun t85004 => (impl_size.l0 k (wrap64 (x3 + t85004)) x7 x8 (wrap64 (x9 + 1)))) else (none)) else (none)) else (some x3)
def impl_size.f : Nat → Int → ByteArray → List (S35) → Option (Int)
 | 0, _, _, _ => none
 | k + 1, a0_0, a0_1, l0_2 => impl_size.l0 k 1 l0_2 (l0_2.length : Int) 0
end
theorem impl_size.mono_l : ∀ k, (∀ y0 y1 y2, LeO (impl_size.f k y0 y1 y2) (impl_size.f (k + 1) y0 y1 y2)) ∧ (∀ y0 y1 y2 y3, LeO (impl_size.l0 k y0 y1 y2 y3) (impl_size.l0 (k + 1) y0 y1 y2 y3))
 | 0 => ⟨fun _ _ _ r h => by simp [impl_size.f] at h, fun _ _ _ _ r h => by simp [impl_size.l0] at h⟩
 | k + 1 => by
  obtain ⟨ih0, ih1⟩ := impl_size.mono_l k
  refine ⟨?_, ?_⟩
  ·intro y0 y1 y2
   unfold impl_size.f
   repeat' first
   | with_reducible first | exact ih0 _ _ _ | exact ih1 _ _ _ _ | exact LeO.refl _ | exact LeO.none _ | refine LeO.ite ?_ ?_ | refine LeO.bind ?_ (fun _ => ?_)
  ·intro y0 y1 y2 y3
   unfold impl_size.l0
   repeat' first
   | with_reducible first | exact ih0 _ _ _ | exact ih1 _ _ _ _ | exact LeO.refl _ | exact LeO.none _ | refine LeO.ite ?_ ?_ | refine LeO.bind ?_ (fun _ => ?_)
theorem impl_size.mono : ∀ a0 a1 a2 k, LeO (impl_size.f k a0 a1 a2) (impl_size.f (k + 1) a0 a1 a2) := by
 intro a0 a1 a2 k
 obtain ⟨ih0, ih1⟩ := impl_size.mono_l k
 exact ih0 a0 a1 a2
theorem impl_size.calls (k : Nat) : ∀ (a0_0 : Int) (a0_1 : ByteArray) (A0_2 : Option Addr) (c0_2 : Nat) (l0_2 : List (S35)) (r : Int) (w : World) (hr0_2 : Kd.C k35 w A0_2 l0_2.length l0_2) (hc0_2 : l0_2.length ≤ c0_2) (h : impl_size.f k a0_0 a0_1 l0_2 = some r),
  Calls Try.prog 85 #[.agg #[.int .i64 a0_0, .string a0_1, .slice A0_2 l0_2.length c0_2]] w fun e w' => e = .returned (.int .i64 r) ∧ Below w.heap.size w w' := by
 induction k using Nat.strongRecOn with
 | _ k ih =>
 intro a0_0 a0_1 A0_2 c0_2 l0_2 r w hr0_2 hc0_2 h
 cases k with
 | zero => exact absurd h (by simp [impl_size.f])
 | succ k =>
 simp only [impl_size.f] at h
 have hu35 := Try.underlying35
 have HR0_2 := Aside0.mk hr0_2
 have HC0_2 := Aside0.mk hc0_2
 clear hr0_2 hc0_2
 have HB := Aside0.mk (Below.refl w.heap.size w)
 have H : (impl_size.l0 k 1 l0_2 (l0_2.length : Int) 0) = some r := h
 clear h
 have H' := Aside0.mk H
 clear H
 go_enter Try.func85, Try.ntmps85
 go_wp2_with (first | ((with_reducible refine gate_dst (N := 1) rfl ?_); refine box_event ?hg (N := 1) ?hd (cs := #[.int .i64 a0_0, .string a0_1, .slice A0_2 l0_2.length c0_2]) (t := 35) ?hr ?_; (case hd => rfl); (case hg => rfl); (case hr => first | (go_simp; done) | (go_simp; rfl)); intro gb85001 hg w2 hbox hb; have n0_ := Aside0.mk (below_step za2 hb); have n1_ := Aside0.mk (hbox); have n2_ := Aside0.mk ((by rw [hg]; exact (below_size za2) : w.heap.size ≤ gb85001)); have n3_ := Aside0.mk ((by rw [hg]; exact (below_size za2) : w.heap.size ≤ gb85001)); clear HB; have HB := n0_; have BK85001 := n1_; have GW85001 := n2_; have GE85001 := n3_; clear n0_ n1_ n2_ n3_; clear hb hbox hg; obtain ⟨hcz3_0, hcz3_1, hcz3_2, hfz3_0, hfz3_1, hfz3_2⟩ := blk3 BK85001.out))
 first | go_loopg [3, 9] k (fun kq v3 v9 w' => ∃ (x3_1 : Int) (x9_1 : Int), v3 = .int .i64 x3_1 ∧ v9 = .int .i64 x9_1 ∧ Aside0 (impl_size.l0 kq x3_1 l0_2 (l0_2.length : Int) x9_1 = some r) ∧ Aside0 (kq ≤ k) ∧ Aside0 (w'.heap[gb85001]? = some (.cells #[.int .i64 a0_0, .string a0_1, (.slice A0_2 l0_2.length c0_2)] 35 (0, 0))) ∧ Aside0 (Below w.heap.size w w')) | (simp only [Act.put, List.setIfInBounds_toArray, List.set_cons_succ, List.set_cons_zero]; go_loopg [3, 9] k (fun kq v3 v9 w' => ∃ (x3_1 : Int) (x9_1 : Int), v3 = .int .i64 x3_1 ∧ v9 = .int .i64 x9_1 ∧ Aside0 (impl_size.l0 kq x3_1 l0_2 (l0_2.length : Int) x9_1 = some r) ∧ Aside0 (kq ≤ k) ∧ Aside0 (w'.heap[gb85001]? = some (.cells #[.int .i64 a0_0, .string a0_1, (.slice A0_2 l0_2.length c0_2)] 35 (0, 0))) ∧ Aside0 (Below w.heap.size w w')))
 case atStart => exact ⟨(1), (0), za6, za6, H', ⟨Nat.le_refl _⟩, ⟨za0 BK85001.out⟩, ⟨za2⟩⟩
 case round =>
  clear H'
  try clear hcz3_0
  try clear hcz3_1
  try clear hcz3_2
  try clear hfz3_0
  try clear hfz3_1
  try clear hfz3_2
  obtain ⟨x3_1, x9_1, rfl, rfl, HA, HK1, BK85001, HB⟩ := hrel
  cases gk with
  | zero => exact absurd HA.out (by simp [impl_size.l0])
  | succ k1 =>
  have H := HA.out
  clear HA
  simp only [impl_size.l0] at H
  by_cases c4 : x9_1 < (l0_2.length : Int)
  rw [if_pos c4] at H
  have c4b0 : decide (x9_1 < (l0_2.length : Int)) = true := decide_eq_true c4
  clear c4
  by_cases c5 : 0 ≤ x9_1
  rw [if_pos c5] at H
  have c5b0 : decide (0 ≤ x9_1) = true := decide_eq_true c5
  clear c5
  by_cases c6 : x9_1 < (l0_2.length : Int)
  ·rw [if_pos c6] at H
   have c6b0 : decide (x9_1 < (l0_2.length : Int)) = true := decide_eq_true c6
   clear c6
   replace H := Option.bind_eq_some_iff.mp H
   obtain ⟨t85004, A70, H⟩ := H
   replace H : (impl_size.l0 k1 (wrap64 (x3_1 + t85004)) l0_2 (l0_2.length : Int) (wrap64 (x9_1 + 1))) = some r := H
   have A7 := Aside0.mk A70
   clear A70
   have H' := Aside0.mk H
   clear H
   have p85002 : 0 ≤ (x9_1 : Int) := of_decide_eq_true za7
   have q85002 : x9_1 < (l0_2.length : Int) := of_decide_eq_true za7
   obtain ⟨ad85002, A85002_2, c85002_2, e85002, hx85002_0, hx85002_1, hx85002_2, hl85002_2, hi85002_2⟩ := at_T35 HR0_2.out x9_1 p85002 q85002
   cases e85002
   replace hx85002_0 := (HB.out.cell (World.block_lt_of_cell? w _ hx85002_0)).trans hx85002_0
   replace hx85002_1 := (HB.out.cell (World.block_lt_of_cell? w _ hx85002_1)).trans hx85002_1
   replace hx85002_2 := (HB.out.cell (World.block_lt_of_cell? w _ hx85002_2)).trans hx85002_2
   have HR85002_2 := Aside0.mk hi85002_2
   have HC85002_2 := Aside0.mk hl85002_2
   clear hi85002_2 hl85002_2
   replace p85002 := eq_true p85002
   replace q85002 := eq_true q85002
   go_wp2_with (first | ((with_reducible refine gate_dst (N := 5) rfl ?_); refine box_event ?hg (N := 5) ?hd (cs := #[.int .i64 0, .string (⟨#[]⟩ : ByteArray), .slice none 0 0]) (t := 35) ?hr ?_; (case hd => rfl); (case hg => rfl); (case hr => first | (go_simp; done) | (go_simp; rfl)); intro gb85003 hg w8 hbox hb; have n0_ := Aside0.mk (blk_below (g := gb85001) (o := .cells #[.int .i64 a0_0, .string a0_1, .slice (some ad85002) l0_2.length c0_2] 35 (0, 0)) (za0 BK85001.out) hb); have n1_ := Aside0.mk (below_step za2 hb); have n2_ := Aside0.mk (hbox); have n3_ := Aside0.mk ((by rw [hg]; exact (below_size za2) : w.heap.size ≤ gb85003)); have n4_ := Aside0.mk ((by rw [hg]; exact (below_size za2) : w.heap.size ≤ gb85003)); have n5_ := Aside0.mk ((by rw [hg]; exact Nat.ne_of_lt (blk_lt (g := gb85001) (o := .cells #[.int .i64 a0_0, .string a0_1, .slice (some ad85002) l0_2.length c0_2] 35 (0, 0)) (za0 BK85001.out)) : gb85001 ≠ gb85003)); have n6_ := Aside0.mk ((by rw [hg]; exact Nat.ne_of_gt (blk_lt (g := gb85001) (o := .cells #[.int .i64 a0_0, .string a0_1, .slice (some ad85002) l0_2.length c0_2] 35 (0, 0)) (za0 BK85001.out)) : gb85003 ≠ gb85001)); clear BK85001; clear HB; have BK85001 := n0_; have HB := n1_; have BK85003 := n2_; have GW85003 := n3_; have GE85003 := n4_; have NB85001_85003 := n5_; have NB85003_85001 := n6_; clear n0_ n1_ n2_ n3_ n4_ n5_ n6_; clear hb hbox hg; have hnb9 := NB85003_85001.out; have hnc9 := NB85001_85003.out; obtain ⟨hcz10_0, hcz10_1, hcz10_2, hfz10_0, hfz10_1, hfz10_2⟩ := blk3 BK85003.out) | ((with_reducible refine gate_callee (f := 85) rfl ?_); refine goesL_ (some 15) rfl rfl Try.func85 (by kernel_rfl) rfl #[.agg #[.int .i64 ((rd_T35 l0_2 x9_1).f0), .string ((rd_T35 l0_2 x9_1).f1), .slice A85002_2 ((rd_T35 l0_2 x9_1).f2).length c85002_2]] rfl za3 ?_; (with_reducible refine (ih k1 za11 ((rd_T35 l0_2 x9_1).f0) ((rd_T35 l0_2 x9_1).f1) _ _ ((rd_T35 l0_2 x9_1).f2) t85004 _ ?side1 ?side2 A7.out).mono ?_); (case side1 => exact Kd.C_below HR85002_2.out za2); (case side2 => exact HC85002_2.out); rintro e w11 ⟨rfl, hb⟩; refine ⟨_, rfl, ?_⟩; have n0_ := Aside0.mk (blk_below (g := gb85001) (o := .cells #[.int .i64 a0_0, .string a0_1, .slice (some ad85002) l0_2.length c0_2] 35 (0, 0)) (by (with_reducible repeat (first | refine blk_drewN ?_ _ | refine blk_drew ?_ | refine blk_alloc ?_ _)); refine blk_far ?_ NB85001_85003.out _; (with_reducible repeat (first | refine blk_drewN ?_ _ | refine blk_drew ?_ | refine blk_alloc ?_ _)); refine blk_far ?_ NB85001_85003.out _; (with_reducible repeat (first | refine blk_drewN ?_ _ | refine blk_drew ?_ | refine blk_alloc ?_ _)); refine blk_far ?_ NB85001_85003.out _; (with_reducible repeat (first | refine blk_drewN ?_ _ | refine blk_drew ?_ | refine blk_alloc ?_ _)); exact BK85001.out) hb); have n1_ := Aside0.mk (blk_below (g := gb85003) (o := .cells #[.int .i64 ((rd_T35 l0_2 x9_1).f0), .string ((rd_T35 l0_2 x9_1).f1), .slice A85002_2 ((rd_T35 l0_2 x9_1).f2).length c85002_2] 35 (0, 0)) (by (with_reducible repeat (first | refine blk_drewN ?_ _ | refine blk_drew ?_ | refine blk_alloc ?_ _)); refine blk_put (cs := #[.int .i64 ((rd_T35 l0_2 x9_1).f0), .string ((rd_T35 l0_2 x9_1).f1), .slice none 0 0]) ?_ 2 _ rfl; (with_reducible repeat (first | refine blk_drewN ?_ _ | refine blk_drew ?_ | refine blk_alloc ?_ _)); refine blk_put (cs := #[.int .i64 ((rd_T35 l0_2 x9_1).f0), .string (⟨#[]⟩ : ByteArray), .slice none 0 0]) ?_ 1 _ rfl; (with_reducible repeat (first | refine blk_drewN ?_ _ | refine blk_drew ?_ | refine blk_alloc ?_ _)); refine blk_put (cs := #[.int .i64 0, .string (⟨#[]⟩ : ByteArray), .slice none 0 0]) ?_ 0 _ rfl; (with_reducible repeat (first | refine blk_drewN ?_ _ | refine blk_drew ?_ | refine blk_alloc ?_ _)); exact BK85003.out) hb); have n2_ := Aside0.mk (below_step za2 hb); clear BK85001; clear BK85003; clear HB; have BK85001 := n0_; have BK85003 := n1_; have HB := n2_; clear n0_ n1_ n2_; (try clear hb); (try clear hb2); (try clear hk); (try clear hi)))
   go_roundg k1
   case measure => have := HK1.out; omega
   case rel => exact ⟨(wrap64 (x3_1 + t85004)), (wrap64 (x9_1 + 1)), za6, za6, H', ⟨za11⟩, ⟨za0 BK85001.out⟩, ⟨za2⟩⟩
  ·rw [if_neg c6] at H
   exact absurd H (by simp)
  ·rw [if_neg c5] at H
   exact absurd H (by simp)
  ·rw [if_neg c4] at H
   have c4b0 : decide (x9_1 < (l0_2.length : Int)) = false := decide_eq_false c4
   clear c4
   obtain rfl := Option.some.inj H
   go_wp2
   go_ret
   exact ⟨za5, za2⟩
end Go.Proofs.Ytffjfdoghofkdaa.A
