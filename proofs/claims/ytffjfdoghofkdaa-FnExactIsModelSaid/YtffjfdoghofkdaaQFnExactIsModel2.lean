/- FnExactIsModel: what its proof needs, put together by this session's program wip/merge.py out of the texts that wip/xp.py printed and of this session's own. -/
import Derived.Test.YtffjfdoghofkdaaQFnExactIsModel1
import Derived.Test.YtffjfdoghofkdaaProg
import Derived.Shelf.Abstract
import Derived.Deep.LoopGhost
import Derived.Deep.QuietTactic
import Derived.Deep.RegionHeld3
import Derived.BigQuiet
import Derived.Below
import Derived.Outline
set_option linter.unusedVariables false
set_option linter.unusedSimpArgs false
set_option linter.unusedSectionVars false
set_option maxHeartbeats 8000000
set_option maxRecDepth 100000
namespace Go.Proofs.Ytffjfdoghofkdaa.A
open Go.RowKit Go.Proofs.Ytffjfdoghofkdaa.Ext Go.Proofs.YtffjfdoghofkdaaW.PrintWords Go.Proofs.YtffjfdoghofkdaaW.PrintLast Go.Proofs.YtffjfdoghofkdaaW.PrintMore
attribute [local go_sem] max2_int min2_int max_two min_two max_three min_three max_four min_four
def laws_szProblem.f (k : Nat) (l0_0 : List (S27)) (a1 : Int) : Option (Int) := (laws_szConstraintS.f k l0_0 a1).bind fun t12002 => (if t12002 < 0 then (some (-1)) else (some t12002))
theorem laws_szProblem.mono : ∀ a0 a1 k, LeO (laws_szProblem.f k a0 a1) (laws_szProblem.f (k + 1) a0 a1) := by
 intro a0 a1 k
 unfold laws_szProblem.f
 repeat' first
   | with_reducible first | exact laws_szConstraintS.mono _ _ _ | exact LeO.refl _ | exact LeO.none _ | refine LeO.ite ?_ ?_ | refine LeO.bind ?_ (fun _ => ?_)
theorem laws_szProblem.calls (k : Nat) (A0_0 : Option Addr) (c0_0 : Nat) (l0_0 : List (S27)) (a1 : Int) (r : Int) (w : World) (hr0_0 : Kd.C k27 w A0_0 l0_0.length l0_0) (hc0_0 : l0_0.length ≤ c0_0) (h : laws_szProblem.f k l0_0 a1 = some r) :
  Calls Try.prog 12 #[.agg #[.slice A0_0 l0_0.length c0_0], .int .i64 a1] w fun e w' => e = .returned (.int .i64 r) ∧ Below w.heap.size w w' := by
 have hu45 := Try.underlying45
 have HR0_0 := Aside0.mk hr0_0
 have HC0_0 := Aside0.mk hc0_0
 clear hr0_0 hc0_0
 have HB := Aside0.mk (Below.refl w.heap.size w)
 have H : ((laws_szConstraintS.f k l0_0 a1).bind fun t12002 => (if t12002 < 0 then (some (-1)) else (some t12002))) = some r := h
 clear h
 replace H := Option.bind_eq_some_iff.mp H
 obtain ⟨t12002, A30, H⟩ := H
 replace H : (if t12002 < 0 then (some (-1)) else (some t12002)) = some r := H
 have A3 := Aside0.mk A30
 clear A30
 by_cases c4 : t12002 < 0
 rw [if_pos c4] at H
 have c4b0 : decide (t12002 < 0) = true := decide_eq_true c4
 rotate_left
 rw [if_neg c4] at H
 have c4b0 : decide (t12002 < 0) = false := decide_eq_false c4
 rotate_left
 all_goals
  clear c4
  obtain rfl := Option.some.inj H
  go_enter Try.func12, Try.ntmps12
  go_wp2_with (first | ((with_reducible refine gate_dst (N := 2) rfl ?_); refine box_event ?hg (N := 2) ?hd (cs := #[.slice A0_0 l0_0.length c0_0]) (t := 45) ?hr ?_; (case hd => rfl); (case hg => rfl); (case hr => first | (go_simp; done) | (go_simp; rfl)); intro gb12001 hg w8 hbox hb; have n0_ := Aside0.mk (below_step za2 hb); have n1_ := Aside0.mk (hbox); have n2_ := Aside0.mk ((by rw [hg]; exact (below_size za2) : w.heap.size ≤ gb12001)); have n3_ := Aside0.mk ((by rw [hg]; exact (below_size za2) : w.heap.size ≤ gb12001)); clear HB; have HB := n0_; have BK12001 := n1_; have GW12001 := n2_; have GE12001 := n3_; clear n0_ n1_ n2_ n3_; clear hb hbox hg; obtain ⟨hcz9_0, hfz9_0⟩ := blk1 BK12001.out) | ((with_reducible refine gate_callee (f := 29) rfl ?_); refine goesL_ (some 8) rfl rfl Try.func29 (by kernel_rfl) rfl #[.slice A0_0 l0_0.length c0_0, .int .i64 a1] rfl za3 ?_; (with_reducible refine (laws_szConstraintS.calls k _ _ l0_0 a1 t12002 _ ?side1 ?side2 A3.out).mono ?_); (case side1 => repeat (first | exact (Kd.C_below HR0_0.out HB.out) | (with_reducible refine Kd.C_alloc ?_ _) | (with_reducible refine Kd.C_drewN ?_ _) | (with_reducible refine Kd.C_drew ?_))); (case side2 => exact HC0_0.out); rintro e w10 ⟨rfl, hb⟩; refine ⟨_, rfl, ?_⟩; have n0_ := Aside0.mk (blk_below (g := gb12001) (o := .cells #[.slice A0_0 l0_0.length c0_0] 45 (0, 0)) (za0 BK12001.out) hb); have n1_ := Aside0.mk (below_step za2 hb); clear BK12001; clear HB; have BK12001 := n0_; have HB := n1_; clear n0_ n1_; (try clear hb); (try clear hb2); (try clear hk); (try clear hi)))
  go_ret
  exact ⟨za5, za2⟩
def laws_toProblem.f (k : Nat) (l0_0 : List (S27)) : Option ((List (S37))) := (laws_toConstraintS.f k l0_0).bind fun t14004 => (some t14004)
theorem laws_toProblem.mono : ∀ a0 k, LeO (laws_toProblem.f k a0) (laws_toProblem.f (k + 1) a0) := by
 intro a0 k
 unfold laws_toProblem.f
 repeat' first
   | with_reducible first | exact laws_toConstraintS.mono _ _ | exact LeO.refl _ | exact LeO.none _ | refine LeO.ite ?_ ?_ | refine LeO.bind ?_ (fun _ => ?_)
theorem laws_toProblem.calls (k : Nat) (A0_0 : Option Addr) (c0_0 : Nat) (l0_0 : List (S27)) (r : List (S37)) (w : World) (hr0_0 : Kd.C k27 w A0_0 l0_0.length l0_0) (hc0_0 : l0_0.length ≤ c0_0) (h : laws_toProblem.f k l0_0 = some r) :
  Calls Try.prog 14 #[.agg #[.slice A0_0 l0_0.length c0_0]] w fun e w' => ∃ v0_ : Value, e = .returned (.agg #[v0_]) ∧ Kd.R k37 37 w' w.heap.size (fun _ => True) v0_ r ∧ Below w.heap.size w w' := by
 have hu45 := Try.underlying45
 have hu50 := Try.underlying50
 have HR0_0 := Aside0.mk hr0_0
 have HC0_0 := Aside0.mk hc0_0
 clear hr0_0 hc0_0
 have HB := Aside0.mk (Below.refl w.heap.size w)
 have H : ((laws_toConstraintS.f k l0_0).bind fun t14004 => (some t14004)) = some r := h
 clear h
 replace H := Option.bind_eq_some_iff.mp H
 obtain ⟨t14004, A20, H⟩ := H
 replace H : (some t14004) = some r := H
 have A2 := Aside0.mk A20
 clear A20
 obtain rfl := Option.some.inj H
 go_enter Try.func14, Try.ntmps14
 go_wp2_with (first | ((with_reducible refine gate_dst (N := 1) rfl ?_); refine box_event ?hg (N := 1) ?hd (cs := #[.slice A0_0 l0_0.length c0_0]) (t := 45) ?hr ?_; (case hd => rfl); (case hg => rfl); (case hr => first | (go_simp; done) | (go_simp; rfl)); intro gb14001 hg w3 hbox hb; have n0_ := Aside0.mk (below_step za2 hb); have n1_ := Aside0.mk (hbox); have n2_ := Aside0.mk ((by rw [hg]; exact (below_size za2) : w.heap.size ≤ gb14001)); have n3_ := Aside0.mk ((by rw [hg]; exact (below_size za2) : w.heap.size ≤ gb14001)); clear HB; have HB := n0_; have BK14001 := n1_; have GW14001 := n2_; have GE14001 := n3_; clear n0_ n1_ n2_ n3_; clear hb hbox hg) | ((with_reducible refine gate_dst (N := 2) rfl ?_); refine box_event ?hg (N := 2) ?hd (cs := #[.slice none 0 0]) (t := 50) ?hr ?_; (case hd => rfl); (case hg => rfl); (case hr => first | (go_simp; done) | (go_simp; rfl)); intro gb14002 hg w4 hbox hb; have n0_ := Aside0.mk (blk_below (g := gb14001) (o := .cells #[.slice A0_0 l0_0.length c0_0] 45 (0, 0)) (za0 BK14001.out) hb); have n1_ := Aside0.mk (below_step za2 hb); have n2_ := Aside0.mk (hbox); have n3_ := Aside0.mk ((by rw [hg]; exact (below_size za2) : w.heap.size ≤ gb14002)); have n4_ := Aside0.mk ((by rw [hg]; exact (below_size za2) : w.heap.size ≤ gb14002)); have n5_ := Aside0.mk ((by rw [hg]; exact Nat.ne_of_lt (blk_lt (g := gb14001) (o := .cells #[.slice A0_0 l0_0.length c0_0] 45 (0, 0)) (za0 BK14001.out)) : gb14001 ≠ gb14002)); have n6_ := Aside0.mk ((by rw [hg]; exact Nat.ne_of_gt (blk_lt (g := gb14001) (o := .cells #[.slice A0_0 l0_0.length c0_0] 45 (0, 0)) (za0 BK14001.out)) : gb14002 ≠ gb14001)); clear BK14001; clear HB; have BK14001 := n0_; have HB := n1_; have BK14002 := n2_; have GW14002 := n3_; have GE14002 := n4_; have NB14001_14002 := n5_; have NB14002_14001 := n6_; clear n0_ n1_ n2_ n3_ n4_ n5_ n6_; clear hb hbox hg) | ((with_reducible refine gate_dst (N := 3) rfl ?_); refine box_event ?hg (N := 3) ?hd (cs := #[.slice none 0 0]) (t := 50) ?hr ?_; (case hd => rfl); (case hg => rfl); (case hr => first | (go_simp; done) | (go_simp; rfl)); intro gb14003 hg w5 hbox hb; have n0_ := Aside0.mk (blk_below (g := gb14001) (o := .cells #[.slice A0_0 l0_0.length c0_0] 45 (0, 0)) (za0 BK14001.out) hb); have n1_ := Aside0.mk (blk_below (g := gb14002) (o := .cells #[.slice none 0 0] 50 (0, 0)) (za0 BK14002.out) hb); have n2_ := Aside0.mk (below_step za2 hb); have n3_ := Aside0.mk (hbox); have n4_ := Aside0.mk ((by rw [hg]; exact (below_size za2) : w.heap.size ≤ gb14003)); have n5_ := Aside0.mk ((by rw [hg]; exact (below_size za2) : w.heap.size ≤ gb14003)); have n6_ := Aside0.mk ((by rw [hg]; exact Nat.ne_of_lt (blk_lt (g := gb14001) (o := .cells #[.slice A0_0 l0_0.length c0_0] 45 (0, 0)) (za0 BK14001.out)) : gb14001 ≠ gb14003)); have n7_ := Aside0.mk ((by rw [hg]; exact Nat.ne_of_gt (blk_lt (g := gb14001) (o := .cells #[.slice A0_0 l0_0.length c0_0] 45 (0, 0)) (za0 BK14001.out)) : gb14003 ≠ gb14001)); have n8_ := Aside0.mk ((by rw [hg]; exact Nat.ne_of_lt (blk_lt (g := gb14002) (o := .cells #[.slice none 0 0] 50 (0, 0)) (za0 BK14002.out)) : gb14002 ≠ gb14003)); have n9_ := Aside0.mk ((by rw [hg]; exact Nat.ne_of_gt (blk_lt (g := gb14002) (o := .cells #[.slice none 0 0] 50 (0, 0)) (za0 BK14002.out)) : gb14003 ≠ gb14002)); clear BK14001; clear BK14002; clear HB; have BK14001 := n0_; have BK14002 := n1_; have HB := n2_; have BK14003 := n3_; have GW14003 := n4_; have GE14003 := n5_; have NB14001_14003 := n6_; have NB14003_14001 := n7_; have NB14002_14003 := n8_; have NB14003_14002 := n9_; clear n0_ n1_ n2_ n3_ n4_ n5_ n6_ n7_ n8_ n9_; clear hb hbox hg; have hnb6 := NB14001_14002.out; have hnc6 := NB14002_14001.out; have hnb7 := NB14001_14003.out; have hnc7 := NB14003_14001.out; obtain ⟨hcz8_0, hfz8_0⟩ := blk1 BK14001.out) | ((with_reducible refine gate_callee (f := 34) rfl ?_); refine goesL_ (some 6) rfl rfl Try.func34 (by kernel_rfl) rfl #[.slice A0_0 l0_0.length c0_0] rfl za3 ?_; (with_reducible refine (laws_toConstraintS.calls k _ _ l0_0 t14004 _ ?side1 ?side2 A2.out).mono ?_); (case side1 => repeat (first | exact (Kd.C_below HR0_0.out HB.out) | (with_reducible refine Kd.C_alloc ?_ _) | (with_reducible refine Kd.C_drewN ?_ _) | (with_reducible refine Kd.C_drew ?_))); (case side2 => exact HC0_0.out); rintro e w9 ⟨v14005, rfl, ho0, hb⟩; refine ⟨_, rfl, ?_⟩; have n0_ := Aside0.mk (Kd.R_lower ho0 (below_size za2)); have n1_ := Aside0.mk (blk_below (g := gb14001) (o := .cells #[.slice A0_0 l0_0.length c0_0] 45 (0, 0)) (za0 BK14001.out) hb); have n2_ := Aside0.mk (blk_below (g := gb14002) (o := .cells #[.slice none 0 0] 50 (0, 0)) (za0 BK14002.out) hb); have n3_ := Aside0.mk (blk_below (g := gb14003) (o := .cells #[.slice none 0 0] 50 (0, 0)) (za0 BK14003.out) hb); have n4_ := Aside0.mk (below_step za2 hb); clear BK14001; clear BK14002; clear BK14003; clear HB; have HO14006 := n0_; have BK14001 := n1_; have BK14002 := n2_; have BK14003 := n3_; have HB := n4_; clear n0_ n1_ n2_ n3_ n4_; (try clear hb); (try clear hb2); (try clear hk); (try clear hi); (try clear ho0); obtain ⟨Ao10, co10, eo10⟩ := Kd.R_slice HO14006.out; subst eo10; have hnb11 := NB14003_14002.out; have hnc11 := NB14002_14003.out; obtain ⟨hcz12_0, hfz12_0⟩ := blk1 BK14003.out; obtain ⟨hcz13_0, hfz13_0⟩ := blk1 BK14002.out))
 refine bodyPost_ret (results_cell_row rfl _ _ gb14002 50 #[.slice Ao10 t14004.length co10] (0, 0) _ rfl (by (with_reducible repeat (first | refine blk_drewN ?_ _ | refine blk_drew ?_ | refine blk_alloc ?_ _)); refine blk_put (cs := #[.slice none 0 0]) ?_ 0 _ rfl; (with_reducible repeat (first | refine blk_drewN ?_ _ | refine blk_drew ?_ | refine blk_alloc ?_ _)); refine blk_far ?_ NB14002_14003.out _; (with_reducible repeat (first | refine blk_drewN ?_ _ | refine blk_drew ?_ | refine blk_alloc ?_ _)); exact BK14002.out) Try.underlying50 rfl (by kernel_rfl)) rfl ?_
 exact ⟨_, za5, by (with_reducible repeat (first | apply Kd.R_alloc | apply Kd.R_drewN | apply Kd.R_drew)); exact Kd.R_mono (Kd.R_far (p := ⟨gb14002, 0, none⟩) (Kd.R_far (p := ⟨gb14003, 0, none⟩) (Kd.R_types (Kd.R_types HO14006.out BK14003.out (by decide)) BK14002.out (by decide)) (fun _ hk => hk.1.2) (.slice Ao10 t14004.length co10)) (fun _ hk => hk.2) (.slice Ao10 t14004.length co10)) (fun _ hk => trivial), za2⟩
def laws_eqProblem.f (k : Nat) (l0_0 : List (S37)) (l1_0 : List (S37)) : Option (Bool) := (laws_eqConstraintS.f k l0_0 l1_0).bind fun t16003 => (if t16003 = true then (some true) else (some false))
theorem laws_eqProblem.mono : ∀ a0 a1 k, LeO (laws_eqProblem.f k a0 a1) (laws_eqProblem.f (k + 1) a0 a1) := by
 intro a0 a1 k
 unfold laws_eqProblem.f
 repeat' first
   | with_reducible first | exact laws_eqConstraintS.mono _ _ _ | exact LeO.refl _ | exact LeO.none _ | refine LeO.ite ?_ ?_ | refine LeO.bind ?_ (fun _ => ?_)
theorem laws_eqProblem.calls (k : Nat) (A0_0 : Option Addr) (c0_0 : Nat) (l0_0 : List (S37)) (A1_0 : Option Addr) (c1_0 : Nat) (l1_0 : List (S37)) (r : Bool) (w : World) (hr0_0 : Kd.C k37 w A0_0 l0_0.length l0_0) (hc0_0 : l0_0.length ≤ c0_0) (hr1_0 : Kd.C k37 w A1_0 l1_0.length l1_0) (hc1_0 : l1_0.length ≤ c1_0) (h : laws_eqProblem.f k l0_0 l1_0 = some r) :
  Calls Try.prog 16 #[.agg #[.slice A0_0 l0_0.length c0_0], .agg #[.slice A1_0 l1_0.length c1_0]] w fun e w' => e = .returned (.bool r) ∧ Below w.heap.size w w' := by
 have hu50 := Try.underlying50
 have HR0_0 := Aside0.mk hr0_0
 have HC0_0 := Aside0.mk hc0_0
 clear hr0_0 hc0_0
 have HR1_0 := Aside0.mk hr1_0
 have HC1_0 := Aside0.mk hc1_0
 clear hr1_0 hc1_0
 have HB := Aside0.mk (Below.refl w.heap.size w)
 have H : ((laws_eqConstraintS.f k l0_0 l1_0).bind fun t16003 => (if t16003 = true then (some true) else (some false))) = some r := h
 clear h
 replace H := Option.bind_eq_some_iff.mp H
 obtain ⟨t16003, A30, H⟩ := H
 replace H : (if t16003 = true then (some true) else (some false)) = some r := H
 have A3 := Aside0.mk A30
 clear A30
 by_cases c4 : t16003 = true
 subst c4
 have H1 : (some true) = some r := by rw [if_pos rfl] at H; exact H
 rotate_left
 replace c4 := Bool.eq_false_iff.mpr c4
 subst c4
 have H1 : (some false) = some r := by rw [if_neg (show ¬ (false = true) by decide)] at H; exact H
 rotate_left
 all_goals
  clear H
  have H := H1
  clear H1
  obtain rfl := Option.some.inj H
  go_enter Try.func16, Try.ntmps16
  go_wp2_with (first | ((with_reducible refine gate_dst (N := 2) rfl ?_); refine box_event ?hg (N := 2) ?hd (cs := #[.slice A0_0 l0_0.length c0_0]) (t := 50) ?hr ?_; (case hd => rfl); (case hg => rfl); (case hr => first | (go_simp; done) | (go_simp; rfl)); intro gb16001 hg w11 hbox hb; have n0_ := Aside0.mk (below_step za2 hb); have n1_ := Aside0.mk (hbox); have n2_ := Aside0.mk ((by rw [hg]; exact (below_size za2) : w.heap.size ≤ gb16001)); have n3_ := Aside0.mk ((by rw [hg]; exact (below_size za2) : w.heap.size ≤ gb16001)); clear HB; have HB := n0_; have BK16001 := n1_; have GW16001 := n2_; have GE16001 := n3_; clear n0_ n1_ n2_ n3_; clear hb hbox hg) | ((with_reducible refine gate_dst (N := 3) rfl ?_); refine box_event ?hg (N := 3) ?hd (cs := #[.slice A1_0 l1_0.length c1_0]) (t := 50) ?hr ?_; (case hd => rfl); (case hg => rfl); (case hr => first | (go_simp; done) | (go_simp; rfl)); intro gb16002 hg w12 hbox hb; have n0_ := Aside0.mk (blk_below (g := gb16001) (o := .cells #[.slice A0_0 l0_0.length c0_0] 50 (0, 0)) (za0 BK16001.out) hb); have n1_ := Aside0.mk (below_step za2 hb); have n2_ := Aside0.mk (hbox); have n3_ := Aside0.mk ((by rw [hg]; exact (below_size za2) : w.heap.size ≤ gb16002)); have n4_ := Aside0.mk ((by rw [hg]; exact (below_size za2) : w.heap.size ≤ gb16002)); have n5_ := Aside0.mk ((by rw [hg]; exact Nat.ne_of_lt (blk_lt (g := gb16001) (o := .cells #[.slice A0_0 l0_0.length c0_0] 50 (0, 0)) (za0 BK16001.out)) : gb16001 ≠ gb16002)); have n6_ := Aside0.mk ((by rw [hg]; exact Nat.ne_of_gt (blk_lt (g := gb16001) (o := .cells #[.slice A0_0 l0_0.length c0_0] 50 (0, 0)) (za0 BK16001.out)) : gb16002 ≠ gb16001)); clear BK16001; clear HB; have BK16001 := n0_; have HB := n1_; have BK16002 := n2_; have GW16002 := n3_; have GE16002 := n4_; have NB16001_16002 := n5_; have NB16002_16001 := n6_; clear n0_ n1_ n2_ n3_ n4_ n5_ n6_; clear hb hbox hg; have hnb13 := NB16001_16002.out; have hnc13 := NB16002_16001.out; obtain ⟨hcz14_0, hfz14_0⟩ := blk1 BK16001.out; obtain ⟨hcz15_0, hfz15_0⟩ := blk1 BK16002.out) | ((with_reducible refine gate_callee (f := 40) rfl ?_); refine goesL_ (some 9) rfl rfl Try.func40 (by kernel_rfl) rfl #[.slice A0_0 l0_0.length c0_0, .slice A1_0 l1_0.length c1_0] rfl za3 ?_; (with_reducible refine (laws_eqConstraintS.calls k _ _ l0_0 _ _ l1_0 _ _ ?side1 ?side2 ?side3 ?side4 A3.out).mono ?_); (case side1 => repeat (first | exact (Kd.C_below HR0_0.out HB.out) | (with_reducible refine Kd.C_alloc ?_ _) | (with_reducible refine Kd.C_drewN ?_ _) | (with_reducible refine Kd.C_drew ?_))); (case side2 => exact HC0_0.out); (case side3 => repeat (first | exact (Kd.C_below HR1_0.out HB.out) | (with_reducible refine Kd.C_alloc ?_ _) | (with_reducible refine Kd.C_drewN ?_ _) | (with_reducible refine Kd.C_drew ?_))); (case side4 => exact HC1_0.out); rintro e w16 ⟨rfl, hb⟩; refine ⟨_, rfl, ?_⟩; have n0_ := Aside0.mk (blk_below (g := gb16001) (o := .cells #[.slice A0_0 l0_0.length c0_0] 50 (0, 0)) (za0 BK16001.out) hb); have n1_ := Aside0.mk (blk_below (g := gb16002) (o := .cells #[.slice A1_0 l1_0.length c1_0] 50 (0, 0)) (za0 BK16002.out) hb); have n2_ := Aside0.mk (below_step za2 hb); clear BK16001; clear BK16002; clear HB; have BK16001 := n0_; have BK16002 := n1_; have HB := n2_; clear n0_ n1_ n2_; (try clear hb); (try clear hb2); (try clear hk); (try clear hi)))
  go_ret
  exact ⟨za5, za2⟩
end Go.Proofs.Ytffjfdoghofkdaa.A
namespace Go.Proofs.Ytffjfdoghofkdaa.A
open Go.RowKit Go.Proofs.Ytffjfdoghofkdaa.Ext Go.Proofs.YtffjfdoghofkdaaW.PrintWords Go.Proofs.YtffjfdoghofkdaaW.PrintLast Go.Proofs.YtffjfdoghofkdaaW.PrintMore
attribute [local go_sem] max2_int min2_int max_two min_two max_three min_three max_four min_four
def spec_LetterIndex.l0 : Nat → Int → Int → Option (Int)
 | 0, _, _ => none
 | k + 1, x0, x3 => if x3 < 3 then (if 0 ≤ x3 then (if (bt (⟨#[97, 98, 99]⟩ : ByteArray) x3) = x0 then (some x3) else (spec_LetterIndex.l0 k x0 (wrap64 (x3 + 1)))) else (none)) else (some (-1))
def spec_LetterIndex.f (k : Nat) (a0 : Int) : Option (Int) := spec_LetterIndex.l0 k a0 0
theorem spec_LetterIndex.mono_l : ∀ k, (∀ y0 y1, LeO (spec_LetterIndex.l0 k y0 y1) (spec_LetterIndex.l0 (k + 1) y0 y1))
 | 0 => fun _ _ r h => by simp [spec_LetterIndex.l0] at h
 | k + 1 => by
  have ih0 := spec_LetterIndex.mono_l k
  ·intro y0 y1
   unfold spec_LetterIndex.l0
   repeat' first
   | with_reducible first | exact ih0 _ _ | exact LeO.refl _ | exact LeO.none _ | refine LeO.ite ?_ ?_ | refine LeO.bind ?_ (fun _ => ?_)
theorem spec_LetterIndex.mono : ∀ a0 k, LeO (spec_LetterIndex.f k a0) (spec_LetterIndex.f (k + 1) a0) := by
 intro a0 k
 have ih0 := spec_LetterIndex.mono_l k
 unfold spec_LetterIndex.f
 repeat' first
   | with_reducible first | exact ih0 _ _ | exact LeO.refl _ | exact LeO.none _ | refine LeO.ite ?_ ?_ | refine LeO.bind ?_ (fun _ => ?_)
theorem spec_LetterIndex.calls (k : Nat) (a0 : Int) (r : Int) (w : World) (h : spec_LetterIndex.f k a0 = some r) :
  Calls Try.prog 70 #[.int .u8 a0] w fun e w' => e = .returned (.int .i64 r) ∧ Drawn0 w w' := by
 have H : (spec_LetterIndex.l0 k a0 0) = some r := h
 clear h
 have H' := Aside0.mk H
 clear H
 go_enter Try.func70, Try.ntmps70
 go_wp2
 first | go_loopg [3] k (fun kq v3 w' => ∃ (x3_1 : Int), v3 = .int .i64 x3_1 ∧ Aside0 (spec_LetterIndex.l0 kq a0 x3_1 = some r) ∧ Aside0 (kq ≤ k) ∧ Drawn0 w w') | (simp only [Act.put, List.setIfInBounds_toArray, List.set_cons_succ, List.set_cons_zero]; go_loopg [3] k (fun kq v3 w' => ∃ (x3_1 : Int), v3 = .int .i64 x3_1 ∧ Aside0 (spec_LetterIndex.l0 kq a0 x3_1 = some r) ∧ Aside0 (kq ≤ k) ∧ Drawn0 w w'))
 case atStart => exact ⟨(0), za6, H', ⟨Nat.le_refl _⟩, za8⟩
 case round =>
  clear H'
  obtain ⟨x3_1, rfl, HA, HK1, ⟨m1, rfl⟩⟩ := hrel
  cases gk with
  | zero => exact absurd HA.out (by simp [spec_LetterIndex.l0])
  | succ k1 =>
  have H := HA.out
  clear HA
  simp only [spec_LetterIndex.l0] at H
  by_cases c2 : x3_1 < 3
  rw [if_pos c2] at H
  have c2b0 : decide (x3_1 < 3) = true := decide_eq_true c2
  clear c2
  by_cases c3 : 0 ≤ x3_1
  rw [if_pos c3] at H
  have c3b0 : decide (0 ≤ x3_1) = true := decide_eq_true c3
  clear c3
  by_cases c5 : (bt (⟨#[97, 98, 99]⟩ : ByteArray) x3_1) = a0
  ·rw [if_pos c5] at H
   have c5b0 : ((bt (⟨#[97, 98, 99]⟩ : ByteArray) x3_1) == a0) = true := beq_iff_eq.mpr c5
   have c5b1 : ((bt (⟨#[97, 98, 99]⟩ : ByteArray) x3_1) != a0) = false := bne_eq_false_iff_eq.mpr c5
   clear c5
   obtain rfl := Option.some.inj H
   have p4 : 0 ≤ (x3_1 : Int) := of_decide_eq_true za7
   have q4 : x3_1 < (3 : Int) := of_decide_eq_true za7
   have hx4 := bt_at (⟨#[97, 98, 99]⟩ : ByteArray) x3_1
   replace p4 := eq_true p4
   replace q4 := eq_true q4
   go_wp2
   go_ret
   exact ⟨za6, za8⟩
  ·rw [if_neg c5] at H
   have c5b0 : ((bt (⟨#[97, 98, 99]⟩ : ByteArray) x3_1) == a0) = false := beq_eq_false_iff_ne.mpr c5
   have c5b1 : ((bt (⟨#[97, 98, 99]⟩ : ByteArray) x3_1) != a0) = true := bne_iff_ne.mpr c5
   have H' := Aside0.mk H
   clear H
   have p4 : 0 ≤ (x3_1 : Int) := of_decide_eq_true za7
   have q4 : x3_1 < (3 : Int) := of_decide_eq_true za7
   have hx4 := bt_at (⟨#[97, 98, 99]⟩ : ByteArray) x3_1
   replace p4 := eq_true p4
   replace q4 := eq_true q4
   go_wp2
   go_roundg k1
   case measure => have := HK1.out; omega
   case rel => exact ⟨(wrap64 (x3_1 + 1)), za6, H', ⟨za11⟩, za8⟩
  ·rw [if_neg c3] at H
   exact absurd H (by simp)
  ·rw [if_neg c2] at H
   have c2b0 : decide (x3_1 < 3) = false := decide_eq_false c2
   clear c2
   obtain rfl := Option.some.inj H
   go_wp2
   go_ret
   exact ⟨za6, za8⟩
def spec_IsWord.l0 : Nat → ByteArray → Int → Option (Bool)
 | 0, _, _ => none
 | k + 1, x0, x3 => if x3 < (x0.size : Int) then (if 0 ≤ x3 then ((spec_LetterIndex.f k (bt x0 x3)).bind fun t47001 => (if t47001 < 0 then (some false) else (spec_IsWord.l0 k x0 (wrap64 (x3 + 1))))) else (none)) else (some (decide ((x0.size : Int) ≤ 30)))
def spec_IsWord.f (k : Nat) (a0 : ByteArray) : Option (Bool) := spec_IsWord.l0 k a0 0
theorem spec_IsWord.mono_l : ∀ k, (∀ y0 y1, LeO (spec_IsWord.l0 k y0 y1) (spec_IsWord.l0 (k + 1) y0 y1))
 | 0 => fun _ _ r h => by simp [spec_IsWord.l0] at h
 | k + 1 => by
  have ih0 := spec_IsWord.mono_l k
  ·intro y0 y1
   unfold spec_IsWord.l0
   repeat' first
   | with_reducible first | exact ih0 _ _ | exact spec_LetterIndex.mono _ _ | exact LeO.refl _ | exact LeO.none _ | refine LeO.ite ?_ ?_ | refine LeO.bind ?_ (fun _ => ?_)
theorem spec_IsWord.mono : ∀ a0 k, LeO (spec_IsWord.f k a0) (spec_IsWord.f (k + 1) a0) := by
 intro a0 k
 have ih0 := spec_IsWord.mono_l k
 unfold spec_IsWord.f
 repeat' first
   | with_reducible first | exact ih0 _ _ | exact spec_LetterIndex.mono _ _ | exact LeO.refl _ | exact LeO.none _ | refine LeO.ite ?_ ?_ | refine LeO.bind ?_ (fun _ => ?_)
theorem spec_IsWord.calls (k : Nat) (a0 : ByteArray) (r : Bool) (w : World) (h : spec_IsWord.f k a0 = some r) :
  Calls Try.prog 47 #[.string a0] w fun e w' => e = .returned (.bool r) ∧ Drawn0 w w' := by
 have H : (spec_IsWord.l0 k a0 0) = some r := h
 clear h
 have H' := Aside0.mk H
 clear H
 go_enter Try.func47, Try.ntmps47
 go_wp2
 first | go_loopg [3] k (fun kq v3 w' => ∃ (x3_1 : Int), v3 = .int .i64 x3_1 ∧ Aside0 (spec_IsWord.l0 kq a0 x3_1 = some r) ∧ Aside0 (kq ≤ k) ∧ Drawn0 w w') | (simp only [Act.put, List.setIfInBounds_toArray, List.set_cons_succ, List.set_cons_zero]; go_loopg [3] k (fun kq v3 w' => ∃ (x3_1 : Int), v3 = .int .i64 x3_1 ∧ Aside0 (spec_IsWord.l0 kq a0 x3_1 = some r) ∧ Aside0 (kq ≤ k) ∧ Drawn0 w w'))
 case atStart => exact ⟨(0), za6, H', ⟨Nat.le_refl _⟩, za8⟩
 case round =>
  clear H'
  obtain ⟨x3_1, rfl, HA, HK1, ⟨m1, rfl⟩⟩ := hrel
  cases gk with
  | zero => exact absurd HA.out (by simp [spec_IsWord.l0])
  | succ k1 =>
  have H := HA.out
  clear HA
  simp only [spec_IsWord.l0] at H
  by_cases c2 : x3_1 < (a0.size : Int)
  rw [if_pos c2] at H
  have c2b0 : decide (x3_1 < (a0.size : Int)) = true := decide_eq_true c2
  clear c2
  by_cases c3 : 0 ≤ x3_1
  rw [if_pos c3] at H
  have c3b0 : decide (0 ≤ x3_1) = true := decide_eq_true c3
  clear c3
  replace H := Option.bind_eq_some_iff.mp H
  obtain ⟨t47001, A50, H⟩ := H
  replace H : (if t47001 < 0 then (some false) else (spec_IsWord.l0 k1 a0 (wrap64 (x3_1 + 1)))) = some r := H
  have A5 := Aside0.mk A50
  clear A50
  by_cases c6 : t47001 < 0
  rw [if_pos c6] at H
  have c6b0 : decide (t47001 < 0) = true := decide_eq_true c6
  clear c6
  obtain rfl := Option.some.inj H
  have fin0_ := Aside0.mk trivial
  rotate_left
  rw [if_neg c6] at H
  have c6b0 : decide (t47001 < 0) = false := decide_eq_false c6
  clear c6
  have H' := Aside0.mk H
  clear H
  have fin1_ := Aside0.mk trivial
  rotate_left
  ·rw [if_neg c3] at H
   exact absurd H (by simp)
  ·rw [if_neg c2] at H
   have c2b0 : decide (x3_1 < (a0.size : Int)) = false := decide_eq_false c2
   clear c2
   obtain rfl := Option.some.inj H
   go_wp2
   go_ret
   exact ⟨za6, za8⟩
  all_goals
   have p4 : 0 ≤ (x3_1 : Int) := of_decide_eq_true za7
   have q4 : x3_1 < (a0.size : Int) := of_decide_eq_true za7
   have hx4 := bt_at a0 x3_1
   replace p4 := eq_true p4
   replace q4 := eq_true q4
   go_wp2_with (((with_reducible refine gate_callee (f := 70) rfl ?_); refine goesL_ (some 13) rfl rfl Try.func70 (by kernel_rfl) rfl #[.int .u8 (bt a0 x3_1)] rfl za3 ?_; (with_reducible refine (spec_LetterIndex.calls k1 (bt a0 x3_1) t47001 _ A5.out).mono ?_); rintro e w' ⟨rfl, ⟨nd, rfl⟩⟩; refine ⟨_, rfl, ?_⟩))
   first
   | (
    clear fin0_
    go_ret
    exact ⟨za6, za8⟩)
   | (
    clear fin1_
    go_roundg k1
    case measure => have := HK1.out; omega
    case rel => exact ⟨(wrap64 (x3_1 + 1)), za6, H', ⟨za11⟩, za8⟩)
end Go.Proofs.Ytffjfdoghofkdaa.A
namespace Go.Proofs.Ytffjfdoghofkdaa.A
open Go.RowKit Go.Proofs.Ytffjfdoghofkdaa.Ext Go.Proofs.YtffjfdoghofkdaaW.PrintWords Go.Proofs.YtffjfdoghofkdaaW.PrintLast Go.Proofs.YtffjfdoghofkdaaW.PrintMore
attribute [local go_sem] max2_int min2_int max_two min_two max_three min_three max_four min_four
def spec_l8Var.f (a0 : Int) : Option (Bool) := if a0 ≥ 88 then (some (decide (a0 ≤ 90))) else (some false)
theorem spec_l8Var.calls (a0 : Int) (r : Bool) (w : World) (h : spec_l8Var.f a0 = some r) :
  Calls Try.prog 71 #[.int .u8 a0] w fun e w' => e = .returned (.bool r) ∧ Drawn0 w w' := by
 have H : (if a0 ≥ 88 then (some (decide (a0 ≤ 90))) else (some false)) = some r := h
 clear h
 by_cases c2 : a0 ≥ 88
 rw [if_pos c2] at H
 have c2b0 : decide (88 ≤ a0) = true := decide_eq_true c2
 rotate_left
 rw [if_neg c2] at H
 have c2b0 : decide (88 ≤ a0) = false := decide_eq_false c2
 rotate_left
 all_goals
  clear c2
  obtain rfl := Option.some.inj H
  go_enter Try.func71, Try.ntmps71
  go_wp2
  go_ret
  exact ⟨za6, za8⟩
def spec_IsTerm.l0 : Nat → ByteArray → Int → Option (Bool)
 | 0, _, _ => none
 | k + 1, x0, x3 => if x3 < (x0.size : Int) then (if 0 ≤ x3 then ((spec_LetterIndex.f k (bt x0 x3)).bind fun t42001 => (if t42001 < 0 then ((spec_l8Var.f (bt x0 x3)).bind fun t42002 => (if t42002 = true then (spec_IsTerm.l0 k x0 (wrap64 (x3 + 1))) else (some false))) else (spec_IsTerm.l0 k x0 (wrap64 (x3 + 1))))) else (none)) else (some (decide ((x0.size : Int) ≤ 12)))
def spec_IsTerm.f (k : Nat) (a0 : ByteArray) : Option (Bool) := spec_IsTerm.l0 k a0 0
theorem spec_IsTerm.mono_l : ∀ k, (∀ y0 y1, LeO (spec_IsTerm.l0 k y0 y1) (spec_IsTerm.l0 (k + 1) y0 y1))
 | 0 => fun _ _ r h => by simp [spec_IsTerm.l0] at h
 | k + 1 => by
  have ih0 := spec_IsTerm.mono_l k
  ·intro y0 y1
   unfold spec_IsTerm.l0
   repeat' first
   | with_reducible first | exact ih0 _ _ | exact spec_LetterIndex.mono _ _ | exact LeO.refl _ | exact LeO.none _ | refine LeO.ite ?_ ?_ | refine LeO.bind ?_ (fun _ => ?_)
theorem spec_IsTerm.mono : ∀ a0 k, LeO (spec_IsTerm.f k a0) (spec_IsTerm.f (k + 1) a0) := by
 intro a0 k
 have ih0 := spec_IsTerm.mono_l k
 unfold spec_IsTerm.f
 repeat' first
   | with_reducible first | exact ih0 _ _ | exact spec_LetterIndex.mono _ _ | exact LeO.refl _ | exact LeO.none _ | refine LeO.ite ?_ ?_ | refine LeO.bind ?_ (fun _ => ?_)
theorem spec_IsTerm.calls (k : Nat) (a0 : ByteArray) (r : Bool) (w : World) (h : spec_IsTerm.f k a0 = some r) :
  Calls Try.prog 42 #[.string a0] w fun e w' => e = .returned (.bool r) ∧ Drawn0 w w' := by
 have H : (spec_IsTerm.l0 k a0 0) = some r := h
 clear h
 have H' := Aside0.mk H
 clear H
 go_enter Try.func42, Try.ntmps42
 go_wp2
 first | go_loopg [3] k (fun kq v3 w' => ∃ (x3_1 : Int), v3 = .int .i64 x3_1 ∧ Aside0 (spec_IsTerm.l0 kq a0 x3_1 = some r) ∧ Aside0 (kq ≤ k) ∧ Drawn0 w w') | (simp only [Act.put, List.setIfInBounds_toArray, List.set_cons_succ, List.set_cons_zero]; go_loopg [3] k (fun kq v3 w' => ∃ (x3_1 : Int), v3 = .int .i64 x3_1 ∧ Aside0 (spec_IsTerm.l0 kq a0 x3_1 = some r) ∧ Aside0 (kq ≤ k) ∧ Drawn0 w w'))
 case atStart => exact ⟨(0), za6, H', ⟨Nat.le_refl _⟩, za8⟩
 case round =>
  clear H'
  obtain ⟨x3_1, rfl, HA, HK1, ⟨m1, rfl⟩⟩ := hrel
  cases gk with
  | zero => exact absurd HA.out (by simp [spec_IsTerm.l0])
  | succ k1 =>
  have H := HA.out
  clear HA
  simp only [spec_IsTerm.l0] at H
  by_cases c2 : x3_1 < (a0.size : Int)
  rw [if_pos c2] at H
  have c2b0 : decide (x3_1 < (a0.size : Int)) = true := decide_eq_true c2
  clear c2
  by_cases c3 : 0 ≤ x3_1
  rw [if_pos c3] at H
  have c3b0 : decide (0 ≤ x3_1) = true := decide_eq_true c3
  clear c3
  replace H := Option.bind_eq_some_iff.mp H
  obtain ⟨t42001, A50, H⟩ := H
  replace H : (if t42001 < 0 then ((spec_l8Var.f (bt a0 x3_1)).bind fun t42002 => (if t42002 = true then (spec_IsTerm.l0 k1 a0 (wrap64 (x3_1 + 1))) else (some false))) else (spec_IsTerm.l0 k1 a0 (wrap64 (x3_1 + 1)))) = some r := H
  have A5 := Aside0.mk A50
  clear A50
  by_cases c6 : t42001 < 0
  rw [if_pos c6] at H
  have c6b0 : decide (t42001 < 0) = true := decide_eq_true c6
  clear c6
  replace H := Option.bind_eq_some_iff.mp H
  obtain ⟨t42002, A80, H⟩ := H
  replace H : (if t42002 = true then (spec_IsTerm.l0 k1 a0 (wrap64 (x3_1 + 1))) else (some false)) = some r := H
  have A8 := Aside0.mk A80
  clear A80
  by_cases c9 : t42002 = true
  subst c9
  have H1 : (spec_IsTerm.l0 k1 a0 (wrap64 (x3_1 + 1))) = some r := by rw [if_pos rfl] at H; exact H
  clear H
  have H := H1
  clear H1
  have H' := Aside0.mk H
  clear H
  have fin0_ := Aside0.mk trivial
  rotate_left
  replace c9 := Bool.eq_false_iff.mpr c9
  subst c9
  have H1 : (some false) = some r := by rw [if_neg (show ¬ (false = true) by decide)] at H; exact H
  clear H
  have H := H1
  clear H1
  obtain rfl := Option.some.inj H
  have fin1_ := Aside0.mk trivial
  rotate_left
  ·rw [if_neg c6] at H
   have c6b0 : decide (t42001 < 0) = false := decide_eq_false c6
   clear c6
   have H' := Aside0.mk H
   clear H
   have p4 : 0 ≤ (x3_1 : Int) := of_decide_eq_true za7
   have q4 : x3_1 < (a0.size : Int) := of_decide_eq_true za7
   have hx4 := bt_at a0 x3_1
   replace p4 := eq_true p4
   replace q4 := eq_true q4
   go_wp2_with (first | ((with_reducible refine gate_callee (f := 70) rfl ?_); refine goesL_ (some 13) rfl rfl Try.func70 (by kernel_rfl) rfl #[.int .u8 (bt a0 x3_1)] rfl za3 ?_; (with_reducible refine (spec_LetterIndex.calls k1 (bt a0 x3_1) t42001 _ A5.out).mono ?_); rintro e w' ⟨rfl, ⟨nd, rfl⟩⟩; refine ⟨_, rfl, ?_⟩))
   go_roundg k1
   case measure => have := HK1.out; omega
   case rel => exact ⟨(wrap64 (x3_1 + 1)), za6, H', ⟨za11⟩, za8⟩
  ·rw [if_neg c3] at H
   exact absurd H (by simp)
  ·rw [if_neg c2] at H
   have c2b0 : decide (x3_1 < (a0.size : Int)) = false := decide_eq_false c2
   clear c2
   obtain rfl := Option.some.inj H
   go_wp2
   go_ret
   exact ⟨za6, za8⟩
  all_goals
   have p4 : 0 ≤ (x3_1 : Int) := of_decide_eq_true za7
   have q4 : x3_1 < (a0.size : Int) := of_decide_eq_true za7
   have hx4 := bt_at a0 x3_1
   replace p4 := eq_true p4
   replace q4 := eq_true q4
   go_wp2_with (first | ((with_reducible refine gate_callee (f := 70) rfl ?_); refine goesL_ (some 13) rfl rfl Try.func70 (by kernel_rfl) rfl #[.int .u8 (bt a0 x3_1)] rfl za3 ?_; (with_reducible refine (spec_LetterIndex.calls k1 (bt a0 x3_1) t42001 _ A5.out).mono ?_); rintro e w' ⟨rfl, ⟨nd, rfl⟩⟩; refine ⟨_, rfl, ?_⟩; have p7 : 0 ≤ (x3_1 : Int) := of_decide_eq_true za7; have q7 : x3_1 < (a0.size : Int) := of_decide_eq_true za7; have hx7 := bt_at a0 x3_1; replace p7 := eq_true p7; replace q7 := eq_true q7) | (go_at_call 71; (with_reducible refine (spec_l8Var.calls (bt a0 x3_1) _ _ A8.out).mono ?_); rintro e w' ⟨rfl, ⟨nd, rfl⟩⟩))
   first
   | (
    clear fin0_
    go_roundg k1
    case measure => have := HK1.out; omega
    case rel => exact ⟨(wrap64 (x3_1 + 1)), za6, H', ⟨za11⟩, za8⟩)
   | (
    clear fin1_
    go_ret
    exact ⟨za6, za8⟩)
def spec_IsValues.f (k : Nat) (a0_0 : ByteArray) (a0_1 : ByteArray) (a0_2 : ByteArray) : Option (Bool) := (spec_IsWord.f k a0_0).bind fun t20002 => (if t20002 = true then ((spec_IsWord.f k a0_1).bind fun t20003 => (if t20003 = true then ((spec_IsWord.f k a0_2).bind fun t20004 => (some t20004)) else (some false))) else (some false))
theorem spec_IsValues.mono : ∀ a0 a1 a2 k, LeO (spec_IsValues.f k a0 a1 a2) (spec_IsValues.f (k + 1) a0 a1 a2) := by
 intro a0 a1 a2 k
 unfold spec_IsValues.f
 repeat' first
   | with_reducible first | exact spec_IsWord.mono _ _ | exact LeO.refl _ | exact LeO.none _ | refine LeO.ite ?_ ?_ | refine LeO.bind ?_ (fun _ => ?_)
theorem spec_IsValues.calls (k : Nat) (a0_0 : ByteArray) (a0_1 : ByteArray) (a0_2 : ByteArray) (r : Bool) (w : World) (h : spec_IsValues.f k a0_0 a0_1 a0_2 = some r) :
  Calls Try.prog 20 #[.agg #[.string a0_0, .string a0_1, .string a0_2]] w fun e w' => e = .returned (.bool r) ∧ Below w.heap.size w w' := by
 have hu39 := Try.underlying39
 have HB := Aside0.mk (Below.refl w.heap.size w)
 have H : ((spec_IsWord.f k a0_0).bind fun t20002 => (if t20002 = true then ((spec_IsWord.f k a0_1).bind fun t20003 => (if t20003 = true then ((spec_IsWord.f k a0_2).bind fun t20004 => (some t20004)) else (some false))) else (some false))) = some r := h
 clear h
 replace H := Option.bind_eq_some_iff.mp H
 obtain ⟨t20002, A20, H⟩ := H
 replace H : (if t20002 = true then ((spec_IsWord.f k a0_1).bind fun t20003 => (if t20003 = true then ((spec_IsWord.f k a0_2).bind fun t20004 => (some t20004)) else (some false))) else (some false)) = some r := H
 have A2 := Aside0.mk A20
 clear A20
 by_cases c3 : t20002 = true
 subst c3
 have H1 : ((spec_IsWord.f k a0_1).bind fun t20003 => (if t20003 = true then ((spec_IsWord.f k a0_2).bind fun t20004 => (some t20004)) else (some false))) = some r := by rw [if_pos rfl] at H; exact H
 clear H
 have H := H1
 clear H1
 replace H := Option.bind_eq_some_iff.mp H
 obtain ⟨t20003, A40, H⟩ := H
 replace H : (if t20003 = true then ((spec_IsWord.f k a0_2).bind fun t20004 => (some t20004)) else (some false)) = some r := H
 have A4 := Aside0.mk A40
 clear A40
 by_cases c5 : t20003 = true
 subst c5
 have H1 : ((spec_IsWord.f k a0_2).bind fun t20004 => (some t20004)) = some r := by rw [if_pos rfl] at H; exact H
 clear H
 have H := H1
 clear H1
 replace H := Option.bind_eq_some_iff.mp H
 obtain ⟨t20004, A60, H⟩ := H
 replace H : (some t20004) = some r := H
 have A6 := Aside0.mk A60
 clear A60
 rotate_left
 replace c5 := Bool.eq_false_iff.mpr c5
 subst c5
 have H1 : (some false) = some r := by rw [if_neg (show ¬ (false = true) by decide)] at H; exact H
 clear H
 have H := H1
 clear H1
 rotate_left
 replace c3 := Bool.eq_false_iff.mpr c3
 subst c3
 have H1 : (some false) = some r := by rw [if_neg (show ¬ (false = true) by decide)] at H; exact H
 clear H
 have H := H1
 clear H1
 rotate_left
 all_goals
  obtain rfl := Option.some.inj H
  go_enter Try.func20, Try.ntmps20
  go_wp2_with (first | ((with_reducible refine gate_dst (N := 1) rfl ?_); refine box_event ?hg (N := 1) ?hd (cs := #[.string a0_0, .string a0_1, .string a0_2]) (t := 39) ?hr ?_; (case hd => rfl); (case hg => rfl); (case hr => first | (go_simp; done) | (go_simp; rfl)); intro gb20001 hg w11 hbox hb; have n0_ := Aside0.mk (below_step za2 hb); have n1_ := Aside0.mk (hbox); have n2_ := Aside0.mk ((by rw [hg]; exact (below_size za2) : w.heap.size ≤ gb20001)); have n3_ := Aside0.mk ((by rw [hg]; exact (below_size za2) : w.heap.size ≤ gb20001)); clear HB; have HB := n0_; have BK20001 := n1_; have GW20001 := n2_; have GE20001 := n3_; clear n0_ n1_ n2_ n3_; clear hb hbox hg; obtain ⟨hcz12_0, hcz12_1, hcz12_2, hfz12_0, hfz12_1, hfz12_2⟩ := blk3 BK20001.out) | ((with_reducible refine gate_callee (f := 47) rfl ?_); refine goesL_ (some 5) rfl rfl Try.func47 (by kernel_rfl) rfl #[.string a0_0] rfl za3 ?_; (with_reducible refine (spec_IsWord.calls k a0_0 _ _ A2.out).mono ?_); rintro e w' ⟨rfl, ⟨nd, rfl⟩⟩; refine ⟨_, rfl, ?_⟩) | (go_at_call 47; (with_reducible refine (spec_IsWord.calls k a0_1 _ _ A4.out).mono ?_); rintro e w' ⟨rfl, ⟨nd, rfl⟩⟩) | (go_at_call 47; (with_reducible refine (spec_IsWord.calls k a0_2 t20004 _ A6.out).mono ?_); rintro e w' ⟨rfl, ⟨nd, rfl⟩⟩))
  go_ret
  exact ⟨za5, za2⟩
def spec_ValueOf.f (a0_0 : ByteArray) (a0_1 : ByteArray) (a0_2 : ByteArray) (a1 : Int) : Option (ByteArray) := if a1 = 88 then (some a0_0) else (if a1 = 89 then (some a0_1) else (if a1 = 90 then (some a0_2) else (some (⟨#[]⟩ : ByteArray))))
theorem spec_ValueOf.calls (a0_0 : ByteArray) (a0_1 : ByteArray) (a0_2 : ByteArray) (a1 : Int) (r : ByteArray) (w : World) (h : spec_ValueOf.f a0_0 a0_1 a0_2 a1 = some r) :
  Calls Try.prog 32 #[.agg #[.string a0_0, .string a0_1, .string a0_2], .int .u8 a1] w fun e w' => e = .returned (.string r) ∧ Below w.heap.size w w' := by
 have hu39 := Try.underlying39
 have HB := Aside0.mk (Below.refl w.heap.size w)
 have H : (if a1 = 88 then (some a0_0) else (if a1 = 89 then (some a0_1) else (if a1 = 90 then (some a0_2) else (some (⟨#[]⟩ : ByteArray))))) = some r := h
 clear h
 by_cases c3 : a1 = 88
 rw [if_pos c3] at H
 have c3b0 : (a1 == 88) = true := beq_iff_eq.mpr c3
 have c3b1 : (a1 != 88) = false := bne_eq_false_iff_eq.mpr c3
 clear c3
 rotate_left
 rw [if_neg c3] at H
 have c3b0 : (a1 == 88) = false := beq_eq_false_iff_ne.mpr c3
 have c3b1 : (a1 != 88) = true := bne_iff_ne.mpr c3
 by_cases c6 : a1 = 89
 rw [if_pos c6] at H
 have c6b0 : (a1 == 89) = true := beq_iff_eq.mpr c6
 have c6b1 : (a1 != 89) = false := bne_eq_false_iff_eq.mpr c6
 clear c6
 rotate_left
 rw [if_neg c6] at H
 have c6b0 : (a1 == 89) = false := beq_eq_false_iff_ne.mpr c6
 have c6b1 : (a1 != 89) = true := bne_iff_ne.mpr c6
 by_cases c9 : a1 = 90
 rw [if_pos c9] at H
 have c9b0 : (a1 == 90) = true := beq_iff_eq.mpr c9
 have c9b1 : (a1 != 90) = false := bne_eq_false_iff_eq.mpr c9
 clear c9
 rotate_left
 rw [if_neg c9] at H
 have c9b0 : (a1 == 90) = false := beq_eq_false_iff_ne.mpr c9
 have c9b1 : (a1 != 90) = true := bne_iff_ne.mpr c9
 rotate_left
 all_goals
  obtain rfl := Option.some.inj H
  go_enter Try.func32, Try.ntmps32
  go_wp2_with (((with_reducible refine gate_dst (N := 2) rfl ?_); refine box_event ?hg (N := 2) ?hd (cs := #[.string a0_0, .string a0_1, .string a0_2]) (t := 39) ?hr ?_; (case hd => rfl); (case hg => rfl); (case hr => first | (go_simp; done) | (go_simp; rfl)); intro gb32001 hg w10 hbox hb; have n0_ := Aside0.mk (below_step za2 hb); have n1_ := Aside0.mk (hbox); have n2_ := Aside0.mk ((by rw [hg]; exact (below_size za2) : w.heap.size ≤ gb32001)); have n3_ := Aside0.mk ((by rw [hg]; exact (below_size za2) : w.heap.size ≤ gb32001)); clear HB; have HB := n0_; have BK32001 := n1_; have GW32001 := n2_; have GE32001 := n3_; clear n0_ n1_ n2_ n3_; clear hb hbox hg; obtain ⟨hcz11_0, hcz11_1, hcz11_2, hfz11_0, hfz11_1, hfz11_2⟩ := blk3 BK32001.out))
  go_ret
  exact ⟨za5, za2⟩
def spec_ApplyValues.l0 : Nat → ByteArray → ByteArray → Int → ByteArray → ByteArray → ByteArray → Option (ByteArray)
 | 0, _, _, _, _, _, _ => none
 | k + 1, x0, x5, x6, x48002000, x48002001, x48002002 => if x6 < (x0.size : Int) then (if 0 ≤ x6 then ((spec_l8Var.f (bt x0 x6)).bind fun t48002 => (if t48002 = true then ((spec_ValueOf.f x48002000 x48002001 x48002002 (bt x0 x6)).bind fun t48003 => (if x5.size + t48003.size ≤ 9223372036854775807 then (if ((x5 ++ t48003).size : Int) > 1048576 then (some (⟨#[]⟩ : ByteArray)) else (spec_ApplyValues.l0 k x0 (x5 ++ t48003) (wrap64 (x6 + 1)) x48002000 x48002001 x48002002)) else (none))) else (if x6 ≤ (wrap64 (x6 + 1)) then (if (wrap64 (x6 + 1)) ≤ (x0.size : Int) then (if x5.size + (x0.extract (x6 : Int).toNat ((wrap64 (x6 + 1)) : Int).toNat).size ≤ 9223372036854775807 then (if ((x5 ++ (x0.extract (x6 : Int).toNat ((wrap64 (x6 + 1)) : Int).toNat)).size : Int) > 1048576 then (some (⟨#[]⟩ : ByteArray)) else (spec_ApplyValues.l0 k x0 (x5 ++ (x0.extract (x6 : Int).toNat ((wrap64 (x6 + 1)) : Int).toNat)) (wrap64 (x6 + 1)) x48002000 x48002001 x48002002)) else (none)) else (none)) else (none)))) else (none)) else (some x5)
def spec_ApplyValues.f (k : Nat) (a0 : ByteArray) (a1_0 : ByteArray) (a1_1 : ByteArray) (a1_2 : ByteArray) : Option (ByteArray) := spec_ApplyValues.l0 k a0 (⟨#[]⟩ : ByteArray) 0 a1_0 a1_1 a1_2
theorem spec_ApplyValues.mono_l : ∀ k, (∀ y0 y1 y2 y3 y4 y5, LeO (spec_ApplyValues.l0 k y0 y1 y2 y3 y4 y5) (spec_ApplyValues.l0 (k + 1) y0 y1 y2 y3 y4 y5))
 | 0 => fun _ _ _ _ _ _ r h => by simp [spec_ApplyValues.l0] at h
 | k + 1 => by
  have ih0 := spec_ApplyValues.mono_l k
  ·intro y0 y1 y2 y3 y4 y5
   unfold spec_ApplyValues.l0
   repeat' first
   | with_reducible first | exact ih0 _ _ _ _ _ _ | exact LeO.refl _ | exact LeO.none _ | refine LeO.ite ?_ ?_ | refine LeO.bind ?_ (fun _ => ?_)
theorem spec_ApplyValues.mono : ∀ a0 a1 a2 a3 k, LeO (spec_ApplyValues.f k a0 a1 a2 a3) (spec_ApplyValues.f (k + 1) a0 a1 a2 a3) := by
 intro a0 a1 a2 a3 k
 have ih0 := spec_ApplyValues.mono_l k
 unfold spec_ApplyValues.f
 repeat' first
   | with_reducible first | exact ih0 _ _ _ _ _ _ | exact LeO.refl _ | exact LeO.none _ | refine LeO.ite ?_ ?_ | refine LeO.bind ?_ (fun _ => ?_)
def spec_ApplyValues.T6 : Bool × List (List Nat × List Nat) := (true, [([], []), ([], []), ([], []), ([], []), ([2, 3], [2, 3]), ([1, 4], [1, 4]), ([0, 5], [0, 5]), ([6, 5, 0, 1, 2, 3, 4, 5, 6], [0, 6])])
def spec_ApplyValues.B6 : List Nat := [0, 0, 0, 0, 12, 30, 63, 127]
theorem spec_ApplyValues.tab6 : rtab .any (opsOf Try.f48 6) = spec_ApplyValues.T6 := by kernel_rfl
theorem spec_ApplyValues.bits6 : waitsOk spec_ApplyValues.T6.2 spec_ApplyValues.B6 = true := by kernel_rfl
theorem spec_ApplyValues.calls (k : Nat) (a0 : ByteArray) (a1_0 : ByteArray) (a1_1 : ByteArray) (a1_2 : ByteArray) (r : ByteArray) (w : World) (h : spec_ApplyValues.f k a0 a1_0 a1_1 a1_2 = some r) :
  Calls Try.prog 48 #[.string a0, .agg #[.string a1_0, .string a1_1, .string a1_2]] w fun e w' => e = .returned (.string r) ∧ Below w.heap.size w w' := by
 have hu39 := Try.underlying39
 have HB := Aside0.mk (Below.refl w.heap.size w)
 have H : (spec_ApplyValues.l0 k a0 (⟨#[]⟩ : ByteArray) 0 a1_0 a1_1 a1_2) = some r := h
 clear h
 have H' := Aside0.mk H
 clear H
 go_enter Try.func48, Try.ntmps48
 go_wp2_with (first | ((with_reducible refine gate_dst (N := 3) rfl ?_); refine box_event ?hg (N := 3) ?hd (cs := #[.string a1_0, .string a1_1, .string a1_2]) (t := 39) ?hr ?_; (case hd => rfl); (case hg => rfl); (case hr => first | (go_simp; done) | (go_simp; rfl)); intro gb48001 hg w3 hbox hb; have n0_ := Aside0.mk (below_step za2 hb); have n1_ := Aside0.mk (hbox); have n2_ := Aside0.mk ((by rw [hg]; exact (below_size za2) : w.heap.size ≤ gb48001)); have n3_ := Aside0.mk ((by rw [hg]; exact (below_size za2) : w.heap.size ≤ gb48001)); clear HB; have HB := n0_; have BK48001 := n1_; have GW48001 := n2_; have GE48001 := n3_; clear n0_ n1_ n2_ n3_; clear hb hbox hg))
 first | go_loopg [5, 6] k (fun kq v5 v6 w' => ∃ (x5_1 : ByteArray) (x6_1 : Int), v5 = .string x5_1 ∧ v6 = .int .i64 x6_1 ∧ Aside0 (spec_ApplyValues.l0 kq a0 x5_1 x6_1 a1_0 a1_1 a1_2 = some r) ∧ Aside0 (kq ≤ k) ∧ Aside0 (w'.heap[gb48001]? = some (.cells #[.string a1_0, .string a1_1, .string a1_2] 39 (0, 0))) ∧ Aside0 (Below w.heap.size w w')) | (simp only [Act.put, List.setIfInBounds_toArray, List.set_cons_succ, List.set_cons_zero]; go_loopg [5, 6] k (fun kq v5 v6 w' => ∃ (x5_1 : ByteArray) (x6_1 : Int), v5 = .string x5_1 ∧ v6 = .int .i64 x6_1 ∧ Aside0 (spec_ApplyValues.l0 kq a0 x5_1 x6_1 a1_0 a1_1 a1_2 = some r) ∧ Aside0 (kq ≤ k) ∧ Aside0 (w'.heap[gb48001]? = some (.cells #[.string a1_0, .string a1_1, .string a1_2] 39 (0, 0))) ∧ Aside0 (Below w.heap.size w w')))
 case atStart => exact ⟨((⟨#[]⟩ : ByteArray)), (0), za6, za6, H', ⟨Nat.le_refl _⟩, ⟨za0 BK48001.out⟩, ⟨za2⟩⟩
 case round =>
  clear H'
  obtain ⟨x5_1, x6_1, rfl, rfl, HA, HK1, BK48001, HB⟩ := hrel
  cases gk with
  | zero => exact absurd HA.out (by simp [spec_ApplyValues.l0])
  | succ k1 =>
  have H := HA.out
  clear HA
  simp only [spec_ApplyValues.l0] at H
  by_cases c4 : x6_1 < (a0.size : Int)
  rw [if_pos c4] at H
  have c4b0 : decide (x6_1 < (a0.size : Int)) = true := decide_eq_true c4
  clear c4
  by_cases c5 : 0 ≤ x6_1
  rw [if_pos c5] at H
  have c5b0 : decide (0 ≤ x6_1) = true := decide_eq_true c5
  clear c5
  replace H := Option.bind_eq_some_iff.mp H
  obtain ⟨t48002, A70, H⟩ := H
  replace H : (if t48002 = true then ((spec_ValueOf.f a1_0 a1_1 a1_2 (bt a0 x6_1)).bind fun t48003 => (if x5_1.size + t48003.size ≤ 9223372036854775807 then (if ((x5_1 ++ t48003).size : Int) > 1048576 then (some (⟨#[]⟩ : ByteArray)) else (spec_ApplyValues.l0 k1 a0 (x5_1 ++ t48003) (wrap64 (x6_1 + 1)) a1_0 a1_1 a1_2)) else (none))) else (if x6_1 ≤ (wrap64 (x6_1 + 1)) then (if (wrap64 (x6_1 + 1)) ≤ (a0.size : Int) then (if x5_1.size + (a0.extract (x6_1 : Int).toNat ((wrap64 (x6_1 + 1)) : Int).toNat).size ≤ 9223372036854775807 then (if ((x5_1 ++ (a0.extract (x6_1 : Int).toNat ((wrap64 (x6_1 + 1)) : Int).toNat)).size : Int) > 1048576 then (some (⟨#[]⟩ : ByteArray)) else (spec_ApplyValues.l0 k1 a0 (x5_1 ++ (a0.extract (x6_1 : Int).toNat ((wrap64 (x6_1 + 1)) : Int).toNat)) (wrap64 (x6_1 + 1)) a1_0 a1_1 a1_2)) else (none)) else (none)) else (none))) = some r := H
  have A7 := Aside0.mk A70
  clear A70
  by_cases c8 : t48002 = true
  subst c8
  have H1 : ((spec_ValueOf.f a1_0 a1_1 a1_2 (bt a0 x6_1)).bind fun t48003 => (if x5_1.size + t48003.size ≤ 9223372036854775807 then (if ((x5_1 ++ t48003).size : Int) > 1048576 then (some (⟨#[]⟩ : ByteArray)) else (spec_ApplyValues.l0 k1 a0 (x5_1 ++ t48003) (wrap64 (x6_1 + 1)) a1_0 a1_1 a1_2)) else (none))) = some r := by rw [if_pos rfl] at H; exact H
  clear H
  have H := H1
  clear H1
  replace H := Option.bind_eq_some_iff.mp H
  obtain ⟨t48003, A100, H⟩ := H
  replace H : (if x5_1.size + t48003.size ≤ 9223372036854775807 then (if ((x5_1 ++ t48003).size : Int) > 1048576 then (some (⟨#[]⟩ : ByteArray)) else (spec_ApplyValues.l0 k1 a0 (x5_1 ++ t48003) (wrap64 (x6_1 + 1)) a1_0 a1_1 a1_2)) else (none)) = some r := H
  have A10 := Aside0.mk A100
  clear A100
  by_cases c11 : x5_1.size + t48003.size ≤ 9223372036854775807
  rw [if_pos c11] at H
  have c11z := c11
  try simp at c11z
  try replace c11z := eq_false (Nat.not_lt.2 c11z)
  have c11b0 := eq_true c11
  have c11b1 : decide (x5_1.size + t48003.size ≤ 9223372036854775807) = true := decide_eq_true c11
  try have c11b2 : (9223372036854775807 < x5_1.size + t48003.size) = False := eq_false (Nat.not_lt.2 c11)
  by_cases c12 : ((x5_1 ++ t48003).size : Int) > 1048576
  rw [if_pos c12] at H
  have c12b0 : decide (1048576 < ((x5_1 ++ t48003).size : Int)) = true := decide_eq_true c12
  have c12y := c12b0
  try simp at c12y
  have c12b1 : decide (1048576 < (x5_1 ++ t48003).size) = true := decide_eq_true (by omega)
  clear c12
  obtain rfl := Option.some.inj H
  have tag0_ := Aside0.mk trivial
  have fin0_ := Aside0.mk trivial
  rotate_left
  rw [if_neg c12] at H
  have c12b0 : decide (1048576 < ((x5_1 ++ t48003).size : Int)) = false := decide_eq_false c12
  have c12y := c12b0
  try simp at c12y
  have c12b1 : decide (1048576 < (x5_1 ++ t48003).size) = false := decide_eq_false (by omega)
  clear c12
  have H' := Aside0.mk H
  clear H
  have tag0_ := Aside0.mk trivial
  have fin1_ := Aside0.mk trivial
  rotate_left
  ·rw [if_neg c11] at H
   exact absurd H (by simp)
  replace c8 := Bool.eq_false_iff.mpr c8
  subst c8
  have H1 : (if x6_1 ≤ (wrap64 (x6_1 + 1)) then (if (wrap64 (x6_1 + 1)) ≤ (a0.size : Int) then (if x5_1.size + (a0.extract (x6_1 : Int).toNat ((wrap64 (x6_1 + 1)) : Int).toNat).size ≤ 9223372036854775807 then (if ((x5_1 ++ (a0.extract (x6_1 : Int).toNat ((wrap64 (x6_1 + 1)) : Int).toNat)).size : Int) > 1048576 then (some (⟨#[]⟩ : ByteArray)) else (spec_ApplyValues.l0 k1 a0 (x5_1 ++ (a0.extract (x6_1 : Int).toNat ((wrap64 (x6_1 + 1)) : Int).toNat)) (wrap64 (x6_1 + 1)) a1_0 a1_1 a1_2)) else (none)) else (none)) else (none)) = some r := by rw [if_neg (show ¬ (false = true) by decide)] at H; exact H
  clear H
  have H := H1
  clear H1
  have c17b0 := eq_true (of_decide_eq_true za7 : 0 ≤ x6_1)
  by_cases c18 : x6_1 ≤ (wrap64 (x6_1 + 1))
  rw [if_pos c18] at H
  have c18b0 := eq_true c18
  have c18b1 : decide (x6_1 ≤ (wrap64 (x6_1 + 1))) = true := decide_eq_true c18
  by_cases c19 : (wrap64 (x6_1 + 1)) ≤ (a0.size : Int)
  rw [if_pos c19] at H
  have c19b0 := eq_true c19
  have c19b1 : decide ((wrap64 (x6_1 + 1)) ≤ (a0.size : Int)) = true := decide_eq_true c19
  by_cases c20 : x5_1.size + (a0.extract (x6_1 : Int).toNat ((wrap64 (x6_1 + 1)) : Int).toNat).size ≤ 9223372036854775807
  rw [if_pos c20] at H
  have c20z := c20
  try simp at c20z
  try replace c20z := eq_false (Nat.not_lt.2 c20z)
  have c20b0 := eq_true c20
  have c20b1 : decide (x5_1.size + (a0.extract (x6_1 : Int).toNat ((wrap64 (x6_1 + 1)) : Int).toNat).size ≤ 9223372036854775807) = true := decide_eq_true c20
  try have c20b2 : (9223372036854775807 < x5_1.size + (a0.extract (x6_1 : Int).toNat ((wrap64 (x6_1 + 1)) : Int).toNat).size) = False := eq_false (Nat.not_lt.2 c20)
  by_cases c21 : ((x5_1 ++ (a0.extract (x6_1 : Int).toNat ((wrap64 (x6_1 + 1)) : Int).toNat)).size : Int) > 1048576
  rw [if_pos c21] at H
  have c21b0 : decide (1048576 < ((x5_1 ++ (a0.extract (x6_1 : Int).toNat ((wrap64 (x6_1 + 1)) : Int).toNat)).size : Int)) = true := decide_eq_true c21
  have c21w : decide (1048576 < ((x5_1 ++ (a0.extract (x6_1 : Int).toNat ((IntKind.i64.wrap (x6_1 + 1)) : Int).toNat)).size : Int)) = true := by simp only [i64_w]; exact c21b0
  have c21y := c21b0
  try simp at c21y
  have c21b1 : decide (1048576 < (x5_1 ++ (a0.extract (x6_1 : Int).toNat ((wrap64 (x6_1 + 1)) : Int).toNat)).size) = true := decide_eq_true (by omega)
  clear c21
  obtain rfl := Option.some.inj H
  have tag1_ := Aside0.mk trivial
  have fin0_ := Aside0.mk trivial
  rotate_left
  rw [if_neg c21] at H
  have c21b0 : decide (1048576 < ((x5_1 ++ (a0.extract (x6_1 : Int).toNat ((wrap64 (x6_1 + 1)) : Int).toNat)).size : Int)) = false := decide_eq_false c21
  have c21w : decide (1048576 < ((x5_1 ++ (a0.extract (x6_1 : Int).toNat ((IntKind.i64.wrap (x6_1 + 1)) : Int).toNat)).size : Int)) = false := by simp only [i64_w]; exact c21b0
  have c21y := c21b0
  try simp at c21y
  have c21b1 : decide (1048576 < (x5_1 ++ (a0.extract (x6_1 : Int).toNat ((wrap64 (x6_1 + 1)) : Int).toNat)).size) = false := decide_eq_false (by omega)
  clear c21
  have H' := Aside0.mk H
  clear H
  have tag1_ := Aside0.mk trivial
  have fin1_ := Aside0.mk trivial
  rotate_left
  ·rw [if_neg c20] at H
   exact absurd H (by simp)
  ·rw [if_neg c19] at H
   exact absurd H (by simp)
  ·rw [if_neg c18] at H
   exact absurd H (by simp)
  ·rw [if_neg c5] at H
   exact absurd H (by simp)
  ·rw [if_neg c4] at H
   have c4b0 : decide (x6_1 < (a0.size : Int)) = false := decide_eq_false c4
   clear c4
   obtain rfl := Option.some.inj H
   go_wp2
   go_ret
   exact ⟨za5, za2⟩
  all_goals first
   | (
    clear tag0_
    have p6 : 0 ≤ (x6_1 : Int) := of_decide_eq_true za7
    have q6 : x6_1 < (a0.size : Int) := of_decide_eq_true za7
    have hx6 := bt_at a0 x6_1
    replace p6 := eq_true p6
    replace q6 := eq_true q6
    try go_wp2_with (first | ((with_reducible refine gate_callee (f := 71) rfl ?_); refine goesL_ (some 16) rfl rfl Try.func71 (by kernel_rfl) rfl #[.int .u8 (bt a0 x6_1)] rfl za3 ?_; (with_reducible refine (spec_l8Var.calls (bt a0 x6_1) _ _ A7.out).mono ?_); rintro e w' ⟨rfl, ⟨nd, rfl⟩⟩; refine ⟨_, rfl, ?_⟩))
    (try (rw [drewN_self wr]; generalize hq_ : World.drewN wr _ = wr; have n0_ : Aside0 (wr.heap[gb48001]? = some (.cells #[.string a1_0, .string a1_1, .string a1_2] 39 (0, 0))) := ⟨by rw [← hq_]; exact (za0 BK48001.out)⟩; have n1_ : Aside0 (Below w.heap.size w wr) := ⟨by rw [← hq_]; exact za2⟩; clear BK48001 HB hq_; have BK48001 := n0_; have HB := n1_; clear n0_ n1_))
    have n0_ := Aside0.mk (blk_drew BK48001.out)
    have n1_ := Aside0.mk (below_drew1 HB.out)
    clear BK48001
    clear HB
    have BK48001 := n0_
    have HB := n1_
    clear n0_ n1_
    have p9 : 0 ≤ (x6_1 : Int) := of_decide_eq_true za7
    have q9 : x6_1 < (a0.size : Int) := of_decide_eq_true za7
    have hx9 := bt_at a0 x6_1
    replace p9 := eq_true p9
    replace q9 := eq_true q9
    refine start_ (n := 8) (S := fun w' => w'.cell? ⟨gb48001, 0, none⟩ = some (.string a1_0) ∧ w'.cell? ⟨gb48001, 1, none⟩ = some (.string a1_1) ∧ w'.cell? ⟨gb48001, 2, none⟩ = some (.string a1_2)) (ds := []) #[false, false, false, false, false, false, false, false] (by kernel_rfl) rfl rfl ⟨(blk_cell BK48001.out 0).trans rfl, (blk_cell BK48001.out 1).trans rfl, (blk_cell BK48001.out 2).trans rfl⟩ (fun hHeld => ?_); refine with_tabW spec_ApplyValues.tab6 spec_ApplyValues.bits6 (fun HT_ HW_ => ?_)
    generalize wr.drew = w13 at BK48001 HB hHeld ⊢
    refine pure_ (i := 0) (N := some 17) (v := ?_) (a' := ?_) #[true, false, false, false, false, false, false, false] rfl rfl (any_of HT_.out (by kernel_rfl)) (fun _ _ _ h => h) (Or.inl ⟨by rfl, ?_⟩) ?_ ?_
    rotate_left
    ·intro w'
     go_simp
     first | with_reducible rfl | (rw [if_neg (by omega)]; done) | (rw [if_neg za4]; done)
    rotate_left
    ·simp only [Act.put, List.setIfInBounds_toArray, List.set_cons_zero, List.set_cons_succ, i64_w, i32_w]
     rfl
    refine pure_ (i := 2) (N := some 19) (v := ?_) (a' := ?_) #[true, false, true, false, false, false, false, false] rfl rfl (any_of HT_.out (by kernel_rfl)) (fun _ _ _ h => h) (Or.inl ⟨by rfl, ?_⟩) ?_ ?_
    rotate_left
    ·intro w'
     go_simp
     first | with_reducible rfl | (rw [if_neg (by omega)]; done) | (rw [if_neg za4]; done)
    rotate_left
    ·simp only [Act.put, List.setIfInBounds_toArray, List.set_cons_zero, List.set_cons_succ, i64_w, i32_w]
     rfl
    refine pure_ (i := 3) (N := some 20) (v := ?_) (a' := ?_) #[true, false, true, true, false, false, false, false] rfl rfl (any_of HT_.out (by kernel_rfl)) (fun _ _ _ h => h) (Or.inl ⟨by rfl, ?_⟩) ?_ ?_
    rotate_left
    ·intro w'
     go_simp
     first | with_reducible rfl | (rw [if_neg (by omega)]; done) | (rw [if_neg za4]; done)
    rotate_left
    ·simp only [Act.put, List.setIfInBounds_toArray, List.set_cons_zero, List.set_cons_succ, i64_w, i32_w]
     rfl
    refine take_ (i := 1) (N := some 18) (v := ?_) (a' := ?_) #[true, true, true, true, false, false, false, false] rfl rfl (take_ofW HT_.out HW_.out (by kernel_rfl)) (fun _ _ _ h => h) (Or.inl ⟨by rfl, ?_⟩) hHeld ?_ ?_
    rotate_left
    ·rintro w' ⟨s0, s1, s2⟩
     go_simp
     first | with_reducible rfl | (rw [if_neg (by omega)]; done) | (rw [if_neg za4]; done)
    rotate_left
    ·simp only [Act.put, List.setIfInBounds_toArray, List.set_cons_zero, List.set_cons_succ, i64_w, i32_w]
     rfl
    refine take_ (i := 4) (N := some 21) (v := ?_) (a' := ?_) #[true, true, true, true, true, false, false, false] rfl rfl (take_ofW HT_.out HW_.out (by kernel_rfl)) (fun _ _ _ h => h) (Or.inl ⟨by rfl, ?_⟩) hHeld ?_ ?_
    rotate_left
    ·rintro w' ⟨s0, s1, s2⟩
     go_simp
     first | with_reducible rfl | (rw [if_neg (by omega)]; done) | (rw [if_neg za4]; done)
    rotate_left
    ·simp only [Act.put, List.setIfInBounds_toArray, List.set_cons_zero, List.set_cons_succ, i64_w, i32_w]
     rfl
    refine one_ (i := 5) (N := some 22) #[true, true, true, true, true, true, false, false] rfl rfl (one_of HT_.out (by kernel_rfl)) (by decide) (fun K hK => ?_)
    refine goes_ Try.func32 (by kernel_rfl) rfl #[.agg #[.string a1_0, .string a1_1, .string a1_2], .int .u8 (bt a0 x6_1)] (by rfl) rfl rfl za3 ?_
    with_reducible refine (spec_ValueOf.calls a1_0 a1_1 a1_2 (bt a0 x6_1) t48003 _ A10.out).mono ?_
    rintro e w14 ⟨rfl, hb⟩
    refine ⟨_, rfl, ?_⟩
    have n0_ := Aside0.mk (blk_below (g := gb48001) (o := .cells #[.string a1_0, .string a1_1, .string a1_2] 39 (0, 0)) (za0 BK48001.out) hb)
    have n1_ := Aside0.mk (below_step za2 hb)
    clear BK48001
    clear HB
    have BK48001 := n0_
    have HB := n1_
    clear n0_ n1_
    (try clear hb)
    (try clear hb2)
    (try clear hk)
    (try clear hi)
    refine hK.out _ _ ⟨(blk_cell BK48001.out 0).trans rfl, (blk_cell BK48001.out 1).trans rfl, (blk_cell BK48001.out 2).trans rfl⟩ (fun hHeld => ?_)
    clear hK K
    refine norm_ (a' := ?_) ?_ ?_
    rotate_left
    ·show Act.put _ (some 22) _ = _
     simp only [Act.put, List.setIfInBounds_toArray, List.set_cons_zero, List.set_cons_succ, i64_w, i32_w]
     rfl
    refine pure_ (i := 6) (N := some 23) (v := ?_) (a' := ?_) #[true, true, true, true, true, true, true, false] rfl rfl (any_of HT_.out (by kernel_rfl)) (fun _ _ _ h => h) (Or.inl ⟨by rfl, ?_⟩) ?_ ?_
    rotate_left
    ·intro w'
     go_simp
     first | with_reducible rfl | (rw [if_neg (by omega)]; done) | (rw [if_neg za4]; done)
    rotate_left
    ·simp only [Act.put, List.setIfInBounds_toArray, List.set_cons_zero, List.set_cons_succ, i64_w, i32_w]
     rfl
    refine pure_ (i := 7) (N := some 5) (v := ?_) (a' := ?_) #[true, true, true, true, true, true, true, true] rfl rfl (any_of HT_.out (by kernel_rfl)) (fun _ _ _ h => h) (Or.inl ⟨by rfl, ?_⟩) ?_ ?_
    rotate_left
    ·intro w'
     go_simp
     first | with_reducible rfl | (rw [if_neg (by omega)]; done) | (rw [if_neg za4]; done)
    rotate_left
    ·simp only [Act.put, List.setIfInBounds_toArray, List.set_cons_zero, List.set_cons_succ, i64_w, i32_w]
     rfl
    refine done_ (done_of HT_.out (by kernel_rfl)) ?_
    try go_wp2
    first
    | (
      clear fin0_
      go_ret
      exact ⟨za5, za2⟩)
    | (
      clear fin1_
      go_roundg k1
      case measure => have := HK1.out; omega
      case rel => exact ⟨(x5_1 ++ t48003), (wrap64 (x6_1 + 1)), za6, za6, H', ⟨za11⟩, ⟨za0 BK48001.out⟩, ⟨za2⟩⟩))
   | (
    clear tag1_
    have p6 : 0 ≤ (x6_1 : Int) := of_decide_eq_true za7
    have q6 : x6_1 < (a0.size : Int) := of_decide_eq_true za7
    have hx6 := bt_at a0 x6_1
    replace p6 := eq_true p6
    replace q6 := eq_true q6
    go_wp2_with (((with_reducible refine gate_callee (f := 71) rfl ?_); refine goesL_ (some 16) rfl rfl Try.func71 (by kernel_rfl) rfl #[.int .u8 (bt a0 x6_1)] rfl za3 ?_; (with_reducible refine (spec_l8Var.calls (bt a0 x6_1) _ _ A7.out).mono ?_); rintro e w' ⟨rfl, ⟨nd, rfl⟩⟩; refine ⟨_, rfl, ?_⟩))
    first
    | (
      clear fin0_
      go_ret
      exact ⟨za5, za2⟩)
    | (
      clear fin1_
      go_roundg k1
      case measure => have := HK1.out; omega
      case rel => exact ⟨(x5_1 ++ (a0.extract (x6_1 : Int).toNat ((wrap64 (x6_1 + 1)) : Int).toNat)), (wrap64 (x6_1 + 1)), za6, za6, H', ⟨za11⟩, ⟨za0 BK48001.out⟩, ⟨za2⟩⟩))
def spec_CountByte.l0 : Nat → ByteArray → Int → Int → Int → Option (Int)
 | 0, _, _, _, _ => none
 | k + 1, x0, x1, x5, x6 => if x6 < (x0.size : Int) then (if 0 ≤ x6 then (if (bt x0 x6) = x1 then (spec_CountByte.l0 k x0 x1 (wrap64 (x5 + 1)) (wrap64 (x6 + 1))) else (spec_CountByte.l0 k x0 x1 x5 (wrap64 (x6 + 1)))) else (none)) else (some x5)
def spec_CountByte.f (k : Nat) (a0 : ByteArray) (a1 : Int) : Option (Int) := spec_CountByte.l0 k a0 a1 0 0
theorem spec_CountByte.mono_l : ∀ k, (∀ y0 y1 y2 y3, LeO (spec_CountByte.l0 k y0 y1 y2 y3) (spec_CountByte.l0 (k + 1) y0 y1 y2 y3))
 | 0 => fun _ _ _ _ r h => by simp [spec_CountByte.l0] at h
 | k + 1 => by
  have ih0 := spec_CountByte.mono_l k
  ·intro y0 y1 y2 y3
   unfold spec_CountByte.l0
   repeat' first
   | with_reducible first | exact ih0 _ _ _ _ | exact LeO.refl _ | exact LeO.none _ | refine LeO.ite ?_ ?_ | refine LeO.bind ?_ (fun _ => ?_)
theorem spec_CountByte.mono : ∀ a0 a1 k, LeO (spec_CountByte.f k a0 a1) (spec_CountByte.f (k + 1) a0 a1) := by
 intro a0 a1 k
 have ih0 := spec_CountByte.mono_l k
 unfold spec_CountByte.f
 repeat' first
   | with_reducible first | exact ih0 _ _ _ _ | exact LeO.refl _ | exact LeO.none _ | refine LeO.ite ?_ ?_ | refine LeO.bind ?_ (fun _ => ?_)
theorem spec_CountByte.calls (k : Nat) (a0 : ByteArray) (a1 : Int) (r : Int) (w : World) (h : spec_CountByte.f k a0 a1 = some r) :
  Calls Try.prog 31 #[.string a0, .int .u8 a1] w fun e w' => e = .returned (.int .i64 r) ∧ Drawn0 w w' := by
 have H : (spec_CountByte.l0 k a0 a1 0 0) = some r := h
 clear h
 have H' := Aside0.mk H
 clear H
 go_enter Try.func31, Try.ntmps31
 go_wp2
 first | go_loopg [5, 6] k (fun kq v5 v6 w' => ∃ (x5_1 : Int) (x6_1 : Int), v5 = .int .i64 x5_1 ∧ v6 = .int .i64 x6_1 ∧ Aside0 (spec_CountByte.l0 kq a0 a1 x5_1 x6_1 = some r) ∧ Aside0 (kq ≤ k) ∧ Drawn0 w w') | (simp only [Act.put, List.setIfInBounds_toArray, List.set_cons_succ, List.set_cons_zero]; go_loopg [5, 6] k (fun kq v5 v6 w' => ∃ (x5_1 : Int) (x6_1 : Int), v5 = .int .i64 x5_1 ∧ v6 = .int .i64 x6_1 ∧ Aside0 (spec_CountByte.l0 kq a0 a1 x5_1 x6_1 = some r) ∧ Aside0 (kq ≤ k) ∧ Drawn0 w w'))
 case atStart => exact ⟨(0), (0), za6, za6, H', ⟨Nat.le_refl _⟩, za8⟩
 case round =>
  clear H'
  obtain ⟨x5_1, x6_1, rfl, rfl, HA, HK1, ⟨m1, rfl⟩⟩ := hrel
  cases gk with
  | zero => exact absurd HA.out (by simp [spec_CountByte.l0])
  | succ k1 =>
  have H := HA.out
  clear HA
  simp only [spec_CountByte.l0] at H
  by_cases c3 : x6_1 < (a0.size : Int)
  rw [if_pos c3] at H
  have c3b0 : decide (x6_1 < (a0.size : Int)) = true := decide_eq_true c3
  clear c3
  by_cases c4 : 0 ≤ x6_1
  rw [if_pos c4] at H
  have c4b0 : decide (0 ≤ x6_1) = true := decide_eq_true c4
  clear c4
  by_cases c6 : (bt a0 x6_1) = a1
  rw [if_pos c6] at H
  have c6b0 : ((bt a0 x6_1) == a1) = true := beq_iff_eq.mpr c6
  have c6b1 : ((bt a0 x6_1) != a1) = false := bne_eq_false_iff_eq.mpr c6
  clear c6
  have fin0_ := Aside0.mk trivial
  rotate_left
  rw [if_neg c6] at H
  have c6b0 : ((bt a0 x6_1) == a1) = false := beq_eq_false_iff_ne.mpr c6
  have c6b1 : ((bt a0 x6_1) != a1) = true := bne_iff_ne.mpr c6
  have fin1_ := Aside0.mk trivial
  rotate_left
  ·rw [if_neg c4] at H
   exact absurd H (by simp)
  ·rw [if_neg c3] at H
   have c3b0 : decide (x6_1 < (a0.size : Int)) = false := decide_eq_false c3
   clear c3
   obtain rfl := Option.some.inj H
   go_wp2
   go_ret
   exact ⟨za6, za8⟩
  all_goals
   have H' := Aside0.mk H
   clear H
   have p5 : 0 ≤ (x6_1 : Int) := of_decide_eq_true za7
   have q5 : x6_1 < (a0.size : Int) := of_decide_eq_true za7
   have hx5 := bt_at a0 x6_1
   replace p5 := eq_true p5
   replace q5 := eq_true q5
   go_wp2
   first
   | (
    clear fin0_
    go_roundg k1
    case measure => have := HK1.out; omega
    case rel => exact ⟨(wrap64 (x5_1 + 1)), (wrap64 (x6_1 + 1)), za6, za6, H', ⟨za11⟩, za8⟩)
   | (
    clear fin1_
    go_roundg k1
    case measure => have := HK1.out; omega
    case rel => exact ⟨(x5_1), (wrap64 (x6_1 + 1)), za6, za6, H', ⟨za11⟩, za8⟩)
def spec_VarsOf.l0 : Nat → ByteArray → ByteArray → Int → Option (ByteArray)
 | 0, _, _, _ => none
 | k + 1, x0, x3, x4 => if x4 < 3 then (if 0 ≤ x4 then ((spec_CountByte.f k x0 (bt (⟨#[88, 89, 90]⟩ : ByteArray) x4)).bind fun t63001 => (if t63001 > 0 then (if x4 ≤ (wrap64 (x4 + 1)) then (if (wrap64 (x4 + 1)) ≤ 3 then (if x3.size + ((⟨#[88, 89, 90]⟩ : ByteArray).extract (x4 : Int).toNat ((wrap64 (x4 + 1)) : Int).toNat).size ≤ 9223372036854775807 then (spec_VarsOf.l0 k x0 (x3 ++ ((⟨#[88, 89, 90]⟩ : ByteArray).extract (x4 : Int).toNat ((wrap64 (x4 + 1)) : Int).toNat)) (wrap64 (x4 + 1))) else (none)) else (none)) else (none)) else (spec_VarsOf.l0 k x0 x3 (wrap64 (x4 + 1))))) else (none)) else (some x3)
def spec_VarsOf.f (k : Nat) (a0 : ByteArray) : Option (ByteArray) := spec_VarsOf.l0 k a0 (⟨#[]⟩ : ByteArray) 0
theorem spec_VarsOf.mono_l : ∀ k, (∀ y0 y1 y2, LeO (spec_VarsOf.l0 k y0 y1 y2) (spec_VarsOf.l0 (k + 1) y0 y1 y2))
 | 0 => fun _ _ _ r h => by simp [spec_VarsOf.l0] at h
 | k + 1 => by
  have ih0 := spec_VarsOf.mono_l k
  ·intro y0 y1 y2
   unfold spec_VarsOf.l0
   repeat' first
   | with_reducible first | exact ih0 _ _ _ | exact spec_CountByte.mono _ _ _ | exact LeO.refl _ | exact LeO.none _ | refine LeO.ite ?_ ?_ | refine LeO.bind ?_ (fun _ => ?_)
theorem spec_VarsOf.mono : ∀ a0 k, LeO (spec_VarsOf.f k a0) (spec_VarsOf.f (k + 1) a0) := by
 intro a0 k
 have ih0 := spec_VarsOf.mono_l k
 unfold spec_VarsOf.f
 repeat' first
   | with_reducible first | exact ih0 _ _ _ | exact spec_CountByte.mono _ _ _ | exact LeO.refl _ | exact LeO.none _ | refine LeO.ite ?_ ?_ | refine LeO.bind ?_ (fun _ => ?_)
theorem spec_VarsOf.calls (k : Nat) (a0 : ByteArray) (r : ByteArray) (w : World) (h : spec_VarsOf.f k a0 = some r) :
  Calls Try.prog 63 #[.string a0] w fun e w' => e = .returned (.string r) ∧ Drawn0 w w' := by
 have H : (spec_VarsOf.l0 k a0 (⟨#[]⟩ : ByteArray) 0) = some r := h
 clear h
 have H' := Aside0.mk H
 clear H
 go_enter Try.func63, Try.ntmps63
 go_wp2
 first | go_loopg [3, 4] k (fun kq v3 v4 w' => ∃ (x3_1 : ByteArray) (x4_1 : Int), v3 = .string x3_1 ∧ v4 = .int .i64 x4_1 ∧ Aside0 (spec_VarsOf.l0 kq a0 x3_1 x4_1 = some r) ∧ Aside0 (kq ≤ k) ∧ Drawn0 w w') | (simp only [Act.put, List.setIfInBounds_toArray, List.set_cons_succ, List.set_cons_zero]; go_loopg [3, 4] k (fun kq v3 v4 w' => ∃ (x3_1 : ByteArray) (x4_1 : Int), v3 = .string x3_1 ∧ v4 = .int .i64 x4_1 ∧ Aside0 (spec_VarsOf.l0 kq a0 x3_1 x4_1 = some r) ∧ Aside0 (kq ≤ k) ∧ Drawn0 w w'))
 case atStart => exact ⟨((⟨#[]⟩ : ByteArray)), (0), za6, za6, H', ⟨Nat.le_refl _⟩, za8⟩
 case round =>
  clear H'
  obtain ⟨x3_1, x4_1, rfl, rfl, HA, HK1, ⟨m1, rfl⟩⟩ := hrel
  cases gk with
  | zero => exact absurd HA.out (by simp [spec_VarsOf.l0])
  | succ k1 =>
  have H := HA.out
  clear HA
  simp only [spec_VarsOf.l0] at H
  by_cases c2 : x4_1 < 3
  rw [if_pos c2] at H
  have c2b0 : decide (x4_1 < 3) = true := decide_eq_true c2
  clear c2
  by_cases c3 : 0 ≤ x4_1
  rw [if_pos c3] at H
  have c3b0 : decide (0 ≤ x4_1) = true := decide_eq_true c3
  clear c3
  replace H := Option.bind_eq_some_iff.mp H
  obtain ⟨t63001, A50, H⟩ := H
  replace H : (if t63001 > 0 then (if x4_1 ≤ (wrap64 (x4_1 + 1)) then (if (wrap64 (x4_1 + 1)) ≤ 3 then (if x3_1.size + ((⟨#[88, 89, 90]⟩ : ByteArray).extract (x4_1 : Int).toNat ((wrap64 (x4_1 + 1)) : Int).toNat).size ≤ 9223372036854775807 then (spec_VarsOf.l0 k1 a0 (x3_1 ++ ((⟨#[88, 89, 90]⟩ : ByteArray).extract (x4_1 : Int).toNat ((wrap64 (x4_1 + 1)) : Int).toNat)) (wrap64 (x4_1 + 1))) else (none)) else (none)) else (none)) else (spec_VarsOf.l0 k1 a0 x3_1 (wrap64 (x4_1 + 1)))) = some r := H
  have A5 := Aside0.mk A50
  clear A50
  by_cases c6 : t63001 > 0
  rw [if_pos c6] at H
  have c6b0 : decide (0 < t63001) = true := decide_eq_true c6
  clear c6
  have c7b0 := eq_true (of_decide_eq_true za7 : 0 ≤ x4_1)
  by_cases c8 : x4_1 ≤ (wrap64 (x4_1 + 1))
  rw [if_pos c8] at H
  have c8b0 := eq_true c8
  have c8b1 : decide (x4_1 ≤ (wrap64 (x4_1 + 1))) = true := decide_eq_true c8
  by_cases c9 : (wrap64 (x4_1 + 1)) ≤ 3
  rw [if_pos c9] at H
  have c9b0 := eq_true c9
  have c9b1 : decide ((wrap64 (x4_1 + 1)) ≤ 3) = true := decide_eq_true c9
  by_cases c10 : x3_1.size + ((⟨#[88, 89, 90]⟩ : ByteArray).extract (x4_1 : Int).toNat ((wrap64 (x4_1 + 1)) : Int).toNat).size ≤ 9223372036854775807
  rw [if_pos c10] at H
  have c10z := c10
  try simp at c10z
  try replace c10z := eq_false (Nat.not_lt.2 c10z)
  have c10b0 := eq_true c10
  have c10b1 : decide (x3_1.size + ((⟨#[88, 89, 90]⟩ : ByteArray).extract (x4_1 : Int).toNat ((wrap64 (x4_1 + 1)) : Int).toNat).size ≤ 9223372036854775807) = true := decide_eq_true c10
  try have c10b2 : (9223372036854775807 < x3_1.size + ((⟨#[88, 89, 90]⟩ : ByteArray).extract (x4_1 : Int).toNat ((wrap64 (x4_1 + 1)) : Int).toNat).size) = False := eq_false (Nat.not_lt.2 c10)
  have fin0_ := Aside0.mk trivial
  rotate_left
  ·rw [if_neg c10] at H
   exact absurd H (by simp)
  ·rw [if_neg c9] at H
   exact absurd H (by simp)
  ·rw [if_neg c8] at H
   exact absurd H (by simp)
  rw [if_neg c6] at H
  have c6b0 : decide (0 < t63001) = false := decide_eq_false c6
  clear c6
  have fin1_ := Aside0.mk trivial
  rotate_left
  ·rw [if_neg c3] at H
   exact absurd H (by simp)
  ·rw [if_neg c2] at H
   have c2b0 : decide (x4_1 < 3) = false := decide_eq_false c2
   clear c2
   obtain rfl := Option.some.inj H
   go_wp2
   go_ret
   exact ⟨za6, za8⟩
  all_goals
   have H' := Aside0.mk H
   clear H
   have p4 : 0 ≤ (x4_1 : Int) := of_decide_eq_true za7
   have q4 : x4_1 < (3 : Int) := of_decide_eq_true za7
   have hx4 := bt_at (⟨#[88, 89, 90]⟩ : ByteArray) x4_1
   replace p4 := eq_true p4
   replace q4 := eq_true q4
   go_wp2_with (((with_reducible refine gate_callee (f := 31) rfl ?_); refine goesL_ (some 12) rfl rfl Try.func31 (by kernel_rfl) rfl #[.string a0, .int .u8 (bt (⟨#[88, 89, 90]⟩ : ByteArray) x4_1)] rfl za3 ?_; (with_reducible refine (spec_CountByte.calls k1 a0 (bt (⟨#[88, 89, 90]⟩ : ByteArray) x4_1) t63001 _ A5.out).mono ?_); rintro e w' ⟨rfl, ⟨nd, rfl⟩⟩; refine ⟨_, rfl, ?_⟩))
   first
   | (
    clear fin0_
    go_roundg k1
    case measure => have := HK1.out; omega
    case rel => exact ⟨(x3_1 ++ ((⟨#[88, 89, 90]⟩ : ByteArray).extract (x4_1 : Int).toNat ((wrap64 (x4_1 + 1)) : Int).toNat)), (wrap64 (x4_1 + 1)), za6, za6, H', ⟨za11⟩, za8⟩)
   | (
    clear fin1_
    go_roundg k1
    case measure => have := HK1.out; omega
    case rel => exact ⟨(x3_1), (wrap64 (x4_1 + 1)), za6, za6, H', ⟨za11⟩, za8⟩)
end Go.Proofs.Ytffjfdoghofkdaa.A
namespace Go.Proofs.Ytffjfdoghofkdaa.A
open Go.RowKit Go.Proofs.Ytffjfdoghofkdaa.Ext Go.Proofs.YtffjfdoghofkdaaW.PrintWords Go.Proofs.YtffjfdoghofkdaaW.PrintLast Go.Proofs.YtffjfdoghofkdaaW.PrintMore
attribute [local go_sem] max2_int min2_int max_two min_two max_three min_three max_four min_four
def spec_l1Max.f (a0 : Int) (a1 : Int) : Option (Int) := if a0 > a1 then (some a0) else (some a1)
theorem spec_l1Max.calls (a0 : Int) (a1 : Int) (r : Int) (w : World) (h : spec_l1Max.f a0 a1 = some r) :
  Calls Try.prog 88 #[.int .i64 a0, .int .i64 a1] w fun e w' => e = .returned (.int .i64 r) ∧ Drawn0 w w' := by
 have H : (if a0 > a1 then (some a0) else (some a1)) = some r := h
 clear h
 by_cases c3 : a0 > a1
 rw [if_pos c3] at H
 have c3b0 : decide (a1 < a0) = true := decide_eq_true c3
 rotate_left
 rw [if_neg c3] at H
 have c3b0 : decide (a1 < a0) = false := decide_eq_false c3
 rotate_left
 all_goals
  clear c3
  obtain rfl := Option.some.inj H
  go_enter Try.func88, Try.ntmps88
  go_wp2
  go_ret
  exact ⟨za6, za8⟩
def spec_l1In.f (a0 : Int) (a1 : Int) (a2 : Int) : Option (Bool) := if a0 ≥ a1 then (some (decide (a0 ≤ a2))) else (some false)
theorem spec_l1In.calls (a0 : Int) (a1 : Int) (a2 : Int) (r : Bool) (w : World) (h : spec_l1In.f a0 a1 a2 = some r) :
  Calls Try.prog 46 #[.int .i64 a0, .int .i64 a1, .int .i64 a2] w fun e w' => e = .returned (.bool r) ∧ Drawn0 w w' := by
 have H : (if a0 ≥ a1 then (some (decide (a0 ≤ a2))) else (some false)) = some r := h
 clear h
 by_cases c4 : a0 ≥ a1
 rw [if_pos c4] at H
 have c4b0 : decide (a1 ≤ a0) = true := decide_eq_true c4
 rotate_left
 rw [if_neg c4] at H
 have c4b0 : decide (a1 ≤ a0) = false := decide_eq_false c4
 rotate_left
 all_goals
  clear c4
  obtain rfl := Option.some.inj H
  go_enter Try.func46, Try.ntmps46
  go_wp2
  go_ret
  exact ⟨za6, za8⟩
end Go.Proofs.Ytffjfdoghofkdaa.A
namespace Go.Proofs.Ytffjfdoghofkdaa.A
open Go.RowKit Go.Proofs.Ytffjfdoghofkdaa.Ext Go.Proofs.YtffjfdoghofkdaaW.PrintWords Go.Proofs.YtffjfdoghofkdaaW.PrintLast Go.Proofs.YtffjfdoghofkdaaW.PrintMore
attribute [local go_sem] max2_int min2_int max_two min_two max_three min_three max_four min_four
mutual
def spec_l3Left.l0 : Nat → Int → Int → Int → ByteArray → List (S35) → Option (Int)
 | 0, _, _, _, _, _ => none
 | k + 1, x1, x5, x72002000, x72002001, x72002002 => if x5 < (x72002002.length : Int) then (if x1 ≥ 0 then (if 0 ≤ x5 then ((spec_l3Left.f k ((rd_T35 x72002002 x5).f0) ((rd_T35 x72002002 x5).f1) ((rd_T35 x72002002 x5).f2) x1).bind fun t72003 => (spec_l3Left.l0 k t72003 (wrap64 (x5 + 1)) x72002000 x72002001 x72002002)) else (none)) else (some x1)) else (some x1)
def spec_l3Left.f : Nat → Int → ByteArray → List (S35) → Int → Option (Int)
 | 0, _, _, _, _ => none
 | k + 1, a0_0, a0_1, l0_2, a1 => spec_l3Left.l0 k (wrap64 (a1 - 1)) 0 a0_0 a0_1 l0_2
end
theorem spec_l3Left.mono_l : ∀ k, (∀ y0 y1 y2 y3, LeO (spec_l3Left.f k y0 y1 y2 y3) (spec_l3Left.f (k + 1) y0 y1 y2 y3)) ∧ (∀ y0 y1 y2 y3 y4, LeO (spec_l3Left.l0 k y0 y1 y2 y3 y4) (spec_l3Left.l0 (k + 1) y0 y1 y2 y3 y4))
 | 0 => ⟨fun _ _ _ _ r h => by simp [spec_l3Left.f] at h, fun _ _ _ _ _ r h => by simp [spec_l3Left.l0] at h⟩
 | k + 1 => by
  obtain ⟨ih0, ih1⟩ := spec_l3Left.mono_l k
  refine ⟨?_, ?_⟩
  ·intro y0 y1 y2 y3
   unfold spec_l3Left.f
   repeat' first
   | with_reducible first | exact ih0 _ _ _ _ | exact ih1 _ _ _ _ _ | exact LeO.refl _ | exact LeO.none _ | refine LeO.ite ?_ ?_ | refine LeO.bind ?_ (fun _ => ?_)
  ·intro y0 y1 y2 y3 y4
   unfold spec_l3Left.l0
   repeat' first
   | with_reducible first | exact ih0 _ _ _ _ | exact ih1 _ _ _ _ _ | exact LeO.refl _ | exact LeO.none _ | refine LeO.ite ?_ ?_ | refine LeO.bind ?_ (fun _ => ?_)
theorem spec_l3Left.mono : ∀ a0 a1 a2 a3 k, LeO (spec_l3Left.f k a0 a1 a2 a3) (spec_l3Left.f (k + 1) a0 a1 a2 a3) := by
 intro a0 a1 a2 a3 k
 obtain ⟨ih0, ih1⟩ := spec_l3Left.mono_l k
 exact ih0 a0 a1 a2 a3
theorem spec_l3Left.calls (k : Nat) : ∀ (a0_0 : Int) (a0_1 : ByteArray) (A0_2 : Option Addr) (c0_2 : Nat) (l0_2 : List (S35)) (a1 : Int) (r : Int) (w : World) (hr0_2 : Kd.C k35 w A0_2 l0_2.length l0_2) (hc0_2 : l0_2.length ≤ c0_2) (h : spec_l3Left.f k a0_0 a0_1 l0_2 a1 = some r),
  Calls Try.prog 72 #[.agg #[.int .i64 a0_0, .string a0_1, .slice A0_2 l0_2.length c0_2], .int .i64 a1] w fun e w' => e = .returned (.int .i64 r) ∧ Below w.heap.size w w' := by
 induction k using Nat.strongRecOn with
 | _ k ih =>
 intro a0_0 a0_1 A0_2 c0_2 l0_2 a1 r w hr0_2 hc0_2 h
 cases k with
 | zero => exact absurd h (by simp [spec_l3Left.f])
 | succ k =>
 simp only [spec_l3Left.f] at h
 have hu35 := Try.underlying35
 have HR0_2 := Aside0.mk hr0_2
 have HC0_2 := Aside0.mk hc0_2
 clear hr0_2 hc0_2
 have HB := Aside0.mk (Below.refl w.heap.size w)
 have H : (spec_l3Left.l0 k (wrap64 (a1 - 1)) 0 a0_0 a0_1 l0_2) = some r := h
 clear h
 have H' := Aside0.mk H
 clear H
 go_enter Try.func72, Try.ntmps72
 go_wp2_with (first | ((with_reducible refine gate_dst (N := 2) rfl ?_); refine box_event ?hg (N := 2) ?hd (cs := #[.int .i64 a0_0, .string a0_1, .slice A0_2 l0_2.length c0_2]) (t := 35) ?hr ?_; (case hd => rfl); (case hg => rfl); (case hr => first | (go_simp; done) | (go_simp; rfl)); intro gb72001 hg w3 hbox hb; have n0_ := Aside0.mk (below_step za2 hb); have n1_ := Aside0.mk (hbox); have n2_ := Aside0.mk ((by rw [hg]; exact (below_size za2) : w.heap.size ≤ gb72001)); have n3_ := Aside0.mk ((by rw [hg]; exact (below_size za2) : w.heap.size ≤ gb72001)); clear HB; have HB := n0_; have BK72001 := n1_; have GW72001 := n2_; have GE72001 := n3_; clear n0_ n1_ n2_ n3_; clear hb hbox hg))
 first | go_loopg [1, 5] k (fun kq v1 v5 w' => ∃ (x1_1 : Int) (x5_1 : Int), v1 = .int .i64 x1_1 ∧ v5 = .int .i64 x5_1 ∧ Aside0 (spec_l3Left.l0 kq x1_1 x5_1 a0_0 a0_1 l0_2 = some r) ∧ Aside0 (kq ≤ k) ∧ Aside0 (w'.heap[gb72001]? = some (.cells #[.int .i64 a0_0, .string a0_1, (.slice A0_2 l0_2.length c0_2)] 35 (0, 0))) ∧ Aside0 (Below w.heap.size w w')) | (simp only [Act.put, List.setIfInBounds_toArray, List.set_cons_succ, List.set_cons_zero]; go_loopg [1, 5] k (fun kq v1 v5 w' => ∃ (x1_1 : Int) (x5_1 : Int), v1 = .int .i64 x1_1 ∧ v5 = .int .i64 x5_1 ∧ Aside0 (spec_l3Left.l0 kq x1_1 x5_1 a0_0 a0_1 l0_2 = some r) ∧ Aside0 (kq ≤ k) ∧ Aside0 (w'.heap[gb72001]? = some (.cells #[.int .i64 a0_0, .string a0_1, (.slice A0_2 l0_2.length c0_2)] 35 (0, 0))) ∧ Aside0 (Below w.heap.size w w')))
 case atStart => exact ⟨(wrap64 (a1 - 1)), (0), za6, za6, H', ⟨Nat.le_refl _⟩, ⟨za0 BK72001.out⟩, ⟨za2⟩⟩
 case round =>
  clear H'
  obtain ⟨x1_1, x5_1, rfl, rfl, HA, HK1, BK72001, HB⟩ := hrel
  cases gk with
  | zero => exact absurd HA.out (by simp [spec_l3Left.l0])
  | succ k1 =>
  have H := HA.out
  clear HA
  simp only [spec_l3Left.l0] at H
  by_cases c4 : x5_1 < (l0_2.length : Int)
  rw [if_pos c4] at H
  have c4b0 : decide (x5_1 < (l0_2.length : Int)) = true := decide_eq_true c4
  clear c4
  by_cases c5 : x1_1 ≥ 0
  rw [if_pos c5] at H
  have c5b0 : decide (0 ≤ x1_1) = true := decide_eq_true c5
  clear c5
  by_cases c6 : 0 ≤ x5_1
  ·rw [if_pos c6] at H
   have c6b0 : decide (0 ≤ x5_1) = true := decide_eq_true c6
   clear c6
   replace H := Option.bind_eq_some_iff.mp H
   obtain ⟨t72003, A70, H⟩ := H
   replace H : (spec_l3Left.l0 k1 t72003 (wrap64 (x5_1 + 1)) a0_0 a0_1 l0_2) = some r := H
   have A7 := Aside0.mk A70
   clear A70
   have H' := Aside0.mk H
   clear H
   obtain ⟨hcz8_0, hcz8_1, hcz8_2, hfz8_0, hfz8_1, hfz8_2⟩ := blk3 BK72001.out
   have p72002 : 0 ≤ (x5_1 : Int) := of_decide_eq_true za7
   have q72002 : x5_1 < (l0_2.length : Int) := of_decide_eq_true za7
   obtain ⟨ad72002, A72002_2, c72002_2, e72002, hx72002_0, hx72002_1, hx72002_2, hl72002_2, hi72002_2⟩ := at_T35 HR0_2.out x5_1 p72002 q72002
   cases e72002
   replace hx72002_0 := (HB.out.cell (World.block_lt_of_cell? w _ hx72002_0)).trans hx72002_0
   replace hx72002_1 := (HB.out.cell (World.block_lt_of_cell? w _ hx72002_1)).trans hx72002_1
   replace hx72002_2 := (HB.out.cell (World.block_lt_of_cell? w _ hx72002_2)).trans hx72002_2
   have HR72002_2 := Aside0.mk hi72002_2
   have HC72002_2 := Aside0.mk hl72002_2
   clear hi72002_2 hl72002_2
   replace p72002 := eq_true p72002
   replace q72002 := eq_true q72002
   go_wp2_with (first | ((with_reducible refine gate_callee (f := 72) rfl ?_); refine goesL_ (some 25) rfl rfl Try.func72 (by kernel_rfl) rfl #[.agg #[.int .i64 ((rd_T35 l0_2 x5_1).f0), .string ((rd_T35 l0_2 x5_1).f1), .slice A72002_2 ((rd_T35 l0_2 x5_1).f2).length c72002_2], .int .i64 x1_1] rfl za3 ?_; (with_reducible refine (ih k1 za11 ((rd_T35 l0_2 x5_1).f0) ((rd_T35 l0_2 x5_1).f1) _ _ ((rd_T35 l0_2 x5_1).f2) x1_1 t72003 _ ?side1 ?side2 A7.out).mono ?_); (case side1 => repeat (first | exact (Kd.C_below HR72002_2.out HB.out) | (with_reducible refine Kd.C_alloc ?_ _) | (with_reducible refine Kd.C_drewN ?_ _) | (with_reducible refine Kd.C_drew ?_))); (case side2 => exact HC72002_2.out); rintro e w9 ⟨rfl, hb⟩; refine ⟨_, rfl, ?_⟩; have n0_ := Aside0.mk (blk_below (g := gb72001) (o := .cells #[.int .i64 a0_0, .string a0_1, .slice (some ad72002) l0_2.length c0_2] 35 (0, 0)) (za0 BK72001.out) hb); have n1_ := Aside0.mk (below_step za2 hb); clear BK72001; clear HB; have BK72001 := n0_; have HB := n1_; clear n0_ n1_; (try clear hb); (try clear hb2); (try clear hk); (try clear hi)))
   go_roundg k1
   case measure => have := HK1.out; omega
   case rel => exact ⟨(t72003), (wrap64 (x5_1 + 1)), za6, za6, H', ⟨za11⟩, ⟨za0 BK72001.out⟩, ⟨za2⟩⟩
  ·rw [if_neg c6] at H
   exact absurd H (by simp)
  rw [if_neg c5] at H
  have c5b0 : decide (0 ≤ x1_1) = false := decide_eq_false c5
  clear c5
  rotate_left
  rw [if_neg c4] at H
  have c4b0 : decide (x5_1 < (l0_2.length : Int)) = false := decide_eq_false c4
  clear c4
  rotate_left
  all_goals
   obtain rfl := Option.some.inj H
   obtain ⟨hcz10_0, hcz10_1, hcz10_2, hfz10_0, hfz10_1, hfz10_2⟩ := blk3 BK72001.out
   go_wp2
   go_ret
   exact ⟨za5, za2⟩
mutual
def spec_l3Depth.l0 : Nat → Int → Int → Int → ByteArray → List (S35) → Option (Int)
 | 0, _, _, _, _, _ => none
 | k + 1, x3, x4, x73002000, x73002001, x73002002 => if x4 < (x73002002.length : Int) then (if 0 ≤ x4 then ((spec_l3Depth.f k ((rd_T35 x73002002 x4).f0) ((rd_T35 x73002002 x4).f1) ((rd_T35 x73002002 x4).f2)).bind fun t73003 => ((spec_l1Max.f x3 t73003).bind fun t73004 => (spec_l3Depth.l0 k t73004 (wrap64 (x4 + 1)) x73002000 x73002001 x73002002))) else (none)) else (some (wrap64 (x3 + 1)))
def spec_l3Depth.f : Nat → Int → ByteArray → List (S35) → Option (Int)
 | 0, _, _, _ => none
 | k + 1, a0_0, a0_1, l0_2 => spec_l3Depth.l0 k 0 0 a0_0 a0_1 l0_2
end
theorem spec_l3Depth.mono_l : ∀ k, (∀ y0 y1 y2, LeO (spec_l3Depth.f k y0 y1 y2) (spec_l3Depth.f (k + 1) y0 y1 y2)) ∧ (∀ y0 y1 y2 y3 y4, LeO (spec_l3Depth.l0 k y0 y1 y2 y3 y4) (spec_l3Depth.l0 (k + 1) y0 y1 y2 y3 y4))
 | 0 => ⟨fun _ _ _ r h => by simp [spec_l3Depth.f] at h, fun _ _ _ _ _ r h => by simp [spec_l3Depth.l0] at h⟩
 | k + 1 => by
  obtain ⟨ih0, ih1⟩ := spec_l3Depth.mono_l k
  refine ⟨?_, ?_⟩
  ·intro y0 y1 y2
   unfold spec_l3Depth.f
   repeat' first
   | with_reducible first | exact ih0 _ _ _ | exact ih1 _ _ _ _ _ | exact LeO.refl _ | exact LeO.none _ | refine LeO.ite ?_ ?_ | refine LeO.bind ?_ (fun _ => ?_)
  ·intro y0 y1 y2 y3 y4
   unfold spec_l3Depth.l0
   repeat' first
   | with_reducible first | exact ih0 _ _ _ | exact ih1 _ _ _ _ _ | exact LeO.refl _ | exact LeO.none _ | refine LeO.ite ?_ ?_ | refine LeO.bind ?_ (fun _ => ?_)
theorem spec_l3Depth.mono : ∀ a0 a1 a2 k, LeO (spec_l3Depth.f k a0 a1 a2) (spec_l3Depth.f (k + 1) a0 a1 a2) := by
 intro a0 a1 a2 k
 obtain ⟨ih0, ih1⟩ := spec_l3Depth.mono_l k
 exact ih0 a0 a1 a2
theorem spec_l3Depth.calls (k : Nat) : ∀ (a0_0 : Int) (a0_1 : ByteArray) (A0_2 : Option Addr) (c0_2 : Nat) (l0_2 : List (S35)) (r : Int) (w : World) (hr0_2 : Kd.C k35 w A0_2 l0_2.length l0_2) (hc0_2 : l0_2.length ≤ c0_2) (h : spec_l3Depth.f k a0_0 a0_1 l0_2 = some r),
  Calls Try.prog 73 #[.agg #[.int .i64 a0_0, .string a0_1, .slice A0_2 l0_2.length c0_2]] w fun e w' => e = .returned (.int .i64 r) ∧ Below w.heap.size w w' := by
 induction k using Nat.strongRecOn with
 | _ k ih =>
 intro a0_0 a0_1 A0_2 c0_2 l0_2 r w hr0_2 hc0_2 h
 cases k with
 | zero => exact absurd h (by simp [spec_l3Depth.f])
 | succ k =>
 simp only [spec_l3Depth.f] at h
 have hu35 := Try.underlying35
 have HR0_2 := Aside0.mk hr0_2
 have HC0_2 := Aside0.mk hc0_2
 clear hr0_2 hc0_2
 have HB := Aside0.mk (Below.refl w.heap.size w)
 have H : (spec_l3Depth.l0 k 0 0 a0_0 a0_1 l0_2) = some r := h
 clear h
 have H' := Aside0.mk H
 clear H
 go_enter Try.func73, Try.ntmps73
 go_wp2_with (first | ((with_reducible refine gate_dst (N := 1) rfl ?_); refine box_event ?hg (N := 1) ?hd (cs := #[.int .i64 a0_0, .string a0_1, .slice A0_2 l0_2.length c0_2]) (t := 35) ?hr ?_; (case hd => rfl); (case hg => rfl); (case hr => first | (go_simp; done) | (go_simp; rfl)); intro gb73001 hg w2 hbox hb; have n0_ := Aside0.mk (below_step za2 hb); have n1_ := Aside0.mk (hbox); have n2_ := Aside0.mk ((by rw [hg]; exact (below_size za2) : w.heap.size ≤ gb73001)); have n3_ := Aside0.mk ((by rw [hg]; exact (below_size za2) : w.heap.size ≤ gb73001)); clear HB; have HB := n0_; have BK73001 := n1_; have GW73001 := n2_; have GE73001 := n3_; clear n0_ n1_ n2_ n3_; clear hb hbox hg))
 first | go_loopg [3, 4] k (fun kq v3 v4 w' => ∃ (x3_1 : Int) (x4_1 : Int), v3 = .int .i64 x3_1 ∧ v4 = .int .i64 x4_1 ∧ Aside0 (spec_l3Depth.l0 kq x3_1 x4_1 a0_0 a0_1 l0_2 = some r) ∧ Aside0 (kq ≤ k) ∧ Aside0 (w'.heap[gb73001]? = some (.cells #[.int .i64 a0_0, .string a0_1, (.slice A0_2 l0_2.length c0_2)] 35 (0, 0))) ∧ Aside0 (Below w.heap.size w w')) | (simp only [Act.put, List.setIfInBounds_toArray, List.set_cons_succ, List.set_cons_zero]; go_loopg [3, 4] k (fun kq v3 v4 w' => ∃ (x3_1 : Int) (x4_1 : Int), v3 = .int .i64 x3_1 ∧ v4 = .int .i64 x4_1 ∧ Aside0 (spec_l3Depth.l0 kq x3_1 x4_1 a0_0 a0_1 l0_2 = some r) ∧ Aside0 (kq ≤ k) ∧ Aside0 (w'.heap[gb73001]? = some (.cells #[.int .i64 a0_0, .string a0_1, (.slice A0_2 l0_2.length c0_2)] 35 (0, 0))) ∧ Aside0 (Below w.heap.size w w')))
 case atStart => exact ⟨(0), (0), za6, za6, H', ⟨Nat.le_refl _⟩, ⟨za0 BK73001.out⟩, ⟨za2⟩⟩
 case round =>
  clear H'
  obtain ⟨x3_1, x4_1, rfl, rfl, HA, HK1, BK73001, HB⟩ := hrel
  cases gk with
  | zero => exact absurd HA.out (by simp [spec_l3Depth.l0])
  | succ k1 =>
  have H := HA.out
  clear HA
  simp only [spec_l3Depth.l0] at H
  by_cases c3 : x4_1 < (l0_2.length : Int)
  rw [if_pos c3] at H
  have c3b0 : decide (x4_1 < (l0_2.length : Int)) = true := decide_eq_true c3
  clear c3
  by_cases c4 : 0 ≤ x4_1
  ·rw [if_pos c4] at H
   have c4b0 : decide (0 ≤ x4_1) = true := decide_eq_true c4
   clear c4
   replace H := Option.bind_eq_some_iff.mp H
   obtain ⟨t73003, A50, H⟩ := H
   replace H : ((spec_l1Max.f x3_1 t73003).bind fun t73004 => (spec_l3Depth.l0 k1 t73004 (wrap64 (x4_1 + 1)) a0_0 a0_1 l0_2)) = some r := H
   have A5 := Aside0.mk A50
   clear A50
   replace H := Option.bind_eq_some_iff.mp H
   obtain ⟨t73004, A60, H⟩ := H
   replace H : (spec_l3Depth.l0 k1 t73004 (wrap64 (x4_1 + 1)) a0_0 a0_1 l0_2) = some r := H
   have A6 := Aside0.mk A60
   clear A60
   have H' := Aside0.mk H
   clear H
   obtain ⟨hcz7_0, hcz7_1, hcz7_2, hfz7_0, hfz7_1, hfz7_2⟩ := blk3 BK73001.out
   have p73002 : 0 ≤ (x4_1 : Int) := of_decide_eq_true za7
   have q73002 : x4_1 < (l0_2.length : Int) := of_decide_eq_true za7
   obtain ⟨ad73002, A73002_2, c73002_2, e73002, hx73002_0, hx73002_1, hx73002_2, hl73002_2, hi73002_2⟩ := at_T35 HR0_2.out x4_1 p73002 q73002
   cases e73002
   replace hx73002_0 := (HB.out.cell (World.block_lt_of_cell? w _ hx73002_0)).trans hx73002_0
   replace hx73002_1 := (HB.out.cell (World.block_lt_of_cell? w _ hx73002_1)).trans hx73002_1
   replace hx73002_2 := (HB.out.cell (World.block_lt_of_cell? w _ hx73002_2)).trans hx73002_2
   have HR73002_2 := Aside0.mk hi73002_2
   have HC73002_2 := Aside0.mk hl73002_2
   clear hi73002_2 hl73002_2
   replace p73002 := eq_true p73002
   replace q73002 := eq_true q73002
   go_wp2_with (first | ((with_reducible refine gate_callee (f := 73) rfl ?_); refine goesL_ (some 18) rfl rfl Try.func73 (by kernel_rfl) rfl #[.agg #[.int .i64 ((rd_T35 l0_2 x4_1).f0), .string ((rd_T35 l0_2 x4_1).f1), .slice A73002_2 ((rd_T35 l0_2 x4_1).f2).length c73002_2]] rfl za3 ?_; (with_reducible refine (ih k1 za11 ((rd_T35 l0_2 x4_1).f0) ((rd_T35 l0_2 x4_1).f1) _ _ ((rd_T35 l0_2 x4_1).f2) t73003 _ ?side1 ?side2 A5.out).mono ?_); (case side1 => repeat (first | exact (Kd.C_below HR73002_2.out HB.out) | (with_reducible refine Kd.C_alloc ?_ _) | (with_reducible refine Kd.C_drewN ?_ _) | (with_reducible refine Kd.C_drew ?_))); (case side2 => exact HC73002_2.out); rintro e w8 ⟨rfl, hb⟩; refine ⟨_, rfl, ?_⟩; have n0_ := Aside0.mk (blk_below (g := gb73001) (o := .cells #[.int .i64 a0_0, .string a0_1, .slice (some ad73002) l0_2.length c0_2] 35 (0, 0)) (za0 BK73001.out) hb); have n1_ := Aside0.mk (below_step za2 hb); clear BK73001; clear HB; have BK73001 := n0_; have HB := n1_; clear n0_ n1_; (try clear hb); (try clear hb2); (try clear hk); (try clear hi)) | ((with_reducible refine gate_callee (f := 88) rfl ?_); refine goesL_ (some 19) rfl rfl Try.func88 (by kernel_rfl) rfl #[.int .i64 x3_1, .int .i64 t73003] rfl za3 ?_; (with_reducible refine (spec_l1Max.calls x3_1 t73003 t73004 _ A6.out).mono ?_); rintro e w' ⟨rfl, ⟨nd, rfl⟩⟩; refine ⟨_, rfl, ?_⟩))
   go_roundg k1
   case measure => have := HK1.out; omega
   case rel => exact ⟨(t73004), (wrap64 (x4_1 + 1)), za6, za6, H', ⟨za11⟩, ⟨za0 BK73001.out⟩, ⟨za2⟩⟩
  ·rw [if_neg c4] at H
   exact absurd H (by simp)
  ·rw [if_neg c3] at H
   have c3b0 : decide (x4_1 < (l0_2.length : Int)) = false := decide_eq_false c3
   clear c3
   obtain rfl := Option.some.inj H
   obtain ⟨hcz9_0, hcz9_1, hcz9_2, hfz9_0, hfz9_1, hfz9_2⟩ := blk3 BK73001.out
   go_wp2
   go_ret
   exact ⟨za5, za2⟩
def spec_l3Args.j0 : Nat → Int → Bool → Option (Int)
 | 0, _, _ => none
 | k + 1, x3, x4 => if x4 = true then (some 2) else (if x3 = 8 then (some 1) else (if x3 = 9 then (some 1) else (some 0)))
def spec_l3Args.f (k : Nat) (a0 : Int) : Option (Int) := if a0 = 5 then (spec_l3Args.j0 k a0 (a0 == 5)) else (if a0 = 6 then (spec_l3Args.j0 k a0 (a0 == 6)) else (spec_l3Args.j0 k a0 (a0 == 7)))
theorem spec_l3Args.mono_l : ∀ k, (∀ y0 y1, LeO (spec_l3Args.j0 k y0 y1) (spec_l3Args.j0 (k + 1) y0 y1))
 | 0 => fun _ _ r h => by simp [spec_l3Args.j0] at h
 | k + 1 => by
  have ih0 := spec_l3Args.mono_l k
  ·intro y0 y1
   unfold spec_l3Args.j0
   repeat' first
   | with_reducible first | exact ih0 _ _ | exact LeO.refl _ | exact LeO.none _ | refine LeO.ite ?_ ?_ | refine LeO.bind ?_ (fun _ => ?_)
theorem spec_l3Args.mono : ∀ a0 k, LeO (spec_l3Args.f k a0) (spec_l3Args.f (k + 1) a0) := by
 intro a0 k
 have ih0 := spec_l3Args.mono_l k
 unfold spec_l3Args.f
 repeat' first
   | with_reducible first | exact ih0 _ _ | exact LeO.refl _ | exact LeO.none _ | refine LeO.ite ?_ ?_ | refine LeO.bind ?_ (fun _ => ?_)
theorem spec_l3Args.calls (k : Nat) (a0 : Int) (r : Int) (w : World) (h : spec_l3Args.f k a0 = some r) :
  Calls Try.prog 89 #[.int .i64 a0] w fun e w' => e = .returned (.int .i64 r) ∧ Drawn0 w w' := by
 have H : (if a0 = 5 then (spec_l3Args.j0 k a0 (a0 == 5)) else (if a0 = 6 then (spec_l3Args.j0 k a0 (a0 == 6)) else (spec_l3Args.j0 k a0 (a0 == 7)))) = some r := h
 clear h
 have HC2 := Aside0.mk H
 clear H
 go_enter Try.func89, Try.ntmps89
 go_upto_if 4 with (fail)
 go_cut [4] (fun v4 wc => ∃ (kq : Nat) (x4_1 : Bool), v4 = .bool x4_1 ∧ Aside0 (spec_l3Args.j0 kq a0 x4_1 = some r) ∧ Aside0 (kq ≤ k) ∧ Drawn0 w wc)
 case first =>
  have H := HC2.out
  clear HC2
  by_cases c3 : a0 = 5
  ·rw [if_pos c3] at H
   have c3b0 : (a0 == 5) = true := beq_iff_eq.mpr c3
   have c3b1 : (a0 != 5) = false := bne_eq_false_iff_eq.mpr c3
   clear c3
   (first | rw [c3b0] | (simp only [i64_w, i32_w]; rw [c3b0]) | skip)
   have H' := Aside0.mk H
   clear H
   go_wp2
   go_meet
   case rel => exact ⟨_, ((a0 == 5)), za6, H', ⟨za18⟩, za8⟩
  rw [if_neg c3] at H
  have c3b0 : (a0 == 5) = false := beq_eq_false_iff_ne.mpr c3
  have c3b1 : (a0 != 5) = true := bne_iff_ne.mpr c3
  (first | rw [c3b0] | (simp only [i64_w, i32_w]; rw [c3b0]) | skip)
  by_cases c4 : a0 = 6
  ·rw [if_pos c4] at H
   have c4b0 : (a0 == 6) = true := beq_iff_eq.mpr c4
   have c4b1 : (a0 != 6) = false := bne_eq_false_iff_eq.mpr c4
   clear c4
   have H' := Aside0.mk H
   clear H
   go_wp2
   go_meet
   case rel => exact ⟨_, ((a0 == 6)), za6, H', ⟨za18⟩, za8⟩
  ·rw [if_neg c4] at H
   have c4b0 : (a0 == 6) = false := beq_eq_false_iff_ne.mpr c4
   have c4b1 : (a0 != 6) = true := bne_iff_ne.mpr c4
   have H' := Aside0.mk H
   clear H
   go_wp2
   go_meet
   case rel => exact ⟨_, ((a0 == 7)), za6, H', ⟨za18⟩, za8⟩
 case rest =>
  clear HC2
  obtain ⟨kq, x4_1, rfl, HA, HJ1, ⟨mc1, rfl⟩⟩ := hcut
  cases kq with
  | zero => exact absurd HA.out (by simp [spec_l3Args.j0])
  | succ kj1 =>
  have H := HA.out
  clear HA
  simp only [spec_l3Args.j0] at H
  by_cases c5 : x4_1 = true
  subst c5
  have H1 : (some 2) = some r := by rw [if_pos rfl] at H; exact H
  clear H
  have H := H1
  clear H1
  rotate_left
  replace c5 := Bool.eq_false_iff.mpr c5
  subst c5
  have H1 : (if a0 = 8 then (some 1) else (if a0 = 9 then (some 1) else (some 0))) = some r := by rw [if_neg (show ¬ (false = true) by decide)] at H; exact H
  clear H
  have H := H1
  clear H1
  by_cases c6 : a0 = 8
  rw [if_pos c6] at H
  have c6b0 : (a0 == 8) = true := beq_iff_eq.mpr c6
  have c6b1 : (a0 != 8) = false := bne_eq_false_iff_eq.mpr c6
  clear c6
  rotate_left
  rw [if_neg c6] at H
  have c6b0 : (a0 == 8) = false := beq_eq_false_iff_ne.mpr c6
  have c6b1 : (a0 != 8) = true := bne_iff_ne.mpr c6
  by_cases c7 : a0 = 9
  rw [if_pos c7] at H
  have c7b0 : (a0 == 9) = true := beq_iff_eq.mpr c7
  have c7b1 : (a0 != 9) = false := bne_eq_false_iff_eq.mpr c7
  clear c7
  rotate_left
  rw [if_neg c7] at H
  have c7b0 : (a0 == 9) = false := beq_eq_false_iff_ne.mpr c7
  have c7b1 : (a0 != 9) = true := bne_iff_ne.mpr c7
  rotate_left
  all_goals
   obtain rfl := Option.some.inj H
   go_wp2
   go_ret
   exact ⟨za6, za8⟩
mutual
def spec_l3All.l0 : Nat → Int → Int → ByteArray → List (S35) → Option (Bool)
 | 0, _, _, _, _ => none
 | k + 1, x3, x74002000, x74002001, x74002002 => if x3 < (x74002002.length : Int) then (if 0 ≤ x3 then ((spec_l3All.f k ((rd_T35 x74002002 x3).f0) ((rd_T35 x74002002 x3).f1) ((rd_T35 x74002002 x3).f2)).bind fun t74003 => (if t74003 = true then (spec_l3All.l0 k (wrap64 (x3 + 1)) x74002000 x74002001 x74002002) else (some false))) else (none)) else (if x74002000 = 3 then (if (x74002001.size : Int) = 1 then ((spec_IsWord.f k x74002001).bind fun t74004 => (if t74004 = true then (some ((x74002002.length : Int) == 0)) else (some false))) else (some false)) else ((spec_l1In.f x74002000 1 9).bind fun t74005 => (if t74005 = true then (if x74002001.toList = ([] : List UInt8) then ((spec_l3Args.f k x74002000).bind fun t74006 => (some ((x74002002.length : Int) == t74006))) else (some false)) else (some false))))
def spec_l3All.f : Nat → Int → ByteArray → List (S35) → Option (Bool)
 | 0, _, _, _ => none
 | k + 1, a0_0, a0_1, l0_2 => spec_l3All.l0 k 0 a0_0 a0_1 l0_2
end
theorem spec_l3All.mono_l : ∀ k, (∀ y0 y1 y2, LeO (spec_l3All.f k y0 y1 y2) (spec_l3All.f (k + 1) y0 y1 y2)) ∧ (∀ y0 y1 y2 y3, LeO (spec_l3All.l0 k y0 y1 y2 y3) (spec_l3All.l0 (k + 1) y0 y1 y2 y3))
 | 0 => ⟨fun _ _ _ r h => by simp [spec_l3All.f] at h, fun _ _ _ _ r h => by simp [spec_l3All.l0] at h⟩
 | k + 1 => by
  obtain ⟨ih0, ih1⟩ := spec_l3All.mono_l k
  refine ⟨?_, ?_⟩
  ·intro y0 y1 y2
   unfold spec_l3All.f
   repeat' first
   | with_reducible first | exact ih0 _ _ _ | exact ih1 _ _ _ _ | exact spec_IsWord.mono _ _ | exact spec_l3Args.mono _ _ | exact LeO.refl _ | exact LeO.none _ | refine LeO.ite ?_ ?_ | refine LeO.bind ?_ (fun _ => ?_)
  ·intro y0 y1 y2 y3
   unfold spec_l3All.l0
   repeat' first
   | with_reducible first | exact ih0 _ _ _ | exact ih1 _ _ _ _ | exact spec_IsWord.mono _ _ | exact spec_l3Args.mono _ _ | exact LeO.refl _ | exact LeO.none _ | refine LeO.ite ?_ ?_ | refine LeO.bind ?_ (fun _ => ?_)
theorem spec_l3All.mono : ∀ a0 a1 a2 k, LeO (spec_l3All.f k a0 a1 a2) (spec_l3All.f (k + 1) a0 a1 a2) := by
 intro a0 a1 a2 k
 obtain ⟨ih0, ih1⟩ := spec_l3All.mono_l k
 exact ih0 a0 a1 a2
theorem spec_l3All.calls (k : Nat) : ∀ (a0_0 : Int) (a0_1 : ByteArray) (A0_2 : Option Addr) (c0_2 : Nat) (l0_2 : List (S35)) (r : Bool) (w : World) (hr0_2 : Kd.C k35 w A0_2 l0_2.length l0_2) (hc0_2 : l0_2.length ≤ c0_2) (h : spec_l3All.f k a0_0 a0_1 l0_2 = some r),
  Calls Try.prog 74 #[.agg #[.int .i64 a0_0, .string a0_1, .slice A0_2 l0_2.length c0_2]] w fun e w' => e = .returned (.bool r) ∧ Below w.heap.size w w' := by
 induction k using Nat.strongRecOn with
 | _ k ih =>
 intro a0_0 a0_1 A0_2 c0_2 l0_2 r w hr0_2 hc0_2 h
 cases k with
 | zero => exact absurd h (by simp [spec_l3All.f])
 | succ k =>
 simp only [spec_l3All.f] at h
 have hu35 := Try.underlying35
 have HR0_2 := Aside0.mk hr0_2
 have HC0_2 := Aside0.mk hc0_2
 clear hr0_2 hc0_2
 have HB := Aside0.mk (Below.refl w.heap.size w)
 have H : (spec_l3All.l0 k 0 a0_0 a0_1 l0_2) = some r := h
 clear h
 have H' := Aside0.mk H
 clear H
 go_enter Try.func74, Try.ntmps74
 go_wp2_with (first | ((with_reducible refine gate_dst (N := 1) rfl ?_); (try (refine gate_guard (by rfl) ?_; dsimp only)); refine box_event ?hg (N := 1) ?hd (cs := #[.int .i64 a0_0, .string a0_1, .slice A0_2 l0_2.length c0_2]) (t := 35) ?hr ?_; (case hd => rfl); (case hg => rfl); (case hr => first | (go_simp; done) | (go_simp; rfl)); intro gb74001 hg w2 hbox hb; have n0_ := Aside0.mk (below_step za2 hb); have n1_ := Aside0.mk (hbox); have n2_ := Aside0.mk ((by rw [hg]; exact (below_size za2) : w.heap.size ≤ gb74001)); have n3_ := Aside0.mk ((by rw [hg]; exact (below_size za2) : w.heap.size ≤ gb74001)); clear HB; have HB := n0_; have BK74001 := n1_; have GW74001 := n2_; have GE74001 := n3_; clear n0_ n1_ n2_ n3_; clear hb hbox hg))
 repeat (go_quiet (first | ((with_reducible refine gate_dst (N := 1) rfl ?_); (try (refine gate_guard (by rfl) ?_; dsimp only)); refine box_event ?hg (N := 1) ?hd (cs := #[.int .i64 a0_0, .string a0_1, .slice A0_2 l0_2.length c0_2]) (t := 35) ?hr ?_; (case hd => rfl); (case hg => rfl); (case hr => first | (go_simp; done) | (go_simp; rfl)); intro gb74001 hg w2 hbox hb; have n0_ := Aside0.mk (below_step za2 hb); have n1_ := Aside0.mk (hbox); have n2_ := Aside0.mk ((by rw [hg]; exact (below_size za2) : w.heap.size ≤ gb74001)); have n3_ := Aside0.mk ((by rw [hg]; exact (below_size za2) : w.heap.size ≤ gb74001)); clear HB; have HB := n0_; have BK74001 := n1_; have GW74001 := n2_; have GE74001 := n3_; clear n0_ n1_ n2_ n3_; clear hb hbox hg)); try go_wp2_with (first | ((with_reducible refine gate_dst (N := 1) rfl ?_); (try (refine gate_guard (by rfl) ?_; dsimp only)); refine box_event ?hg (N := 1) ?hd (cs := #[.int .i64 a0_0, .string a0_1, .slice A0_2 l0_2.length c0_2]) (t := 35) ?hr ?_; (case hd => rfl); (case hg => rfl); (case hr => first | (go_simp; done) | (go_simp; rfl)); intro gb74001 hg w2 hbox hb; have n0_ := Aside0.mk (below_step za2 hb); have n1_ := Aside0.mk (hbox); have n2_ := Aside0.mk ((by rw [hg]; exact (below_size za2) : w.heap.size ≤ gb74001)); have n3_ := Aside0.mk ((by rw [hg]; exact (below_size za2) : w.heap.size ≤ gb74001)); clear HB; have HB := n0_; have BK74001 := n1_; have GW74001 := n2_; have GE74001 := n3_; clear n0_ n1_ n2_ n3_; clear hb hbox hg)))
 first | go_loopg [3] k (fun kq v3 w' => ∃ (x3_1 : Int), v3 = .int .i64 x3_1 ∧ Aside0 (spec_l3All.l0 kq x3_1 a0_0 a0_1 l0_2 = some r) ∧ Aside0 (kq ≤ k) ∧ Aside0 (w'.heap[gb74001]? = some (.cells #[.int .i64 a0_0, .string a0_1, (.slice A0_2 l0_2.length c0_2)] 35 (0, 0))) ∧ Aside0 (Below w.heap.size w w')) | (simp only [Act.put, List.setIfInBounds_toArray, List.set_cons_succ, List.set_cons_zero]; go_loopg [3] k (fun kq v3 w' => ∃ (x3_1 : Int), v3 = .int .i64 x3_1 ∧ Aside0 (spec_l3All.l0 kq x3_1 a0_0 a0_1 l0_2 = some r) ∧ Aside0 (kq ≤ k) ∧ Aside0 (w'.heap[gb74001]? = some (.cells #[.int .i64 a0_0, .string a0_1, (.slice A0_2 l0_2.length c0_2)] 35 (0, 0))) ∧ Aside0 (Below w.heap.size w w')))
 case atStart => exact ⟨(0), za6, H', ⟨Nat.le_refl _⟩, ⟨za0 BK74001.out⟩, ⟨za2⟩⟩
 case round =>
  clear H'
  obtain ⟨x3_1, rfl, HA, HK1, BK74001, HB⟩ := hrel
  cases gk with
  | zero => exact absurd HA.out (by simp [spec_l3All.l0])
  | succ k1 =>
  have H := HA.out
  clear HA
  simp only [spec_l3All.l0] at H
  by_cases c3 : x3_1 < (l0_2.length : Int)
  rw [if_pos c3] at H
  have c3b0 : decide (x3_1 < (l0_2.length : Int)) = true := decide_eq_true c3
  clear c3
  by_cases c4 : 0 ≤ x3_1
  rw [if_pos c4] at H
  have c4b0 : decide (0 ≤ x3_1) = true := decide_eq_true c4
  clear c4
  replace H := Option.bind_eq_some_iff.mp H
  obtain ⟨t74003, A50, H⟩ := H
  replace H : (if t74003 = true then (spec_l3All.l0 k1 (wrap64 (x3_1 + 1)) a0_0 a0_1 l0_2) else (some false)) = some r := H
  have A5 := Aside0.mk A50
  clear A50
  by_cases c6 : t74003 = true
  ·subst c6
   have H1 : (spec_l3All.l0 k1 (wrap64 (x3_1 + 1)) a0_0 a0_1 l0_2) = some r := by rw [if_pos rfl] at H; exact H
   clear H
   have H := H1
   clear H1
   have H' := Aside0.mk H
   clear H
   obtain ⟨hcz7_0, hcz7_1, hcz7_2, hfz7_0, hfz7_1, hfz7_2⟩ := blk3 BK74001.out
   have p74002 : 0 ≤ (x3_1 : Int) := of_decide_eq_true za7
   have q74002 : x3_1 < (l0_2.length : Int) := of_decide_eq_true za7
   obtain ⟨ad74002, A74002_2, c74002_2, e74002, hx74002_0, hx74002_1, hx74002_2, hl74002_2, hi74002_2⟩ := at_T35 HR0_2.out x3_1 p74002 q74002
   cases e74002
   replace hx74002_0 := (HB.out.cell (World.block_lt_of_cell? w _ hx74002_0)).trans hx74002_0
   replace hx74002_1 := (HB.out.cell (World.block_lt_of_cell? w _ hx74002_1)).trans hx74002_1
   replace hx74002_2 := (HB.out.cell (World.block_lt_of_cell? w _ hx74002_2)).trans hx74002_2
   have HR74002_2 := Aside0.mk hi74002_2
   have HC74002_2 := Aside0.mk hl74002_2
   clear hi74002_2 hl74002_2
   replace p74002 := eq_true p74002
   replace q74002 := eq_true q74002
   go_wp2_with (first | (go_at_call 74; (with_reducible refine (ih k1 za11 ((rd_T35 l0_2 x3_1).f0) ((rd_T35 l0_2 x3_1).f1) _ _ ((rd_T35 l0_2 x3_1).f2) true _ ?side1 ?side2 A5.out).mono ?_); (case side1 => repeat (first | exact (Kd.C_below HR74002_2.out HB.out) | (with_reducible refine Kd.C_alloc ?_ _) | (with_reducible refine Kd.C_drewN ?_ _) | (with_reducible refine Kd.C_drew ?_))); (case side2 => exact HC74002_2.out); rintro e w8 ⟨rfl, hb⟩; have n0_ := Aside0.mk (blk_below (g := gb74001) (o := .cells #[.int .i64 a0_0, .string a0_1, .slice (some ad74002) l0_2.length c0_2] 35 (0, 0)) (za0 BK74001.out) hb); have n1_ := Aside0.mk (below_step za2 hb); clear BK74001; clear HB; have BK74001 := n0_; have HB := n1_; clear n0_ n1_; (try clear hb); (try clear hb2); (try clear hk); (try clear hi)))
   repeat (go_quiet (first | (go_at_call 74; (with_reducible refine (ih k1 za11 ((rd_T35 l0_2 x3_1).f0) ((rd_T35 l0_2 x3_1).f1) _ _ ((rd_T35 l0_2 x3_1).f2) true _ ?side1 ?side2 A5.out).mono ?_); (case side1 => repeat (first | exact (Kd.C_below HR74002_2.out HB.out) | (with_reducible refine Kd.C_alloc ?_ _) | (with_reducible refine Kd.C_drewN ?_ _) | (with_reducible refine Kd.C_drew ?_))); (case side2 => exact HC74002_2.out); rintro e w8 ⟨rfl, hb⟩; have n0_ := Aside0.mk (blk_below (g := gb74001) (o := .cells #[.int .i64 a0_0, .string a0_1, .slice (some ad74002) l0_2.length c0_2] 35 (0, 0)) (za0 BK74001.out) hb); have n1_ := Aside0.mk (below_step za2 hb); clear BK74001; clear HB; have BK74001 := n0_; have HB := n1_; clear n0_ n1_; (try clear hb); (try clear hb2); (try clear hk); (try clear hi))); try go_wp2_with (first | (go_at_call 74; (with_reducible refine (ih k1 za11 ((rd_T35 l0_2 x3_1).f0) ((rd_T35 l0_2 x3_1).f1) _ _ ((rd_T35 l0_2 x3_1).f2) true _ ?side1 ?side2 A5.out).mono ?_); (case side1 => repeat (first | exact (Kd.C_below HR74002_2.out HB.out) | (with_reducible refine Kd.C_alloc ?_ _) | (with_reducible refine Kd.C_drewN ?_ _) | (with_reducible refine Kd.C_drew ?_))); (case side2 => exact HC74002_2.out); rintro e w8 ⟨rfl, hb⟩; have n0_ := Aside0.mk (blk_below (g := gb74001) (o := .cells #[.int .i64 a0_0, .string a0_1, .slice (some ad74002) l0_2.length c0_2] 35 (0, 0)) (za0 BK74001.out) hb); have n1_ := Aside0.mk (below_step za2 hb); clear BK74001; clear HB; have BK74001 := n0_; have HB := n1_; clear n0_ n1_; (try clear hb); (try clear hb2); (try clear hk); (try clear hi))))
   go_roundg k1
   case measure => have := HK1.out; omega
   case rel => exact ⟨(wrap64 (x3_1 + 1)), za6, H', ⟨za11⟩, ⟨za0 BK74001.out⟩, ⟨za2⟩⟩
  replace c6 := Bool.eq_false_iff.mpr c6
  subst c6
  have H1 : (some false) = some r := by rw [if_neg (show ¬ (false = true) by decide)] at H; exact H
  clear H
  have H := H1
  clear H1
  obtain rfl := Option.some.inj H
  obtain ⟨hcz9_0, hcz9_1, hcz9_2, hfz9_0, hfz9_1, hfz9_2⟩ := blk3 BK74001.out
  have p74002 : 0 ≤ (x3_1 : Int) := of_decide_eq_true za7
  have q74002 : x3_1 < (l0_2.length : Int) := of_decide_eq_true za7
  obtain ⟨ad74002, A74002_2, c74002_2, e74002, hx74002_0, hx74002_1, hx74002_2, hl74002_2, hi74002_2⟩ := at_T35 HR0_2.out x3_1 p74002 q74002
  cases e74002
  replace hx74002_0 := (HB.out.cell (World.block_lt_of_cell? w _ hx74002_0)).trans hx74002_0
  replace hx74002_1 := (HB.out.cell (World.block_lt_of_cell? w _ hx74002_1)).trans hx74002_1
  replace hx74002_2 := (HB.out.cell (World.block_lt_of_cell? w _ hx74002_2)).trans hx74002_2
  have HR74002_2 := Aside0.mk hi74002_2
  have HC74002_2 := Aside0.mk hl74002_2
  clear hi74002_2 hl74002_2
  replace p74002 := eq_true p74002
  replace q74002 := eq_true q74002
  rotate_left
  ·rw [if_neg c4] at H
   exact absurd H (by simp)
  rw [if_neg c3] at H
  have c3b0 : decide (x3_1 < (l0_2.length : Int)) = false := decide_eq_false c3
  clear c3
  by_cases c11 : a0_0 = 3
  rw [if_pos c11] at H
  have c11b0 : (a0_0 == 3) = true := beq_iff_eq.mpr c11
  have c11b1 : (a0_0 != 3) = false := bne_eq_false_iff_eq.mpr c11
  clear c11
  by_cases c12 : (a0_1.size : Int) = 1
  rw [if_pos c12] at H
  have c12b0 : ((a0_1.size : Int) == 1) = true := beq_iff_eq.mpr c12
  have c12b1 : ((a0_1.size : Int) != 1) = false := bne_eq_false_iff_eq.mpr c12
  clear c12
  replace H := Option.bind_eq_some_iff.mp H
  obtain ⟨t74004, A130, H⟩ := H
  replace H : (if t74004 = true then (some ((l0_2.length : Int) == 0)) else (some false)) = some r := H
  have A13 := Aside0.mk A130
  clear A130
  by_cases c14 : t74004 = true
  subst c14
  have H1 : (some ((l0_2.length : Int) == 0)) = some r := by rw [if_pos rfl] at H; exact H
  clear H
  have H := H1
  clear H1
  obtain rfl := Option.some.inj H
  obtain ⟨hcz15_0, hcz15_1, hcz15_2, hfz15_0, hfz15_1, hfz15_2⟩ := blk3 BK74001.out
  rotate_left
  replace c14 := Bool.eq_false_iff.mpr c14
  subst c14
  have H1 : (some false) = some r := by rw [if_neg (show ¬ (false = true) by decide)] at H; exact H
  clear H
  have H := H1
  clear H1
  obtain rfl := Option.some.inj H
  obtain ⟨hcz16_0, hcz16_1, hcz16_2, hfz16_0, hfz16_1, hfz16_2⟩ := blk3 BK74001.out
  rotate_left
  rw [if_neg c12] at H
  have c12b0 : ((a0_1.size : Int) == 1) = false := beq_eq_false_iff_ne.mpr c12
  have c12b1 : ((a0_1.size : Int) != 1) = true := bne_iff_ne.mpr c12
  obtain rfl := Option.some.inj H
  obtain ⟨hcz17_0, hcz17_1, hcz17_2, hfz17_0, hfz17_1, hfz17_2⟩ := blk3 BK74001.out
  rotate_left
  rw [if_neg c11] at H
  have c11b0 : (a0_0 == 3) = false := beq_eq_false_iff_ne.mpr c11
  have c11b1 : (a0_0 != 3) = true := bne_iff_ne.mpr c11
  replace H := Option.bind_eq_some_iff.mp H
  obtain ⟨t74005, A180, H⟩ := H
  replace H : (if t74005 = true then (if a0_1.toList = ([] : List UInt8) then ((spec_l3Args.f k1 a0_0).bind fun t74006 => (some ((l0_2.length : Int) == t74006))) else (some false)) else (some false)) = some r := H
  have A18 := Aside0.mk A180
  clear A180
  by_cases c19 : t74005 = true
  subst c19
  have H1 : (if a0_1.toList = ([] : List UInt8) then ((spec_l3Args.f k1 a0_0).bind fun t74006 => (some ((l0_2.length : Int) == t74006))) else (some false)) = some r := by rw [if_pos rfl] at H; exact H
  clear H
  have H := H1
  clear H1
  by_cases c20 : a0_1.toList = ([] : List UInt8)
  rw [if_pos c20] at H
  have c20b0 : (a0_1.toList == ([] : List UInt8)) = true := beq_iff_eq.mpr c20
  have c20b1 : (a0_1.toList != ([] : List UInt8)) = false := bne_eq_false_iff_eq.mpr c20
  clear c20
  replace H := Option.bind_eq_some_iff.mp H
  obtain ⟨t74006, A210, H⟩ := H
  replace H : (some ((l0_2.length : Int) == t74006)) = some r := H
  have A21 := Aside0.mk A210
  clear A210
  obtain rfl := Option.some.inj H
  obtain ⟨hcz22_0, hcz22_1, hcz22_2, hfz22_0, hfz22_1, hfz22_2⟩ := blk3 BK74001.out
  rotate_left
  rw [if_neg c20] at H
  have c20b0 : (a0_1.toList == ([] : List UInt8)) = false := beq_eq_false_iff_ne.mpr c20
  have c20b1 : (a0_1.toList != ([] : List UInt8)) = true := bne_iff_ne.mpr c20
  obtain rfl := Option.some.inj H
  obtain ⟨hcz23_0, hcz23_1, hcz23_2, hfz23_0, hfz23_1, hfz23_2⟩ := blk3 BK74001.out
  rotate_left
  replace c19 := Bool.eq_false_iff.mpr c19
  subst c19
  have H1 : (some false) = some r := by rw [if_neg (show ¬ (false = true) by decide)] at H; exact H
  clear H
  have H := H1
  clear H1
  obtain rfl := Option.some.inj H
  obtain ⟨hcz24_0, hcz24_1, hcz24_2, hfz24_0, hfz24_1, hfz24_2⟩ := blk3 BK74001.out
  rotate_left
  all_goals
   go_wp2_with (first | (go_at_call 74; (with_reducible refine (ih k1 za11 ((rd_T35 l0_2 x3_1).f0) ((rd_T35 l0_2 x3_1).f1) _ _ ((rd_T35 l0_2 x3_1).f2) false _ ?side1 ?side2 A5.out).mono ?_); (case side1 => repeat (first | exact (Kd.C_below HR74002_2.out HB.out) | (with_reducible refine Kd.C_alloc ?_ _) | (with_reducible refine Kd.C_drewN ?_ _) | (with_reducible refine Kd.C_drew ?_))); (case side2 => exact HC74002_2.out); rintro e w10 ⟨rfl, hb⟩; have n0_ := Aside0.mk (blk_below (g := gb74001) (o := .cells #[.int .i64 a0_0, .string a0_1, .slice (some ad74002) l0_2.length c0_2] 35 (0, 0)) (za0 BK74001.out) hb); have n1_ := Aside0.mk (below_step za2 hb); clear BK74001; clear HB; have BK74001 := n0_; have HB := n1_; clear n0_ n1_; (try clear hb); (try clear hb2); (try clear hk); (try clear hi)) | (go_at_call 46; (with_reducible refine (spec_l1In.calls a0_0 1 9 _ _ A18.out).mono ?_); rintro e w' ⟨rfl, ⟨nd, rfl⟩⟩; (try first | exact ⟨rfl, _, World.drewN_drewN _ _ _⟩ | exact ⟨rfl, _, Eq.trans (World.drewN_drewN _ _ _) (congrArg (World.drewN _) (Nat.add_assoc _ _ _))⟩)) | (go_at_call 89; (with_reducible refine (spec_l3Args.calls k1 a0_0 t74006 _ A21.out).mono ?_); rintro e w' ⟨rfl, ⟨nd, rfl⟩⟩; (try first | exact ⟨rfl, _, World.drewN_drewN _ _ _⟩ | exact ⟨rfl, _, Eq.trans (World.drewN_drewN _ _ _) (congrArg (World.drewN _) (Nat.add_assoc _ _ _))⟩)) | (go_at_call 47; (with_reducible refine (spec_IsWord.calls k1 a0_1 _ _ A13.out).mono ?_); rintro e w' ⟨rfl, ⟨nd, rfl⟩⟩; (try first | exact ⟨rfl, _, World.drewN_drewN _ _ _⟩ | exact ⟨rfl, _, Eq.trans (World.drewN_drewN _ _ _) (congrArg (World.drewN _) (Nat.add_assoc _ _ _))⟩)))
   repeat (go_quiet (first | (go_at_call 74; (with_reducible refine (ih k1 za11 ((rd_T35 l0_2 x3_1).f0) ((rd_T35 l0_2 x3_1).f1) _ _ ((rd_T35 l0_2 x3_1).f2) false _ ?side1 ?side2 A5.out).mono ?_); (case side1 => repeat (first | exact (Kd.C_below HR74002_2.out HB.out) | (with_reducible refine Kd.C_alloc ?_ _) | (with_reducible refine Kd.C_drewN ?_ _) | (with_reducible refine Kd.C_drew ?_))); (case side2 => exact HC74002_2.out); rintro e w10 ⟨rfl, hb⟩; have n0_ := Aside0.mk (blk_below (g := gb74001) (o := .cells #[.int .i64 a0_0, .string a0_1, .slice (some ad74002) l0_2.length c0_2] 35 (0, 0)) (za0 BK74001.out) hb); have n1_ := Aside0.mk (below_step za2 hb); clear BK74001; clear HB; have BK74001 := n0_; have HB := n1_; clear n0_ n1_; (try clear hb); (try clear hb2); (try clear hk); (try clear hi)) | (go_at_call 46; (with_reducible refine (spec_l1In.calls a0_0 1 9 _ _ A18.out).mono ?_); rintro e w' ⟨rfl, ⟨nd, rfl⟩⟩; (try first | exact ⟨rfl, _, World.drewN_drewN _ _ _⟩ | exact ⟨rfl, _, Eq.trans (World.drewN_drewN _ _ _) (congrArg (World.drewN _) (Nat.add_assoc _ _ _))⟩)) | (go_at_call 89; (with_reducible refine (spec_l3Args.calls k1 a0_0 t74006 _ A21.out).mono ?_); rintro e w' ⟨rfl, ⟨nd, rfl⟩⟩; (try first | exact ⟨rfl, _, World.drewN_drewN _ _ _⟩ | exact ⟨rfl, _, Eq.trans (World.drewN_drewN _ _ _) (congrArg (World.drewN _) (Nat.add_assoc _ _ _))⟩)) | (go_at_call 47; (with_reducible refine (spec_IsWord.calls k1 a0_1 _ _ A13.out).mono ?_); rintro e w' ⟨rfl, ⟨nd, rfl⟩⟩; (try first | exact ⟨rfl, _, World.drewN_drewN _ _ _⟩ | exact ⟨rfl, _, Eq.trans (World.drewN_drewN _ _ _) (congrArg (World.drewN _) (Nat.add_assoc _ _ _))⟩))); try go_wp2_with (first | (go_at_call 74; (with_reducible refine (ih k1 za11 ((rd_T35 l0_2 x3_1).f0) ((rd_T35 l0_2 x3_1).f1) _ _ ((rd_T35 l0_2 x3_1).f2) false _ ?side1 ?side2 A5.out).mono ?_); (case side1 => repeat (first | exact (Kd.C_below HR74002_2.out HB.out) | (with_reducible refine Kd.C_alloc ?_ _) | (with_reducible refine Kd.C_drewN ?_ _) | (with_reducible refine Kd.C_drew ?_))); (case side2 => exact HC74002_2.out); rintro e w10 ⟨rfl, hb⟩; have n0_ := Aside0.mk (blk_below (g := gb74001) (o := .cells #[.int .i64 a0_0, .string a0_1, .slice (some ad74002) l0_2.length c0_2] 35 (0, 0)) (za0 BK74001.out) hb); have n1_ := Aside0.mk (below_step za2 hb); clear BK74001; clear HB; have BK74001 := n0_; have HB := n1_; clear n0_ n1_; (try clear hb); (try clear hb2); (try clear hk); (try clear hi)) | (go_at_call 46; (with_reducible refine (spec_l1In.calls a0_0 1 9 _ _ A18.out).mono ?_); rintro e w' ⟨rfl, ⟨nd, rfl⟩⟩; (try first | exact ⟨rfl, _, World.drewN_drewN _ _ _⟩ | exact ⟨rfl, _, Eq.trans (World.drewN_drewN _ _ _) (congrArg (World.drewN _) (Nat.add_assoc _ _ _))⟩)) | (go_at_call 89; (with_reducible refine (spec_l3Args.calls k1 a0_0 t74006 _ A21.out).mono ?_); rintro e w' ⟨rfl, ⟨nd, rfl⟩⟩; (try first | exact ⟨rfl, _, World.drewN_drewN _ _ _⟩ | exact ⟨rfl, _, Eq.trans (World.drewN_drewN _ _ _) (congrArg (World.drewN _) (Nat.add_assoc _ _ _))⟩)) | (go_at_call 47; (with_reducible refine (spec_IsWord.calls k1 a0_1 _ _ A13.out).mono ?_); rintro e w' ⟨rfl, ⟨nd, rfl⟩⟩; (try first | exact ⟨rfl, _, World.drewN_drewN _ _ _⟩ | exact ⟨rfl, _, Eq.trans (World.drewN_drewN _ _ _) (congrArg (World.drewN _) (Nat.add_assoc _ _ _))⟩))))
   go_ret
   exact ⟨za5, za2⟩
def spec_IsValidRegex.f (k : Nat) (a0_0 : Int) (a0_1 : ByteArray) (l0_2 : List (S35)) : Option (Bool) := (spec_l3Left.f k a0_0 a0_1 l0_2 16).bind fun t44002 => (if t44002 ≥ 0 then ((spec_l3Depth.f k a0_0 a0_1 l0_2).bind fun t44003 => (if t44003 ≤ 6 then ((spec_l3All.f k a0_0 a0_1 l0_2).bind fun t44004 => (some t44004)) else (some false))) else (some false))
theorem spec_IsValidRegex.mono : ∀ a0 a1 a2 k, LeO (spec_IsValidRegex.f k a0 a1 a2) (spec_IsValidRegex.f (k + 1) a0 a1 a2) := by
 intro a0 a1 a2 k
 unfold spec_IsValidRegex.f
 repeat' first
   | with_reducible first | exact spec_l3All.mono _ _ _ _ | exact spec_l3Depth.mono _ _ _ _ | exact spec_l3Left.mono _ _ _ _ _ | exact LeO.refl _ | exact LeO.none _ | refine LeO.ite ?_ ?_ | refine LeO.bind ?_ (fun _ => ?_)
theorem spec_IsValidRegex.calls (k : Nat) (a0_0 : Int) (a0_1 : ByteArray) (A0_2 : Option Addr) (c0_2 : Nat) (l0_2 : List (S35)) (r : Bool) (w : World) (hr0_2 : Kd.C k35 w A0_2 l0_2.length l0_2) (hc0_2 : l0_2.length ≤ c0_2) (h : spec_IsValidRegex.f k a0_0 a0_1 l0_2 = some r) :
  Calls Try.prog 44 #[.agg #[.int .i64 a0_0, .string a0_1, .slice A0_2 l0_2.length c0_2]] w fun e w' => e = .returned (.bool r) ∧ Below w.heap.size w w' := by
 have hu35 := Try.underlying35
 have HR0_2 := Aside0.mk hr0_2
 have HC0_2 := Aside0.mk hc0_2
 clear hr0_2 hc0_2
 have HB := Aside0.mk (Below.refl w.heap.size w)
 have H : ((spec_l3Left.f k a0_0 a0_1 l0_2 16).bind fun t44002 => (if t44002 ≥ 0 then ((spec_l3Depth.f k a0_0 a0_1 l0_2).bind fun t44003 => (if t44003 ≤ 6 then ((spec_l3All.f k a0_0 a0_1 l0_2).bind fun t44004 => (some t44004)) else (some false))) else (some false))) = some r := h
 clear h
 replace H := Option.bind_eq_some_iff.mp H
 obtain ⟨t44002, A20, H⟩ := H
 replace H : (if t44002 ≥ 0 then ((spec_l3Depth.f k a0_0 a0_1 l0_2).bind fun t44003 => (if t44003 ≤ 6 then ((spec_l3All.f k a0_0 a0_1 l0_2).bind fun t44004 => (some t44004)) else (some false))) else (some false)) = some r := H
 have A2 := Aside0.mk A20
 clear A20
 by_cases c3 : t44002 ≥ 0
 rw [if_pos c3] at H
 have c3b0 : decide (0 ≤ t44002) = true := decide_eq_true c3
 clear c3
 replace H := Option.bind_eq_some_iff.mp H
 obtain ⟨t44003, A40, H⟩ := H
 replace H : (if t44003 ≤ 6 then ((spec_l3All.f k a0_0 a0_1 l0_2).bind fun t44004 => (some t44004)) else (some false)) = some r := H
 have A4 := Aside0.mk A40
 clear A40
 by_cases c5 : t44003 ≤ 6
 rw [if_pos c5] at H
 have c5b0 : decide (t44003 ≤ 6) = true := decide_eq_true c5
 clear c5
 replace H := Option.bind_eq_some_iff.mp H
 obtain ⟨t44004, A60, H⟩ := H
 replace H : (some t44004) = some r := H
 have A6 := Aside0.mk A60
 clear A60
 rotate_left
 rw [if_neg c5] at H
 have c5b0 : decide (t44003 ≤ 6) = false := decide_eq_false c5
 clear c5
 rotate_left
 rw [if_neg c3] at H
 have c3b0 : decide (0 ≤ t44002) = false := decide_eq_false c3
 clear c3
 rotate_left
 all_goals
  obtain rfl := Option.some.inj H
  go_enter Try.func44, Try.ntmps44
  go_wp2_with (first | ((with_reducible refine gate_dst (N := 1) rfl ?_); refine box_event ?hg (N := 1) ?hd (cs := #[.int .i64 a0_0, .string a0_1, .slice A0_2 l0_2.length c0_2]) (t := 35) ?hr ?_; (case hd => rfl); (case hg => rfl); (case hr => first | (go_simp; done) | (go_simp; rfl)); intro gb44001 hg w14 hbox hb; have n0_ := Aside0.mk (below_step za2 hb); have n1_ := Aside0.mk (hbox); have n2_ := Aside0.mk ((by rw [hg]; exact (below_size za2) : w.heap.size ≤ gb44001)); have n3_ := Aside0.mk ((by rw [hg]; exact (below_size za2) : w.heap.size ≤ gb44001)); clear HB; have HB := n0_; have BK44001 := n1_; have GW44001 := n2_; have GE44001 := n3_; clear n0_ n1_ n2_ n3_; clear hb hbox hg; obtain ⟨hcz15_0, hcz15_1, hcz15_2, hfz15_0, hfz15_1, hfz15_2⟩ := blk3 BK44001.out) | ((with_reducible refine gate_callee (f := 72) rfl ?_); refine goesL_ (some 4) rfl rfl Try.func72 (by kernel_rfl) rfl #[.agg #[.int .i64 a0_0, .string a0_1, .slice A0_2 l0_2.length c0_2], .int .i64 16] rfl za3 ?_; (with_reducible refine (spec_l3Left.calls k a0_0 a0_1 _ _ l0_2 16 t44002 _ ?side1 ?side2 A2.out).mono ?_); (case side1 => repeat (first | exact (Kd.C_below HR0_2.out HB.out) | (with_reducible refine Kd.C_alloc ?_ _) | (with_reducible refine Kd.C_drewN ?_ _) | (with_reducible refine Kd.C_drew ?_))); (case side2 => exact HC0_2.out); rintro e w16 ⟨rfl, hb⟩; refine ⟨_, rfl, ?_⟩; have n0_ := Aside0.mk (blk_below (g := gb44001) (o := .cells #[.int .i64 a0_0, .string a0_1, .slice A0_2 l0_2.length c0_2] 35 (0, 0)) (za0 BK44001.out) hb); have n1_ := Aside0.mk (below_step za2 hb); clear BK44001; clear HB; have BK44001 := n0_; have HB := n1_; clear n0_ n1_; (try clear hb); (try clear hb2); (try clear hk); (try clear hi); obtain ⟨hcz17_0, hcz17_1, hcz17_2, hfz17_0, hfz17_1, hfz17_2⟩ := blk3 BK44001.out) | (go_at_call 73; (with_reducible refine (spec_l3Depth.calls k a0_0 a0_1 _ _ l0_2 t44003 _ ?side1 ?side2 A4.out).mono ?_); (case side1 => repeat (first | exact (Kd.C_below HR0_2.out HB.out) | (with_reducible refine Kd.C_alloc ?_ _) | (with_reducible refine Kd.C_drewN ?_ _) | (with_reducible refine Kd.C_drew ?_))); (case side2 => exact HC0_2.out); rintro e w11 ⟨rfl, hb⟩; have n0_ := Aside0.mk (blk_below (g := gb44001) (o := .cells #[.int .i64 a0_0, .string a0_1, .slice A0_2 l0_2.length c0_2] 35 (0, 0)) (za0 BK44001.out) hb); have n1_ := Aside0.mk (below_step za2 hb); clear BK44001; clear HB; have BK44001 := n0_; have HB := n1_; clear n0_ n1_; (try clear hb); (try clear hb2); (try clear hk); (try clear hi); obtain ⟨hcz12_0, hcz12_1, hcz12_2, hfz12_0, hfz12_1, hfz12_2⟩ := blk3 BK44001.out) | (go_at_call 74; (with_reducible refine (spec_l3All.calls k a0_0 a0_1 _ _ l0_2 t44004 _ ?side1 ?side2 A6.out).mono ?_); (case side1 => repeat (first | exact (Kd.C_below HR0_2.out HB.out) | (with_reducible refine Kd.C_alloc ?_ _) | (with_reducible refine Kd.C_drewN ?_ _) | (with_reducible refine Kd.C_drew ?_))); (case side2 => exact HC0_2.out); rintro e w13 ⟨rfl, hb⟩; have n0_ := Aside0.mk (blk_below (g := gb44001) (o := .cells #[.int .i64 a0_0, .string a0_1, .slice A0_2 l0_2.length c0_2] 35 (0, 0)) (za0 BK44001.out) hb); have n1_ := Aside0.mk (below_step za2 hb); clear BK44001; clear HB; have BK44001 := n0_; have HB := n1_; clear n0_ n1_; (try clear hb); (try clear hb2); (try clear hk); (try clear hi)))
  go_ret
  exact ⟨za5, za2⟩
end Go.Proofs.Ytffjfdoghofkdaa.A
namespace Go.Proofs.Ytffjfdoghofkdaa.Ext
open Go.RowKit Go.Proofs.YtffjfdoghofkdaaW.PrintWords Go.Proofs.YtffjfdoghofkdaaW.PrintLast Go.Proofs.Ytffjfdoghofkdaa.A
inductive Rx where
 | none : Rx
 | empty : Rx
 | letter (l : ByteArray) : Rx
 | any : Rx
 | cat (a b : Rx) : Rx
 | or (a b : Rx) : Rx
 | and (a b : Rx) : Rx
 | star (a : Rx) : Rx
 | not (a : Rx) : Rx
def Rx.size : Rx → Nat
 | .cat a b => 1 + a.size + b.size
 | .or a b => 1 + a.size + b.size
 | .and a b => 1 + a.size + b.size
 | .star a => 1 + a.size
 | .not a => 1 + a.size
 | _ => 1
theorem Rx.size_pos (t : Rx) : 0 < t.size := by cases t <;> simp only [Rx.size] <;> omega
inductive IsRx : S35 → Rx → Prop
 | none (s : ByteArray) : IsRx ⟨1, s, []⟩ .none
 | empty (s : ByteArray) : IsRx ⟨2, s, []⟩ .empty
 | letter (s : ByteArray) : IsRx ⟨3, s, []⟩ (.letter s)
 | any (s : ByteArray) : IsRx ⟨4, s, []⟩ .any
 | cat (s : ByteArray) {x y : S35} {t u : Rx} (hx : IsRx x t) (hy : IsRx y u) : IsRx ⟨5, s, [x, y]⟩ (.cat t u)
 | or (s : ByteArray) {x y : S35} {t u : Rx} (hx : IsRx x t) (hy : IsRx y u) : IsRx ⟨6, s, [x, y]⟩ (.or t u)
 | and (s : ByteArray) {x y : S35} {t u : Rx} (hx : IsRx x t) (hy : IsRx y u) : IsRx ⟨7, s, [x, y]⟩ (.and t u)
 | star (s : ByteArray) {x : S35} {t : Rx} (hx : IsRx x t) : IsRx ⟨8, s, [x]⟩ (.star t)
 | not (s : ByteArray) {x : S35} {t : Rx} (hx : IsRx x t) : IsRx ⟨9, s, [x]⟩ (.not t)
def rxOf : Nat → S35 → Option Rx
 | 0, _ => .none
 | n + 1, x => match x.f2 with
  | [] => if x.f0 = 1 then some .none else if x.f0 = 2 then some .empty else if x.f0 = 3 then some (.letter x.f1) else if x.f0 = 4 then some .any else .none
  | [a] => (rxOf n a).bind fun t => if x.f0 = 8 then some (.star t) else if x.f0 = 9 then some (.not t) else .none
  | [a, b] => (rxOf n a).bind fun t => (rxOf n b).bind fun u => if x.f0 = 5 then some (.cat t u) else if x.f0 = 6 then some (.or t u) else if x.f0 = 7 then some (.and t u) else .none
  | _ => .none
theorem rxOf_is : ∀ n (x : S35) (t : Rx), rxOf n x = some t → IsRx x t := by
 intro n
 induction n with
 | zero => intro x t h; exact absurd h (by simp [rxOf])
 | succ n ih =>
  intro x t h
  obtain ⟨k, s, l⟩ := x
  rcases l with _ | ⟨a, _ | ⟨b, _ | ⟨c, l⟩⟩⟩
  ·simp only [rxOf] at h
   split at h
   ·next e => subst e; obtain rfl := Option.some.inj h; exact .none s
   ·split at h
    ·next e => subst e; obtain rfl := Option.some.inj h; exact .empty s
    ·split at h
     ·next e => subst e; obtain rfl := Option.some.inj h; exact .letter s
     ·split at h
      ·next e => subst e; obtain rfl := Option.some.inj h; exact .any s
      ·exact absurd h (by simp)
  ·simp only [rxOf] at h
   replace h := Option.bind_eq_some_iff.mp h
   obtain ⟨u, hu, h⟩ := h
   split at h
   ·next e => subst e; obtain rfl := Option.some.inj h; exact .star s (ih _ _ hu)
   ·split at h
    ·next e => subst e; obtain rfl := Option.some.inj h; exact .not s (ih _ _ hu)
    ·exact absurd h (by simp)
  ·simp only [rxOf] at h
   replace h := Option.bind_eq_some_iff.mp h
   obtain ⟨u, hu, h⟩ := h
   replace h := Option.bind_eq_some_iff.mp h
   obtain ⟨v, hv, h⟩ := h
   split at h
   ·next e => subst e; obtain rfl := Option.some.inj h; exact .cat s (ih _ _ hu) (ih _ _ hv)
   ·split at h
    ·next e => subst e; obtain rfl := Option.some.inj h; exact .or s (ih _ _ hu) (ih _ _ hv)
    ·split at h
     ·next e => subst e; obtain rfl := Option.some.inj h; exact .and s (ih _ _ hu) (ih _ _ hv)
     ·exact absurd h (by simp)
  ·exact absurd h (by simp [rxOf])
/-! The language. -/
def exIn (p : Nat → Bool) (i j : Nat) : Bool := (List.range (j + 1 - i)).any fun d => p (i + d)
theorem exIn_iff (p : Nat → Bool) (i j : Nat) : exIn p i j = true ↔ ∃ k, i ≤ k ∧ k ≤ j ∧ p k = true := by
 unfold exIn
 rw [List.any_eq_true]
 constructor
 ·rintro ⟨d, hd, h⟩
  have := List.mem_range.1 hd
  exact ⟨i + d, by omega, by omega, h⟩
 ·rintro ⟨k, h1, h2, h⟩
  exact ⟨k - i, List.mem_range.2 (by omega), by rw [show i + (k - i) = k by omega]; exact h⟩
def stf (f : Nat → Nat → Bool) : Nat → Nat → Nat → Bool
 | 0, i, j => i == j
 | n + 1, i, j => i == j || exIn (fun k => f i k && stf f n k j) (i + 1) j
def mt (s : ByteArray) : Rx → Nat → Nat → Bool
 | .none, _, _ => false
 | .empty, i, j => i == j
 | .letter l, i, j => (s.extract i j).toList == l.toList
 | .any, i, j => j == i + 1
 | .cat a b, i, j => exIn (fun k => mt s a i k && mt s b k j) i j
 | .or a b, i, j => mt s a i j || mt s b i j
 | .and a b, i, j => mt s a i j && mt s b i j
 | .star a, i, j => stf (mt s a) (j - i) i j
 | .not a, i, j => !mt s a i j
inductive Path (f : Nat → Nat → Bool) : Nat → Nat → Prop
 | refl (i : Nat) : Path f i i
 | step {i k j : Nat} (h : i < k) (hf : f i k = true) (r : Path f k j) : Path f i j
theorem Path.le {f : Nat → Nat → Bool} {i j : Nat} (h : Path f i j) : i ≤ j := by
 induction h with
 | refl => exact Nat.le_refl _
 | step h _ _ ih => omega
theorem Path.snoc {f : Nat → Nat → Bool} {i j k : Nat} (h : Path f i j) (hk : j < k) (hf : f j k = true) : Path f i k := by
 induction h with
 | refl i => exact .step hk hf (.refl _)
 | step h g _ ih => exact .step h g (ih hk hf)
theorem Path.last {f : Nat → Nat → Bool} {i k : Nat} (h : Path f i k) : k = i ∨ ∃ m, i ≤ m ∧ m < k ∧ Path f i m ∧ f m k = true := by
 induction h with
 | refl i => exact .inl rfl
 | @step i k j h g r ih =>
  right
  rcases ih with rfl | ⟨m, h1, h2, h3, h4⟩
  ·exact ⟨i, Nat.le_refl _, h, .refl _, g⟩
  ·exact ⟨m, by omega, h2, .step h g h3, h4⟩
theorem stf_iff (f : Nat → Nat → Bool) : ∀ n i j, j - i ≤ n → (stf f n i j = true ↔ Path f i j) := by
 intro n
 induction n with
 | zero =>
  intro i j h
  simp only [stf, beq_iff_eq]
  constructor
  ·rintro rfl; exact .refl _
  ·intro p; have := p.le; omega
 | succ n ih =>
  intro i j h
  simp only [stf, Bool.or_eq_true, beq_iff_eq, exIn_iff, Bool.and_eq_true]
  constructor
  ·rintro (rfl | ⟨k, h1, h2, h3, h4⟩)
   ·exact .refl _
   ·exact .step (by omega) h3 ((ih k j (by omega)).1 h4)
  ·intro p
   cases p with
   | refl => exact .inl rfl
   | @step _ k _ h1 h2 r => exact .inr ⟨k, by omega, r.le, h2, (ih k j (by omega)).2 r⟩
theorem star_iff (s : ByteArray) (a : Rx) (i j : Nat) : mt s (.star a) i j = true ↔ Path (mt s a) i j := stf_iff _ _ _ _ (Nat.le_refl _)
theorem star_self (s : ByteArray) (a : Rx) (i : Nat) : mt s (.star a) i i = true := (star_iff s a i i).2 (.refl _)
theorem star_first (s : ByteArray) (a : Rx) (i j : Nat) (h : i < j) : mt s (.star a) i j = exIn (fun k => mt s a i k && mt s (.star a) k j) (i + 1) j := by
 rw [Bool.eq_iff_iff, star_iff, exIn_iff]
 constructor
 ·intro p
  cases p with
  | refl => omega
  | @step _ k _ h1 h2 r => exact ⟨k, by omega, r.le, by simp [h2, (star_iff s a k j).2 r]⟩
 ·rintro ⟨k, h1, h2, h3⟩
  simp only [Bool.and_eq_true] at h3
  exact .step (by omega) h3.1 ((star_iff s a k j).1 h3.2)
theorem star_last (s : ByteArray) (a : Rx) (i k : Nat) (h : i < k) : mt s (.star a) i k = exIn (fun m => mt s (.star a) i m && mt s a m k) i (k - 1) := by
 rw [Bool.eq_iff_iff, star_iff, exIn_iff]
 constructor
 ·intro p
  rcases p.last with rfl | ⟨m, h1, h2, h3, h4⟩
  ·omega
  ·exact ⟨m, h1, by omega, by simp [h4, (star_iff s a i m).2 h3]⟩
 ·rintro ⟨m, h1, h2, h3⟩
  simp only [Bool.and_eq_true] at h3
  exact ((star_iff s a i m).1 h3.1).snoc (by omega) h3.2
def rxMatch (k : Int) (b : ByteArray) (l : List S35) (s : ByteArray) : Option Bool :=
 if s.size ≤ 400 then (rxOf 7 ⟨k, b, l⟩).bind fun t => if t.size ≤ 16 then some (mt s t 0 s.size) else .none else .none
theorem rxMatch_some {k : Int} {b : ByteArray} {l : List S35} {s : ByteArray} {r : Bool} (h : rxMatch k b l s = some r) : ∃ t, IsRx ⟨k, b, l⟩ t ∧ t.size ≤ 16 ∧ s.size ≤ 400 ∧ mt s t 0 s.size = r := by
 unfold rxMatch at h
 split at h
 ·next h0 =>
  obtain ⟨t, h1, h2⟩ := Option.bind_eq_some_iff.mp h
  split at h2
  ·next h3 => exact ⟨t, rxOf_is _ _ _ h1, h3, h0, Option.some.inj h2⟩
  ·exact absurd h2 (by simp)
 ·exact absurd h (by simp)
end Go.Proofs.Ytffjfdoghofkdaa.Ext
namespace Go.Proofs.Ytffjfdoghofkdaa.Ext
open Go Go.RowKit Go.Proofs.YtffjfdoghofkdaaW.PrintWords Go.Proofs.YtffjfdoghofkdaaW.PrintLast
structure Lay where
 N : Nat
 bn : Nat
 ba : Nat
 bm : Nat
 cn : Nat
 ca : Nat
 cm : Nat
 kd : Nat → Int
 lt : Nat → ByteArray
 ar : Nat → List Int
 aA : Nat → Option Addr
 ac : Nat → Nat
 tb : Nat → Nat
 tc : Nat → Nat
 rb : Nat → Nat → Nat
def Lay.St (l : Lay) (W1 : World) (L k : Nat) : Prop := k < W1.heap.size ∧ ∀ q i, q < l.N → i < L → k ≠ l.rb q i
structure LayOk (l : Lay) (w0 W1 : World) (g : Nat) (s : ByteArray) (L : Nat) : Prop where
 z : W1.heap[g]? = some (.cells #[.string s, .slice (some ⟨l.bn, 0, none⟩) l.N l.cn, .slice (some ⟨l.ba, 0, none⟩) l.N l.ca, .slice (some ⟨l.bm, 0, none⟩) l.N l.cm] 95 (0, 0))
 n0 : ∀ q, q < l.N → W1.cell? ⟨l.bn, q * 3, none⟩ = some (.int .i64 (l.kd q))
 n1 : ∀ q, q < l.N → W1.cell? ⟨l.bn, q * 3 + 1, none⟩ = some (.string (l.lt q))
 a0 : ∀ q, q < l.N → W1.cell? ⟨l.ba, q, none⟩ = some (.slice (l.aA q) (l.ar q).length (l.ac q))
 a1 : ∀ q, q < l.N → ∀ p, p < (l.ar q).length → ∃ ab, l.aA q = some ⟨ab, 0, none⟩ ∧ l.St W1 L ab ∧ W1.cell? ⟨ab, p, none⟩ = some (.int .i64 ((l.ar q).getD p 0))
 m0 : ∀ q, q < l.N → W1.cell? ⟨l.bm, q, none⟩ = some (.slice (some ⟨l.tb q, 0, none⟩) L (l.tc q))
 m1 : ∀ q i, q < l.N → i < L → W1.cell? ⟨l.tb q, i, none⟩ = some (.slice (some ⟨l.rb q i, 0, none⟩) L L)
 sg : l.St W1 L g
 sn : l.St W1 L l.bn
 sa : l.St W1 L l.ba
 sm : l.St W1 L l.bm
 st : ∀ q, q < l.N → l.St W1 L (l.tb q)
 inj : ∀ q i q' i', q < l.N → i < L → q' < l.N → i' < L → l.rb q i = l.rb q' i' → q = q' ∧ i = i'
 lo : ∀ q i, q < l.N → i < L → w0.heap.size ≤ l.rb q i
def upd (m : Nat → Nat → List Int) (q i : Nat) (r : List Int) : Nat → Nat → List Int := fun q' i' => if q' = q ∧ i' = i then r else m q' i'
theorem upd_self (m : Nat → Nat → List Int) (q i : Nat) (r : List Int) : upd m q i r q i = r := if_pos ⟨rfl, rfl⟩
theorem upd_ne (m : Nat → Nat → List Int) {q i q' i' : Nat} (r : List Int) (h : ¬ (q' = q ∧ i' = i)) : upd m q i r q' i' = m q' i' := if_neg h
structure SSt (l : Lay) (W1 : World) (L : Nat) (m : Nat → Nat → List Int) (W : World) : Prop where
 st : ∀ k, l.St W1 L k → W.heap[k]? = W1.heap[k]?
 rw : ∀ q i, q < l.N → i < L → W.heap[l.rb q i]? = some (.cells (nums .i64 (m q i)).toArray 3 (0, 0)) ∧ (m q i).length = L
 le : W1.heap.size ≤ W.heap.size
section
variable {l : Lay} {w0 W1 W : World} {g : Nat} {s : ByteArray} {L : Nat} {m : Nat → Nat → List Int}
theorem SSt.cell_ (h : SSt l W1 L m W) {a : Addr} {v : Value} (hs : l.St W1 L a.block) (hc : W1.cell? a = some v) : W.cell? a = some v := (World.cell?_of_block (w := W1) (h.st _ hs)).trans hc
theorem SSt.z (h : SSt l W1 L m W) (ok : LayOk l w0 W1 g s L) : W.heap[g]? = some (.cells #[.string s, .slice (some ⟨l.bn, 0, none⟩) l.N l.cn, .slice (some ⟨l.ba, 0, none⟩) l.N l.ca, .slice (some ⟨l.bm, 0, none⟩) l.N l.cm] 95 (0, 0)) := (h.st _ ok.sg).trans ok.z
theorem SSt.n0 (h : SSt l W1 L m W) (ok : LayOk l w0 W1 g s L) {q : Nat} (hq : q < l.N) : W.cell? ⟨l.bn, q * 3, none⟩ = some (.int .i64 (l.kd q)) := h.cell_ ok.sn (ok.n0 q hq)
theorem SSt.n1 (h : SSt l W1 L m W) (ok : LayOk l w0 W1 g s L) {q : Nat} (hq : q < l.N) : W.cell? ⟨l.bn, q * 3 + 1, none⟩ = some (.string (l.lt q)) := h.cell_ ok.sn (ok.n1 q hq)
theorem SSt.a0 (h : SSt l W1 L m W) (ok : LayOk l w0 W1 g s L) {q : Nat} (hq : q < l.N) : W.cell? ⟨l.ba, q, none⟩ = some (.slice (l.aA q) (l.ar q).length (l.ac q)) := h.cell_ ok.sa (ok.a0 q hq)
theorem SSt.m0 (h : SSt l W1 L m W) (ok : LayOk l w0 W1 g s L) {q : Nat} (hq : q < l.N) : W.cell? ⟨l.bm, q, none⟩ = some (.slice (some ⟨l.tb q, 0, none⟩) L (l.tc q)) := h.cell_ ok.sm (ok.m0 q hq)
theorem SSt.m1 (h : SSt l W1 L m W) (ok : LayOk l w0 W1 g s L) {q i : Nat} (hq : q < l.N) (hi : i < L) : W.cell? ⟨l.tb q, i, none⟩ = some (.slice (some ⟨l.rb q i, 0, none⟩) L L) := h.cell_ (ok.st q hq) (ok.m1 q i hq hi)
theorem SSt.m2 (h : SSt l W1 L m W) {q i j : Nat} (hq : q < l.N) (hi : i < L) (hj : j < L) : W.cell? ⟨l.rb q i, j, none⟩ = some (.int .i64 ((m q i).getD j 0)) := by
 obtain ⟨h1, h2⟩ := h.rw q i hq hi
 rw [blk_cell h1]
 simp [nums, h2, hj]
theorem SSt.fr (h : SSt l W1 L m W) {q i : Nat} (hq : q < l.N) (hi : i < L) (j : Nat) : W.frozen? ⟨l.rb q i, j, none⟩ = false := blk_frozen (h.rw q i hq hi).1 j
theorem SSt.below {W' : World} (h : SSt l W1 L m W) (hb : Below W.heap.size W W') : SSt l W1 L m W' :=
 ⟨fun k hk => (hb.block k (Nat.lt_of_lt_of_le hk.1 h.le)).trans (h.st k hk), fun q i hq hi => ⟨blk_below (h.rw q i hq hi).1 hb, (h.rw q i hq hi).2⟩, Nat.le_trans h.le hb.size⟩
theorem SSt.put (h : SSt l W1 L m W) (ok : LayOk l w0 W1 g s L) {q i : Nat} (hq : q < l.N) (hi : i < L) (j : Nat) (v : Int) : SSt l W1 L (upd m q i ((m q i).set j v)) (W.setCell ⟨l.rb q i, j, none⟩ (.int .i64 v)) := by
 refine ⟨fun k hk => ?_, fun q' i' hq' hi' => ?_, by simpa using h.le⟩
 ·exact (Below.heap_setCell W _ _ k (hk.2 q i hq hi)).trans (h.st k hk)
 ·by_cases e : q' = q ∧ i' = i
  ·obtain ⟨rfl, rfl⟩ := e
   rw [upd_self]
   refine ⟨blk_put (h.rw _ _ hq hi).1 j _ ?_, by rw [List.length_set]; exact (h.rw _ _ hq hi).2⟩
   simp [nums, List.map_set]
  ·rw [upd_ne _ _ e]
   refine ⟨blk_far (h.rw q' i' hq' hi').1 (fun hr => e ?_) _, (h.rw q' i' hq' hi').2⟩
   exact ok.inj q' i' q i hq' hi' hq hi hr
end
def Gs (L : Nat) (T : Nat → Nat → Nat → Bool) (m : Nat → Nat → List Int) (lo hi : Nat) : Prop :=
 ∀ q i j, lo ≤ q → q < hi → i ≤ j → j < L → (m q i).getD j 0 = 0 ∨ (m q i).getD j 0 = if T q i j = true then 1 else 2
def Ss (L : Nat) (m m' : Nat → Nat → List Int) (lo hi : Nat) : Prop :=
 ∀ q i j, ¬ (lo ≤ q ∧ q < hi) → i ≤ j → j < L → (m' q i).getD j 0 = (m q i).getD j 0
theorem Ss.refl (L : Nat) (m : Nat → Nat → List Int) (lo hi : Nat) : Ss L m m lo hi := fun _ _ _ _ _ _ => rfl
theorem Ss.next {L : Nat} {m m' m2 : Nat → Nat → List Int} {lo hi lo' hi' : Nat} (h : Ss L m m' lo hi) (h' : Ss L m' m2 lo' hi') (h1 : lo ≤ lo') (h2 : hi' ≤ hi) : Ss L m m2 lo hi :=
 fun q i j hq h3 h4 => (h' q i j (by omega) h3 h4).trans (h q i j hq h3 h4)
theorem Gs.sub {L : Nat} {T : Nat → Nat → Nat → Bool} {m : Nat → Nat → List Int} {lo hi lo' hi' : Nat} (h : Gs L T m lo hi) (h1 : lo ≤ lo') (h2 : hi' ≤ hi) : Gs L T m lo' hi' :=
 fun q i j h3 h4 => h q i j (by omega) (by omega)
theorem Gs.next {L : Nat} {T : Nat → Nat → Nat → Bool} {m m' : Nat → Nat → List Int} {lo hi lo' hi' : Nat} (h : Gs L T m lo hi) (h' : Gs L T m' lo' hi') (hs : Ss L m m' lo' hi') : Gs L T m' lo hi := by
 intro q i j h1 h2 h3 h4
 by_cases h5 : lo' ≤ q ∧ q < hi'
 ·exact h' q i j h5.1 h5.2 h3 h4
 ·rw [hs q i j h5 h3 h4]; exact h q i j h1 h2 h3 h4
def SPost (l : Lay) (w0 W1 : World) (L : Nat) (T : Nat → Nat → Nat → Bool) (m : Nat → Nat → List Int) (lo hi : Nat) (r : Value) (e : Ending) (W' : World) : Prop :=
 e = .returned r ∧ ∃ m', SSt l W1 L m' W' ∧ Gs L T m' lo hi ∧ Ss L m m' lo hi ∧ Below w0.heap.size w0 W'
end Go.Proofs.Ytffjfdoghofkdaa.Ext
namespace Go.Proofs.Ytffjfdoghofkdaa.Ext
open Go Go.RowKit Go.Proofs.YtffjfdoghofkdaaW.PrintWords Go.Proofs.YtffjfdoghofkdaaW.PrintLast
theorem bit_calls (a0 : Bool) (w : World) : Calls Try.prog 91 #[.bool a0] w fun e w' => e = .returned (.int .i64 (if a0 = true then 1 else 0)) ∧ ∃ nd, w' = w.drewN nd := by
 cases a0
 all_goals
  go_enter Try.func91, Try.ntmps91
  go_wp2
  go_ret
  exact ⟨za20, by first | exact ⟨0, rfl⟩ | exact ⟨1, rfl⟩ | exact ⟨2, rfl⟩⟩
end Go.Proofs.Ytffjfdoghofkdaa.Ext
namespace Go.Proofs.Ytffjfdoghofkdaa.Ext
open Go Go.RowKit Go.Proofs.YtffjfdoghofkdaaW.PrintWords Go.Proofs.YtffjfdoghofkdaaW.PrintLast
theorem getD_lt {r : List Int} {j : Nat} {v : Int} (h : j < r.length) : (r.set j v).getD j 0 = v := by
 rw [List.getD_eq_getElem?_getD, List.getElem?_set_self h]; rfl
theorem getD_ne {r : List Int} {i j : Nat} (v : Int) (h : i ≠ j) : (r.set i v).getD j 0 = r.getD j 0 := by
 rw [List.getD_eq_getElem?_getD, List.getD_eq_getElem?_getD, List.getElem?_set_ne h]
section
variable (l : Lay) (w0 W1 : World) (g : Nat) (s : ByteArray) (L : Nat) (ok : LayOk l w0 W1 g s L) (T : Nat → Nat → Nat → Bool) (lo q i j : Nat) (hlo : lo ≤ q) (hq : q < l.N) (hij : i ≤ j) (hj : j < L) (r : Bool) (hT : T q i j = r)
 (m : Nat → Nat → List Int) (W : World) (hS : SSt l W1 L m W) (hB : Below w0.heap.size w0 W)
include ok hlo hq hij hj hT hS hB
set_option maxHeartbeats 4000000 in
theorem is_known (hG : Gs L T m lo (q + 1)) (hv : (m q i).getD j 0 ≠ 0) :
  Calls Try.prog 76 #[.pointer (some ⟨g, 0, none⟩), .int .i64 (q : Int), .int .i64 (i : Int), .int .i64 (j : Int)] W (SPost l w0 W1 L T m lo (q + 1) (.bool r)) := by
 have hr : (m q i).getD j 0 = if r = true then 1 else 2 := by
  rcases hG q i j hlo (by omega) hij hj with h | h
  ·exact absurd h hv
  ·rw [h, hT]
 have HS := Aside0.mk hS
 have HB := Aside0.mk hB
 have HG := Aside0.mk hG
 obtain ⟨z0, z1, z2, z3, f0, f1, f2, f3⟩ := blk4 (hS.z ok)
 have c0 := hS.m0 ok hq
 have c1 := hS.m1 ok hq (show i < L by omega)
 have c2 := hS.m2 hq (show i < L by omega) hj
 have q1 := eq_true hq
 have q2 := eq_true (show i < L by omega)
 have q3 := eq_true hj
 rw [hr] at c2
 clear hS hB hG hv hr hq hj hT
 cases r
 all_goals
  simp only [if_true, Bool.false_eq_true, if_false] at c2
  go_enter Try.func76, Try.ntmps76
  go_wp2
  go_ret
  exact ⟨rfl, m, HS.out, HG.out, Ss.refl _ _ _ _, HB.out⟩
set_option maxHeartbeats 4000000 in
theorem is_find (hk : (l.kd q == 8) = false) (hG : Gs L T m lo (q + 1)) (hv : (m q i).getD j 0 = 0)
  (hf : ∀ (m : Nat → Nat → List Int) (W : World), SSt l W1 L m W → Gs L T m lo q → Below w0.heap.size w0 W → Calls Try.prog 92 #[.pointer (some ⟨g, 0, none⟩), .int .i64 (q : Int), .int .i64 (i : Int), .int .i64 (j : Int)] W (SPost l w0 W1 L T m lo q (.bool r))) :
  Calls Try.prog 76 #[.pointer (some ⟨g, 0, none⟩), .int .i64 (q : Int), .int .i64 (i : Int), .int .i64 (j : Int)] W (SPost l w0 W1 L T m lo (q + 1) (.bool r)) := by
 have hi : i < L := by omega
 have HS := Aside0.mk hS
 have HB := Aside0.mk hB
 have HG := Aside0.mk hG
 have HF := Aside0.mk (hf m W hS (hG.sub (Nat.le_refl _) (Nat.le_succ _)) hB)
 have HF0 := Aside0.mk (fun (W' : World) (hS' : SSt l W1 L m W') (hB' : Below w0.heap.size w0 W') => hf m W' hS' (hG.sub (Nat.le_refl _) (Nat.le_succ _)) hB')
 have HBit := Aside0.mk (fun (W' : World) => bit_calls r W')
 have HE : Aside0 (∀ (m5 : Nat → Nat → List Int), (m5 q i).length = L → Gs L T m5 lo q → Ss L m m5 lo q → Gs L T (upd m5 q i ((m5 q i).set j (if r = true then 1 else 2))) lo (q + 1) ∧ Ss L m (upd m5 q i ((m5 q i).set j (if r = true then 1 else 2))) lo (q + 1)) := ⟨by
  intro m5 h5 hG5 hS5
  refine ⟨fun q' i' j' h1 h2 h3 h4 => ?_, fun q' i' j' h1 h3 h4 => ?_⟩
  ·by_cases e : q' = q ∧ i' = i
   ·obtain ⟨rfl, rfl⟩ := e
    rw [upd_self]
    by_cases e2 : j = j'
    ·subst e2
     rw [getD_lt (by omega), hT]
     exact .inr rfl
    ·rw [getD_ne _ e2, hS5 q' i' j' (by omega) h3 h4]
     exact hG q' i' j' h1 h2 h3 h4
   ·rw [upd_ne _ _ e]
    by_cases e2 : q' < q
    ·exact hG5 q' i' j' h1 e2 h3 h4
    ·rw [hS5 q' i' j' (by omega) h3 h4]
     exact hG q' i' j' h1 h2 h3 h4
  ·rw [upd_ne _ _ (fun e => h1 (by omega))]
   exact hS5 q' i' j' (by omega) h3 h4⟩
 obtain ⟨z0, z1, z2, z3, f0, f1, f2, f3⟩ := blk4 (hS.z ok)
 have c0 := hS.m0 ok hq
 have c1 := hS.m1 ok hq hi
 have c2 := hS.m2 hq hi hj
 have n0 := hS.n0 ok hq
 have q1 := eq_true hq
 have q2 := eq_true hi
 have q3 := eq_true hj
 have Hq := Aside0.mk hq
 have Hi := Aside0.mk hi
 have Hj := Aside0.mk hj
 rw [hv] at c2
 clear hS hB hG hv hq hj hT hf hi
 have e0 := ok.sg.2 q i Hq.out Hi.out
 have e1 := ok.sm.2 q i Hq.out Hi.out
 have e2 := (ok.st q Hq.out).2 q i Hq.out Hi.out
 have ST : ∀ W' : World, SSt l W1 L m W' → SSt l W1 L m W'.drew := fun _ h => ⟨h.st, h.rw, h.le⟩
 have HST := Aside0.mk ST
 clear ST
 cases r
 ·simp only [if_true, Bool.false_eq_true, if_false] at HBit HE
  go_enter Try.func76, Try.ntmps76
  go_upto_region 4 with (fail)
  go_cut [] (fun wc => ∃ m5, Aside0 (SSt l W1 L m5 wc) ∧ Aside0 (Gs L T m5 lo (q + 1)) ∧ Aside0 (Ss L m m5 lo (q + 1)) ∧ Aside0 ((m5 q i).getD j 0 = 2) ∧ Aside0 (Below w0.heap.size w0 wc))
  case first =>
   clear n0 c2
   go_region_held3 (fun w' => w'.cell? ⟨g, 3, none⟩ = some (.slice (some ⟨l.bm, 0, none⟩) l.N l.cm) ∧ w'.cell? ⟨l.bm, q, none⟩ = some (.slice (some ⟨l.tb q, 0, none⟩) L (l.tc q)) ∧ w'.cell? ⟨l.tb q, i, none⟩ = some (.slice (some ⟨l.rb q i, 0, none⟩) L L)) (first | go_keep | exact ⟨(cell_far e0 _).trans y3, (cell_far e1 _).trans d0, (cell_far e2 _).trans d1⟩)
    (first
     | (go_at_call 92; refine (HF0.out _ (HST.out _ HS.out) (below_drew HB.out)).mono ?_; rintro e w5 ⟨rfl, m5, S5, G5, SS5, B5⟩; have M5 := Aside0.mk S5; have N5 := Aside0.mk G5; have P5 := Aside0.mk SS5; have Q5 := Aside0.mk B5; clear S5 G5 SS5 B5; obtain ⟨y0, y1, y2, y3, g0, g1, g2, g3⟩ := blk4 (M5.out.z ok); have d0 := M5.out.m0 ok Hq.out; have d1 := M5.out.m1 ok Hq.out Hi.out; have d2 := M5.out.fr Hq.out Hi.out j; have d3 := M5.out.m2 Hq.out Hi.out Hj.out; generalize (m5 q i).getD j 0 = vv at d3)
     | (go_at_call 91; refine (HBit.out _).mono ?_; rintro e w6 ⟨rfl, ⟨nd, rfl⟩⟩))
   try go_wp2
   go_meet
   case rel =>
    have hl5 := (M5.out.rw q i Hq.out Hi.out).2
    have he := HE.out m5 hl5 N5.out P5.out
    rw [show IntKind.i64.wrap 2 = 2 by decide]
    exact ⟨_, ⟨(show SSt l W1 L m5 (w5.drewN nd) from ⟨M5.out.st, M5.out.rw, M5.out.le⟩).put ok Hq.out Hi.out j _⟩, ⟨he.1⟩, ⟨he.2⟩, ⟨by rw [upd_self, getD_lt (by have := Hj.out; omega)]⟩, ⟨(show Below w0.heap.size w0 (w5.drewN nd) from pw_below_drewN Q5.out nd).setCell (ok.lo q i Hq.out Hi.out) _⟩⟩
  case rest =>
   clear z0 z1 z2 z3 f0 f1 f2 f3 c0 c1 c2 n0
   obtain ⟨m5, M5, N5, P5, V5, Q5⟩ := hcut
   obtain ⟨z0, z1, z2, z3, f0, f1, f2, f3⟩ := blk4 (M5.out.z ok)
   have c0 := M5.out.m0 ok Hq.out
   have c1 := M5.out.m1 ok Hq.out Hi.out
   have c2 := M5.out.m2 Hq.out Hi.out Hj.out
   rw [V5.out] at c2
   go_wp2
   go_ret
   exact ⟨rfl, m5, M5.out, N5.out, P5.out, Q5.out⟩
 ·simp only [if_true, Bool.false_eq_true, if_false] at HBit HE
  go_enter Try.func76, Try.ntmps76
  go_upto_region 4 with (fail)
  go_cut [] (fun wc => ∃ m5, Aside0 (SSt l W1 L m5 wc) ∧ Aside0 (Gs L T m5 lo (q + 1)) ∧ Aside0 (Ss L m m5 lo (q + 1)) ∧ Aside0 ((m5 q i).getD j 0 = 1) ∧ Aside0 (Below w0.heap.size w0 wc))
  case first =>
   clear n0 c2
   go_region_held3 (fun w' => w'.cell? ⟨g, 3, none⟩ = some (.slice (some ⟨l.bm, 0, none⟩) l.N l.cm) ∧ w'.cell? ⟨l.bm, q, none⟩ = some (.slice (some ⟨l.tb q, 0, none⟩) L (l.tc q)) ∧ w'.cell? ⟨l.tb q, i, none⟩ = some (.slice (some ⟨l.rb q i, 0, none⟩) L L)) (first | go_keep | exact ⟨(cell_far e0 _).trans y3, (cell_far e1 _).trans d0, (cell_far e2 _).trans d1⟩)
    (first
     | (go_at_call 92; refine (HF0.out _ (HST.out _ HS.out) (below_drew HB.out)).mono ?_; rintro e w5 ⟨rfl, m5, S5, G5, SS5, B5⟩; have M5 := Aside0.mk S5; have N5 := Aside0.mk G5; have P5 := Aside0.mk SS5; have Q5 := Aside0.mk B5; clear S5 G5 SS5 B5; obtain ⟨y0, y1, y2, y3, g0, g1, g2, g3⟩ := blk4 (M5.out.z ok); have d0 := M5.out.m0 ok Hq.out; have d1 := M5.out.m1 ok Hq.out Hi.out; have d2 := M5.out.fr Hq.out Hi.out j; have d3 := M5.out.m2 Hq.out Hi.out Hj.out; generalize (m5 q i).getD j 0 = vv at d3)
     | (go_at_call 91; refine (HBit.out _).mono ?_; rintro e w6 ⟨rfl, ⟨nd, rfl⟩⟩))
   try go_wp2
   go_meet
   case rel =>
    have hl5 := (M5.out.rw q i Hq.out Hi.out).2
    have he := HE.out m5 hl5 N5.out P5.out
    rw [show IntKind.i64.wrap 1 = 1 by decide]
    exact ⟨_, ⟨(show SSt l W1 L m5 (w5.drewN nd) from ⟨M5.out.st, M5.out.rw, M5.out.le⟩).put ok Hq.out Hi.out j _⟩, ⟨he.1⟩, ⟨he.2⟩, ⟨by rw [upd_self, getD_lt (by have := Hj.out; omega)]⟩, ⟨(show Below w0.heap.size w0 (w5.drewN nd) from pw_below_drewN Q5.out nd).setCell (ok.lo q i Hq.out Hi.out) _⟩⟩
  case rest =>
   clear z0 z1 z2 z3 f0 f1 f2 f3 c0 c1 c2 n0
   obtain ⟨m5, M5, N5, P5, V5, Q5⟩ := hcut
   obtain ⟨z0, z1, z2, z3, f0, f1, f2, f3⟩ := blk4 (M5.out.z ok)
   have c0 := M5.out.m0 ok Hq.out
   have c1 := M5.out.m1 ok Hq.out Hi.out
   have c2 := M5.out.m2 Hq.out Hi.out Hj.out
   rw [V5.out] at c2
   go_wp2
   go_ret
   exact ⟨rfl, m5, M5.out, N5.out, P5.out, Q5.out⟩
set_option maxHeartbeats 4000000 in
theorem is_star (hk : (l.kd q == 8) = true) (hG : Gs L T m lo (q + 1)) (hv : (m q i).getD j 0 = 0)
  (hf : ∀ (m : Nat → Nat → List Int) (W : World), SSt l W1 L m W → Gs L T m lo (q + 1) → Below w0.heap.size w0 W → Calls Try.prog 90 #[.pointer (some ⟨g, 0, none⟩), .int .i64 (q : Int), .int .i64 (i : Int)] W fun e W' => ∃ m', e = .returned (.tuple #[]) ∧ SSt l W1 L m' W' ∧ Gs L T m' lo (q + 1) ∧ Ss L m m' lo (q + 1) ∧ (∀ k, i ≤ k → k < L → (m' q i).getD k 0 = if T q i k = true then 1 else 2) ∧ Below w0.heap.size w0 W') :
  Calls Try.prog 76 #[.pointer (some ⟨g, 0, none⟩), .int .i64 (q : Int), .int .i64 (i : Int), .int .i64 (j : Int)] W (SPost l w0 W1 L T m lo (q + 1) (.bool r)) := by
 have hi : i < L := by omega
 have HF := Aside0.mk (hf m W hS hG hB)
 have HT := Aside0.mk hT
 obtain ⟨z0, z1, z2, z3, f0, f1, f2, f3⟩ := blk4 (hS.z ok)
 have c0 := hS.m0 ok hq
 have c1 := hS.m1 ok hq hi
 have c2 := hS.m2 hq hi hj
 have n0 := hS.n0 ok hq
 have q1 := eq_true hq
 have q2 := eq_true hi
 have q3 := eq_true hj
 have Hq := Aside0.mk hq
 have Hi := Aside0.mk hi
 have Hj := Aside0.mk hj
 rw [hv] at c2
 clear hS hB hG hv hq hj hT hf hi
 cases r
 all_goals
  go_enter Try.func76, Try.ntmps76
  go_wp2_with (go_at_call 90; (with_reducible refine HF.out.mono ?_); rintro e w5 ⟨m5, rfl, S5, G5, SS5, V5, B5⟩; have M5 := Aside0.mk S5; have N5 := Aside0.mk G5; have P5 := Aside0.mk SS5; have Q5 := Aside0.mk B5; have d2 := M5.out.m2 Hq.out Hi.out Hj.out; rw [V5 j hij Hj.out, HT.out] at d2; clear S5 G5 SS5 V5 B5 z0 z1 z2 z3 f0 f1 f2 f3 c0 c1 c2 n0; simp only [if_true, Bool.false_eq_true, if_false] at d2; obtain ⟨z0, z1, z2, z3, f0, f1, f2, f3⟩ := blk4 (M5.out.z ok); have c0 := M5.out.m0 ok Hq.out; have c1 := M5.out.m1 ok Hq.out Hi.out)
  go_ret
  exact ⟨rfl, m5, M5.out, N5.out, P5.out, Q5.out⟩
end
end Go.Proofs.Ytffjfdoghofkdaa.Ext
namespace Go.Proofs.Ytffjfdoghofkdaa.Ext
open Go Go.RowKit Go.Proofs.YtffjfdoghofkdaaW.PrintWords Go.Proofs.YtffjfdoghofkdaaW.PrintLast
def IC (l : Lay) (w0 W1 : World) (g : Nat) (s : ByteArray) (L : Nat) (T : Nat → Nat → Nat → Bool) (t : Rx) (p lo : Nat) : Prop :=
 ∀ (i j : Nat) (pv iv jv : Int) (m : Nat → Nat → List Int) (W : World), pv = (p : Int) → iv = (i : Int) → jv = (j : Int) → i ≤ j → j < L → SSt l W1 L m W → Gs L T m lo (p + 1) → Below w0.heap.size w0 W →
  Calls Try.prog 76 #[.pointer (some ⟨g, 0, none⟩), .int .i64 pv, .int .i64 iv, .int .i64 jv] W (SPost l w0 W1 L T m lo (p + 1) (.bool (mt s t i j)))
section
variable (l : Lay) (w0 W1 : World) (g : Nat) (s : ByteArray) (L : Nat) (ok : LayOk l w0 W1 g s L) (hsL : s.size + 1 = L) (hL : L ≤ 401) (T : Nat → Nat → Nat → Bool) (lo q i j : Nat) (hlo : lo ≤ q) (hq : q < l.N) (hij : i ≤ j) (hj : j < L)
 (m : Nat → Nat → List Int) (W : World) (hS : SSt l W1 L m W) (hB : Below w0.heap.size w0 W) (hG : Gs L T m lo q)
include ok hsL hL hlo hq hij hj hS hB hG
set_option maxHeartbeats 4000000 in
theorem sfind_leaf (r : Bool) (hk : (l.kd q = 1 ∧ r = false) ∨ (l.kd q = 2 ∧ r = (i == j)) ∨ (l.kd q = 4 ∧ r = (j == i + 1)) ∨ (l.kd q = 3 ∧ r = ((s.extract i j).toList == (l.lt q).toList))) :
  Calls Try.prog 92 #[.pointer (some ⟨g, 0, none⟩), .int .i64 (q : Int), .int .i64 (i : Int), .int .i64 (j : Int)] W (SPost l w0 W1 L T m lo q (.bool r)) := by
 have HS := Aside0.mk hS
 have HB := Aside0.mk hB
 have HG := Aside0.mk hG
 obtain ⟨z0, z1, z2, z3, f0, f1, f2, f3⟩ := blk4 (hS.z ok)
 have n0 := hS.n0 ok hq
 have n1 := hS.n1 ok hq
 have c0 := hS.a0 ok hq
 have q1 := eq_true hq
 have Hq := Aside0.mk hq
 have e1 : ((i : Int) == (j : Int)) = (i == j) := by rw [Bool.eq_iff_iff]; simp; omega
 have e2 : ((j : Int) == (i : Int) + 1) = (j == i + 1) := by rw [Bool.eq_iff_iff]; simp; omega
 have hi9 : i ≤ 401 := by omega
 have hjs := eq_true (show j ≤ s.size by omega)
 have hij2 := eq_true hij
 clear hS hB hG hq hij hj
 rcases hk with ⟨hk, rfl⟩ | ⟨hk, rfl⟩ | ⟨hk, rfl⟩ | ⟨hk, rfl⟩
 all_goals
  rw [hk] at n0
  clear hk
  go_enter Try.func92, Try.ntmps92
  go_wp2
  repeat (go_quiet (fail); try go_wp2)
  go_ret
  exact ⟨by first | rfl | (rw [e1]; done) | (rw [e2]; done) | (simp; done), m, ⟨HS.out.st, HS.out.rw, HS.out.le⟩, HG.out, Ss.refl _ _ _ _, by repeat (first | exact HB.out | apply pw_below_drewN)⟩
set_option maxHeartbeats 4000000 in
theorem sfind_not (t : Rx) (a : Nat) (hk : l.kd q = 9) (har : l.ar q = [(a : Int)]) (h1 : lo ≤ a) (h3 : a + 1 = q) (hx : IC l w0 W1 g s L T t a lo) :
  Calls Try.prog 92 #[.pointer (some ⟨g, 0, none⟩), .int .i64 (q : Int), .int .i64 (i : Int), .int .i64 (j : Int)] W (SPost l w0 W1 L T m lo q (.bool (!mt s t i j))) := by
 have HS := Aside0.mk hS
 have HB := Aside0.mk hB
 have HG := Aside0.mk hG
 obtain ⟨z0, z1, z2, z3, f0, f1, f2, f3⟩ := blk4 (hS.z ok)
 have n0 := hS.n0 ok hq
 have n1 := hS.n1 ok hq
 have c0 := hS.a0 ok hq
 have q1 := eq_true hq
 have Hq := Aside0.mk hq
 obtain ⟨ab, ha, hst, x0⟩ := ok.a1 q hq 0 (by rw [har]; simp)
 rw [har] at x0 c0
 rw [ha] at c0
 simp only [List.getD_cons_zero, List.length_cons, List.length_nil, Nat.zero_add] at x0 c0
 have y0 := hS.cell_ hst x0
 have HX := Aside0.mk (hx i j (a : Int) i j m W rfl rfl rfl hij hj hS (hG.sub (Nat.le_refl _) (by omega)) hB)
 have HN := Aside0.mk (show lo ≤ a ∧ a + 1 = q from ⟨h1, h3⟩)
 clear hS hB hG hq hij hj x0 hst ha har hx h1 h3
 rw [hk] at n0
 clear hk
 go_enter Try.func92, Try.ntmps92
 go_wp2_with (go_at_call 76; (with_reducible refine HX.out.mono ?_); rintro e w7 ⟨rfl, m7, S7, G7, SS7, B7⟩; have M7 := Aside0.mk S7; have N7 := Aside0.mk (HG.out.next G7 SS7); have P7 := Aside0.mk (Ss.next (Ss.refl L m lo q) SS7 za13 za13); have Q7 := Aside0.mk B7; clear S7 G7 SS7 B7)
 go_ret
 exact ⟨rfl, m7, M7.out, N7.out, P7.out, Q7.out⟩
set_option maxHeartbeats 4000000 in
theorem sfind_or (t u : Rx) (a b : Nat) (hk : l.kd q = 6) (har : l.ar q = [(a : Int), (b : Int)]) (h1 : lo ≤ a) (h2 : a < b) (h3 : b + 1 = q) (hx : IC l w0 W1 g s L T t a lo) (hy : IC l w0 W1 g s L T u b (a + 1)) :
  Calls Try.prog 92 #[.pointer (some ⟨g, 0, none⟩), .int .i64 (q : Int), .int .i64 (i : Int), .int .i64 (j : Int)] W (SPost l w0 W1 L T m lo q (.bool (mt s t i j || mt s u i j))) := by
 have HS := Aside0.mk hS
 have HB := Aside0.mk hB
 have HG := Aside0.mk hG
 obtain ⟨z0, z1, z2, z3, f0, f1, f2, f3⟩ := blk4 (hS.z ok)
 have n0 := hS.n0 ok hq
 have n1 := hS.n1 ok hq
 have c0 := hS.a0 ok hq
 have q1 := eq_true hq
 have Hq := Aside0.mk hq
 obtain ⟨ab, ha, hst, x0⟩ := ok.a1 q hq 0 (by rw [har]; simp)
 obtain ⟨ab', ha', _, x1⟩ := ok.a1 q hq 1 (by rw [har]; simp)
 obtain rfl : ab = ab' := by rw [ha] at ha'; injection ha' with h; injection h
 clear ha'
 rw [har] at x0 x1 c0
 rw [ha] at c0
 simp only [List.getD_cons_zero, List.getD_cons_succ, List.length_cons, List.length_nil, Nat.zero_add, Nat.reduceAdd] at x0 x1 c0
 have X0 := Aside0.mk x0
 have X1 := Aside0.mk x1
 have HST := Aside0.mk hst
 have y0 := hS.cell_ hst x0
 have y1 := hS.cell_ hst x1
 have HN := Aside0.mk (show lo ≤ a ∧ a < b ∧ b + 1 = q from ⟨h1, h2, h3⟩)
 have HX := Aside0.mk (fun (m' : Nat → Nat → List Int) (W' : World) (hS' : SSt l W1 L m' W') (hG' : Gs L T m' lo q) (hB' : Below w0.heap.size w0 W') => hx i j (a : Int) i j m' W' rfl rfl rfl hij hj hS' (hG'.sub (Nat.le_refl _) (by omega)) hB')
 have HY := Aside0.mk (fun (m' : Nat → Nat → List Int) (W' : World) (hS' : SSt l W1 L m' W') (hG' : Gs L T m' lo q) (hB' : Below w0.heap.size w0 W') => hy i j (b : Int) i j m' W' rfl rfl rfl hij hj hS' (hG'.sub (by omega) (by omega)) hB')
 clear hS hB hG hq hij hj x0 x1 hst ha har hx hy h1 h2 h3
 rw [hk] at n0
 clear hk
 cases hv : mt s t i j
 all_goals go_enter Try.func92, Try.ntmps92
 ·go_wp2_with (first | (go_at_call 76; (with_reducible refine (HX.out m _ HS.out HG.out HB.out).mono ?_); rintro e w7 ⟨he, m7, S7, G7, SS7, B7⟩; rw [hv] at he; subst he; have M7 := Aside0.mk S7; have N7 := Aside0.mk (HG.out.next G7 SS7); have P7 := Aside0.mk (Ss.next (Ss.refl L m lo q) SS7 za13 za13); have Q7 := Aside0.mk B7; clear S7 G7 SS7 B7 z0 z1 z2 z3 f0 f1 f2 f3 n0 n1 c0 y0 y1; have y1 := M7.out.cell_ HST.out X1.out) | (go_at_call 76; (with_reducible refine (HY.out m7 _ M7.out N7.out Q7.out).mono ?_); rintro e w8 ⟨rfl, m8, S8, G8, SS8, B8⟩; have M8 := Aside0.mk S8; have N8 := Aside0.mk (N7.out.next G8 SS8); have P8 := Aside0.mk (Ss.next P7.out SS8 za13 za13); have Q8 := Aside0.mk B8; clear S8 G8 SS8 B8))
  go_ret
  exact ⟨za20, m8, M8.out, N8.out, P8.out, Q8.out⟩
 ·go_wp2_with (go_at_call 76; (with_reducible refine (HX.out m _ HS.out HG.out HB.out).mono ?_); rintro e w7 ⟨he, m7, S7, G7, SS7, B7⟩; rw [hv] at he; subst he; have M7 := Aside0.mk S7; have N7 := Aside0.mk (HG.out.next G7 SS7); have P7 := Aside0.mk (Ss.next (Ss.refl L m lo q) SS7 za13 za13); have Q7 := Aside0.mk B7; clear S7 G7 SS7 B7 z0 z1 z2 z3 f0 f1 f2 f3 n0 n1 c0 y0 y1; have y1 := M7.out.cell_ HST.out X1.out)
  go_ret
  exact ⟨za20, m7, M7.out, N7.out, P7.out, Q7.out⟩
set_option maxHeartbeats 4000000 in
theorem sfind_and (t u : Rx) (a b : Nat) (hk : l.kd q = 7) (har : l.ar q = [(a : Int), (b : Int)]) (h1 : lo ≤ a) (h2 : a < b) (h3 : b + 1 = q) (hx : IC l w0 W1 g s L T t a lo) (hy : IC l w0 W1 g s L T u b (a + 1)) :
  Calls Try.prog 92 #[.pointer (some ⟨g, 0, none⟩), .int .i64 (q : Int), .int .i64 (i : Int), .int .i64 (j : Int)] W (SPost l w0 W1 L T m lo q (.bool (mt s t i j && mt s u i j))) := by
 have HS := Aside0.mk hS
 have HB := Aside0.mk hB
 have HG := Aside0.mk hG
 obtain ⟨z0, z1, z2, z3, f0, f1, f2, f3⟩ := blk4 (hS.z ok)
 have n0 := hS.n0 ok hq
 have n1 := hS.n1 ok hq
 have c0 := hS.a0 ok hq
 have q1 := eq_true hq
 have Hq := Aside0.mk hq
 obtain ⟨ab, ha, hst, x0⟩ := ok.a1 q hq 0 (by rw [har]; simp)
 obtain ⟨ab', ha', _, x1⟩ := ok.a1 q hq 1 (by rw [har]; simp)
 obtain rfl : ab = ab' := by rw [ha] at ha'; injection ha' with h; injection h
 clear ha'
 rw [har] at x0 x1 c0
 rw [ha] at c0
 simp only [List.getD_cons_zero, List.getD_cons_succ, List.length_cons, List.length_nil, Nat.zero_add, Nat.reduceAdd] at x0 x1 c0
 have X0 := Aside0.mk x0
 have X1 := Aside0.mk x1
 have HST := Aside0.mk hst
 have y0 := hS.cell_ hst x0
 have y1 := hS.cell_ hst x1
 have HN := Aside0.mk (show lo ≤ a ∧ a < b ∧ b + 1 = q from ⟨h1, h2, h3⟩)
 have HX := Aside0.mk (fun (m' : Nat → Nat → List Int) (W' : World) (hS' : SSt l W1 L m' W') (hG' : Gs L T m' lo q) (hB' : Below w0.heap.size w0 W') => hx i j (a : Int) i j m' W' rfl rfl rfl hij hj hS' (hG'.sub (Nat.le_refl _) (by omega)) hB')
 have HY := Aside0.mk (fun (m' : Nat → Nat → List Int) (W' : World) (hS' : SSt l W1 L m' W') (hG' : Gs L T m' lo q) (hB' : Below w0.heap.size w0 W') => hy i j (b : Int) i j m' W' rfl rfl rfl hij hj hS' (hG'.sub (by omega) (by omega)) hB')
 clear hS hB hG hq hij hj x0 x1 hst ha har hx hy h1 h2 h3
 rw [hk] at n0
 clear hk
 cases hv : mt s t i j
 all_goals go_enter Try.func92, Try.ntmps92
 ·go_wp2_with (go_at_call 76; (with_reducible refine (HX.out m _ HS.out HG.out HB.out).mono ?_); rintro e w7 ⟨he, m7, S7, G7, SS7, B7⟩; rw [hv] at he; subst he; have M7 := Aside0.mk S7; have N7 := Aside0.mk (HG.out.next G7 SS7); have P7 := Aside0.mk (Ss.next (Ss.refl L m lo q) SS7 za13 za13); have Q7 := Aside0.mk B7; clear S7 G7 SS7 B7 z0 z1 z2 z3 f0 f1 f2 f3 n0 n1 c0 y0 y1; have y1 := M7.out.cell_ HST.out X1.out)
  go_ret
  exact ⟨za20, m7, M7.out, N7.out, P7.out, Q7.out⟩
 ·go_wp2_with (first | (go_at_call 76; (with_reducible refine (HX.out m _ HS.out HG.out HB.out).mono ?_); rintro e w7 ⟨he, m7, S7, G7, SS7, B7⟩; rw [hv] at he; subst he; have M7 := Aside0.mk S7; have N7 := Aside0.mk (HG.out.next G7 SS7); have P7 := Aside0.mk (Ss.next (Ss.refl L m lo q) SS7 za13 za13); have Q7 := Aside0.mk B7; clear S7 G7 SS7 B7 z0 z1 z2 z3 f0 f1 f2 f3 n0 n1 c0 y0 y1; have y1 := M7.out.cell_ HST.out X1.out) | (go_at_call 76; (with_reducible refine (HY.out m7 _ M7.out N7.out Q7.out).mono ?_); rintro e w8 ⟨rfl, m8, S8, G8, SS8, B8⟩; have M8 := Aside0.mk S8; have N8 := Aside0.mk (N7.out.next G8 SS8); have P8 := Aside0.mk (Ss.next P7.out SS8 za13 za13); have Q8 := Aside0.mk B8; clear S8 G8 SS8 B8))
  go_ret
  exact ⟨za20, m8, M8.out, N8.out, P8.out, Q8.out⟩
set_option maxHeartbeats 4000000 in
theorem sfind_cat (t u : Rx) (a b : Nat) (hk : l.kd q = 5) (har : l.ar q = [(a : Int), (b : Int)]) (h1 : lo ≤ a) (h2 : a < b) (h3 : b + 1 = q) (hx : IC l w0 W1 g s L T t a lo) (hy : IC l w0 W1 g s L T u b (a + 1)) :
  Calls Try.prog 92 #[.pointer (some ⟨g, 0, none⟩), .int .i64 (q : Int), .int .i64 (i : Int), .int .i64 (j : Int)] W (SPost l w0 W1 L T m lo q (.bool (exIn (fun k => mt s t i k && mt s u k j) i j))) := by
 have HS := Aside0.mk hS
 have HB := Aside0.mk hB
 have HG := Aside0.mk hG
 obtain ⟨z0, z1, z2, z3, f0, f1, f2, f3⟩ := blk4 (hS.z ok)
 have n0 := hS.n0 ok hq
 have n1 := hS.n1 ok hq
 have c0 := hS.a0 ok hq
 have q1 := eq_true hq
 have Hq := Aside0.mk hq
 obtain ⟨ab, ha, hst, x0⟩ := ok.a1 q hq 0 (by rw [har]; simp)
 obtain ⟨ab', ha', _, x1⟩ := ok.a1 q hq 1 (by rw [har]; simp)
 obtain rfl : ab = ab' := by rw [ha] at ha'; injection ha' with h; injection h
 clear ha'
 rw [har] at x0 x1 c0
 rw [ha] at c0
 simp only [List.getD_cons_zero, List.getD_cons_succ, List.length_cons, List.length_nil, Nat.zero_add, Nat.reduceAdd] at x0 x1 c0
 have X0 := Aside0.mk x0
 have X1 := Aside0.mk x1
 have HST := Aside0.mk hst
 have y0 := hS.cell_ hst x0
 have y1 := hS.cell_ hst x1
 have HN := Aside0.mk (show lo ≤ a ∧ a < b ∧ b + 1 = q from ⟨h1, h2, h3⟩)
 have HX := Aside0.mk (fun (kk : Nat) (m' : Nat → Nat → List Int) (W' : World) (g1 : i ≤ kk) (g2 : kk ≤ j) (hS' : SSt l W1 L m' W') (hG' : Gs L T m' lo q) (hB' : Below w0.heap.size w0 W') => hx i kk (a : Int) i kk m' W' rfl rfl rfl g1 (by omega) hS' (hG'.sub (Nat.le_refl _) (by omega)) hB')
 have HY := Aside0.mk (fun (kk : Nat) (m' : Nat → Nat → List Int) (W' : World) (g1 : i ≤ kk) (g2 : kk ≤ j) (hS' : SSt l W1 L m' W') (hG' : Gs L T m' lo q) (hB' : Below w0.heap.size w0 W') => hy kk j (b : Int) kk j m' W' rfl rfl rfl g2 hj hS' (hG'.sub (by omega) (by omega)) hB')
 have hj9 : j ≤ 401 := by omega
 clear hS hB hG hq x0 x1 hst ha har hx hy h1 h2 h3
 rw [hk] at n0
 clear hk
 go_enter Try.func92, Try.ntmps92
 go_wp2
 clear z0 z1 z2 z3 f0 f1 f2 f3 n0 n1 c0 y0 y1
 go_loopg [10] (j + 1 - i) (fun kq v10 w' => ∃ (kk : Nat) (mm : Nat → Nat → List Int), v10 = .int .i64 (kk : Int) ∧ Aside0 (kk + kq = j + 1) ∧ Aside0 (i ≤ kk) ∧ Aside0 (∀ k', i ≤ k' → k' < kk → (mt s t i k' && mt s u k' j) = false) ∧ Aside0 (SSt l W1 L mm w') ∧ Aside0 (Gs L T mm lo q) ∧ Aside0 (Ss L m mm lo q) ∧ Aside0 (Below w0.heap.size w0 w'))
 case atStart => exact ⟨i, m, rfl, ⟨by omega⟩, ⟨Nat.le_refl _⟩, ⟨fun k' h1 h2 => by omega⟩, HS, HG, ⟨Ss.refl _ _ _ _⟩, HB⟩
 case round =>
  clear HS HG HB
  obtain ⟨kk, mm, rfl, HQ, HK1, HE, HS, HG, HP, HB⟩ := hrel
  have y0 := HS.out.cell_ HST.out X0.out
  have y1 := HS.out.cell_ HST.out X1.out
  by_cases hle : kk ≤ j
  ·have HK2 := Aside0.mk hle
   have hd : decide (kk ≤ j) = true := decide_eq_true hle
   clear hle
   have hk9 : kk ≤ 401 := by have := HK2.out; omega
   cases gk with
   | zero => exact absurd HQ.out (by have := HK2.out; omega)
   | succ k1 =>
    cases hv : mt s t i kk
    ·go_wp2_with (go_at_call 76; (with_reducible refine (HX.out kk mm _ HK1.out HK2.out HS.out HG.out HB.out).mono ?_); rintro e w7 ⟨he, m7, S7, G7, SS7, B7⟩; rw [hv] at he; subst he; have M7 := Aside0.mk S7; have N7 := Aside0.mk (HG.out.next G7 SS7); have P7 := Aside0.mk (Ss.next HP.out SS7 za13 za13); have Q7 := Aside0.mk B7; clear S7 G7 SS7 B7 y0 y1; have y1 := M7.out.cell_ HST.out X1.out)
     go_roundg k1
     case measure => omega
     case rel => exact ⟨kk + 1, m7, za20, ⟨by have := HQ.out; omega⟩, ⟨za11⟩, ⟨fun k' h1 h2 => by
       by_cases e : k' = kk
       ·subst e; rw [hv]; rfl
       ·exact HE.out k' h1 (by omega)⟩, M7, N7, P7, Q7⟩
    ·cases hv2 : mt s u kk j
     ·go_wp2_with (first | (go_at_call 76; (with_reducible refine (HX.out kk mm _ HK1.out HK2.out HS.out HG.out HB.out).mono ?_); rintro e w7 ⟨he, m7, S7, G7, SS7, B7⟩; rw [hv] at he; subst he; have M7 := Aside0.mk S7; have N7 := Aside0.mk (HG.out.next G7 SS7); have P7 := Aside0.mk (Ss.next HP.out SS7 za13 za13); have Q7 := Aside0.mk B7; clear S7 G7 SS7 B7 y0 y1; have y1 := M7.out.cell_ HST.out X1.out) | (go_at_call 76; (with_reducible refine (HY.out kk m7 _ HK1.out HK2.out M7.out N7.out Q7.out).mono ?_); rintro e w8 ⟨he, m8, S8, G8, SS8, B8⟩; rw [hv2] at he; subst he; have M8 := Aside0.mk S8; have N8 := Aside0.mk (N7.out.next G8 SS8); have P8 := Aside0.mk (Ss.next P7.out SS8 za13 za13); have Q8 := Aside0.mk B8; clear S8 G8 SS8 B8))
      go_roundg k1
      case measure => omega
      case rel => exact ⟨kk + 1, m8, za20, ⟨by have := HQ.out; omega⟩, ⟨za11⟩, ⟨fun k' h1 h2 => by
        by_cases e : k' = kk
        ·subst e; rw [hv, hv2]; rfl
        ·exact HE.out k' h1 (by omega)⟩, M8, N8, P8, Q8⟩
     ·go_wp2_with (first | (go_at_call 76; (with_reducible refine (HX.out kk mm _ HK1.out HK2.out HS.out HG.out HB.out).mono ?_); rintro e w7 ⟨he, m7, S7, G7, SS7, B7⟩; rw [hv] at he; subst he; have M7 := Aside0.mk S7; have N7 := Aside0.mk (HG.out.next G7 SS7); have P7 := Aside0.mk (Ss.next HP.out SS7 za13 za13); have Q7 := Aside0.mk B7; clear S7 G7 SS7 B7 y0 y1; have y1 := M7.out.cell_ HST.out X1.out) | (go_at_call 76; (with_reducible refine (HY.out kk m7 _ HK1.out HK2.out M7.out N7.out Q7.out).mono ?_); rintro e w8 ⟨he, m8, S8, G8, SS8, B8⟩; rw [hv2] at he; subst he; have M8 := Aside0.mk S8; have N8 := Aside0.mk (N7.out.next G8 SS8); have P8 := Aside0.mk (Ss.next P7.out SS8 za13 za13); have Q8 := Aside0.mk B8; clear S8 G8 SS8 B8))
      go_ret
      exact ⟨by rw [(exIn_iff _ _ _).2 ⟨kk, HK1.out, HK2.out, by rw [hv, hv2]; rfl⟩]; rfl, m8, M8.out, N8.out, P8.out, Q8.out⟩
  ·have hd : decide (kk ≤ j) = false := decide_eq_false hle
   have HF : exIn (fun k => mt s t i k && mt s u k j) i j = false := by
    rw [Bool.eq_false_iff]
    intro h
    obtain ⟨k', h1, h2, h3⟩ := (exIn_iff _ _ _).1 h
    rw [HE.out k' h1 (by omega)] at h3
    exact absurd h3 (by simp)
   have HF2 := Aside0.mk HF
   clear hle HF
   go_wp2
   go_ret
   exact ⟨by rw [HF2.out]; rfl, mm, HS.out, HG.out, HP.out, HB.out⟩
end
end Go.Proofs.Ytffjfdoghofkdaa.Ext
namespace Go.Proofs.Ytffjfdoghofkdaa.Ext
open Go Go.RowKit Go.Proofs.YtffjfdoghofkdaaW.PrintWords Go.Proofs.YtffjfdoghofkdaaW.PrintLast
def tv (b : Bool) : Int := if b = true then 1 else 2
theorem tv_true : tv true = 1 := rfl
theorem tv_false : tv false = 2 := rfl
section
variable (l : Lay) (w0 W1 : World) (g : Nat) (s : ByteArray) (L : Nat) (ok : LayOk l w0 W1 g s L) (hsL : s.size + 1 = L) (hL : L ≤ 401) (T : Nat → Nat → Nat → Bool) (lo q i : Nat) (hlo : lo ≤ q) (hq : q < l.N) (hi : i < L)
 (t : Rx) (a : Nat) (har : l.ar q = [(a : Int)]) (h1 : lo ≤ a) (h3 : a + 1 = q) (hx : IC l w0 W1 g s L T t a lo) (hT : ∀ i j, T q i j = mt s (.star t) i j)
 (m : Nat → Nat → List Int) (W : World) (hS : SSt l W1 L m W) (hB : Below w0.heap.size w0 W) (hG : Gs L T m lo (q + 1))
include ok hsL hL hlo hq hi har h1 h3 hx hT hS hB hG
theorem star_calls : Calls Try.prog 90 #[.pointer (some ⟨g, 0, none⟩), .int .i64 (q : Int), .int .i64 (i : Int)] W fun e W' => ∃ m', e = .returned (.tuple #[]) ∧ SSt l W1 L m' W' ∧ Gs L T m' lo (q + 1) ∧ Ss L m m' lo (q + 1) ∧ (∀ k, i ≤ k → k < L → (m' q i).getD k 0 = if T q i k = true then 1 else 2) ∧ Below w0.heap.size w0 W' := by
 obtain ⟨ab, ha, hst, x0⟩ := ok.a1 q hq 0 (by rw [har]; simp)
 have hac : l.aA q = some ⟨ab, 0, none⟩ := ha
 have hal : (l.ar q).length = 1 := by rw [har]; rfl
 rw [har] at x0
 simp only [List.getD_cons_zero] at x0
 have X0 := Aside0.mk x0
 have HST := Aside0.mk hst
 have HAC : Aside0 (∀ μ W', SSt l W1 L μ W' → W'.cell? ⟨l.ba, q, none⟩ = some (.slice (some ⟨ab, 0, none⟩) 1 (l.ac q))) := ⟨fun μ W' h => by have := h.a0 ok hq; rwa [hac, hal] at this⟩
 have HS := Aside0.mk hS
 have HB := Aside0.mk hB
 have HG := Aside0.mk hG
 have Hq := Aside0.mk hq
 have Hi := Aside0.mk hi
 have q1 := eq_true hq
 have q2 := eq_true hi
 have HN := Aside0.mk (show lo ≤ a ∧ a + 1 = q from ⟨h1, h3⟩)
 have HX := Aside0.mk (fun (p kk : Nat) (m' : Nat → Nat → List Int) (W' : World) (g1 : p ≤ kk) (g2 : kk < L) (hS' : SSt l W1 L m' W') (hG' : Gs L T m' lo q) (hB' : Below w0.heap.size w0 W') => hx p kk (a : Int) p kk m' W' rfl rfl rfl g1 g2 hS' (hG'.sub (Nat.le_refl _) (by omega)) hB')
 have HT := Aside0.mk hT
 have HBt := Aside0.mk (fun (W' : World) => bit_calls true W')
 have HBf := Aside0.mk (fun (W' : World) => bit_calls false W')
 have HL := Aside0.mk hL
 have hi9 : i ≤ 401 := by omega
 clear hS hB hG hq hi x0 hst ha har hx h1 h3 hac hal hT hL
 go_enter Try.func90, Try.ntmps90
 go_wp2
 go_loopg [6] (L - i) (fun kq v6 w' => ∃ (kk : Nat) (μ : Nat → Nat → List Int), v6 = .int .i64 (kk : Int) ∧ Aside0 (kk + kq = L) ∧ Aside0 (i ≤ kk) ∧ Aside0 (∀ k, i ≤ k → k < kk → (μ q i).getD k 0 = tv (mt s (.star t) i k)) ∧ Aside0 (SSt l W1 L μ w') ∧ Aside0 (Gs L T μ lo (q + 1)) ∧ Aside0 (Ss L m μ lo (q + 1)) ∧ Aside0 (Below w0.heap.size w0 w'))
 case atStart => exact ⟨i, m, rfl, ⟨by have := Hi.out; omega⟩, ⟨Nat.le_refl _⟩, ⟨fun k h1 h2 => by omega⟩, HS, HG, ⟨Ss.refl _ _ _ _⟩, HB⟩
 case round =>
  clear HS HG HB
  obtain ⟨kk, μ, rfl, HQ, HK1, HE, HS, HG, HP, HB⟩ := hrel
  obtain ⟨z0, z1, z2, z3, f0, f1, f2, f3⟩ := blk4 (HS.out.z ok)
  by_cases hle : kk ≤ s.size
  ·have HK2 := Aside0.mk (show kk < L by omega)
   have hd : decide (kk ≤ s.size) = true := decide_eq_true hle
   have q3 := eq_true (show kk < L by omega)
   clear hle
   have hk9 : kk ≤ 401 := by have := HK2.out; have := HL.out; omega
   cases gk with
   | zero => exact absurd HQ.out (by have := HK2.out; omega)
   | succ k1 =>
    have c0 := HS.out.m0 ok Hq.out
    have c1 := HS.out.m1 ok Hq.out Hi.out
    have c2 := HS.out.m2 Hq.out Hi.out HK2.out
    generalize (μ q i).getD kk 0 = vv at c2
    have d2 := HS.out.fr Hq.out Hi.out kk
    have e0 := ok.sg.2 q i Hq.out Hi.out
    have e1 := ok.sm.2 q i Hq.out Hi.out
    have e2 := (ok.st q Hq.out).2 q i Hq.out Hi.out
    go_upto_region 3 with (fail)
    go_cut [] (fun wc => ∃ μ2, Aside0 (SSt l W1 L μ2 wc) ∧ Aside0 (∀ q' i' j', ¬ (q' = q ∧ i' = i ∧ j' = kk) → (μ2 q' i').getD j' 0 = (μ q' i').getD j' 0) ∧ Aside0 ((μ2 q i).getD kk 0 = if kk = i then 1 else 2) ∧ Aside0 (Below w0.heap.size w0 wc))
    case first =>
     by_cases hki : kk = i
     ·have hb1 : ((kk : Int) == (i : Int)) = true := by simp; omega
      have hb2 : (kk == i) = true := by simpa using hki
      have HKI := Aside0.mk hki
      clear hki
      go_region_held3 (fun w' => w'.cell? ⟨g, 3, none⟩ = some (.slice (some ⟨l.bm, 0, none⟩) l.N l.cm) ∧ w'.cell? ⟨l.bm, q, none⟩ = some (.slice (some ⟨l.tb q, 0, none⟩) L (l.tc q)) ∧ w'.cell? ⟨l.tb q, i, none⟩ = some (.slice (some ⟨l.rb q i, 0, none⟩) L L)) (first | go_keep | exact ⟨(cell_far e0 _).trans z3, (cell_far e1 _).trans c0, (cell_far e2 _).trans c1⟩)
       (first | (go_at_call 91; refine (HBt.out _).mono ?_; rintro e w6 ⟨rfl, ⟨nd, rfl⟩⟩))
      try go_wp2
      go_meet
      case rel =>
       have hl5 := (HS.out.rw q i Hq.out Hi.out).2
       rw [show IntKind.i64.wrap 1 = 1 by decide]
       exact ⟨_, ⟨(show SSt l W1 L μ (wr.drewN (1 + nd)) from ⟨HS.out.st, HS.out.rw, HS.out.le⟩).put ok Hq.out Hi.out kk _⟩, ⟨fun q' i' j' h => by
        by_cases e : q' = q ∧ i' = i
        ·rw [e.1, e.2, upd_self, getD_ne _ (fun e' => h ⟨e.1, e.2, e'.symm⟩)]
        ·rw [upd_ne _ _ e]⟩, ⟨by rw [upd_self, getD_lt (by have := HK2.out; omega), if_pos HKI.out]⟩, ⟨(show Below w0.heap.size w0 (wr.drewN (1 + nd)) from pw_below_drewN HB.out _).setCell (ok.lo q i Hq.out Hi.out) _⟩⟩
     ·have hb1 : ((kk : Int) == (i : Int)) = false := by simp; omega
      have hb2 : (kk == i) = false := by simpa using hki
      have HKI := Aside0.mk hki
      clear hki
      go_region_held3 (fun w' => w'.cell? ⟨g, 3, none⟩ = some (.slice (some ⟨l.bm, 0, none⟩) l.N l.cm) ∧ w'.cell? ⟨l.bm, q, none⟩ = some (.slice (some ⟨l.tb q, 0, none⟩) L (l.tc q)) ∧ w'.cell? ⟨l.tb q, i, none⟩ = some (.slice (some ⟨l.rb q i, 0, none⟩) L L)) (first | go_keep | exact ⟨(cell_far e0 _).trans z3, (cell_far e1 _).trans c0, (cell_far e2 _).trans c1⟩)
       (first | (go_at_call 91; refine (HBf.out _).mono ?_; rintro e w6 ⟨rfl, ⟨nd, rfl⟩⟩))
      try go_wp2
      go_meet
      case rel =>
       have hl5 := (HS.out.rw q i Hq.out Hi.out).2
       rw [show IntKind.i64.wrap 2 = 2 by decide]
       exact ⟨_, ⟨(show SSt l W1 L μ (wr.drewN (1 + nd)) from ⟨HS.out.st, HS.out.rw, HS.out.le⟩).put ok Hq.out Hi.out kk _⟩, ⟨fun q' i' j' h => by
        by_cases e : q' = q ∧ i' = i
        ·rw [e.1, e.2, upd_self, getD_ne _ (fun e' => h ⟨e.1, e.2, e'.symm⟩)]
        ·rw [upd_ne _ _ e]⟩, ⟨by rw [upd_self, getD_lt (by have := HK2.out; omega), if_neg HKI.out]⟩, ⟨(show Below w0.heap.size w0 (wr.drewN (1 + nd)) from pw_below_drewN HB.out _).setCell (ok.lo q i Hq.out Hi.out) _⟩⟩
    case rest =>
     clear z0 z1 z2 z3 f0 f1 f2 f3 c0 c1 c2 d2 e0 e1 e2
     obtain ⟨μ2, HS2, HD2, HV2, HB2⟩ := hcut
     have HP2 : Aside0 (Ss L m μ2 lo (q + 1)) := ⟨fun q' i' j' h h1 h2 => by rw [HD2.out q' i' j' (fun e => h za13)]; exact HP.out q' i' j' h h1 h2⟩
     have HG2 : Aside0 (∀ q' i' j', lo ≤ q' → q' < q + 1 → i' ≤ j' → j' < L → ¬ (q' = q ∧ i' = i ∧ j' = kk) → (μ2 q' i').getD j' 0 = 0 ∨ (μ2 q' i').getD j' 0 = if T q' i' j' = true then 1 else 2) := ⟨fun q' i' j' h1 h2 h3 h4 h5 => by rw [HD2.out q' i' j' h5]; exact HG.out q' i' j' h1 h2 h3 h4⟩
     have HE2 : Aside0 (∀ k, i ≤ k → k < kk → (μ2 q i).getD k 0 = tv (mt s (.star t) i k)) := ⟨fun k h1 h2 => by rw [HD2.out q i k (fun e => by omega)]; exact HE.out k h1 h2⟩
     have HV3 : Aside0 (((μ2 q i).getD kk 0 = 1 ∧ mt s (.star t) i kk = true) ∨ ((μ2 q i).getD kk 0 = 2 ∧ i < kk)) := ⟨by
      by_cases e : kk = i
      ·left; refine ⟨by rw [HV2.out, if_pos e], by rw [e]; exact star_self _ _ _⟩
      ·right; exact ⟨by rw [HV2.out, if_neg e], za11⟩⟩
     clear HS HG HP HE HB HD2 HV2
     go_wp2
     go_loopg [7] (kk + 1 - i) (fun kq v7 w' => ∃ (p : Nat) (ν : Nat → Nat → List Int), v7 = .int .i64 (p : Int) ∧ Aside0 (p + kq = kk + 1) ∧ Aside0 (i ≤ p ∧ p ≤ kk) ∧ Aside0 (∀ k, i ≤ k → k < kk → (ν q i).getD k 0 = tv (mt s (.star t) i k)) ∧ Aside0 (SSt l W1 L ν w') ∧ Aside0 (∀ q' i' j', lo ≤ q' → q' < q + 1 → i' ≤ j' → j' < L → ¬ (q' = q ∧ i' = i ∧ j' = kk) → (ν q' i').getD j' 0 = 0 ∨ (ν q' i').getD j' 0 = if T q' i' j' = true then 1 else 2) ∧ Aside0 (Ss L m ν lo (q + 1)) ∧ Aside0 (((ν q i).getD kk 0 = 1 ∧ mt s (.star t) i kk = true) ∨ ((ν q i).getD kk 0 = 2 ∧ i < kk ∧ ∀ p', i ≤ p' → p' < p → (mt s (.star t) i p' && mt s t p' kk) = false)) ∧ Aside0 (Below w0.heap.size w0 w'))
     case atStart => exact ⟨i, μ2, rfl, ⟨za11⟩, ⟨Nat.le_refl _, HK1.out⟩, HE2, HS2, HG2, HP2, ⟨by
      rcases HV3.out with h | h
      ·exact .inl h
      ·exact .inr ⟨h.1, h.2, fun p' h1 h2 => by omega⟩⟩, HB2⟩
     case round =>
      clear HS2 HG2 HE2 HP2 HV3 HB2
      obtain ⟨p, ν, rfl, HQ2, HR, HE, HS, HG, HP, HV, HB⟩ := hrel
      obtain ⟨z0, z1, z2, z3, f0, f1, f2, f3⟩ := blk4 (HS.out.z ok)
      have c0 := HS.out.m0 ok Hq.out
      have c1 := HS.out.m1 ok Hq.out Hi.out
      have c2 := HS.out.m2 Hq.out Hi.out HK2.out
      have DONE : Aside0 (∀ b, (ν q i).getD kk 0 = tv b → mt s (.star t) i kk = b → Gs L T ν lo (q + 1) ∧ ∀ k, i ≤ k → k < kk + 1 → (ν q i).getD k 0 = tv (mt s (.star t) i k)) := ⟨fun b hb hb2 => ⟨fun q' i' j' h1 h2 h3 h4 => by
        by_cases e : q' = q ∧ i' = i ∧ j' = kk
        ·rw [e.1, e.2.1, e.2.2, hb, HT.out, hb2]; exact .inr rfl
        ·exact HG.out q' i' j' h1 h2 h3 h4 e, fun k h1 h2 => by
        by_cases e : k = kk
        ·subst e; rw [hb, hb2]
        ·exact HE.out k h1 (by omega)⟩⟩
      rcases HV.out with ⟨hv, hst⟩ | ⟨hv, hik, hno⟩
      ·rw [hv] at c2
       have DN := Aside0.mk (DONE.out true (by rw [hv]; rfl) hst)
       clear hv hst DONE
       by_cases hpk : p < kk
       ·have hd2 : decide (p < kk) = true := decide_eq_true hpk
        clear hpk
        go_wp2
        go_roundg k1
        case measure => omega
        case rel => exact ⟨kk + 1, ν, za20, ⟨by have := HQ.out; omega⟩, ⟨za11⟩, ⟨DN.out.2⟩, HS, ⟨DN.out.1⟩, HP, HB⟩
       ·have hd2 : decide (p < kk) = false := decide_eq_false hpk
        clear hpk
        go_wp2
        go_roundg k1
        case measure => omega
        case rel => exact ⟨kk + 1, ν, za20, ⟨by have := HQ.out; omega⟩, ⟨za11⟩, ⟨DN.out.2⟩, HS, ⟨DN.out.1⟩, HP, HB⟩
      ·by_cases hpk : p < kk
       ·have hd2 : decide (p < kk) = true := decide_eq_true hpk
        have HPK := Aside0.mk hpk
        have hp9 : p ≤ 401 := by omega
        have HGq : Aside0 (Gs L T ν lo q) := ⟨fun q' i' j' h1 h2 h3 h4 => HG.out q' i' j' h1 (by omega) h3 h4 (fun e => by omega)⟩
        have HNO := Aside0.mk hno
        have HIK := Aside0.mk hik
        have HV2 := Aside0.mk hv
        have c3 := HS.out.m2 Hq.out Hi.out (show p < L by have := HPK.out; have := HK2.out; omega)
        have q4 := eq_true (show p < L by have := HPK.out; have := HK2.out; omega)
        rw [HE.out p HR.out.1 hpk] at c3
        rw [hv] at c2
        clear hv hno hik hpk DONE
        obtain ⟨k2, rfl⟩ : ∃ k2, gk = k2 + 1 := ⟨gk - 1, by have := HQ2.out; have := HPK.out; omega⟩
        cases hv1 : mt s (.star t) i p
        ·rw [hv1, tv_false] at c3
         go_wp2
         go_roundg k2
         case measure => omega
         case rel => exact ⟨p + 1, ν, za20, ⟨by have := HQ2.out; omega⟩, ⟨by have := HR.out; omega, by have := HPK.out; omega⟩, HE, HS, HG, HP, ⟨.inr ⟨HV2.out, HIK.out, fun p' h1 h2 => by
           by_cases e : p' = p
           ·rw [e, hv1]; rfl
           ·exact HNO.out p' h1 (by omega)⟩⟩, HB⟩
        ·rw [hv1, tv_true] at c3
         have y0 := HS.out.cell_ HST.out X0.out
         have a0 := HAC.out _ _ HS.out
         cases hv2 : mt s t p kk
         ·go_wp2_with (go_at_call 76; (with_reducible refine (HX.out p kk ν _ HR.out.2 HK2.out HS.out HGq.out HB.out).mono ?_); rintro e w7 ⟨he, m7, S7, G7, SS7, B7⟩; rw [hv2] at he; subst he; have M7 := Aside0.mk S7; have Q7 := Aside0.mk B7; have V7 := Aside0.mk (show (m7 q i).getD kk 0 = 2 by rw [SS7 q i kk za13 HK1.out HK2.out, HV2.out]); have E7 : Aside0 (∀ k, i ≤ k → k < kk → (m7 q i).getD k 0 = tv (mt s (.star t) i k)) := ⟨fun k h1 h2 => by rw [SS7 q i k za13 h1 (by have := HK2.out; omega)]; exact HE.out k h1 h2⟩; have N7 : Aside0 (∀ q' i' j', lo ≤ q' → q' < q + 1 → i' ≤ j' → j' < L → ¬ (q' = q ∧ i' = i ∧ j' = kk) → (m7 q' i').getD j' 0 = 0 ∨ (m7 q' i').getD j' 0 = if T q' i' j' = true then 1 else 2) := ⟨fun q' i' j' h1 h2 h3 h4 h5 => by by_cases e : q' < a + 1; exact G7 q' i' j' h1 e h3 h4; rw [SS7 q' i' j' (by omega) h3 h4]; exact HG.out q' i' j' h1 h2 h3 h4 h5⟩; have P7 := Aside0.mk (Ss.next HP.out SS7 za13 za13); clear S7 G7 SS7 B7 z0 z1 z2 z3 f0 f1 f2 f3 c0 c1 c2 c3 y0 a0)
          go_roundg k2
          case measure => omega
          case rel => exact ⟨p + 1, m7, za20, ⟨by have := HQ2.out; omega⟩, ⟨by have := HR.out; omega, by have := HPK.out; omega⟩, E7, M7, N7, P7, ⟨.inr ⟨V7.out, HIK.out, fun p' h1 h2 => by
            by_cases e : p' = p
            ·rw [e, hv1, hv2]; rfl
            ·exact HNO.out p' h1 (by omega)⟩⟩, Q7⟩
         ·go_wp2_with (go_at_call 76; (with_reducible refine (HX.out p kk ν _ HR.out.2 HK2.out HS.out HGq.out HB.out).mono ?_); rintro e w7 ⟨he, m7, S7, G7, SS7, B7⟩; rw [hv2] at he; subst he; have M7 := Aside0.mk S7; have Q7 := Aside0.mk B7; have V7 := Aside0.mk (show (m7 q i).getD kk 0 = 2 by rw [SS7 q i kk za13 HK1.out HK2.out, HV2.out]); have E7 : Aside0 (∀ k, i ≤ k → k < kk → (m7 q i).getD k 0 = tv (mt s (.star t) i k)) := ⟨fun k h1 h2 => by rw [SS7 q i k za13 h1 (by have := HK2.out; omega)]; exact HE.out k h1 h2⟩; have N7 : Aside0 (∀ q' i' j', lo ≤ q' → q' < q + 1 → i' ≤ j' → j' < L → ¬ (q' = q ∧ i' = i ∧ j' = kk) → (m7 q' i').getD j' 0 = 0 ∨ (m7 q' i').getD j' 0 = if T q' i' j' = true then 1 else 2) := ⟨fun q' i' j' h1 h2 h3 h4 h5 => by by_cases e : q' < a + 1; exact G7 q' i' j' h1 e h3 h4; rw [SS7 q' i' j' (by omega) h3 h4]; exact HG.out q' i' j' h1 h2 h3 h4 h5⟩; have P7 := Aside0.mk (Ss.next HP.out SS7 za13 za13); clear S7 G7 SS7 B7 z0 z1 z2 z3 f0 f1 f2 f3 c0 c1 c2 c3 y0 a0; obtain ⟨z0, z1, z2, z3, f0, f1, f2, f3⟩ := blk4 (M7.out.z ok); have c0 := M7.out.m0 ok Hq.out; have c1 := M7.out.m1 ok Hq.out Hi.out; have c2 := M7.out.m2 Hq.out Hi.out HK2.out; rw [V7.out] at c2; have d2 := M7.out.fr Hq.out Hi.out kk)
          go_roundg k2
          case measure => omega
          case rel =>
           have hlk : kk < (m7 q i).length := by rw [(M7.out.rw q i Hq.out Hi.out).2]; exact HK2.out
           exact ⟨p + 1, upd m7 q i ((m7 q i).set kk 1), za20, ⟨by have := HQ2.out; omega⟩, ⟨by have := HR.out; omega, by have := HPK.out; omega⟩, ⟨fun k h1 h2 => by rw [upd_self, getD_ne _ (by omega)]; exact E7.out k h1 h2⟩, ⟨M7.out.put ok Hq.out Hi.out kk 1⟩, ⟨fun q' i' j' h1 h2 h3 h4 h5 => by
            by_cases e : q' = q ∧ i' = i
            ·rw [e.1, e.2, upd_self, getD_ne _ (fun e' => h5 ⟨e.1, e.2, e'.symm⟩)]
             have := N7.out q' i' j' h1 h2 h3 h4 h5
             rw [e.1, e.2] at this
             exact this
            ·rw [upd_ne _ _ e]; exact N7.out q' i' j' h1 h2 h3 h4 h5⟩, ⟨fun q' i' j' h1 h2 h3 => by
            rw [upd_ne _ _ (fun e => h1 za13)]; exact P7.out q' i' j' h1 h2 h3⟩, ⟨.inl ⟨by rw [upd_self, getD_lt hlk], by
            rw [star_last s t i kk HIK.out]
            exact (exIn_iff _ _ _).2 ⟨p, HR.out.1, by have := HPK.out; omega, by rw [hv1, hv2]; rfl⟩⟩⟩, ⟨Q7.out.setCell (ok.lo q i Hq.out Hi.out) _⟩⟩
       ·have hpe : p = kk := by have := HR.out; omega
        have hd2 : decide (p < kk) = false := decide_eq_false hpk
        have DN := Aside0.mk (DONE.out false (by rw [hv]; rfl) (by
         rw [star_last s t i kk hik, Bool.eq_false_iff]
         intro h
         obtain ⟨p', h1, h2, h3⟩ := (exIn_iff _ _ _).1 h
         rw [hno p' h1 (by omega)] at h3
         exact absurd h3 (by simp)))
        clear hv hno hpk DONE c2 hpe
        go_wp2
        go_roundg k1
        case measure => omega
        case rel => exact ⟨kk + 1, ν, za20, ⟨by have := HQ.out; omega⟩, ⟨za11⟩, ⟨DN.out.2⟩, HS, ⟨DN.out.1⟩, HP, HB⟩
  ·have hd : decide (kk ≤ s.size) = false := decide_eq_false hle
   have hkL : kk = L := by have := HQ.out; omega
   have HKL := Aside0.mk hkL
   clear hle hkL
   go_wp2
   go_end0
   refine ⟨μ, rfl, HS.out, HG.out, HP.out, fun k h1 h2 => ?_, HB.out⟩
   rw [HE.out k h1 (by have := HKL.out; omega), HT.out]
   rfl
end
end Go.Proofs.Ytffjfdoghofkdaa.Ext
namespace Go.Proofs.Ytffjfdoghofkdaa.Ext
open Go Go.RowKit Go.Proofs.YtffjfdoghofkdaaW.PrintWords Go.Proofs.YtffjfdoghofkdaaW.PrintLast
def FT (l : Lay) (s : ByteArray) (T : Nat → Nat → Nat → Bool) : Rx → Nat → Nat → Prop
 | .none, p, lo => lo = p ∧ (∀ i j, T p i j = mt s .none i j) ∧ l.kd p = 1
 | .empty, p, lo => lo = p ∧ (∀ i j, T p i j = mt s .empty i j) ∧ l.kd p = 2
 | .any, p, lo => lo = p ∧ (∀ i j, T p i j = mt s .any i j) ∧ l.kd p = 4
 | .letter x, p, lo => lo = p ∧ (∀ i j, T p i j = mt s (.letter x) i j) ∧ l.kd p = 3 ∧ l.lt p = x
 | .not t, p, lo => lo ≤ p ∧ (∀ i j, T p i j = mt s (.not t) i j) ∧ l.kd p = 9 ∧ ∃ a : Nat, l.ar p = [(a : Int)] ∧ a + 1 = p ∧ FT l s T t a lo
 | .star t, p, lo => lo ≤ p ∧ (∀ i j, T p i j = mt s (.star t) i j) ∧ l.kd p = 8 ∧ ∃ a : Nat, l.ar p = [(a : Int)] ∧ a + 1 = p ∧ FT l s T t a lo
 | .cat t u, p, lo => lo ≤ p ∧ (∀ i j, T p i j = mt s (.cat t u) i j) ∧ l.kd p = 5 ∧ ∃ a b : Nat, l.ar p = [(a : Int), (b : Int)] ∧ b + 1 = p ∧ FT l s T t a lo ∧ FT l s T u b (a + 1)
 | .or t u, p, lo => lo ≤ p ∧ (∀ i j, T p i j = mt s (.or t u) i j) ∧ l.kd p = 6 ∧ ∃ a b : Nat, l.ar p = [(a : Int), (b : Int)] ∧ b + 1 = p ∧ FT l s T t a lo ∧ FT l s T u b (a + 1)
 | .and t u, p, lo => lo ≤ p ∧ (∀ i j, T p i j = mt s (.and t u) i j) ∧ l.kd p = 7 ∧ ∃ a b : Nat, l.ar p = [(a : Int), (b : Int)] ∧ b + 1 = p ∧ FT l s T t a lo ∧ FT l s T u b (a + 1)
theorem FT.le {l : Lay} {s : ByteArray} {T : Nat → Nat → Nat → Bool} {t : Rx} {p lo : Nat} (h : FT l s T t p lo) : lo ≤ p := by
 cases t <;> first | exact Nat.le_of_eq h.1 | exact h.1
theorem FT.here {l : Lay} {s : ByteArray} {T : Nat → Nat → Nat → Bool} {t : Rx} {p lo : Nat} (h : FT l s T t p lo) : ∀ i j, T p i j = mt s t i j := by
 cases t <;> exact h.2.1
section
variable (l : Lay) (w0 W1 : World) (g : Nat) (s : ByteArray) (L : Nat) (ok : LayOk l w0 W1 g s L) (hsL : s.size + 1 = L) (hL : L ≤ 401) (T : Nat → Nat → Nat → Bool)
include ok hsL hL
theorem ic_of (t : Rx) (p lo : Nat) (hp : p < l.N) (hlo : lo ≤ p) (hT : ∀ i j, T p i j = mt s t i j) (hk : (l.kd p == 8) = false)
  (hf : ∀ (i j : Nat) (m : Nat → Nat → List Int) (W : World), i ≤ j → j < L → SSt l W1 L m W → Gs L T m lo p → Below w0.heap.size w0 W → Calls Try.prog 92 #[.pointer (some ⟨g, 0, none⟩), .int .i64 (p : Int), .int .i64 (i : Int), .int .i64 (j : Int)] W (SPost l w0 W1 L T m lo p (.bool (mt s t i j)))) :
  IC l w0 W1 g s L T t p lo := by
 intro i j pv iv jv m W e1 e2 e3 hij hj hS hG hB
 subst e1 e2 e3
 by_cases hv : (m p i).getD j 0 = 0
 ·exact is_find l w0 W1 g s L ok T lo p i j hlo hp hij hj _ (hT i j) m W hS hB hk hG hv fun m' W' h1 h2 h3 => hf i j m' W' hij hj h1 h2 h3
 ·exact is_known l w0 W1 g s L ok T lo p i j hlo hp hij hj _ (hT i j) m W hS hB hG hv
theorem is_all (t : Rx) : ∀ p lo, p < l.N → FT l s T t p lo → IC l w0 W1 g s L T t p lo := by
 induction t with
 | none =>
  intro p lo hp h
  exact ic_of l w0 W1 g s L ok hsL hL T .none p lo hp h.le h.here (by rw [h.2.2]; rfl) fun i j m W hij hj hS hG hB => sfind_leaf l w0 W1 g s L ok hsL hL T lo p i j h.le hp hij hj m W hS hB hG _ (.inl ⟨h.2.2, rfl⟩)
 | empty =>
  intro p lo hp h
  exact ic_of l w0 W1 g s L ok hsL hL T .empty p lo hp h.le h.here (by rw [h.2.2]; rfl) fun i j m W hij hj hS hG hB => sfind_leaf l w0 W1 g s L ok hsL hL T lo p i j h.le hp hij hj m W hS hB hG _ (.inr (.inl ⟨h.2.2, rfl⟩))
 | any =>
  intro p lo hp h
  exact ic_of l w0 W1 g s L ok hsL hL T .any p lo hp h.le h.here (by rw [h.2.2]; rfl) fun i j m W hij hj hS hG hB => sfind_leaf l w0 W1 g s L ok hsL hL T lo p i j h.le hp hij hj m W hS hB hG _ (.inr (.inr (.inl ⟨h.2.2, rfl⟩)))
 | letter x =>
  intro p lo hp h
  exact ic_of l w0 W1 g s L ok hsL hL T (.letter x) p lo hp h.le h.here (by rw [h.2.2.1]; rfl) fun i j m W hij hj hS hG hB => sfind_leaf l w0 W1 g s L ok hsL hL T lo p i j h.le hp hij hj m W hS hB hG _ (.inr (.inr (.inr ⟨h.2.2.1, by rw [h.2.2.2]; rfl⟩)))
 | cat t u iht ihu =>
  intro p lo hp h
  obtain ⟨h1, h2, h3, a, b, har, hb, ht, hu⟩ := id h
  have l1 := ht.le
  have l2 := hu.le
  exact ic_of l w0 W1 g s L ok hsL hL T (.cat t u) p lo hp h1 h2 (by rw [h3]; rfl) fun i j m W hij hj hS hG hB => sfind_cat l w0 W1 g s L ok hsL hL T lo p i j h1 hp hij hj m W hS hB hG t u a b h3 har l1 (by omega) hb (iht a lo (by omega) ht) (ihu b (a + 1) (by omega) hu)
 | or t u iht ihu =>
  intro p lo hp h
  obtain ⟨h1, h2, h3, a, b, har, hb, ht, hu⟩ := id h
  have l1 := ht.le
  have l2 := hu.le
  exact ic_of l w0 W1 g s L ok hsL hL T (.or t u) p lo hp h1 h2 (by rw [h3]; rfl) fun i j m W hij hj hS hG hB => sfind_or l w0 W1 g s L ok hsL hL T lo p i j h1 hp hij hj m W hS hB hG t u a b h3 har l1 (by omega) hb (iht a lo (by omega) ht) (ihu b (a + 1) (by omega) hu)
 | and t u iht ihu =>
  intro p lo hp h
  obtain ⟨h1, h2, h3, a, b, har, hb, ht, hu⟩ := id h
  have l1 := ht.le
  have l2 := hu.le
  exact ic_of l w0 W1 g s L ok hsL hL T (.and t u) p lo hp h1 h2 (by rw [h3]; rfl) fun i j m W hij hj hS hG hB => sfind_and l w0 W1 g s L ok hsL hL T lo p i j h1 hp hij hj m W hS hB hG t u a b h3 har l1 (by omega) hb (iht a lo (by omega) ht) (ihu b (a + 1) (by omega) hu)
 | not t iht =>
  intro p lo hp h
  obtain ⟨h1, h2, h3, a, har, hb, ht⟩ := id h
  exact ic_of l w0 W1 g s L ok hsL hL T (.not t) p lo hp h1 h2 (by rw [h3]; rfl) fun i j m W hij hj hS hG hB => sfind_not l w0 W1 g s L ok hsL hL T lo p i j h1 hp hij hj m W hS hB hG t a h3 har ht.le hb (iht a lo (by omega) ht)
 | star t iht =>
  intro p lo hp h
  obtain ⟨h1, h2, h3, a, har, hb, ht⟩ := id h
  intro i j pv iv jv m W e1 e2 e3 hij hj hS hG hB
  subst e1 e2 e3
  by_cases hv : (m p i).getD j 0 = 0
  ·exact is_star l w0 W1 g s L ok T lo p i j h1 hp hij hj _ (h2 i j) m W hS hB (by rw [h3]; rfl) hG hv fun m' W' h4 h5 h6 => star_calls l w0 W1 g s L ok hsL hL T lo p i h1 hp (by omega) t a har ht.le hb (iht a lo (by omega) ht) h2 m' W' h4 h6 h5
  ·exact is_known l w0 W1 g s L ok T lo p i j h1 hp hij hj _ (h2 i j) m W hS hB hG hv
end
end Go.Proofs.Ytffjfdoghofkdaa.Ext
-- ALSO loop.example/g00582/impl.size
namespace Go.Proofs.Ytffjfdoghofkdaa.Ext
open Go Go.RowKit Go.Proofs.YtffjfdoghofkdaaW.PrintWords Go.Proofs.YtffjfdoghofkdaaW.PrintLast Go.Proofs.Ytffjfdoghofkdaa.A
def ix (n a i j : Nat) : Nat := (a * n + i) * n + j
theorem ix_inj {n a i j a' i' j' : Nat} (hi : i < n) (hj : j < n) (hi' : i' < n) (hj' : j' < n) (h : ix n a i j = ix n a' i' j') : a = a' ∧ i = i' ∧ j = j' := by
 unfold ix at h
 have q1 : ((a * n + i) * n + j) / n = a * n + i := by rw [Nat.mul_comm, Nat.mul_add_div (by omega), Nat.div_eq_of_lt hj, Nat.add_zero]
 have q2 : ((a' * n + i') * n + j') / n = a' * n + i' := by rw [Nat.mul_comm, Nat.mul_add_div (by omega), Nat.div_eq_of_lt hj', Nat.add_zero]
 have q3 : (a * n + i) / n = a := by rw [Nat.mul_comm, Nat.mul_add_div (by omega), Nat.div_eq_of_lt hi, Nat.add_zero]
 have q4 : (a' * n + i') / n = a' := by rw [Nat.mul_comm, Nat.mul_add_div (by omega), Nat.div_eq_of_lt hi', Nat.add_zero]
 have e1 : a * n + i = a' * n + i' := by rw [← q1, ← q2, h]
 have e2 : a = a' := by rw [← q3, ← q4, e1]
 subst e2
 have e3 : i = i' := by omega
 subst e3
 exact ⟨rfl, rfl, by omega⟩
theorem ix_lt {n a i j z : Nat} (ha : a < z) (hi : i < n) (hj : j < n) : ix n a i j < z * n * n := by
 unfold ix
 have h1 : a * n + i + 1 ≤ z * n := by
  have : (a + 1) * n ≤ z * n := Nat.mul_le_mul_right n ha
  rw [Nat.add_mul] at this
  omega
 have h2 : (a * n + i + 1) * n ≤ z * n * n := Nat.mul_le_mul_right n h1
 rw [Nat.add_mul (a * n + i) 1 n] at h2
 omega
structure MSt (g b : Nat) (s : ByteArray) (n : Nat) (m : List Int) (W : World) : Prop where
 hm : W.heap[g]? = some (.cells #[.string s, .int .i64 (n : Int), .slice (some ⟨b, 0, none⟩) m.length m.length] 104 (0, 0))
 hb : W.heap[b]? = some (.cells (nums .i8 m).toArray 112 (0, 0))
def Rg0 := Nat → Nat → Nat → Prop
def RgM (id sz len : Nat) : Rg0 := fun a i j => id ≤ a ∧ a < id + sz ∧ (a = id → j - i ≤ len)
def RgF (id sz len : Nat) : Rg0 := fun a i j => id ≤ a ∧ a < id + sz ∧ (a = id → j - i < len)
def Gd (n : Nat) (T : Nat → Nat → Nat → Bool) (m : List Int) (R : Rg0) : Prop :=
 ∀ a i j, i ≤ j → j < n → R a i j → m.getD (ix n a i j) 0 = 0 ∨ m.getD (ix n a i j) 0 = if T a i j = true then 2 else 1
def Sm3 (n : Nat) (m m' : List Int) (R : Rg0) : Prop := ∀ a i j, i ≤ j → j < n → ¬ R a i j → m'.getD (ix n a i j) 0 = m.getD (ix n a i j) 0
theorem Gd.sub {n : Nat} {T : Nat → Nat → Nat → Bool} {m : List Int} {R R' : Rg0} (h : Gd n T m R) (hs : ∀ a i j, R' a i j → R a i j) : Gd n T m R' :=
 fun a i j h1 h2 h3 => h a i j h1 h2 (hs _ _ _ h3)
theorem Gd.next {n : Nat} {T : Nat → Nat → Nat → Bool} {m m' : List Int} {R R' : Rg0} (h : Gd n T m R) (h' : Gd n T m' R') (hs : Sm3 n m m' R') : Gd n T m' R := by
 intro a i j h1 h2 h3
 by_cases h4 : R' a i j
 ·exact h' a i j h1 h2 h4
 ·rw [hs a i j h1 h2 h4]; exact h a i j h1 h2 h3
theorem Sm3.next {n : Nat} {m m' m2 : List Int} {R R' : Rg0} (h : Sm3 n m m' R) (h' : Sm3 n m' m2 R') (hs : ∀ a i j, R' a i j → R a i j) : Sm3 n m m2 R :=
 fun a i j h1 h2 h3 => (h' a i j h1 h2 (fun h4 => h3 (hs _ _ _ h4))).trans (h a i j h1 h2 h3)
theorem Sm3.refl (n : Nat) (m : List Int) (R : Rg0) : Sm3 n m m R := fun _ _ _ _ _ _ => rfl
def MPost (w0 W : World) (g b : Nat) (s : ByteArray) (n : Nat) (T : Nat → Nat → Nat → Bool) (m : List Int) (R : Rg0) (r : Bool) (e : Ending) (W' : World) : Prop :=
 e = .returned (.bool r) ∧ ∃ m' : List Int, m'.length = m.length ∧ MSt g b s n m' W' ∧ Gd n T m' R ∧ Sm3 n m m' R ∧ KeepBut W W' b none ∧ Below w0.heap.size w0 W'
theorem MSt.cell {g b : Nat} {s : ByteArray} {n : Nat} {m : List Int} {W : World} (h : MSt g b s n m W) (k : Nat) (hk : k < m.length) : W.cell? ⟨b, k, none⟩ = some (.int .i8 (m.getD k 0)) := by
 rw [blk_cell h.hb]
 simp [nums, hk]
theorem MSt.below {g b : Nat} {s : ByteArray} {n : Nat} {m : List Int} {W W' : World} (h : MSt g b s n m W) (hb : Below W.heap.size W W') : MSt g b s n m W' := ⟨blk_below h.hm hb, blk_below h.hb hb⟩
theorem getD_set_ne {l : List Int} {i j : Nat} (v d : Int) (h : i ≠ j) : (l.set i v).getD j d = l.getD j d := by
 rw [List.getD_eq_getElem?_getD, List.getD_eq_getElem?_getD, List.getElem?_set_ne h]
theorem getD_set_eq {l : List Int} {i : Nat} (v d : Int) (h : i < l.length) : (l.set i v).getD i d = v := by
 rw [List.getD_eq_getElem?_getD, List.getElem?_set_self h]; rfl
theorem MSt.put {g b : Nat} {s : ByteArray} {n : Nat} {m : List Int} {W : World} (h : MSt g b s n m W) (hgb : g ≠ b) (k : Nat) (v : Int) : MSt g b s n (m.set k v) (W.setCell ⟨b, k, none⟩ (.int .i8 v)) := by
 refine ⟨?_, ?_⟩
 ·rw [List.length_set]
  exact blk_far h.hm hgb _
 ·refine blk_put h.hb k _ ?_
  simp [nums, List.map_set]
theorem wrap_nat (k : Nat) (h : k ≤ 9223372036854775807) : wrap64 (k : Int) = k := by unfold wrap64; omega
theorem iwrap_nat (k : Nat) (h : k ≤ 9223372036854775807) : IntKind.i64.wrap (k : Int) = k := by rw [i64_w]; exact wrap_nat k h
theorem ix_steps (n id i j m z : Nat) (hix : ix n id i j < m) (hl : m = z * n * n) (hz : z ≤ 16) (hn : n ≤ 401) :
  IntKind.i64.wrap ((id : Int) * (n : Int)) = (id : Int) * (n : Int) ∧ wrap64 ((id : Int) * (n : Int) + (i : Int)) = (id : Int) * (n : Int) + (i : Int) ∧
  wrap64 (((id : Int) * (n : Int) + (i : Int)) * (n : Int)) = ((id : Int) * (n : Int) + (i : Int)) * (n : Int) ∧ wrap64 (((id : Int) * (n : Int) + (i : Int)) * (n : Int) + (j : Int)) = ((ix n id i j : Nat) : Int) := by
 have hzn : z * n * n ≤ 16 * 401 * 401 := Nat.mul_le_mul (Nat.mul_le_mul hz hn) hn
 have c0 : ((id * n : Nat) : Int) = (id : Int) * (n : Int) := Int.natCast_mul ..
 have c1 : (((id * n + i) * n : Nat) : Int) = ((id : Int) * (n : Int) + (i : Int)) * (n : Int) := by rw [Int.natCast_mul, Int.natCast_add, c0]
 have c2 : ((ix n id i j : Nat) : Int) = ((id : Int) * (n : Int) + (i : Int)) * (n : Int) + (j : Int) := by unfold ix; rw [Int.natCast_add, c1]
 have e3 : ix n id i j = (id * n + i) * n + j := rfl
 have h4 : ix n id i j ≤ 3000000 := by omega
 generalize hk : ix n id i j = k at *
 have h3 : (id * n + i) * n ≤ 3000000 := by omega
 have hn0 : 0 < n := by
  rcases Nat.eq_zero_or_pos n with h | h
  ·subst h; simp at hl; omega
  ·exact h
 have h2 : id * n + i ≤ 3000000 := Nat.le_trans (Nat.le_mul_of_pos_right _ hn0) h3
 refine ⟨?_, ?_, ?_, ?_⟩
 ·rw [← c0]; exact iwrap_nat _ (by omega)
 ·rw [← c0, ← Int.natCast_add]; exact wrap_nat _ (by omega)
 ·rw [← c1]; exact wrap_nat _ (by omega)
 ·rw [← c2]; exact wrap_nat _ (by omega)
set_option maxHeartbeats 4000000 in
theorem match_of_find (w0 : World) (g b : Nat) (hgb : g ≠ b) (hg : w0.heap.size ≤ g) (hb : w0.heap.size ≤ b) (s : ByteArray) (n : Nat) (hn : n ≤ 401) (z : Nat) (hz : z ≤ 16) (T : Nat → Nat → Nat → Bool)
  (x : S35) (A : Option Addr) (c : Nat) (id sz i j : Nat) (hid : id < z) (hs0 : 0 < sz) (hij : i ≤ j) (hj : j < n) (r : Bool) (hT : T id i j = r)
  (hf : ∀ (m : List Int) (W : World), m.length = z * n * n → MSt g b s n m W → Gd n T m (RgF id sz (j - i)) → Below w0.heap.size w0 W →
   Calls Try.prog 94 #[.pointer (some ⟨g, 0, none⟩), .agg #[.int .i64 x.f0, .string x.f1, .slice A x.f2.length c], .int .i64 (id : Int), .int .i64 (i : Int), .int .i64 (j : Int)] W (MPost w0 W g b s n T m (RgF id sz (j - i)) r))
  (m : List Int) (W : World) (hl : m.length = z * n * n) (hM : MSt g b s n m W) (hG : Gd n T m (RgM id sz (j - i))) (hB : Below w0.heap.size w0 W) :
  Calls Try.prog 86 #[.pointer (some ⟨g, 0, none⟩), .agg #[.int .i64 x.f0, .string x.f1, .slice A x.f2.length c], .int .i64 (id : Int), .int .i64 (i : Int), .int .i64 (j : Int)] W (MPost w0 W g b s n T m (RgM id sz (j - i)) r) := by
 have hix : ix n id i j < m.length := by rw [hl]; exact ix_lt hid (by omega) hj
 obtain ⟨v1, v2, v3, v4⟩ := ix_steps n id i j m.length z hix hl hz hn
 have HM := Aside0.mk hM
 have HB := Aside0.mk hB
 have HG := Aside0.mk hG
 have HF := Aside0.mk hf
 have HX := Aside0.mk hix
 have HL := Aside0.mk hl
 have HT := Aside0.mk hT
 clear hM hB hG hf hl hT
 go_enter Try.func86, Try.ntmps86
 go_upto_region 1 with ((with_reducible refine gate_dst (N := 6) rfl ?_); refine box_event ?hg (N := 6) ?hd (cs := #[.int .i64 x.f0, .string x.f1, .slice A x.f2.length c]) (t := 35) ?hr ?_; (case hd => rfl); (case hg => rfl); (case hr => first | (go_simp; done) | (go_simp; rfl)); intro gx hgx w3 hbox hb3; have M3 := Aside0.mk (HM.out.below hb3); have K3 := Aside0.mk (KeepBut.of_below hb3 b none); have B3 := Aside0.mk (below_step HB.out hb3 : Below w0.heap.size w0 w3); have X3 := Aside0.mk hbox; have G3 := Aside0.mk (show W.heap.size ≤ gx by omega); have N3 := Aside0.mk (show b < W.heap.size from blk_lt HM.out.hb); clear hb3 hbox hgx)
 go_cut [11] (fun v11 wc => v11 = .int .i64 ((ix n id i j : Nat) : Int) ∧ Aside0 (MSt g b s n m wc) ∧ Aside0 (KeepBut W wc b none) ∧ Aside0 (Below w0.heap.size w0 wc) ∧ Aside0 (wc.heap[gx]? = some (.cells #[.int .i64 x.f0, .string x.f1, .slice A x.f2.length c] 35 (0, 0))))
 case first =>
  obtain ⟨z0, z1, z2, f0, f1, f2⟩ := blk3 M3.out.hm
  go_quiet (fail)
  try go_wp2
  go_meet
  case rel => exact ⟨by simp only [v1, v2, v3, v4], ⟨M3.out.hm, M3.out.hb⟩, ⟨K3.out⟩, ⟨pw_below_drewN B3.out _⟩, ⟨X3.out⟩⟩
 case rest =>
  clear M3 K3 B3 X3 HM HB v1 v2 v3 v4
  obtain ⟨rfl, HM, HK, HB, HX3⟩ := hcut
  obtain ⟨z0, z1, z2, f0, f1, f2⟩ := blk3 HM.out.hm
  have zc := HM.out.cell _ HX.out
  have q1 := eq_true hix
  clear hix
  by_cases hv : m.getD (ix n id i j) 0 = 0
  ·have hgx : gx ≠ b := by have := G3.out; have := N3.out; omega
   have hgx' : b ≠ gx := fun h => hgx h.symm
   have hgb' : b ≠ g := fun h => hgb h.symm
   have HS1 := Aside0.mk (show (m.set (ix n id i j) 1).length = z * n * n by rw [List.length_set]; exact HL.out)
   have HG1 : Aside0 (Gd n T (m.set (ix n id i j) 1) (RgF id sz (j - i))) := ⟨by
    intro a' i' j' h1 h2 h3
    have hne : ix n id i j ≠ ix n a' i' j' := by
     intro he
     obtain ⟨rfl, rfl, rfl⟩ := ix_inj (by omega) hj (by omega) h2 he
     have := h3.2.2 rfl
     omega
    rw [getD_set_ne _ _ hne]
    exact HG.out a' i' j' h1 h2 ⟨h3.1, h3.2.1, fun e => by have := h3.2.2 e; omega⟩⟩
   have HN : Aside0 (¬ RgF id sz (j - i) id i j) := ⟨fun h => by have := h.2.2 rfl; omega⟩
   have HI : Aside0 (∀ (m5 : List Int) (v : Int), m5.length = m.length → (v = if r = true then 2 else 1) → m5.getD (ix n id i j) 0 = v → Gd n T m5 (RgF id sz (j - i)) → (∀ a' i' j', i' ≤ j' → j' < n → ix n id i j ≠ ix n a' i' j' → ¬ RgF id sz (j - i) a' i' j' → m5.getD (ix n a' i' j') 0 = (m.set (ix n id i j) 1).getD (ix n a' i' j') 0) → Gd n T m5 (RgM id sz (j - i)) ∧ Sm3 n m m5 (RgM id sz (j - i))) := ⟨by
    intro m5 v h5 hv5 h0 hG5 hS5
    refine ⟨fun a' i' j' h1 h2 h3 => ?_, fun a' i' j' h1 h2 h3 => ?_⟩
    ·by_cases he : ix n id i j = ix n a' i' j'
     ·obtain ⟨rfl, rfl, rfl⟩ := ix_inj (by omega) hj (by omega) h2 he
      rw [h0, hv5, HT.out]
      exact .inr rfl
     ·by_cases h4 : RgF id sz (j - i) a' i' j'
      ·exact hG5 a' i' j' h1 h2 h4
      ·rw [hS5 a' i' j' h1 h2 he h4, getD_set_ne _ _ he]
       exact HG.out a' i' j' h1 h2 h3
    ·have he : ix n id i j ≠ ix n a' i' j' := by
      intro he
      obtain ⟨rfl, rfl, rfl⟩ := ix_inj (by omega) hj (by omega) h2 he
      exact h3 ⟨Nat.le_refl _, by omega, fun _ => Nat.le_refl _⟩
     have h4 : ¬ RgF id sz (j - i) a' i' j' := fun h => h3 ⟨h.1, h.2.1, fun e => by have := h.2.2 e; omega⟩
     rw [hS5 a' i' j' h1 h2 he h4, getD_set_ne _ _ he]⟩
   rw [hv] at zc
   clear hv
   have fc := blk_frozen HM.out.hb (ix n id i j)
   obtain ⟨y0, y1, y2, g0, g1, g2⟩ := blk3 HX3.out
   cases r
   ·go_wp2_with (go_at_call 94; refine (HF.out (m.set (ix n id i j) 1) _ HS1.out (HM.out.put hgb _ 1) HG1.out (HB.out.setCell hb _)).mono ?_; rintro e w5 ⟨rfl, m5, hl5, M5, G5, S5, K5, B5⟩; have n0_ := Aside0.mk hl5; have n1_ := Aside0.mk G5; have n2_ := Aside0.mk S5; have n3_ := Aside0.mk K5; have n4_ := Aside0.mk B5; have n5_ := Aside0.mk M5; clear hl5 G5 S5 K5 B5 M5 z0 z1 z2 f0 f1 f2 zc fc y0 y1 y2 g0 g1 g2; obtain ⟨z0, z1, z2, f0, f1, f2⟩ := blk3 n5_.out.hm; have zc := n5_.out.cell (ix n id i j) (by rw [n0_.out, List.length_set]; exact HX.out); rw [n2_.out id i j hij hj HN.out, getD_set_eq _ _ HX.out] at zc; have q1 := eq_true (show ix n id i j < m5.length by rw [n0_.out, List.length_set]; exact HX.out))
    go_ret
    have n6_ := HI.out m5 1 (by rw [n0_.out, List.length_set]) rfl (by rw [n2_.out id i j hij hj HN.out, getD_set_eq _ _ HX.out]) n1_.out (fun a' i' j' h1 h2 _ h3 => n2_.out a' i' j' h1 h2 h3)
    exact ⟨rfl, m5, by rw [n0_.out, List.length_set], n5_.out, n6_.1, n6_.2, (HK.out.set_ _ _).trans n3_.out (.inl rfl), n4_.out⟩
   ·go_wp2_with (go_at_call 94; refine (HF.out (m.set (ix n id i j) 1) _ HS1.out (HM.out.put hgb _ 1) HG1.out (HB.out.setCell hb _)).mono ?_; rintro e w5 ⟨rfl, m5, hl5, M5, G5, S5, K5, B5⟩; have n0_ := Aside0.mk hl5; have n1_ := Aside0.mk G5; have n2_ := Aside0.mk S5; have n3_ := Aside0.mk K5; have n4_ := Aside0.mk B5; have n5_ := Aside0.mk M5; clear hl5 G5 S5 K5 B5 M5 z0 z1 z2 f0 f1 f2 zc fc y0 y1 y2 g0 g1 g2; obtain ⟨z0, z1, z2, f0, f1, f2⟩ := blk3 n5_.out.hm; have zc := n5_.out.cell (ix n id i j) (by rw [n0_.out, List.length_set]; exact HX.out); rw [n2_.out id i j hij hj HN.out, getD_set_eq _ _ HX.out] at zc; have q1 := eq_true (show ix n id i j < m5.length by rw [n0_.out, List.length_set]; exact HX.out); have fc := blk_frozen n5_.out.hb (ix n id i j))
    go_ret
    have n6_ := HI.out (m5.set (ix n id i j) 2) 2 (by rw [List.length_set, n0_.out, List.length_set]) rfl (getD_set_eq _ _ (by rw [n0_.out, List.length_set]; exact HX.out)) (fun a' i' j' h1 h2 h3 => by
     have hne : ix n id i j ≠ ix n a' i' j' := by
      intro he
      obtain ⟨rfl, rfl, rfl⟩ := ix_inj (by omega) hj (by omega) h2 he
      have := h3.2.2 rfl
      omega
     rw [getD_set_ne _ _ hne]
     exact n1_.out a' i' j' h1 h2 h3) (fun a' i' j' h1 h2 he h3 => by rw [getD_set_ne _ _ he]; exact n2_.out a' i' j' h1 h2 h3)
    exact ⟨rfl, _, by rw [List.length_set, n0_.out, List.length_set], n5_.out.put hgb _ 2, n6_.1, n6_.2, ((HK.out.set_ _ _).trans n3_.out (.inl rfl)).set_ _ _, n4_.out.setCell hb _⟩
  ·have hr : m.getD (ix n id i j) 0 = if r = true then 2 else 1 := by
    rcases HG.out id i j hij hj ⟨Nat.le_refl _, by omega, fun _ => Nat.le_refl _⟩ with h | h
    ·exact absurd h hv
    ·rw [h, HT.out]
   clear hv
   rw [hr] at zc
   clear hr
   cases r
   all_goals
    simp only [if_true, Bool.false_eq_true, if_false] at zc
    go_wp2
    go_ret
    exact ⟨rfl, m, rfl, HM.out, HG.out, Sm3.refl _ _ _, HK.out, HB.out⟩
theorem arg_at {w0 W : World} {A : Option Addr} {l : List S35} (hC : Kd.C k35 w0 A l.length l) (hB : Below w0.heap.size w0 W) (i : Nat) (hi : i < l.length) :
  ∃ ad A2 c2, A = some ad ∧ W.cell? (ad.add (i * 3)) = some (.int .i64 l[i].f0) ∧ W.cell? ⟨(ad.add (i * 3)).block, (ad.add (i * 3)).off + 1, none⟩ = some (.string l[i].f1) ∧ W.cell? ⟨(ad.add (i * 3)).block, (ad.add (i * 3)).off + 2, none⟩ = some (.slice A2 l[i].f2.length c2) ∧ l[i].f2.length ≤ c2 ∧ Kd.C k35 w0 A2 l[i].f2.length l[i].f2 := by
 obtain ⟨ad, A2, c2, e, h0, h1, h2, h3, h4⟩ := at_T35 hC (i : Int) (by omega) (by omega)
 have he : rd_T35 l (i : Int) = l[i] := by simp [rd_T35, hi]
 rw [he] at h0 h1 h2 h3 h4
 rw [Int.toNat_natCast] at h0 h1 h2
 exact ⟨ad, A2, c2, e, (hB.cell (World.block_lt_of_cell? w0 _ h0)).trans h0, (hB.cell (World.block_lt_of_cell? w0 _ h1)).trans h1, (hB.cell (World.block_lt_of_cell? w0 _ h2)).trans h2, h3, h4⟩
theorem arg0_at {w0 W : World} {A : Option Addr} {x : S35} {l : List S35} (hC : Kd.C k35 w0 A (x :: l).length (x :: l)) (hB : Below w0.heap.size w0 W) :
  ∃ ad A2 c2, A = some ad ∧ W.cell? ad = some (.int .i64 x.f0) ∧ W.cell? ⟨ad.block, ad.off + 1, none⟩ = some (.string x.f1) ∧ W.cell? ⟨ad.block, ad.off + 2, none⟩ = some (.slice A2 x.f2.length c2) ∧ x.f2.length ≤ c2 ∧ Kd.C k35 w0 A2 x.f2.length x.f2 := by
 obtain ⟨ad, A2, c2, e, h0, h1, h2, h3, h4⟩ := arg_at hC hB 0 (by simp)
 rw [Nat.zero_mul, Addr.add_zero'] at h0 h1 h2
 exact ⟨ad, A2, c2, e, h0, h1, h2, h3, h4⟩
theorem arg1_at {w0 W : World} {ad : Addr} {x y : S35} {l : List S35} (hC : Kd.C k35 w0 (some ad) (x :: y :: l).length (x :: y :: l)) (hB : Below w0.heap.size w0 W) :
  ∃ A2 c2, W.cell? ⟨ad.block, ad.off + 3, none⟩ = some (.int .i64 y.f0) ∧ W.cell? ⟨ad.block, ad.off + 3 + 1, none⟩ = some (.string y.f1) ∧ W.cell? ⟨ad.block, ad.off + 3 + 2, none⟩ = some (.slice A2 y.f2.length c2) ∧ y.f2.length ≤ c2 ∧ Kd.C k35 w0 A2 y.f2.length y.f2 := by
 obtain ⟨ad', A2, c2, e, h0, h1, h2, h3, h4⟩ := arg_at hC hB 1 (by simp)
 obtain rfl : ad = ad' := by injection e
 have e3 : ad.add (1 * 3) = ⟨ad.block, ad.off + 3, none⟩ := by simp [Addr.add]
 rw [e3] at h0 h1 h2
 exact ⟨A2, c2, h0, h1, h2, h3, h4⟩
def MC (w0 : World) (g b : Nat) (s : ByteArray) (n z : Nat) (T : Nat → Nat → Nat → Bool) (t : Rx) (k : Int) (bs : ByteArray) (A : Option Addr) (q c : Nat) (id len : Nat) : Prop :=
 ∀ (i j : Nat) (ids iv jv : Int) (m : List Int) (W : World), ids = (id : Int) → iv = (i : Int) → jv = (j : Int) → i ≤ j → j < n → j - i < len → m.length = z * n * n → MSt g b s n m W → Gd n T m (RgM id t.size (j - i)) → Below w0.heap.size w0 W →
  Calls Try.prog 86 #[.pointer (some ⟨g, 0, none⟩), .agg #[.int .i64 k, .string bs, .slice A q c], .int .i64 ids, .int .i64 iv, .int .i64 jv] W (MPost w0 W g b s n T m (RgM id t.size (j - i)) (mt s t i j))
section
variable (w0 : World) (g b : Nat) (hgb : g ≠ b) (hg : w0.heap.size ≤ g) (hb : w0.heap.size ≤ b) (s : ByteArray) (n : Nat) (hn : n ≤ 401) (hsn : s.size + 1 = n) (z : Nat) (hz : z ≤ 16) (T : Nat → Nat → Nat → Bool)
 (bs : ByteArray) (A : Option Addr) (c id i j : Nat) (hij : i ≤ j) (hj : j < n) (m : List Int) (W : World) (hl : m.length = z * n * n) (hM : MSt g b s n m W) (hB : Below w0.heap.size w0 W)
include hgb hg hb hn hsn hz hij hj hl hM hB
set_option maxHeartbeats 4000000 in
theorem find_leaf (k : Int) (r : Bool) (hk : (k = 1 ∧ r = false) ∨ (k = 2 ∧ r = (i == j)) ∨ (k = 4 ∧ r = (j == i + 1)) ∨ (k = 3 ∧ r = ((s.extract i j).toList == bs.toList))) (sz : Nat) (hG : Gd n T m (RgF id sz (j - i))) :
  Calls Try.prog 94 #[.pointer (some ⟨g, 0, none⟩), .agg #[.int .i64 k, .string bs, .slice A 0 c], .int .i64 (id : Int), .int .i64 (i : Int), .int .i64 (j : Int)] W (MPost w0 W g b s n T m (RgF id sz (j - i)) r) := by
 have HM := Aside0.mk hM
 have HB := Aside0.mk hB
 have HG := Aside0.mk hG
 clear hM hB hG hl
 have e1 : ((i : Int) == (j : Int)) = (i == j) := by rw [Bool.eq_iff_iff]; simp; omega
 have e2 : ((j : Int) - (i : Int) == 1) = (j == i + 1) := by rw [Bool.eq_iff_iff]; simp; omega
 rcases hk with ⟨rfl, rfl⟩ | ⟨rfl, rfl⟩ | ⟨rfl, rfl⟩ | ⟨rfl, rfl⟩
 ·go_enter Try.func94, Try.ntmps94
  go_wp2_with ((with_reducible refine gate_dst (N := 6) rfl ?_); refine box_event ?hg (N := 6) ?hd (cs := #[.int .i64 1, .string bs, .slice A 0 c]) (t := 35) ?hr ?_; (case hd => rfl); (case hg => rfl); (case hr => first | (go_simp; done) | (go_simp; rfl)); intro gx hgx w3 hbox hb3; have M3 := Aside0.mk (HM.out.below hb3); have K3 := Aside0.mk (KeepBut.of_below hb3 b none); have B3 := Aside0.mk (below_step HB.out hb3 : Below w0.heap.size w0 w3); have X3 := Aside0.mk hbox; have G3 := Aside0.mk (show W.heap.size ≤ gx by omega); have N3 := Aside0.mk (show b < W.heap.size from blk_lt HM.out.hb); clear hb3 hbox hgx; obtain ⟨y0, y1, y2, g0, g1, g2⟩ := blk3 X3.out; obtain ⟨z0, z1, z2, f0, f1, f2⟩ := blk3 M3.out.hm)
  repeat (go_quiet (fail); try go_wp2)
  go_ret
  exact ⟨by first | rfl | (rw [e1]; done) | (rw [e2]; done) | (simp; done), m, rfl, ⟨M3.out.hm, M3.out.hb⟩, HG.out, Sm3.refl _ _ _, ⟨K3.out.1, K3.out.2⟩, by repeat (first | exact B3.out | apply pw_below_drewN)⟩
 ·go_enter Try.func94, Try.ntmps94
  go_wp2_with ((with_reducible refine gate_dst (N := 6) rfl ?_); refine box_event ?hg (N := 6) ?hd (cs := #[.int .i64 2, .string bs, .slice A 0 c]) (t := 35) ?hr ?_; (case hd => rfl); (case hg => rfl); (case hr => first | (go_simp; done) | (go_simp; rfl)); intro gx hgx w3 hbox hb3; have M3 := Aside0.mk (HM.out.below hb3); have K3 := Aside0.mk (KeepBut.of_below hb3 b none); have B3 := Aside0.mk (below_step HB.out hb3 : Below w0.heap.size w0 w3); have X3 := Aside0.mk hbox; have G3 := Aside0.mk (show W.heap.size ≤ gx by omega); have N3 := Aside0.mk (show b < W.heap.size from blk_lt HM.out.hb); clear hb3 hbox hgx; obtain ⟨y0, y1, y2, g0, g1, g2⟩ := blk3 X3.out; obtain ⟨z0, z1, z2, f0, f1, f2⟩ := blk3 M3.out.hm)
  repeat (go_quiet (fail); try go_wp2)
  go_ret
  exact ⟨by first | rfl | (rw [e1]; done) | (rw [e2]; done) | (simp; done), m, rfl, ⟨M3.out.hm, M3.out.hb⟩, HG.out, Sm3.refl _ _ _, ⟨K3.out.1, K3.out.2⟩, by repeat (first | exact B3.out | apply pw_below_drewN)⟩
 ·go_enter Try.func94, Try.ntmps94
  go_wp2_with ((with_reducible refine gate_dst (N := 6) rfl ?_); refine box_event ?hg (N := 6) ?hd (cs := #[.int .i64 4, .string bs, .slice A 0 c]) (t := 35) ?hr ?_; (case hd => rfl); (case hg => rfl); (case hr => first | (go_simp; done) | (go_simp; rfl)); intro gx hgx w3 hbox hb3; have M3 := Aside0.mk (HM.out.below hb3); have K3 := Aside0.mk (KeepBut.of_below hb3 b none); have B3 := Aside0.mk (below_step HB.out hb3 : Below w0.heap.size w0 w3); have X3 := Aside0.mk hbox; have G3 := Aside0.mk (show W.heap.size ≤ gx by omega); have N3 := Aside0.mk (show b < W.heap.size from blk_lt HM.out.hb); clear hb3 hbox hgx; obtain ⟨y0, y1, y2, g0, g1, g2⟩ := blk3 X3.out; obtain ⟨z0, z1, z2, f0, f1, f2⟩ := blk3 M3.out.hm)
  repeat (go_quiet (fail); try go_wp2)
  go_ret
  exact ⟨by first | rfl | (rw [e1]; done) | (rw [e2]; done) | (simp; done), m, rfl, ⟨M3.out.hm, M3.out.hb⟩, HG.out, Sm3.refl _ _ _, ⟨K3.out.1, K3.out.2⟩, by repeat (first | exact B3.out | apply pw_below_drewN)⟩
 ·have hjs := eq_true (show j ≤ s.size by omega)
  have hij2 := eq_true hij
  clear hij hj
  go_enter Try.func94, Try.ntmps94
  go_wp2_with ((with_reducible refine gate_dst (N := 6) rfl ?_); refine box_event ?hg (N := 6) ?hd (cs := #[.int .i64 3, .string bs, .slice A 0 c]) (t := 35) ?hr ?_; (case hd => rfl); (case hg => rfl); (case hr => first | (go_simp; done) | (go_simp; rfl)); intro gx hgx w3 hbox hb3; have M3 := Aside0.mk (HM.out.below hb3); have K3 := Aside0.mk (KeepBut.of_below hb3 b none); have B3 := Aside0.mk (below_step HB.out hb3 : Below w0.heap.size w0 w3); have X3 := Aside0.mk hbox; have G3 := Aside0.mk (show W.heap.size ≤ gx by omega); have N3 := Aside0.mk (show b < W.heap.size from blk_lt HM.out.hb); clear hb3 hbox hgx; obtain ⟨y0, y1, y2, g0, g1, g2⟩ := blk3 X3.out; obtain ⟨z0, z1, z2, f0, f1, f2⟩ := blk3 M3.out.hm)
  repeat (go_quiet (fail); try go_wp2)
  go_ret
  exact ⟨by first | rfl | (rw [e1]; done) | (rw [e2]; done) | (simp; done), m, rfl, ⟨M3.out.hm, M3.out.hb⟩, HG.out, Sm3.refl _ _ _, ⟨K3.out.1, K3.out.2⟩, by repeat (first | exact B3.out | apply pw_below_drewN)⟩
end
end Go.Proofs.Ytffjfdoghofkdaa.Ext
namespace Go.Proofs.Ytffjfdoghofkdaa.Ext
open Go Go.RowKit Go.Proofs.YtffjfdoghofkdaaW.PrintWords Go.Proofs.YtffjfdoghofkdaaW.PrintLast
structure Nd where
 k : Int
 l : ByteArray
 sv : Value
 ars : List Int
 aA : Option Addr
 ac : Nat
 tb : Nat
 tc : Nat
 rows : List Nat
def Nd.av (x : Nd) : Value := .slice x.aA x.ars.length x.ac
def Nd.mv (L : Nat) (x : Nd) : Value := .slice (some ⟨x.tb, 0, none⟩) L x.tc
def Nd.cells (x : Nd) : List Value := [.int .i64 x.k, .string x.l, x.sv]
def Nd.blks (x : Nd) : List Nat := x.av.ownBlock.toList ++ (x.tb :: x.rows)
structure NOk (W : World) (base L : Nat) (x : Nd) : Prop where
 a : W.ownsRow base 3 1 x.av x.ars.length (nums .i64 x.ars)
 t : W.ownsRow base 25 1 (x.mv L) L (x.rows.map fun b => .slice (some ⟨b, 0, none⟩) L L)
 len : x.rows.length = L
 r : ∀ b ∈ x.rows, base ≤ b ∧ W.heap[b]? = some (.cells (nums .i64 (List.replicate L 0)).toArray 3 (0, 0))
theorem NOk.lt {W : World} {base L : Nat} {x : Nd} (h : NOk W base L x) : ∀ b ∈ x.blks, b < W.heap.size := by
 intro b hb
 simp only [Nd.blks, List.mem_append, List.mem_cons, Option.mem_toList] at hb
 rcases hb with hb | rfl | hb
 ·exact (h.a.lt b hb).2
 ·exact (h.t.lt _ rfl).2
 ·exact blk_lt (h.r b hb).2
theorem NOk.move {W W' : World} {base L : Nat} {x : Nd} (h : NOk W base L x) (hm : ∀ b ∈ x.blks, W'.heap[b]? = W.heap[b]?) : NOk W' base L x := by
 refine ⟨own_move h.a fun k hk => hm k ?_, own_move h.t fun k hk => hm k ?_, h.len, fun b hb => ⟨(h.r b hb).1, (hm b ?_).trans (h.r b hb).2⟩⟩
 ·simp only [Nd.blks, List.mem_append, Option.mem_toList]; exact .inl hk
 ·have : x.tb = k := by simpa [Nd.mv, Value.ownBlock] using hk
  subst this
  simp [Nd.blks]
 ·simp [Nd.blks, hb]
def Apt (g : Nat) (vn va vm : Value) (b : Nat) : Prop := b ≠ g ∧ vn.ownBlock ≠ some b ∧ va.ownBlock ≠ some b ∧ vm.ownBlock ≠ some b
structure P3 (W : World) (base g : Nat) (s : ByteArray) (L : Nat) (nl al ml nodes : List Nd) (vn va vm : Value) : Prop where
 z : W.heap[g]? = some (.cells #[.string s, vn, va, vm] 95 (0, 0))
 n : W.ownsRow base 35 3 vn nl.length (nl.flatMap Nd.cells)
 a : W.ownsRow base 25 1 va al.length (al.map Nd.av)
 m : W.ownsRow base 92 1 vm ml.length (ml.map (Nd.mv L))
 ok : ∀ x ∈ nodes, NOk W base L x
 nd : (nodes.flatMap Nd.blks).Nodup
 sep : ∀ b ∈ nodes.flatMap Nd.blks, Apt g vn va vm b
theorem P3.lt {W : World} {base g : Nat} {s : ByteArray} {L : Nat} {nl al ml nodes : List Nd} {vn va vm : Value} (h : P3 W base g s L nl al ml nodes vn va vm) : ∀ b ∈ nodes.flatMap Nd.blks, b < W.heap.size := by
 intro b hb
 obtain ⟨x, hx, hb⟩ := List.mem_flatMap.1 hb
 exact (h.ok x hx).lt b hb
structure Step (g : Nat) (W : World) (vn va vm : Value) (W' : World) (vn' va' vm' : Value) : Prop where
 sz : W.heap.size ≤ W'.heap.size
 fr : ∀ k, k < W.heap.size → Apt g vn va vm k → W'.heap[k]? = W.heap[k]?
 n : ∀ k, vn'.ownBlock = some k → vn.ownBlock = some k ∨ W.heap.size ≤ k
 a : ∀ k, va'.ownBlock = some k → va.ownBlock = some k ∨ W.heap.size ≤ k
 m : ∀ k, vm'.ownBlock = some k → vm.ownBlock = some k ∨ W.heap.size ≤ k
section
variable {g : Nat} {W W' W2 : World} {vn va vm vn' va' vm' vn2 va2 vm2 : Value}
theorem Step.refl (g : Nat) (W : World) (vn va vm : Value) : Step g W vn va vm W vn va vm := ⟨Nat.le_refl _, fun _ _ _ => rfl, fun _ h => .inl h, fun _ h => .inl h, fun _ h => .inl h⟩
theorem Step.apt (h : Step g W vn va vm W' vn' va' vm') {k : Nat} (hk : k < W.heap.size) (ha : Apt g vn va vm k) : Apt g vn' va' vm' k :=
 ⟨ha.1, fun e => by rcases h.n k e with h | h; exact ha.2.1 h; omega, fun e => by rcases h.a k e with h | h; exact ha.2.2.1 h; omega, fun e => by rcases h.m k e with h | h; exact ha.2.2.2 h; omega⟩
theorem Step.trans (h : Step g W vn va vm W' vn' va' vm') (h' : Step g W' vn' va' vm' W2 vn2 va2 vm2) : Step g W vn va vm W2 vn2 va2 vm2 := by
 refine ⟨Nat.le_trans h.sz h'.sz, fun k hk ha => (h'.fr k (Nat.lt_of_lt_of_le hk h.sz) (h.apt hk ha)).trans (h.fr k hk ha), fun k e => ?_, fun k e => ?_, fun k e => ?_⟩
 ·rcases h'.n k e with h1 | h1
  ·exact h.n k h1
  ·exact .inr (Nat.le_trans h.sz h1)
 ·rcases h'.a k e with h1 | h1
  ·exact h.a k h1
  ·exact .inr (Nat.le_trans h.sz h1)
 ·rcases h'.m k e with h1 | h1
  ·exact h.m k h1
  ·exact .inr (Nat.le_trans h.sz h1)
theorem Step.below (hb : Below W.heap.size W W') : Step g W vn va vm W' vn va vm := ⟨hb.size, fun k hk _ => hb.block k hk, fun _ h => .inl h, fun _ h => .inl h, fun _ h => .inl h⟩
theorem Step.row {v : Value} (hg : W.grownBy W' v.ownBlock) (hv : ∀ k, v.ownBlock = some k → W2.heap.size ≤ k) (h : Step g W2 vn va vm W vn' va' vm') : Step g W2 vn va vm W' vn' va' vm' :=
 ⟨Nat.le_trans h.sz hg.size, fun k hk ha => (hg.block k (Nat.lt_of_lt_of_le hk h.sz) (fun e => by have := hv k e.symm; omega)).trans (h.fr k hk ha), h.n, h.a, h.m⟩
theorem P3.move {base : Nat} {s : ByteArray} {L : Nat} {nl al ml nodes : List Nd} (h : P3 W base g s L nl al ml nodes vn va vm) (hg : W'.heap[g]? = W.heap[g]?) (hn : ∀ k, vn.ownBlock = some k → W'.heap[k]? = W.heap[k]?) (ha : ∀ k, va.ownBlock = some k → W'.heap[k]? = W.heap[k]?) (hm : ∀ k, vm.ownBlock = some k → W'.heap[k]? = W.heap[k]?)
  (hb : ∀ b ∈ nodes.flatMap Nd.blks, W'.heap[b]? = W.heap[b]?) : P3 W' base g s L nl al ml nodes vn va vm :=
 ⟨hg.trans h.z, own_move h.n hn, own_move h.a ha, own_move h.m hm, fun x hx => (h.ok x hx).move fun b hb' => hb b (List.mem_flatMap.2 ⟨x, hx, hb'⟩), h.nd, h.sep⟩
theorem P3.below {base : Nat} {s : ByteArray} {L : Nat} {nl al ml nodes : List Nd} (h : P3 W base g s L nl al ml nodes vn va vm) (hb : Below W.heap.size W W') : P3 W' base g s L nl al ml nodes vn va vm :=
 h.move (hb.block _ (blk_lt h.z)) (fun k e => hb.block k (h.n.lt k e).2) (fun k e => hb.block k (h.a.lt k e).2) (fun k e => hb.block k (h.m.lt k e).2) (fun b e => hb.block b (h.lt b e))
theorem P3.row {base : Nat} {s : ByteArray} {L : Nat} {nl al ml nodes : List Nd} {v : Value} (h : P3 W base g s L nl al ml nodes vn va vm) (hg : W.grownBy W' v.ownBlock) (hv : ∀ k, v.ownBlock = some k → Apt g vn va vm k ∧ k ∉ nodes.flatMap Nd.blks) : P3 W' base g s L nl al ml nodes vn va vm :=
 h.move (hg.block _ (blk_lt h.z) (fun e => (hv g e.symm).1.1 rfl)) (fun k e => hg.block k (h.n.lt k e).2 (fun e' => (hv k e'.symm).1.2.1 e)) (fun k e => hg.block k (h.a.lt k e).2 (fun e' => (hv k e'.symm).1.2.2.1 e)) (fun k e => hg.block k (h.m.lt k e).2 (fun e' => (hv k e'.symm).1.2.2.2 e)) (fun b e => hg.block b (h.lt b e) (fun e' => (hv b e'.symm).2 e))
theorem P3.add {base : Nat} {s : ByteArray} {L : Nat} {nl al ml nodes : List Nd} (h : P3 W base g s L nl al ml nodes vn va vm) (x : Nd) (hx : NOk W base L x) (hnd : x.blks.Nodup) (hdis : ∀ b ∈ x.blks, b ∉ nodes.flatMap Nd.blks) (hsep : ∀ b ∈ x.blks, Apt g vn va vm b) : P3 W base g s L nl al ml (nodes ++ [x]) vn va vm := by
 refine ⟨h.z, h.n, h.a, h.m, fun y hy => ?_, ?_, fun b hb => ?_⟩
 ·rcases List.mem_append.1 hy with hy | hy
  ·exact h.ok y hy
  ·rw [List.mem_singleton.1 hy]; exact hx
 ·rw [List.flatMap_append, List.nodup_append]
  refine ⟨h.nd, by simpa using hnd, fun b hb c hc e => ?_⟩
  subst e
  exact hdis b (by simpa using hc) hb
 ·rw [List.flatMap_append] at hb
  rcases List.mem_append.1 hb with hb | hb
  ·exact h.sep b hb
  ·exact hsep b (by simpa using hb)
theorem ne_of_own {v v' : Value} (h : v.ownBlock = none ∨ v.ownBlock ≠ v'.ownBlock) {k : Nat} (hk : v.ownBlock = some k) : v'.ownBlock ≠ some k := by
 rcases h with h | h
 ·rw [h] at hk; cases hk
 ·rw [hk] at h; exact fun e => h e.symm
theorem P3.grow_n {base : Nat} {s : ByteArray} {L : Nat} {nl al ml nodes : List Nd} (h : P3 W base g s L nl al ml nodes vn va vm) (x : Nd) (hown : W'.ownsRow base 35 3 vn' (nl.length + 1) (nl.flatMap Nd.cells ++ x.cells)) (hg : W.grownBy W' vn.ownBlock) (hat : vn'.ownBlock = vn.ownBlock ∨ ∃ b, vn'.ownBlock = some b ∧ W.heap.size ≤ b) :
  P3 (W'.setCell ⟨g, 1, none⟩ vn') base g s L (nl ++ [x]) al ml nodes vn' va vm ∧ Step g W vn va vm (W'.setCell ⟨g, 1, none⟩ vn') vn' va vm := by
 have hgn : some g ≠ vn.ownBlock := own_ne h.n h.z (by decide)
 have hz' : W'.heap[g]? = _ := (hg.block g (blk_lt h.z) hgn).trans h.z
 have hgn' : some g ≠ vn'.ownBlock := own_ne hown hz' (by decide)
 have ha : W'.ownsRow base 25 1 va al.length _ := h.a.kept hg (own_type_ne h.a h.n (by decide))
 have ha' : some g ≠ va.ownBlock := own_ne h.a h.z (by decide)
 have hm : W'.ownsRow base 92 1 vm ml.length _ := h.m.kept hg (own_type_ne h.m h.n (by decide))
 have hm' : some g ≠ vm.ownBlock := own_ne h.m h.z (by decide)
 have hsep : ∀ b, b < W.heap.size → Apt g vn va vm b → Apt g vn' va vm b := fun b hlt hb' => by
  refine ⟨hb'.1, ?_, hb'.2.2.1, hb'.2.2.2⟩
  intro e
  rcases hat with h1 | ⟨b1, h1, h2⟩
  ·exact hb'.2.1 (h1.symm.trans e)
  ·rw [h1] at e; injection e with e; omega
 refine ⟨⟨blk_put hz' 1 _ (by simp), (by simpa [List.flatMap_append] using own_setCell hown hgn' vn'), own_setCell ha ha' _, own_setCell hm hm' _, fun y hy => (h.ok y hy).move fun b hb => ?_, h.nd, fun b hb => hsep b (h.lt b hb) (h.sep b hb)⟩, ⟨by simpa using hg.size, fun k hk ha' => ?_, fun k e => ?_, fun k e => .inl e, fun k e => .inl e⟩⟩
 ·have hb2 := List.mem_flatMap.2 ⟨y, hy, hb⟩
  have hb' := h.sep b hb2
  exact (Below.heap_setCell W' _ _ b hb'.1).trans (hg.block b (h.lt b hb2) (fun e => hb'.2.1 e.symm))
 ·have hb' := ha'
  exact (Below.heap_setCell W' _ _ k hb'.1).trans (hg.block k hk (fun e => hb'.2.1 e.symm))
 ·rcases hat with h1 | ⟨b1, h1, h2⟩
  ·exact .inl (h1.symm.trans e)
  ·rw [h1] at e; injection e with e; exact .inr (by omega)
theorem P3.grow_a {base : Nat} {s : ByteArray} {L : Nat} {nl al ml nodes : List Nd} (h : P3 W base g s L nl al ml nodes vn va vm) (x : Nd) (hown : W'.ownsRow base 25 1 va' (al.length + 1) (al.map Nd.av ++ [x.av])) (hg : W.grownBy W' va.ownBlock) (hat : va'.ownBlock = va.ownBlock ∨ ∃ b, va'.ownBlock = some b ∧ W.heap.size ≤ b) :
  P3 (W'.setCell ⟨g, 2, none⟩ va') base g s L nl (al ++ [x]) ml nodes vn va' vm ∧ Step g W vn va vm (W'.setCell ⟨g, 2, none⟩ va') vn va' vm := by
 have hgn : some g ≠ va.ownBlock := own_ne h.a h.z (by decide)
 have hz' : W'.heap[g]? = _ := (hg.block g (blk_lt h.z) hgn).trans h.z
 have hgn' : some g ≠ va'.ownBlock := own_ne hown hz' (by decide)
 have hn : W'.ownsRow base 35 3 vn nl.length _ := h.n.kept hg (own_type_ne h.n h.a (by decide))
 have hn' : some g ≠ vn.ownBlock := own_ne h.n h.z (by decide)
 have hm : W'.ownsRow base 92 1 vm ml.length _ := h.m.kept hg (own_type_ne h.m h.a (by decide))
 have hm' : some g ≠ vm.ownBlock := own_ne h.m h.z (by decide)
 have hsep : ∀ b, b < W.heap.size → Apt g vn va vm b → Apt g vn va' vm b := fun b hlt hb' => by
  refine ⟨hb'.1, hb'.2.1, ?_, hb'.2.2.2⟩
  intro e
  rcases hat with h1 | ⟨b1, h1, h2⟩
  ·exact hb'.2.2.1 (h1.symm.trans e)
  ·rw [h1] at e; injection e with e; omega
 refine ⟨⟨blk_put hz' 2 _ (by simp), own_setCell hn hn' _, (by simpa [List.map_append] using own_setCell hown hgn' va'), own_setCell hm hm' _, fun y hy => (h.ok y hy).move fun b hb => ?_, h.nd, fun b hb => hsep b (h.lt b hb) (h.sep b hb)⟩, ⟨by simpa using hg.size, fun k hk ha' => ?_, fun k e => .inl e, fun k e => ?_, fun k e => .inl e⟩⟩
 ·have hb2 := List.mem_flatMap.2 ⟨y, hy, hb⟩
  have hb' := h.sep b hb2
  exact (Below.heap_setCell W' _ _ b hb'.1).trans (hg.block b (h.lt b hb2) (fun e => hb'.2.2.1 e.symm))
 ·have hb' := ha'
  exact (Below.heap_setCell W' _ _ k hb'.1).trans (hg.block k hk (fun e => hb'.2.2.1 e.symm))
 ·rcases hat with h1 | ⟨b1, h1, h2⟩
  ·exact .inl (h1.symm.trans e)
  ·rw [h1] at e; injection e with e; exact .inr (by omega)
theorem P3.grow_m {base : Nat} {s : ByteArray} {L : Nat} {nl al ml nodes : List Nd} (h : P3 W base g s L nl al ml nodes vn va vm) (x : Nd) (hown : W'.ownsRow base 92 1 vm' (ml.length + 1) (ml.map (Nd.mv L) ++ [x.mv L])) (hg : W.grownBy W' vm.ownBlock) (hat : vm'.ownBlock = vm.ownBlock ∨ ∃ b, vm'.ownBlock = some b ∧ W.heap.size ≤ b) :
  P3 (W'.setCell ⟨g, 3, none⟩ vm') base g s L nl al (ml ++ [x]) nodes vn va vm' ∧ Step g W vn va vm (W'.setCell ⟨g, 3, none⟩ vm') vn va vm' := by
 have hgn : some g ≠ vm.ownBlock := own_ne h.m h.z (by decide)
 have hz' : W'.heap[g]? = _ := (hg.block g (blk_lt h.z) hgn).trans h.z
 have hgn' : some g ≠ vm'.ownBlock := own_ne hown hz' (by decide)
 have hn : W'.ownsRow base 35 3 vn nl.length _ := h.n.kept hg (own_type_ne h.n h.m (by decide))
 have hn' : some g ≠ vn.ownBlock := own_ne h.n h.z (by decide)
 have ha : W'.ownsRow base 25 1 va al.length _ := h.a.kept hg (own_type_ne h.a h.m (by decide))
 have ha' : some g ≠ va.ownBlock := own_ne h.a h.z (by decide)
 have hsep : ∀ b, b < W.heap.size → Apt g vn va vm b → Apt g vn va vm' b := fun b hlt hb' => by
  refine ⟨hb'.1, hb'.2.1, hb'.2.2.1, ?_⟩
  intro e
  rcases hat with h1 | ⟨b1, h1, h2⟩
  ·exact hb'.2.2.2 (h1.symm.trans e)
  ·rw [h1] at e; injection e with e; omega
 refine ⟨⟨blk_put hz' 3 _ (by simp), own_setCell hn hn' _, own_setCell ha ha' _, (by simpa [List.map_append] using own_setCell hown hgn' vm'), fun y hy => (h.ok y hy).move fun b hb => ?_, h.nd, fun b hb => hsep b (h.lt b hb) (h.sep b hb)⟩, ⟨by simpa using hg.size, fun k hk ha' => ?_, fun k e => .inl e, fun k e => .inl e, fun k e => ?_⟩⟩
 ·have hb2 := List.mem_flatMap.2 ⟨y, hy, hb⟩
  have hb' := h.sep b hb2
  exact (Below.heap_setCell W' _ _ b hb'.1).trans (hg.block b (h.lt b hb2) (fun e => hb'.2.2.2 e.symm))
 ·have hb' := ha'
  exact (Below.heap_setCell W' _ _ k hb'.1).trans (hg.block k hk (fun e => hb'.2.2.2 e.symm))
 ·rcases hat with h1 | ⟨b1, h1, h2⟩
  ·exact .inl (h1.symm.trans e)
  ·rw [h1] at e; injection e with e; exact .inr (by omega)
end
end Go.Proofs.Ytffjfdoghofkdaa.Ext
