/- FnExactEqualMonoid: what its proof needs, put together by this session's program wip/merge.py out of the texts that wip/xp.py printed and of this session's own. -/
import Derived.Test.YtkefiajemifklaaQFnExactEqualMonoid0
import Derived.Test.YtkefiajemifklaaWMore
import Derived.ChangeArms
import Derived.ChangeReads
import Derived.DataReads
import Derived.DataElems
import Derived.Test.YtkefiajemifklaaRows
import Derived.WalkKit
import Derived.ProofKit
import Derived.OpenShut
import Derived.ShutString
import Derived.ChangeOld
import Derived.Below
import Derived.SizedLaws
import Derived.Lib.SmallJoins
namespace Go.Proofs.Ytkefiajemifklaa.A
open Go.RowKit Go.Proofs.Ytkefiajemifklaa.Ext Go.Proofs.YtkefiajemifklaaW.PrintWords Go.Proofs.YtkefiajemifklaaW.PrintLast Go.Proofs.YtkefiajemifklaaW.PrintMore
attribute [local go_sem] max2_int min2_int max_two min_two max_three min_three max_four min_four   -- for this text's walks alone
set_option linter.unusedVariables false
set_option linter.unusedSimpArgs false

/-! ### laws_FnExactEqualMonoid: function 8 -/
def laws_FnExactEqualMonoid.f (k : Nat) (l0_0 : List (List Int)) (l0_1 : List Int) (l0_2 : List (List Int)) (l1_0 : List (List Int)) (l1_1 : List Int) (l1_2 : List (List Int)) : Option (Bool) := (laws_szMonoid.f k l0_0 l0_1 l0_2 1048576).bind fun t8003 => (if t8003 < 0 then (some true) else ((laws_szMonoid.f k l1_0 l1_1 l1_2 t8003).bind fun t8004 => (if t8004 < 0 then (some true) else ((laws_toMonoid.f k l0_0 l0_1 l0_2).bind fun bt8005 => ((laws_toMonoid.f k l1_0 l1_1 l1_2).bind fun bt8014 => ((spec_EqualMonoid.f k bt8005.1 bt8005.2.1 bt8005.2.2 bt8014.1 bt8014.2.1 bt8014.2.2).bind fun t8023 => ((laws_toMonoid.f k l0_0 l0_1 l0_2).bind fun bt8024 => ((laws_toMonoid.f k l1_0 l1_1 l1_2).bind fun bt8034 => ((impl_EqualMonoid.f k bt8024.1 bt8024.2.1 bt8024.2.2 bt8034.1 bt8034.2.1 bt8034.2.2).bind fun t8044 => (if (t8044 != t8023) = true then (some false) else ((laws_toMonoid.f k l0_0 l0_1 l0_2).bind fun bt8045 => ((laws_eqMonoid.f k bt8024.1 bt8024.2.1 bt8024.2.2 bt8045.1 bt8045.2.1 bt8045.2.2).bind fun t8054 => (if t8054 = true then ((laws_toMonoid.f k l1_0 l1_1 l1_2).bind fun bt8055 => ((laws_eqMonoid.f k bt8034.1 bt8034.2.1 bt8034.2.2 bt8055.1 bt8055.2.1 bt8055.2.2).bind fun t8064 => (if t8064 = true then (some true) else (some false)))) else (some false))))))))))))))
theorem laws_FnExactEqualMonoid.mono : ∀ a0 a1 a2 a3 a4 a5 k, LeO (laws_FnExactEqualMonoid.f k a0 a1 a2 a3 a4 a5) (laws_FnExactEqualMonoid.f (k + 1) a0 a1 a2 a3 a4 a5) := by
  intro a0 a1 a2 a3 a4 a5 k
  unfold laws_FnExactEqualMonoid.f
  repeat' first
      | (with_reducible exact impl_EqualMonoid.mono _ _ _ _ _ _ _)
      | (with_reducible exact laws_eqMonoid.mono _ _ _ _ _ _ _)
      | (with_reducible exact laws_szMonoid.mono _ _ _ _ _)
      | (with_reducible exact laws_toMonoid.mono _ _ _ _)
      | (with_reducible exact spec_EqualMonoid.mono _ _ _ _ _ _ _)
      | (with_reducible exact LeO.refl _)
      | (with_reducible exact LeO.none _)
      | (with_reducible refine LeO.ite ?_ ?_)
      | (with_reducible refine LeO.bind ?_ (fun _ => ?_))
      | exact impl_EqualMonoid.mono _ _ _ _ _ _ _
      | exact laws_eqMonoid.mono _ _ _ _ _ _ _
      | exact laws_szMonoid.mono _ _ _ _ _
      | exact laws_toMonoid.mono _ _ _ _
      | exact spec_EqualMonoid.mono _ _ _ _ _ _ _
      | exact LeO.none _
      | refine LeO.ite ?_ ?_
      | refine LeO.bind ?_ (fun _ => ?_)
set_option maxHeartbeats 8000000 in
set_option maxRecDepth 100000 in
theorem laws_FnExactEqualMonoid.calls (k : Nat) (A0_0 : Option Addr) (c0_0 : Nat) (l0_0 : List (List Int)) (A0_1 : Option Addr) (c0_1 : Nat) (l0_1 : List Int) (A0_2 : Option Addr) (c0_2 : Nat) (l0_2 : List (List Int)) (A1_0 : Option Addr) (c1_0 : Nat) (l1_0 : List (List Int)) (A1_1 : Option Addr) (c1_1 : Nat) (l1_1 : List Int) (A1_2 : Option Addr) (c1_2 : Nat) (l1_2 : List (List Int)) (r : Bool) (w : World) (hr0_0 : Kd.C (Kd.slice 3 (Kd.int .i64)) w A0_0 l0_0.length l0_0) (hc0_0 : l0_0.length ≤ c0_0) (hr0_1 : Kd.C (Kd.int .i64) w A0_1 l0_1.length l0_1) (hc0_1 : l0_1.length ≤ c0_1) (hr0_2 : Kd.C (Kd.slice 3 (Kd.int .i64)) w A0_2 l0_2.length l0_2) (hc0_2 : l0_2.length ≤ c0_2) (hr1_0 : Kd.C (Kd.slice 3 (Kd.int .i64)) w A1_0 l1_0.length l1_0) (hc1_0 : l1_0.length ≤ c1_0) (hr1_1 : Kd.C (Kd.int .i64) w A1_1 l1_1.length l1_1) (hc1_1 : l1_1.length ≤ c1_1) (hr1_2 : Kd.C (Kd.slice 3 (Kd.int .i64)) w A1_2 l1_2.length l1_2) (hc1_2 : l1_2.length ≤ c1_2) (h : laws_FnExactEqualMonoid.f k l0_0 l0_1 l0_2 l1_0 l1_1 l1_2 = some r) (hr_ : r = true) :
    Calls Try.prog 8 #[.agg #[.slice A0_0 l0_0.length c0_0, .slice A0_1 l0_1.length c0_1, .slice A0_2 l0_2.length c0_2], .agg #[.slice A1_0 l1_0.length c1_0, .slice A1_1 l1_1.length c1_1, .slice A1_2 l1_2.length c1_2]] w fun e w' => e = .returned (.bool r) ∧ Below w.heap.size w w' := by
  have HRT_ := Aside0.mk hr_
  clear hr_
  have hu76 := Try.underlying76
  have hu31 := Try.underlying31
  have HR0_0 := Aside0.mk hr0_0
  have HC0_0 := Aside0.mk hc0_0
  clear hr0_0 hc0_0
  have HR0_1 := Aside0.mk hr0_1
  have HC0_1 := Aside0.mk hc0_1
  clear hr0_1 hc0_1
  have HR0_2 := Aside0.mk hr0_2
  have HC0_2 := Aside0.mk hc0_2
  clear hr0_2 hc0_2
  have HR1_0 := Aside0.mk hr1_0
  have HC1_0 := Aside0.mk hc1_0
  clear hr1_0 hc1_0
  have HR1_1 := Aside0.mk hr1_1
  have HC1_1 := Aside0.mk hc1_1
  clear hr1_1 hc1_1
  have HR1_2 := Aside0.mk hr1_2
  have HC1_2 := Aside0.mk hc1_2
  clear hr1_2 hc1_2
  have HB := Aside0.mk (Below.refl w.heap.size w)
  have H : ((laws_szMonoid.f k l0_0 l0_1 l0_2 1048576).bind fun t8003 => (if t8003 < 0 then (some true) else ((laws_szMonoid.f k l1_0 l1_1 l1_2 t8003).bind fun t8004 => (if t8004 < 0 then (some true) else ((laws_toMonoid.f k l0_0 l0_1 l0_2).bind fun bt8005 => ((laws_toMonoid.f k l1_0 l1_1 l1_2).bind fun bt8014 => ((spec_EqualMonoid.f k bt8005.1 bt8005.2.1 bt8005.2.2 bt8014.1 bt8014.2.1 bt8014.2.2).bind fun t8023 => ((laws_toMonoid.f k l0_0 l0_1 l0_2).bind fun bt8024 => ((laws_toMonoid.f k l1_0 l1_1 l1_2).bind fun bt8034 => ((impl_EqualMonoid.f k bt8024.1 bt8024.2.1 bt8024.2.2 bt8034.1 bt8034.2.1 bt8034.2.2).bind fun t8044 => (if (t8044 != t8023) = true then (some false) else ((laws_toMonoid.f k l0_0 l0_1 l0_2).bind fun bt8045 => ((laws_eqMonoid.f k bt8024.1 bt8024.2.1 bt8024.2.2 bt8045.1 bt8045.2.1 bt8045.2.2).bind fun t8054 => (if t8054 = true then ((laws_toMonoid.f k l1_0 l1_1 l1_2).bind fun bt8055 => ((laws_eqMonoid.f k bt8034.1 bt8034.2.1 bt8034.2.2 bt8055.1 bt8055.2.1 bt8055.2.2).bind fun t8064 => (if t8064 = true then (some true) else (some false)))) else (some false))))))))))))))) = some r := h
  clear h
  replace H := Option.bind_eq_some_iff.mp H
  obtain ⟨t8003, A30, H⟩ := H
  replace H : (if t8003 < 0 then (some true) else ((laws_szMonoid.f k l1_0 l1_1 l1_2 t8003).bind fun t8004 => (if t8004 < 0 then (some true) else ((laws_toMonoid.f k l0_0 l0_1 l0_2).bind fun bt8005 => ((laws_toMonoid.f k l1_0 l1_1 l1_2).bind fun bt8014 => ((spec_EqualMonoid.f k bt8005.1 bt8005.2.1 bt8005.2.2 bt8014.1 bt8014.2.1 bt8014.2.2).bind fun t8023 => ((laws_toMonoid.f k l0_0 l0_1 l0_2).bind fun bt8024 => ((laws_toMonoid.f k l1_0 l1_1 l1_2).bind fun bt8034 => ((impl_EqualMonoid.f k bt8024.1 bt8024.2.1 bt8024.2.2 bt8034.1 bt8034.2.1 bt8034.2.2).bind fun t8044 => (if (t8044 != t8023) = true then (some false) else ((laws_toMonoid.f k l0_0 l0_1 l0_2).bind fun bt8045 => ((laws_eqMonoid.f k bt8024.1 bt8024.2.1 bt8024.2.2 bt8045.1 bt8045.2.1 bt8045.2.2).bind fun t8054 => (if t8054 = true then ((laws_toMonoid.f k l1_0 l1_1 l1_2).bind fun bt8055 => ((laws_eqMonoid.f k bt8034.1 bt8034.2.1 bt8034.2.2 bt8055.1 bt8055.2.1 bt8055.2.2).bind fun t8064 => (if t8064 = true then (some true) else (some false)))) else (some false)))))))))))))) = some r := H
  have A3 := Aside0.mk A30
  clear A30
  by_cases c4 : t8003 < 0
  · rw [if_pos c4] at H
    have c4b0 : decide (t8003 < 0) = true := decide_eq_true c4
    clear c4
    obtain rfl := Option.some.inj H
    go_enter Try.func8, Try.ntmps8
    go_wp2_with (first | ((with_reducible refine gate_dst (N := 2) rfl ?_); refine box_event ?hg (N := 2) ?hd (cs := #[.slice A0_0 l0_0.length c0_0, .slice A0_1 l0_1.length c0_1, .slice A0_2 l0_2.length c0_2]) (t := 76) ?hr ?_; (case hd => rfl); (case hg => rfl); (case hr => first | (go_simp; done) | (go_simp; rfl)); intro gb8001 hg w5 hbox hb; have n0_ := Aside0.mk (below_step (by repeat (first | (with_reducible first | exact HB.out | apply below_alloc | apply pw_below_drewN | apply below_drew1) | exact HB.out)) hb); have n1_ := Aside0.mk (hbox); have n2_ := Aside0.mk ((by rw [hg]; exact (below_size (by repeat (first | (with_reducible first | exact HB.out | apply below_alloc | apply pw_below_drewN | apply below_drew1) | exact HB.out))) : w.heap.size ≤ gb8001)); have n3_ := Aside0.mk ((by rw [hg]; exact (below_size (by repeat (first | (with_reducible first | exact HB.out | apply below_alloc | apply pw_below_drewN | apply below_drew1) | exact HB.out))) : w.heap.size ≤ gb8001)); clear HB; have HB := n0_; have BK8001 := n1_; have GW8001 := n2_; have GE8001 := n3_; clear n0_ n1_ n2_ n3_; clear hb hbox hg) | ((with_reducible refine gate_dst (N := 3) rfl ?_); refine box_event ?hg (N := 3) ?hd (cs := #[.slice A1_0 l1_0.length c1_0, .slice A1_1 l1_1.length c1_1, .slice A1_2 l1_2.length c1_2]) (t := 76) ?hr ?_; (case hd => rfl); (case hg => rfl); (case hr => first | (go_simp; done) | (go_simp; rfl)); intro gb8002 hg w6 hbox hb; have n0_ := Aside0.mk (blk_below (g := gb8001) (o := .cells #[.slice A0_0 l0_0.length c0_0, .slice A0_1 l0_1.length c0_1, .slice A0_2 l0_2.length c0_2] 76 (0, 0)) (by (with_reducible repeat (first | refine blk_drewN ?_ _ | refine blk_drew ?_ | refine blk_alloc ?_ _)); exact BK8001.out) hb); have n1_ := Aside0.mk (below_step (by repeat (first | (with_reducible first | exact HB.out | apply below_alloc | apply pw_below_drewN | apply below_drew1 | refine below_set ?_ GE8001.out) | exact HB.out)) hb); have n2_ := Aside0.mk (hbox); have n3_ := Aside0.mk ((by rw [hg]; exact (below_size (by repeat (first | (with_reducible first | exact HB.out | apply below_alloc | apply pw_below_drewN | apply below_drew1 | refine below_set ?_ GE8001.out) | exact HB.out))) : w.heap.size ≤ gb8002)); have n4_ := Aside0.mk ((by rw [hg]; exact (below_size (by repeat (first | (with_reducible first | exact HB.out | apply below_alloc | apply pw_below_drewN | apply below_drew1 | refine below_set ?_ GE8001.out) | exact HB.out))) : w.heap.size ≤ gb8002)); have n5_ := Aside0.mk ((by rw [hg]; exact Nat.ne_of_lt (blk_lt (g := gb8001) (o := .cells #[.slice A0_0 l0_0.length c0_0, .slice A0_1 l0_1.length c0_1, .slice A0_2 l0_2.length c0_2] 76 (0, 0)) (by (with_reducible repeat (first | refine blk_drewN ?_ _ | refine blk_drew ?_ | refine blk_alloc ?_ _)); exact BK8001.out)) : gb8001 ≠ gb8002)); have n6_ := Aside0.mk ((by rw [hg]; exact Nat.ne_of_gt (blk_lt (g := gb8001) (o := .cells #[.slice A0_0 l0_0.length c0_0, .slice A0_1 l0_1.length c0_1, .slice A0_2 l0_2.length c0_2] 76 (0, 0)) (by (with_reducible repeat (first | refine blk_drewN ?_ _ | refine blk_drew ?_ | refine blk_alloc ?_ _)); exact BK8001.out)) : gb8002 ≠ gb8001)); clear BK8001; clear HB; have BK8001 := n0_; have HB := n1_; have BK8002 := n2_; have GW8002 := n3_; have GE8002 := n4_; have NB8001_8002 := n5_; have NB8002_8001 := n6_; clear n0_ n1_ n2_ n3_ n4_ n5_ n6_; clear hb hbox hg; have hnb7 := NB8001_8002.out; have hnc7 := NB8002_8001.out; have hcz8_0 : w6.cell? ⟨gb8001, 0, none⟩ = some (.slice A0_0 l0_0.length c0_0) := (blk_cell BK8001.out 0).trans rfl; have hcz8_1 : w6.cell? ⟨gb8001, 1, none⟩ = some (.slice A0_1 l0_1.length c0_1) := (blk_cell BK8001.out 1).trans rfl; have hcz8_2 : w6.cell? ⟨gb8001, 2, none⟩ = some (.slice A0_2 l0_2.length c0_2) := (blk_cell BK8001.out 2).trans rfl; have hfz8_0 := blk_frozen BK8001.out 0; have hfz8_1 := blk_frozen BK8001.out 1; have hfz8_2 := blk_frozen BK8001.out 2) | ((with_reducible refine gate_callee (f := 47) rfl ?_); refine goesL_ (some 12) rfl rfl Try.func47 (by kernel_rfl) rfl #[.agg #[.slice A0_0 l0_0.length c0_0, .slice A0_1 l0_1.length c0_1, .slice A0_2 l0_2.length c0_2], .int .i64 1048576] rfl (by (try simp only [List.map_toArray, List.map_cons, List.map_nil]); first | done | rfl | (simp only [List.length_drop, List.length_take]; rfl)) ?_; (with_reducible refine (laws_szMonoid.calls k _ _ l0_0 _ _ l0_1 _ _ l0_2 1048576 t8003 _ ?side1 ?side2 ?side3 ?side4 ?side5 ?side6 A3.out).mono ?_); (case side1 => repeat (first | exact (Kd.C_below HR0_0.out HB.out) | (with_reducible refine Kd.C_alloc ?_ _) | (with_reducible refine Kd.C_drewN ?_ _) | (with_reducible refine Kd.C_drew ?_))); (case side2 => exact HC0_0.out); (case side3 => repeat (first | exact (Kd.C_below HR0_1.out HB.out) | (with_reducible refine Kd.C_alloc ?_ _) | (with_reducible refine Kd.C_drewN ?_ _) | (with_reducible refine Kd.C_drew ?_))); (case side4 => exact HC0_1.out); (case side5 => repeat (first | exact (Kd.C_below HR0_2.out HB.out) | (with_reducible refine Kd.C_alloc ?_ _) | (with_reducible refine Kd.C_drewN ?_ _) | (with_reducible refine Kd.C_drew ?_))); (case side6 => exact HC0_2.out); rintro e w9 ⟨rfl, hb⟩; refine ⟨_, rfl, ?_⟩; have n0_ := Aside0.mk (blk_below (g := gb8001) (o := .cells #[.slice A0_0 l0_0.length c0_0, .slice A0_1 l0_1.length c0_1, .slice A0_2 l0_2.length c0_2] 76 (0, 0)) (by (with_reducible repeat (first | refine blk_drewN ?_ _ | refine blk_drew ?_ | refine blk_alloc ?_ _)); exact BK8001.out) hb); have n1_ := Aside0.mk (blk_below (g := gb8002) (o := .cells #[.slice A1_0 l1_0.length c1_0, .slice A1_1 l1_1.length c1_1, .slice A1_2 l1_2.length c1_2] 76 (0, 0)) (by (with_reducible repeat (first | refine blk_drewN ?_ _ | refine blk_drew ?_ | refine blk_alloc ?_ _)); exact BK8002.out) hb); have n2_ := Aside0.mk (below_step (by repeat (first | (with_reducible first | exact HB.out | apply below_alloc | apply pw_below_drewN | apply below_drew1 | refine below_set ?_ GE8001.out | refine below_set ?_ GE8002.out) | exact HB.out)) hb); clear BK8001; clear BK8002; clear HB; have BK8001 := n0_; have BK8002 := n1_; have HB := n2_; clear n0_ n1_ n2_; (try clear hb); (try clear hb2); (try clear hk); (try clear hi)))
    go_ret
    exact ⟨by first | rfl | (simp [errW_none, errW_some] <;> rfl) | (simp [*, errW_none, errW_some] <;> rfl), by repeat (first | (with_reducible first | exact HB.out | apply below_alloc | apply pw_below_drewN | apply below_drew1 | refine below_set ?_ GE8001.out | refine below_set ?_ GE8002.out) | exact HB.out)⟩
  · rw [if_neg c4] at H
    have c4b0 : decide (t8003 < 0) = false := decide_eq_false c4
    clear c4
    replace H := Option.bind_eq_some_iff.mp H
    obtain ⟨t8004, A100, H⟩ := H
    replace H : (if t8004 < 0 then (some true) else ((laws_toMonoid.f k l0_0 l0_1 l0_2).bind fun bt8005 => ((laws_toMonoid.f k l1_0 l1_1 l1_2).bind fun bt8014 => ((spec_EqualMonoid.f k bt8005.1 bt8005.2.1 bt8005.2.2 bt8014.1 bt8014.2.1 bt8014.2.2).bind fun t8023 => ((laws_toMonoid.f k l0_0 l0_1 l0_2).bind fun bt8024 => ((laws_toMonoid.f k l1_0 l1_1 l1_2).bind fun bt8034 => ((impl_EqualMonoid.f k bt8024.1 bt8024.2.1 bt8024.2.2 bt8034.1 bt8034.2.1 bt8034.2.2).bind fun t8044 => (if (t8044 != t8023) = true then (some false) else ((laws_toMonoid.f k l0_0 l0_1 l0_2).bind fun bt8045 => ((laws_eqMonoid.f k bt8024.1 bt8024.2.1 bt8024.2.2 bt8045.1 bt8045.2.1 bt8045.2.2).bind fun t8054 => (if t8054 = true then ((laws_toMonoid.f k l1_0 l1_1 l1_2).bind fun bt8055 => ((laws_eqMonoid.f k bt8034.1 bt8034.2.1 bt8034.2.2 bt8055.1 bt8055.2.1 bt8055.2.2).bind fun t8064 => (if t8064 = true then (some true) else (some false)))) else (some false)))))))))))) = some r := H
    have A10 := Aside0.mk A100
    clear A100
    by_cases c11 : t8004 < 0
    · rw [if_pos c11] at H
      have c11b0 : decide (t8004 < 0) = true := decide_eq_true c11
      clear c11
      obtain rfl := Option.some.inj H
      go_enter Try.func8, Try.ntmps8
      go_wp2_with (first | ((with_reducible refine gate_dst (N := 2) rfl ?_); refine box_event ?hg (N := 2) ?hd (cs := #[.slice A0_0 l0_0.length c0_0, .slice A0_1 l0_1.length c0_1, .slice A0_2 l0_2.length c0_2]) (t := 76) ?hr ?_; (case hd => rfl); (case hg => rfl); (case hr => first | (go_simp; done) | (go_simp; rfl)); intro gb8001 hg w12 hbox hb; have n0_ := Aside0.mk (below_step (by repeat (first | (with_reducible first | exact HB.out | apply below_alloc | apply pw_below_drewN | apply below_drew1) | exact HB.out)) hb); have n1_ := Aside0.mk (hbox); have n2_ := Aside0.mk ((by rw [hg]; exact (below_size (by repeat (first | (with_reducible first | exact HB.out | apply below_alloc | apply pw_below_drewN | apply below_drew1) | exact HB.out))) : w.heap.size ≤ gb8001)); have n3_ := Aside0.mk ((by rw [hg]; exact (below_size (by repeat (first | (with_reducible first | exact HB.out | apply below_alloc | apply pw_below_drewN | apply below_drew1) | exact HB.out))) : w.heap.size ≤ gb8001)); clear HB; have HB := n0_; have BK8001 := n1_; have GW8001 := n2_; have GE8001 := n3_; clear n0_ n1_ n2_ n3_; clear hb hbox hg) | ((with_reducible refine gate_dst (N := 3) rfl ?_); refine box_event ?hg (N := 3) ?hd (cs := #[.slice A1_0 l1_0.length c1_0, .slice A1_1 l1_1.length c1_1, .slice A1_2 l1_2.length c1_2]) (t := 76) ?hr ?_; (case hd => rfl); (case hg => rfl); (case hr => first | (go_simp; done) | (go_simp; rfl)); intro gb8002 hg w13 hbox hb; have n0_ := Aside0.mk (blk_below (g := gb8001) (o := .cells #[.slice A0_0 l0_0.length c0_0, .slice A0_1 l0_1.length c0_1, .slice A0_2 l0_2.length c0_2] 76 (0, 0)) (by (with_reducible repeat (first | refine blk_drewN ?_ _ | refine blk_drew ?_ | refine blk_alloc ?_ _)); exact BK8001.out) hb); have n1_ := Aside0.mk (below_step (by repeat (first | (with_reducible first | exact HB.out | apply below_alloc | apply pw_below_drewN | apply below_drew1 | refine below_set ?_ GE8001.out) | exact HB.out)) hb); have n2_ := Aside0.mk (hbox); have n3_ := Aside0.mk ((by rw [hg]; exact (below_size (by repeat (first | (with_reducible first | exact HB.out | apply below_alloc | apply pw_below_drewN | apply below_drew1 | refine below_set ?_ GE8001.out) | exact HB.out))) : w.heap.size ≤ gb8002)); have n4_ := Aside0.mk ((by rw [hg]; exact (below_size (by repeat (first | (with_reducible first | exact HB.out | apply below_alloc | apply pw_below_drewN | apply below_drew1 | refine below_set ?_ GE8001.out) | exact HB.out))) : w.heap.size ≤ gb8002)); have n5_ := Aside0.mk ((by rw [hg]; exact Nat.ne_of_lt (blk_lt (g := gb8001) (o := .cells #[.slice A0_0 l0_0.length c0_0, .slice A0_1 l0_1.length c0_1, .slice A0_2 l0_2.length c0_2] 76 (0, 0)) (by (with_reducible repeat (first | refine blk_drewN ?_ _ | refine blk_drew ?_ | refine blk_alloc ?_ _)); exact BK8001.out)) : gb8001 ≠ gb8002)); have n6_ := Aside0.mk ((by rw [hg]; exact Nat.ne_of_gt (blk_lt (g := gb8001) (o := .cells #[.slice A0_0 l0_0.length c0_0, .slice A0_1 l0_1.length c0_1, .slice A0_2 l0_2.length c0_2] 76 (0, 0)) (by (with_reducible repeat (first | refine blk_drewN ?_ _ | refine blk_drew ?_ | refine blk_alloc ?_ _)); exact BK8001.out)) : gb8002 ≠ gb8001)); clear BK8001; clear HB; have BK8001 := n0_; have HB := n1_; have BK8002 := n2_; have GW8002 := n3_; have GE8002 := n4_; have NB8001_8002 := n5_; have NB8002_8001 := n6_; clear n0_ n1_ n2_ n3_ n4_ n5_ n6_; clear hb hbox hg; have hnb14 := NB8001_8002.out; have hnc14 := NB8002_8001.out; have hcz15_0 : w13.cell? ⟨gb8001, 0, none⟩ = some (.slice A0_0 l0_0.length c0_0) := (blk_cell BK8001.out 0).trans rfl; have hcz15_1 : w13.cell? ⟨gb8001, 1, none⟩ = some (.slice A0_1 l0_1.length c0_1) := (blk_cell BK8001.out 1).trans rfl; have hcz15_2 : w13.cell? ⟨gb8001, 2, none⟩ = some (.slice A0_2 l0_2.length c0_2) := (blk_cell BK8001.out 2).trans rfl; have hfz15_0 := blk_frozen BK8001.out 0; have hfz15_1 := blk_frozen BK8001.out 1; have hfz15_2 := blk_frozen BK8001.out 2) | ((with_reducible refine gate_callee (f := 47) rfl ?_); refine goesL_ (some 12) rfl rfl Try.func47 (by kernel_rfl) rfl #[.agg #[.slice A0_0 l0_0.length c0_0, .slice A0_1 l0_1.length c0_1, .slice A0_2 l0_2.length c0_2], .int .i64 1048576] rfl (by (try simp only [List.map_toArray, List.map_cons, List.map_nil]); first | done | rfl | (simp only [List.length_drop, List.length_take]; rfl)) ?_; (with_reducible refine (laws_szMonoid.calls k _ _ l0_0 _ _ l0_1 _ _ l0_2 1048576 t8003 _ ?side1 ?side2 ?side3 ?side4 ?side5 ?side6 A3.out).mono ?_); (case side1 => repeat (first | exact (Kd.C_below HR0_0.out HB.out) | (with_reducible refine Kd.C_alloc ?_ _) | (with_reducible refine Kd.C_drewN ?_ _) | (with_reducible refine Kd.C_drew ?_))); (case side2 => exact HC0_0.out); (case side3 => repeat (first | exact (Kd.C_below HR0_1.out HB.out) | (with_reducible refine Kd.C_alloc ?_ _) | (with_reducible refine Kd.C_drewN ?_ _) | (with_reducible refine Kd.C_drew ?_))); (case side4 => exact HC0_1.out); (case side5 => repeat (first | exact (Kd.C_below HR0_2.out HB.out) | (with_reducible refine Kd.C_alloc ?_ _) | (with_reducible refine Kd.C_drewN ?_ _) | (with_reducible refine Kd.C_drew ?_))); (case side6 => exact HC0_2.out); rintro e w16 ⟨rfl, hb⟩; refine ⟨_, rfl, ?_⟩; have n0_ := Aside0.mk (blk_below (g := gb8001) (o := .cells #[.slice A0_0 l0_0.length c0_0, .slice A0_1 l0_1.length c0_1, .slice A0_2 l0_2.length c0_2] 76 (0, 0)) (by (with_reducible repeat (first | refine blk_drewN ?_ _ | refine blk_drew ?_ | refine blk_alloc ?_ _)); exact BK8001.out) hb); have n1_ := Aside0.mk (blk_below (g := gb8002) (o := .cells #[.slice A1_0 l1_0.length c1_0, .slice A1_1 l1_1.length c1_1, .slice A1_2 l1_2.length c1_2] 76 (0, 0)) (by (with_reducible repeat (first | refine blk_drewN ?_ _ | refine blk_drew ?_ | refine blk_alloc ?_ _)); exact BK8002.out) hb); have n2_ := Aside0.mk (below_step (by repeat (first | (with_reducible first | exact HB.out | apply below_alloc | apply pw_below_drewN | apply below_drew1 | refine below_set ?_ GE8001.out | refine below_set ?_ GE8002.out) | exact HB.out)) hb); clear BK8001; clear BK8002; clear HB; have BK8001 := n0_; have BK8002 := n1_; have HB := n2_; clear n0_ n1_ n2_; (try clear hb); (try clear hb2); (try clear hk); (try clear hi); have hcz17_0 : w16.cell? ⟨gb8002, 0, none⟩ = some (.slice A1_0 l1_0.length c1_0) := (blk_cell BK8002.out 0).trans rfl; have hcz17_1 : w16.cell? ⟨gb8002, 1, none⟩ = some (.slice A1_1 l1_1.length c1_1) := (blk_cell BK8002.out 1).trans rfl; have hcz17_2 : w16.cell? ⟨gb8002, 2, none⟩ = some (.slice A1_2 l1_2.length c1_2) := (blk_cell BK8002.out 2).trans rfl; have hfz17_0 := blk_frozen BK8002.out 0; have hfz17_1 := blk_frozen BK8002.out 1; have hfz17_2 := blk_frozen BK8002.out 2) | ((with_reducible refine gate_callee (f := 47) rfl ?_); refine goesL_ (some 17) rfl rfl Try.func47 (by kernel_rfl) rfl #[.agg #[.slice A1_0 l1_0.length c1_0, .slice A1_1 l1_1.length c1_1, .slice A1_2 l1_2.length c1_2], .int .i64 t8003] rfl (by (try simp only [List.map_toArray, List.map_cons, List.map_nil]); first | done | rfl | (simp only [List.length_drop, List.length_take]; rfl)) ?_; (with_reducible refine (laws_szMonoid.calls k _ _ l1_0 _ _ l1_1 _ _ l1_2 t8003 t8004 _ ?side1 ?side2 ?side3 ?side4 ?side5 ?side6 A10.out).mono ?_); (case side1 => repeat (first | exact (Kd.C_below HR1_0.out HB.out) | (with_reducible refine Kd.C_alloc ?_ _) | (with_reducible refine Kd.C_drewN ?_ _) | (with_reducible refine Kd.C_drew ?_))); (case side2 => exact HC1_0.out); (case side3 => repeat (first | exact (Kd.C_below HR1_1.out HB.out) | (with_reducible refine Kd.C_alloc ?_ _) | (with_reducible refine Kd.C_drewN ?_ _) | (with_reducible refine Kd.C_drew ?_))); (case side4 => exact HC1_1.out); (case side5 => repeat (first | exact (Kd.C_below HR1_2.out HB.out) | (with_reducible refine Kd.C_alloc ?_ _) | (with_reducible refine Kd.C_drewN ?_ _) | (with_reducible refine Kd.C_drew ?_))); (case side6 => exact HC1_2.out); rintro e w18 ⟨rfl, hb⟩; refine ⟨_, rfl, ?_⟩; have n0_ := Aside0.mk (blk_below (g := gb8001) (o := .cells #[.slice A0_0 l0_0.length c0_0, .slice A0_1 l0_1.length c0_1, .slice A0_2 l0_2.length c0_2] 76 (0, 0)) (by (with_reducible repeat (first | refine blk_drewN ?_ _ | refine blk_drew ?_ | refine blk_alloc ?_ _)); exact BK8001.out) hb); have n1_ := Aside0.mk (blk_below (g := gb8002) (o := .cells #[.slice A1_0 l1_0.length c1_0, .slice A1_1 l1_1.length c1_1, .slice A1_2 l1_2.length c1_2] 76 (0, 0)) (by (with_reducible repeat (first | refine blk_drewN ?_ _ | refine blk_drew ?_ | refine blk_alloc ?_ _)); exact BK8002.out) hb); have n2_ := Aside0.mk (below_step (by repeat (first | (with_reducible first | exact HB.out | apply below_alloc | apply pw_below_drewN | apply below_drew1 | refine below_set ?_ GE8001.out | refine below_set ?_ GE8002.out) | exact HB.out)) hb); clear BK8001; clear BK8002; clear HB; have BK8001 := n0_; have BK8002 := n1_; have HB := n2_; clear n0_ n1_ n2_; (try clear hb); (try clear hb2); (try clear hk); (try clear hi)))
      go_ret
      exact ⟨by first | rfl | (simp [errW_none, errW_some] <;> rfl) | (simp [*, errW_none, errW_some] <;> rfl), by repeat (first | (with_reducible first | exact HB.out | apply below_alloc | apply pw_below_drewN | apply below_drew1 | refine below_set ?_ GE8001.out | refine below_set ?_ GE8002.out) | exact HB.out)⟩
    · rw [if_neg c11] at H
      have c11b0 : decide (t8004 < 0) = false := decide_eq_false c11
      clear c11
      replace H := Option.bind_eq_some_iff.mp H
      obtain ⟨⟨t8005, t8008, t8011⟩, A190, H⟩ := H
      replace H : ((laws_toMonoid.f k l1_0 l1_1 l1_2).bind fun bt8014 => ((spec_EqualMonoid.f k t8005 t8008 t8011 bt8014.1 bt8014.2.1 bt8014.2.2).bind fun t8023 => ((laws_toMonoid.f k l0_0 l0_1 l0_2).bind fun bt8024 => ((laws_toMonoid.f k l1_0 l1_1 l1_2).bind fun bt8034 => ((impl_EqualMonoid.f k bt8024.1 bt8024.2.1 bt8024.2.2 bt8034.1 bt8034.2.1 bt8034.2.2).bind fun t8044 => (if (t8044 != t8023) = true then (some false) else ((laws_toMonoid.f k l0_0 l0_1 l0_2).bind fun bt8045 => ((laws_eqMonoid.f k bt8024.1 bt8024.2.1 bt8024.2.2 bt8045.1 bt8045.2.1 bt8045.2.2).bind fun t8054 => (if t8054 = true then ((laws_toMonoid.f k l1_0 l1_1 l1_2).bind fun bt8055 => ((laws_eqMonoid.f k bt8034.1 bt8034.2.1 bt8034.2.2 bt8055.1 bt8055.2.1 bt8055.2.2).bind fun t8064 => (if t8064 = true then (some true) else (some false)))) else (some false)))))))))) = some r := H
      have A19 := Aside0.mk A190
      clear A190
      replace H := Option.bind_eq_some_iff.mp H
      obtain ⟨⟨t8014, t8017, t8020⟩, A200, H⟩ := H
      replace H : ((spec_EqualMonoid.f k t8005 t8008 t8011 t8014 t8017 t8020).bind fun t8023 => ((laws_toMonoid.f k l0_0 l0_1 l0_2).bind fun bt8024 => ((laws_toMonoid.f k l1_0 l1_1 l1_2).bind fun bt8034 => ((impl_EqualMonoid.f k bt8024.1 bt8024.2.1 bt8024.2.2 bt8034.1 bt8034.2.1 bt8034.2.2).bind fun t8044 => (if (t8044 != t8023) = true then (some false) else ((laws_toMonoid.f k l0_0 l0_1 l0_2).bind fun bt8045 => ((laws_eqMonoid.f k bt8024.1 bt8024.2.1 bt8024.2.2 bt8045.1 bt8045.2.1 bt8045.2.2).bind fun t8054 => (if t8054 = true then ((laws_toMonoid.f k l1_0 l1_1 l1_2).bind fun bt8055 => ((laws_eqMonoid.f k bt8034.1 bt8034.2.1 bt8034.2.2 bt8055.1 bt8055.2.1 bt8055.2.2).bind fun t8064 => (if t8064 = true then (some true) else (some false)))) else (some false))))))))) = some r := H
      have A20 := Aside0.mk A200
      clear A200
      replace H := Option.bind_eq_some_iff.mp H
      obtain ⟨t8023, A210, H⟩ := H
      replace H : ((laws_toMonoid.f k l0_0 l0_1 l0_2).bind fun bt8024 => ((laws_toMonoid.f k l1_0 l1_1 l1_2).bind fun bt8034 => ((impl_EqualMonoid.f k bt8024.1 bt8024.2.1 bt8024.2.2 bt8034.1 bt8034.2.1 bt8034.2.2).bind fun t8044 => (if (t8044 != t8023) = true then (some false) else ((laws_toMonoid.f k l0_0 l0_1 l0_2).bind fun bt8045 => ((laws_eqMonoid.f k bt8024.1 bt8024.2.1 bt8024.2.2 bt8045.1 bt8045.2.1 bt8045.2.2).bind fun t8054 => (if t8054 = true then ((laws_toMonoid.f k l1_0 l1_1 l1_2).bind fun bt8055 => ((laws_eqMonoid.f k bt8034.1 bt8034.2.1 bt8034.2.2 bt8055.1 bt8055.2.1 bt8055.2.2).bind fun t8064 => (if t8064 = true then (some true) else (some false)))) else (some false)))))))) = some r := H
      have A21 := Aside0.mk A210
      clear A210
      replace H := Option.bind_eq_some_iff.mp H
      obtain ⟨⟨t8024, t8027, t8030⟩, A220, H⟩ := H
      replace H : ((laws_toMonoid.f k l1_0 l1_1 l1_2).bind fun bt8034 => ((impl_EqualMonoid.f k t8024 t8027 t8030 bt8034.1 bt8034.2.1 bt8034.2.2).bind fun t8044 => (if (t8044 != t8023) = true then (some false) else ((laws_toMonoid.f k l0_0 l0_1 l0_2).bind fun bt8045 => ((laws_eqMonoid.f k t8024 t8027 t8030 bt8045.1 bt8045.2.1 bt8045.2.2).bind fun t8054 => (if t8054 = true then ((laws_toMonoid.f k l1_0 l1_1 l1_2).bind fun bt8055 => ((laws_eqMonoid.f k bt8034.1 bt8034.2.1 bt8034.2.2 bt8055.1 bt8055.2.1 bt8055.2.2).bind fun t8064 => (if t8064 = true then (some true) else (some false)))) else (some false))))))) = some r := H
      have A22 := Aside0.mk A220
      clear A220
      replace H := Option.bind_eq_some_iff.mp H
      obtain ⟨⟨t8034, t8037, t8040⟩, A230, H⟩ := H
      replace H : ((impl_EqualMonoid.f k t8024 t8027 t8030 t8034 t8037 t8040).bind fun t8044 => (if (t8044 != t8023) = true then (some false) else ((laws_toMonoid.f k l0_0 l0_1 l0_2).bind fun bt8045 => ((laws_eqMonoid.f k t8024 t8027 t8030 bt8045.1 bt8045.2.1 bt8045.2.2).bind fun t8054 => (if t8054 = true then ((laws_toMonoid.f k l1_0 l1_1 l1_2).bind fun bt8055 => ((laws_eqMonoid.f k t8034 t8037 t8040 bt8055.1 bt8055.2.1 bt8055.2.2).bind fun t8064 => (if t8064 = true then (some true) else (some false)))) else (some false)))))) = some r := H
      have A23 := Aside0.mk A230
      clear A230
      replace H := Option.bind_eq_some_iff.mp H
      obtain ⟨t8044, A240, H⟩ := H
      replace H : (if (t8044 != t8023) = true then (some false) else ((laws_toMonoid.f k l0_0 l0_1 l0_2).bind fun bt8045 => ((laws_eqMonoid.f k t8024 t8027 t8030 bt8045.1 bt8045.2.1 bt8045.2.2).bind fun t8054 => (if t8054 = true then ((laws_toMonoid.f k l1_0 l1_1 l1_2).bind fun bt8055 => ((laws_eqMonoid.f k t8034 t8037 t8040 bt8055.1 bt8055.2.1 bt8055.2.2).bind fun t8064 => (if t8064 = true then (some true) else (some false)))) else (some false))))) = some r := H
      have A24 := Aside0.mk A240
      clear A240
      by_cases c25 : (t8044 != t8023) = true
      · rw [if_pos c25] at H
        have c25b0 : (t8044 != t8023) = true := c25
        (try (have c25b1 : decide (t8044 = t8023) = false := by simpa using c25))
        (try (have c25b2 : (t8044 == t8023) = false := by simpa using c25))
        (try (have c25b3 : ¬ (t8044 = t8023) := by simpa using c25))
        clear c25
        exact absurd ((Option.some.inj H).trans HRT_.out) (by decide)
      · rw [if_neg c25] at H
        have c25b0 : (t8044 != t8023) = false := by simpa using c25
        (try (have c25b1 : decide (t8044 = t8023) = true := by simpa using c25))
        (try (have c25b2 : (t8044 == t8023) = true := by simpa using c25))
        clear c25
        replace H := Option.bind_eq_some_iff.mp H
        obtain ⟨⟨t8045, t8048, t8051⟩, A640, H⟩ := H
        replace H : ((laws_eqMonoid.f k t8024 t8027 t8030 t8045 t8048 t8051).bind fun t8054 => (if t8054 = true then ((laws_toMonoid.f k l1_0 l1_1 l1_2).bind fun bt8055 => ((laws_eqMonoid.f k t8034 t8037 t8040 bt8055.1 bt8055.2.1 bt8055.2.2).bind fun t8064 => (if t8064 = true then (some true) else (some false)))) else (some false))) = some r := H
        have A64 := Aside0.mk A640
        clear A640
        replace H := Option.bind_eq_some_iff.mp H
        obtain ⟨t8054, A650, H⟩ := H
        replace H : (if t8054 = true then ((laws_toMonoid.f k l1_0 l1_1 l1_2).bind fun bt8055 => ((laws_eqMonoid.f k t8034 t8037 t8040 bt8055.1 bt8055.2.1 bt8055.2.2).bind fun t8064 => (if t8064 = true then (some true) else (some false)))) else (some false)) = some r := H
        have A65 := Aside0.mk A650
        clear A650
        by_cases c66 : t8054 = true
        · subst c66
          have H1 : ((laws_toMonoid.f k l1_0 l1_1 l1_2).bind fun bt8055 => ((laws_eqMonoid.f k t8034 t8037 t8040 bt8055.1 bt8055.2.1 bt8055.2.2).bind fun t8064 => (if t8064 = true then (some true) else (some false)))) = some r := by rw [if_pos rfl] at H; exact H
          clear H
          have H := H1
          clear H1
          replace H := Option.bind_eq_some_iff.mp H
          obtain ⟨⟨t8055, t8058, t8061⟩, A670, H⟩ := H
          replace H : ((laws_eqMonoid.f k t8034 t8037 t8040 t8055 t8058 t8061).bind fun t8064 => (if t8064 = true then (some true) else (some false))) = some r := H
          have A67 := Aside0.mk A670
          clear A670
          replace H := Option.bind_eq_some_iff.mp H
          obtain ⟨t8064, A680, H⟩ := H
          replace H : (if t8064 = true then (some true) else (some false)) = some r := H
          have A68 := Aside0.mk A680
          clear A680
          by_cases c69 : t8064 = true
          · subst c69
            have H1 : (some true) = some r := by rw [if_pos rfl] at H; exact H
            clear H
            have H := H1
            clear H1
            obtain rfl := Option.some.inj H
            go_enter Try.func8, Try.ntmps8
            try go_wp2_with (first | ((with_reducible refine gate_dst (N := 2) rfl ?_); refine box_event ?hg (N := 2) ?hd (cs := #[.slice A0_0 l0_0.length c0_0, .slice A0_1 l0_1.length c0_1, .slice A0_2 l0_2.length c0_2]) (t := 76) ?hr ?_; (case hd => rfl); (case hg => rfl); (case hr => first | (go_simp; done) | (go_simp; rfl)); intro gb8001 hg w70 hbox hb; have n0_ := Aside0.mk (below_step (by repeat (first | (with_reducible first | exact HB.out | apply below_alloc | apply pw_below_drewN | apply below_drew1) | exact HB.out)) hb); have n1_ := Aside0.mk (hbox); have n2_ := Aside0.mk ((by rw [hg]; exact (below_size (by repeat (first | (with_reducible first | exact HB.out | apply below_alloc | apply pw_below_drewN | apply below_drew1) | exact HB.out))) : w.heap.size ≤ gb8001)); have n3_ := Aside0.mk ((by rw [hg]; exact (below_size (by repeat (first | (with_reducible first | exact HB.out | apply below_alloc | apply pw_below_drewN | apply below_drew1) | exact HB.out))) : w.heap.size ≤ gb8001)); clear HB; have HB := n0_; have BK8001 := n1_; have GW8001 := n2_; have GE8001 := n3_; clear n0_ n1_ n2_ n3_; clear hb hbox hg) | ((with_reducible refine gate_dst (N := 3) rfl ?_); refine box_event ?hg (N := 3) ?hd (cs := #[.slice A1_0 l1_0.length c1_0, .slice A1_1 l1_1.length c1_1, .slice A1_2 l1_2.length c1_2]) (t := 76) ?hr ?_; (case hd => rfl); (case hg => rfl); (case hr => first | (go_simp; done) | (go_simp; rfl)); intro gb8002 hg w71 hbox hb; have n0_ := Aside0.mk (blk_below (g := gb8001) (o := .cells #[.slice A0_0 l0_0.length c0_0, .slice A0_1 l0_1.length c0_1, .slice A0_2 l0_2.length c0_2] 76 (0, 0)) (by (with_reducible repeat (first | refine blk_drewN ?_ _ | refine blk_drew ?_ | refine blk_alloc ?_ _)); exact BK8001.out) hb); have n1_ := Aside0.mk (below_step (by repeat (first | (with_reducible first | exact HB.out | apply below_alloc | apply pw_below_drewN | apply below_drew1 | refine below_set ?_ GE8001.out) | exact HB.out)) hb); have n2_ := Aside0.mk (hbox); have n3_ := Aside0.mk ((by rw [hg]; exact (below_size (by repeat (first | (with_reducible first | exact HB.out | apply below_alloc | apply pw_below_drewN | apply below_drew1 | refine below_set ?_ GE8001.out) | exact HB.out))) : w.heap.size ≤ gb8002)); have n4_ := Aside0.mk ((by rw [hg]; exact (below_size (by repeat (first | (with_reducible first | exact HB.out | apply below_alloc | apply pw_below_drewN | apply below_drew1 | refine below_set ?_ GE8001.out) | exact HB.out))) : w.heap.size ≤ gb8002)); have n5_ := Aside0.mk ((by rw [hg]; exact Nat.ne_of_lt (blk_lt (g := gb8001) (o := .cells #[.slice A0_0 l0_0.length c0_0, .slice A0_1 l0_1.length c0_1, .slice A0_2 l0_2.length c0_2] 76 (0, 0)) (by (with_reducible repeat (first | refine blk_drewN ?_ _ | refine blk_drew ?_ | refine blk_alloc ?_ _)); exact BK8001.out)) : gb8001 ≠ gb8002)); have n6_ := Aside0.mk ((by rw [hg]; exact Nat.ne_of_gt (blk_lt (g := gb8001) (o := .cells #[.slice A0_0 l0_0.length c0_0, .slice A0_1 l0_1.length c0_1, .slice A0_2 l0_2.length c0_2] 76 (0, 0)) (by (with_reducible repeat (first | refine blk_drewN ?_ _ | refine blk_drew ?_ | refine blk_alloc ?_ _)); exact BK8001.out)) : gb8002 ≠ gb8001)); clear BK8001; clear HB; have BK8001 := n0_; have HB := n1_; have BK8002 := n2_; have GW8002 := n3_; have GE8002 := n4_; have NB8001_8002 := n5_; have NB8002_8001 := n6_; clear n0_ n1_ n2_ n3_ n4_ n5_ n6_; clear hb hbox hg; have hnb72 := NB8001_8002.out; have hnc72 := NB8002_8001.out; have hcz73_0 : w71.cell? ⟨gb8001, 0, none⟩ = some (.slice A0_0 l0_0.length c0_0) := (blk_cell BK8001.out 0).trans rfl; have hcz73_1 : w71.cell? ⟨gb8001, 1, none⟩ = some (.slice A0_1 l0_1.length c0_1) := (blk_cell BK8001.out 1).trans rfl; have hcz73_2 : w71.cell? ⟨gb8001, 2, none⟩ = some (.slice A0_2 l0_2.length c0_2) := (blk_cell BK8001.out 2).trans rfl; have hfz73_0 := blk_frozen BK8001.out 0; have hfz73_1 := blk_frozen BK8001.out 1; have hfz73_2 := blk_frozen BK8001.out 2) | ((with_reducible refine gate_callee (f := 47) rfl ?_); refine goesL_ (some 12) rfl rfl Try.func47 (by kernel_rfl) rfl #[.agg #[.slice A0_0 l0_0.length c0_0, .slice A0_1 l0_1.length c0_1, .slice A0_2 l0_2.length c0_2], .int .i64 1048576] rfl (by (try simp only [List.map_toArray, List.map_cons, List.map_nil]); first | done | rfl | (simp only [List.length_drop, List.length_take]; rfl)) ?_; (with_reducible refine (laws_szMonoid.calls k _ _ l0_0 _ _ l0_1 _ _ l0_2 1048576 t8003 _ ?side1 ?side2 ?side3 ?side4 ?side5 ?side6 A3.out).mono ?_); (case side1 => repeat (first | exact (Kd.C_below HR0_0.out HB.out) | (with_reducible refine Kd.C_alloc ?_ _) | (with_reducible refine Kd.C_drewN ?_ _) | (with_reducible refine Kd.C_drew ?_))); (case side2 => exact HC0_0.out); (case side3 => repeat (first | exact (Kd.C_below HR0_1.out HB.out) | (with_reducible refine Kd.C_alloc ?_ _) | (with_reducible refine Kd.C_drewN ?_ _) | (with_reducible refine Kd.C_drew ?_))); (case side4 => exact HC0_1.out); (case side5 => repeat (first | exact (Kd.C_below HR0_2.out HB.out) | (with_reducible refine Kd.C_alloc ?_ _) | (with_reducible refine Kd.C_drewN ?_ _) | (with_reducible refine Kd.C_drew ?_))); (case side6 => exact HC0_2.out); rintro e w74 ⟨rfl, hb⟩; refine ⟨_, rfl, ?_⟩; have n0_ := Aside0.mk (blk_below (g := gb8001) (o := .cells #[.slice A0_0 l0_0.length c0_0, .slice A0_1 l0_1.length c0_1, .slice A0_2 l0_2.length c0_2] 76 (0, 0)) (by (with_reducible repeat (first | refine blk_drewN ?_ _ | refine blk_drew ?_ | refine blk_alloc ?_ _)); exact BK8001.out) hb); have n1_ := Aside0.mk (blk_below (g := gb8002) (o := .cells #[.slice A1_0 l1_0.length c1_0, .slice A1_1 l1_1.length c1_1, .slice A1_2 l1_2.length c1_2] 76 (0, 0)) (by (with_reducible repeat (first | refine blk_drewN ?_ _ | refine blk_drew ?_ | refine blk_alloc ?_ _)); exact BK8002.out) hb); have n2_ := Aside0.mk (below_step (by repeat (first | (with_reducible first | exact HB.out | apply below_alloc | apply pw_below_drewN | apply below_drew1 | refine below_set ?_ GE8001.out | refine below_set ?_ GE8002.out) | exact HB.out)) hb); clear BK8001; clear BK8002; clear HB; have BK8001 := n0_; have BK8002 := n1_; have HB := n2_; clear n0_ n1_ n2_; (try clear hb); (try clear hb2); (try clear hk); (try clear hi); have hcz75_0 : w74.cell? ⟨gb8002, 0, none⟩ = some (.slice A1_0 l1_0.length c1_0) := (blk_cell BK8002.out 0).trans rfl; have hcz75_1 : w74.cell? ⟨gb8002, 1, none⟩ = some (.slice A1_1 l1_1.length c1_1) := (blk_cell BK8002.out 1).trans rfl; have hcz75_2 : w74.cell? ⟨gb8002, 2, none⟩ = some (.slice A1_2 l1_2.length c1_2) := (blk_cell BK8002.out 2).trans rfl; have hfz75_0 := blk_frozen BK8002.out 0; have hfz75_1 := blk_frozen BK8002.out 1; have hfz75_2 := blk_frozen BK8002.out 2) | ((with_reducible refine gate_callee (f := 47) rfl ?_); refine goesL_ (some 17) rfl rfl Try.func47 (by kernel_rfl) rfl #[.agg #[.slice A1_0 l1_0.length c1_0, .slice A1_1 l1_1.length c1_1, .slice A1_2 l1_2.length c1_2], .int .i64 t8003] rfl (by (try simp only [List.map_toArray, List.map_cons, List.map_nil]); first | done | rfl | (simp only [List.length_drop, List.length_take]; rfl)) ?_; (with_reducible refine (laws_szMonoid.calls k _ _ l1_0 _ _ l1_1 _ _ l1_2 t8003 t8004 _ ?side1 ?side2 ?side3 ?side4 ?side5 ?side6 A10.out).mono ?_); (case side1 => repeat (first | exact (Kd.C_below HR1_0.out HB.out) | (with_reducible refine Kd.C_alloc ?_ _) | (with_reducible refine Kd.C_drewN ?_ _) | (with_reducible refine Kd.C_drew ?_))); (case side2 => exact HC1_0.out); (case side3 => repeat (first | exact (Kd.C_below HR1_1.out HB.out) | (with_reducible refine Kd.C_alloc ?_ _) | (with_reducible refine Kd.C_drewN ?_ _) | (with_reducible refine Kd.C_drew ?_))); (case side4 => exact HC1_1.out); (case side5 => repeat (first | exact (Kd.C_below HR1_2.out HB.out) | (with_reducible refine Kd.C_alloc ?_ _) | (with_reducible refine Kd.C_drewN ?_ _) | (with_reducible refine Kd.C_drew ?_))); (case side6 => exact HC1_2.out); rintro e w76 ⟨rfl, hb⟩; refine ⟨_, rfl, ?_⟩; have n0_ := Aside0.mk (blk_below (g := gb8001) (o := .cells #[.slice A0_0 l0_0.length c0_0, .slice A0_1 l0_1.length c0_1, .slice A0_2 l0_2.length c0_2] 76 (0, 0)) (by (with_reducible repeat (first | refine blk_drewN ?_ _ | refine blk_drew ?_ | refine blk_alloc ?_ _)); exact BK8001.out) hb); have n1_ := Aside0.mk (blk_below (g := gb8002) (o := .cells #[.slice A1_0 l1_0.length c1_0, .slice A1_1 l1_1.length c1_1, .slice A1_2 l1_2.length c1_2] 76 (0, 0)) (by (with_reducible repeat (first | refine blk_drewN ?_ _ | refine blk_drew ?_ | refine blk_alloc ?_ _)); exact BK8002.out) hb); have n2_ := Aside0.mk (below_step (by repeat (first | (with_reducible first | exact HB.out | apply below_alloc | apply pw_below_drewN | apply below_drew1 | refine below_set ?_ GE8001.out | refine below_set ?_ GE8002.out) | exact HB.out)) hb); clear BK8001; clear BK8002; clear HB; have BK8001 := n0_; have BK8002 := n1_; have HB := n2_; clear n0_ n1_ n2_; (try clear hb); (try clear hb2); (try clear hk); (try clear hi)))
            have n0_ := Aside0.mk (blk_drew BK8001.out)
            have n1_ := Aside0.mk (blk_drew BK8002.out)
            have n2_ := Aside0.mk (below_drew1 HB.out)
            clear BK8001
            clear BK8002
            clear HB
            have BK8001 := n0_
            have BK8002 := n1_
            have HB := n2_
            clear n0_ n1_ n2_
            refine start_ (n := 6) (S := fun w' => w'.cell? ⟨gb8001, 0, none⟩ = some (.slice A0_0 l0_0.length c0_0) ∧ w'.cell? ⟨gb8001, 1, none⟩ = some (.slice A0_1 l0_1.length c0_1) ∧ w'.cell? ⟨gb8001, 2, none⟩ = some (.slice A0_2 l0_2.length c0_2) ∧ w'.cell? ⟨gb8002, 0, none⟩ = some (.slice A1_0 l1_0.length c1_0) ∧ w'.cell? ⟨gb8002, 1, none⟩ = some (.slice A1_1 l1_1.length c1_1) ∧ w'.cell? ⟨gb8002, 2, none⟩ = some (.slice A1_2 l1_2.length c1_2)) (ds := []) #[false, false, false, false, false, false] (by kernel_rfl) rfl rfl ⟨(blk_cell BK8001.out 0).trans rfl, (blk_cell BK8001.out 1).trans rfl, (blk_cell BK8001.out 2).trans rfl, (blk_cell BK8002.out 0).trans rfl, (blk_cell BK8002.out 1).trans rfl, (blk_cell BK8002.out 2).trans rfl⟩ (fun hHeld => ?_)
            generalize w76.drew = w77 at BK8001 BK8002 HB hHeld ⊢
            refine take_ (i := 0) (N := some 20) (v := ?_) (a' := ?_) #[true, false, false, false, false, false] rfl rfl (by kernel_rfl) (fun _ _ _ h => h) (Or.inl ⟨by rfl, ?_⟩) hHeld ?_ ?_
            rotate_left
            · rintro w' ⟨s0, s1, s2, s3, s4, s5⟩
              go_simp
              first | with_reducible rfl | (rw [if_neg (by omega)]; done)
            rotate_left
            · simp only [Act.put, List.setIfInBounds_toArray, List.set_cons_zero, List.set_cons_succ, i64_w, i32_w]
              rfl
            refine take_ (i := 2) (N := some 22) (v := ?_) (a' := ?_) #[true, false, true, false, false, false] rfl rfl (by kernel_rfl) (fun _ _ _ h => h) (Or.inl ⟨by rfl, ?_⟩) hHeld ?_ ?_
            rotate_left
            · rintro w' ⟨s0, s1, s2, s3, s4, s5⟩
              go_simp
              first | with_reducible rfl | (rw [if_neg (by omega)]; done)
            rotate_left
            · simp only [Act.put, List.setIfInBounds_toArray, List.set_cons_zero, List.set_cons_succ, i64_w, i32_w]
              rfl
            refine one_ (i := 1) (N := some 21) #[true, true, true, false, false, false] rfl rfl (by kernel_rfl) (by decide) (fun K hK => ?_)
            refine goes_ Try.func49 (by kernel_rfl) rfl #[.agg #[.slice A0_0 l0_0.length c0_0, .slice A0_1 l0_1.length c0_1, .slice A0_2 l0_2.length c0_2]] (by rfl) rfl rfl (by (try simp only [List.map_toArray, List.map_cons, List.map_nil]); first | done | rfl | (simp only [List.length_drop, List.length_take]; rfl)) ?_
            with_reducible refine (laws_toMonoid.calls k _ _ l0_0 _ _ l0_1 _ _ l0_2 t8005 t8008 t8011 _ ?side1 ?side2 ?side3 ?side4 ?side5 ?side6 A19.out).mono ?_
            (case side1 => repeat (first | exact (Kd.C_below HR0_0.out HB.out) | (with_reducible refine Kd.C_alloc ?_ _) | (with_reducible refine Kd.C_drewN ?_ _) | (with_reducible refine Kd.C_drew ?_)))
            (case side2 => exact HC0_0.out)
            (case side3 => repeat (first | exact (Kd.C_below HR0_1.out HB.out) | (with_reducible refine Kd.C_alloc ?_ _) | (with_reducible refine Kd.C_drewN ?_ _) | (with_reducible refine Kd.C_drew ?_)))
            (case side4 => exact HC0_1.out)
            (case side5 => repeat (first | exact (Kd.C_below HR0_2.out HB.out) | (with_reducible refine Kd.C_alloc ?_ _) | (with_reducible refine Kd.C_drewN ?_ _) | (with_reducible refine Kd.C_drew ?_)))
            (case side6 => exact HC0_2.out)
            rintro e w78 ⟨v8006, v8009, v8012, rfl, ho0, ho1, ho2, hb⟩
            refine ⟨_, rfl, ?_⟩
            have n0_ := Aside0.mk (Kd.S_lower ho0 (below_size (by repeat (first | (with_reducible first | exact HB.out | apply below_alloc | apply pw_below_drewN | apply below_drew1 | refine below_set ?_ GE8001.out | refine below_set ?_ GE8002.out) | exact HB.out))))
            have n1_ := Aside0.mk (Kd.R_lower ho1 (below_size (by repeat (first | (with_reducible first | exact HB.out | apply below_alloc | apply pw_below_drewN | apply below_drew1 | refine below_set ?_ GE8001.out | refine below_set ?_ GE8002.out) | exact HB.out))))
            have n2_ := Aside0.mk (Kd.S_lower ho2 (below_size (by repeat (first | (with_reducible first | exact HB.out | apply below_alloc | apply pw_below_drewN | apply below_drew1 | refine below_set ?_ GE8001.out | refine below_set ?_ GE8002.out) | exact HB.out))))
            have n3_ := Aside0.mk (blk_below (g := gb8001) (o := .cells #[.slice A0_0 l0_0.length c0_0, .slice A0_1 l0_1.length c0_1, .slice A0_2 l0_2.length c0_2] 76 (0, 0)) (by (with_reducible repeat (first | refine blk_drewN ?_ _ | refine blk_drew ?_ | refine blk_alloc ?_ _)); exact BK8001.out) hb)
            have n4_ := Aside0.mk (blk_below (g := gb8002) (o := .cells #[.slice A1_0 l1_0.length c1_0, .slice A1_1 l1_1.length c1_1, .slice A1_2 l1_2.length c1_2] 76 (0, 0)) (by (with_reducible repeat (first | refine blk_drewN ?_ _ | refine blk_drew ?_ | refine blk_alloc ?_ _)); exact BK8002.out) hb)
            have n5_ := Aside0.mk (below_step (by repeat (first | (with_reducible first | exact HB.out | apply below_alloc | apply pw_below_drewN | apply below_drew1 | refine below_set ?_ GE8001.out | refine below_set ?_ GE8002.out) | exact HB.out)) hb)
            clear BK8001
            clear BK8002
            clear HB
            have HO8007 := n0_
            have HO8010 := n1_
            have HO8013 := n2_
            have BK8001 := n3_
            have BK8002 := n4_
            have HB := n5_
            clear n0_ n1_ n2_ n3_ n4_ n5_
            (try clear hb)
            (try clear hb2)
            (try clear hk)
            (try clear hi)
            (try clear ho0)
            (try clear ho1)
            (try clear ho2)
            refine hK.out _ _ ⟨(blk_cell BK8001.out 0).trans rfl, (blk_cell BK8001.out 1).trans rfl, (blk_cell BK8001.out 2).trans rfl, (blk_cell BK8002.out 0).trans rfl, (blk_cell BK8002.out 1).trans rfl, (blk_cell BK8002.out 2).trans rfl⟩ (fun hHeld => ?_)
            clear hK K
            refine norm_ (a' := ?_) ?_ ?_
            rotate_left
            · show Act.put _ (some 21) _ = _
              simp only [Act.put, List.setIfInBounds_toArray, List.set_cons_zero, List.set_cons_succ, i64_w, i32_w]
              rfl
            refine one_ (i := 3) (N := some 23) #[true, true, true, true, false, false] rfl rfl (by kernel_rfl) (by decide) (fun K hK => ?_)
            refine goes_ Try.func49 (by kernel_rfl) rfl #[.agg #[.slice A1_0 l1_0.length c1_0, .slice A1_1 l1_1.length c1_1, .slice A1_2 l1_2.length c1_2]] (by rfl) rfl rfl (by (try simp only [List.map_toArray, List.map_cons, List.map_nil]); first | done | rfl | (simp only [List.length_drop, List.length_take]; rfl)) ?_
            with_reducible refine (laws_toMonoid.calls k _ _ l1_0 _ _ l1_1 _ _ l1_2 t8014 t8017 t8020 _ ?side1 ?side2 ?side3 ?side4 ?side5 ?side6 A20.out).mono ?_
            (case side1 => repeat (first | exact (Kd.C_below HR1_0.out HB.out) | (with_reducible refine Kd.C_alloc ?_ _) | (with_reducible refine Kd.C_drewN ?_ _) | (with_reducible refine Kd.C_drew ?_)))
            (case side2 => exact HC1_0.out)
            (case side3 => repeat (first | exact (Kd.C_below HR1_1.out HB.out) | (with_reducible refine Kd.C_alloc ?_ _) | (with_reducible refine Kd.C_drewN ?_ _) | (with_reducible refine Kd.C_drew ?_)))
            (case side4 => exact HC1_1.out)
            (case side5 => repeat (first | exact (Kd.C_below HR1_2.out HB.out) | (with_reducible refine Kd.C_alloc ?_ _) | (with_reducible refine Kd.C_drewN ?_ _) | (with_reducible refine Kd.C_drew ?_)))
            (case side6 => exact HC1_2.out)
            rintro e w79 ⟨v8015, v8018, v8021, rfl, ho0, ho1, ho2, hb⟩
            refine ⟨_, rfl, ?_⟩
            have n0_ := Aside0.mk (Kd.S_mono (Kd.S_told (Kd.S_told (Kd.S_told (Kd.S_old (by (with_reducible repeat (first | apply Kd.S_alloc | apply Kd.S_drewN | apply Kd.S_drew)); exact HO8007.out) hb) (Kd.S_base ho0)) (Kd.R_base ho1)) (Kd.S_base ho2)) (fun _ h_ => h_.1))
            have n1_ := Aside0.mk (Kd.R_elder' (by (with_reducible repeat (first | apply Kd.R_alloc | apply Kd.R_drewN | apply Kd.R_drew)); exact HO8010.out) (Kd.R_base ho1) hb)
            have n2_ := Aside0.mk (Kd.S_mono (Kd.S_told (Kd.S_told (Kd.S_told (Kd.S_old (by (with_reducible repeat (first | apply Kd.S_alloc | apply Kd.S_drewN | apply Kd.S_drew)); exact HO8013.out) hb) (Kd.S_base ho0)) (Kd.R_base ho1)) (Kd.S_base ho2)) (fun _ h_ => h_.1))
            have n3_ := Aside0.mk (Kd.S_lower (Kd.S_new' (Kd.S_new' (Kd.S_new' ho0 (Kd.S_lt (by (with_reducible repeat (first | apply Kd.S_alloc | apply Kd.S_drewN | apply Kd.S_drew)); exact HO8007.out))) (Kd.R_lt (by (with_reducible repeat (first | apply Kd.R_alloc | apply Kd.R_drewN | apply Kd.R_drew)); exact HO8010.out))) (Kd.S_lt (by (with_reducible repeat (first | apply Kd.S_alloc | apply Kd.S_drewN | apply Kd.S_drew)); exact HO8013.out))) (below_size (by repeat (first | (with_reducible first | exact HB.out | apply below_alloc | apply pw_below_drewN | apply below_drew1 | refine below_set ?_ GE8001.out | refine below_set ?_ GE8002.out) | exact HB.out))))
            have n4_ := Aside0.mk (Kd.R_lower (Kd.R_new' ho1 (Kd.R_lt (by (with_reducible repeat (first | apply Kd.R_alloc | apply Kd.R_drewN | apply Kd.R_drew)); exact HO8010.out))) (below_size (by repeat (first | (with_reducible first | exact HB.out | apply below_alloc | apply pw_below_drewN | apply below_drew1 | refine below_set ?_ GE8001.out | refine below_set ?_ GE8002.out) | exact HB.out))))
            have n5_ := Aside0.mk (Kd.S_lower (Kd.S_new' (Kd.S_new' (Kd.S_new' ho2 (Kd.S_lt (by (with_reducible repeat (first | apply Kd.S_alloc | apply Kd.S_drewN | apply Kd.S_drew)); exact HO8007.out))) (Kd.R_lt (by (with_reducible repeat (first | apply Kd.R_alloc | apply Kd.R_drewN | apply Kd.R_drew)); exact HO8010.out))) (Kd.S_lt (by (with_reducible repeat (first | apply Kd.S_alloc | apply Kd.S_drewN | apply Kd.S_drew)); exact HO8013.out))) (below_size (by repeat (first | (with_reducible first | exact HB.out | apply below_alloc | apply pw_below_drewN | apply below_drew1 | refine below_set ?_ GE8001.out | refine below_set ?_ GE8002.out) | exact HB.out))))
            have n6_ := Aside0.mk (blk_below (g := gb8001) (o := .cells #[.slice A0_0 l0_0.length c0_0, .slice A0_1 l0_1.length c0_1, .slice A0_2 l0_2.length c0_2] 76 (0, 0)) (by (with_reducible repeat (first | refine blk_drewN ?_ _ | refine blk_drew ?_ | refine blk_alloc ?_ _)); exact BK8001.out) hb)
            have n7_ := Aside0.mk (blk_below (g := gb8002) (o := .cells #[.slice A1_0 l1_0.length c1_0, .slice A1_1 l1_1.length c1_1, .slice A1_2 l1_2.length c1_2] 76 (0, 0)) (by (with_reducible repeat (first | refine blk_drewN ?_ _ | refine blk_drew ?_ | refine blk_alloc ?_ _)); exact BK8002.out) hb)
            have n8_ := Aside0.mk (below_step (by repeat (first | (with_reducible first | exact HB.out | apply below_alloc | apply pw_below_drewN | apply below_drew1 | refine below_set ?_ GE8001.out | refine below_set ?_ GE8002.out) | exact HB.out)) hb)
            clear HO8007
            clear HO8010
            clear HO8013
            clear BK8001
            clear BK8002
            clear HB
            have HO8007 := n0_
            have HO8010 := n1_
            have HO8013 := n2_
            have HO8016 := n3_
            have HO8019 := n4_
            have HO8022 := n5_
            have BK8001 := n6_
            have BK8002 := n7_
            have HB := n8_
            clear n0_ n1_ n2_ n3_ n4_ n5_ n6_ n7_ n8_
            (try clear hb)
            (try clear hb2)
            (try clear hk)
            (try clear hi)
            (try clear ho0)
            (try clear ho1)
            (try clear ho2)
            obtain ⟨Ao80, co80, eo80⟩ := Kd.S_slice HO8007.out
            (first | subst eo80 | (injection eo80 with f1_ f2_ f3_; have f4_ := f1_.symm; have f5_ := f3_.symm; clear f1_ f2_ f3_; subst f4_; subst f5_))
            obtain ⟨Ao81, co81, eo81⟩ := Kd.R_slice HO8010.out
            (first | subst eo81 | (injection eo81 with f1_ f2_ f3_; have f4_ := f1_.symm; have f5_ := f3_.symm; clear f1_ f2_ f3_; subst f4_; subst f5_))
            obtain ⟨Ao82, co82, eo82⟩ := Kd.S_slice HO8013.out
            (first | subst eo82 | (injection eo82 with f1_ f2_ f3_; have f4_ := f1_.symm; have f5_ := f3_.symm; clear f1_ f2_ f3_; subst f4_; subst f5_))
            obtain ⟨Ao83, co83, eo83⟩ := Kd.S_slice HO8016.out
            (first | subst eo83 | (injection eo83 with f1_ f2_ f3_; have f4_ := f1_.symm; have f5_ := f3_.symm; clear f1_ f2_ f3_; subst f4_; subst f5_))
            obtain ⟨Ao84, co84, eo84⟩ := Kd.R_slice HO8019.out
            (first | subst eo84 | (injection eo84 with f1_ f2_ f3_; have f4_ := f1_.symm; have f5_ := f3_.symm; clear f1_ f2_ f3_; subst f4_; subst f5_))
            obtain ⟨Ao85, co85, eo85⟩ := Kd.S_slice HO8022.out
            (first | subst eo85 | (injection eo85 with f1_ f2_ f3_; have f4_ := f1_.symm; have f5_ := f3_.symm; clear f1_ f2_ f3_; subst f4_; subst f5_))
            refine hK.out _ _ ⟨(blk_cell BK8001.out 0).trans rfl, (blk_cell BK8001.out 1).trans rfl, (blk_cell BK8001.out 2).trans rfl, (blk_cell BK8002.out 0).trans rfl, (blk_cell BK8002.out 1).trans rfl, (blk_cell BK8002.out 2).trans rfl⟩ (fun hHeld => ?_)
            clear hK K
            refine norm_ (a' := ?_) ?_ ?_
            rotate_left
            · show Act.put _ (some 23) _ = _
              simp only [Act.put, List.setIfInBounds_toArray, List.set_cons_zero, List.set_cons_succ, i64_w, i32_w]
              rfl
            refine one_ (i := 4) (N := some 24) #[true, true, true, true, true, false] rfl rfl (by kernel_rfl) (by decide) (fun K hK => ?_)
            refine goes_ Try.func48 (by kernel_rfl) rfl #[.agg #[.slice Ao80 t8005.length co80, .slice Ao81 t8008.length co81, .slice Ao82 t8011.length co82], .agg #[.slice Ao83 t8014.length co83, .slice Ao84 t8017.length co84, .slice Ao85 t8020.length co85]] (by rfl) rfl rfl (by (try simp only [List.map_toArray, List.map_cons, List.map_nil]); first | done | rfl | (simp only [List.length_drop, List.length_take]; rfl)) ?_
            with_reducible refine (spec_EqualMonoid.calls k _ _ t8005 _ _ t8008 _ _ t8011 _ _ t8014 _ _ t8017 _ _ t8020 t8023 _ ?side1 ?side2 ?side3 ?side4 ?side5 ?side6 ?side7 ?side8 ?side9 ?side10 ?side11 ?side12 A21.out).mono ?_
            (case side1 => repeat (first | exact (Kd.S_reads' HO8007.out).2.2 | (with_reducible refine Kd.C_alloc ?_ _) | (with_reducible refine Kd.C_drewN ?_ _) | (with_reducible refine Kd.C_drew ?_)))
            (case side2 => exact (Kd.S_reads' HO8007.out).2.1)
            (case side3 => repeat (first | exact (Kd.R_reads' HO8010.out).2.2 | (with_reducible refine Kd.C_alloc ?_ _) | (with_reducible refine Kd.C_drewN ?_ _) | (with_reducible refine Kd.C_drew ?_)))
            (case side4 => exact (Kd.R_reads' HO8010.out).2.1)
            (case side5 => repeat (first | exact (Kd.S_reads' HO8013.out).2.2 | (with_reducible refine Kd.C_alloc ?_ _) | (with_reducible refine Kd.C_drewN ?_ _) | (with_reducible refine Kd.C_drew ?_)))
            (case side6 => exact (Kd.S_reads' HO8013.out).2.1)
            (case side7 => repeat (first | exact (Kd.S_reads' HO8016.out).2.2 | (with_reducible refine Kd.C_alloc ?_ _) | (with_reducible refine Kd.C_drewN ?_ _) | (with_reducible refine Kd.C_drew ?_)))
            (case side8 => exact (Kd.S_reads' HO8016.out).2.1)
            (case side9 => repeat (first | exact (Kd.R_reads' HO8019.out).2.2 | (with_reducible refine Kd.C_alloc ?_ _) | (with_reducible refine Kd.C_drewN ?_ _) | (with_reducible refine Kd.C_drew ?_)))
            (case side10 => exact (Kd.R_reads' HO8019.out).2.1)
            (case side11 => repeat (first | exact (Kd.S_reads' HO8022.out).2.2 | (with_reducible refine Kd.C_alloc ?_ _) | (with_reducible refine Kd.C_drewN ?_ _) | (with_reducible refine Kd.C_drew ?_)))
            (case side12 => exact (Kd.S_reads' HO8022.out).2.1)
            rintro e w86 ⟨rfl, hb⟩
            refine ⟨_, rfl, ?_⟩
            have n0_ := Aside0.mk (Kd.S_below (by (with_reducible repeat (first | apply Kd.S_alloc | apply Kd.S_drewN | apply Kd.S_drew)); exact HO8007.out) hb)
            have n1_ := Aside0.mk (Kd.R_below (by (with_reducible repeat (first | apply Kd.R_alloc | apply Kd.R_drewN | apply Kd.R_drew)); exact HO8010.out) hb)
            have n2_ := Aside0.mk (Kd.S_below (by (with_reducible repeat (first | apply Kd.S_alloc | apply Kd.S_drewN | apply Kd.S_drew)); exact HO8013.out) hb)
            have n3_ := Aside0.mk (Kd.S_below (by (with_reducible repeat (first | apply Kd.S_alloc | apply Kd.S_drewN | apply Kd.S_drew)); exact HO8016.out) hb)
            have n4_ := Aside0.mk (Kd.R_below (by (with_reducible repeat (first | apply Kd.R_alloc | apply Kd.R_drewN | apply Kd.R_drew)); exact HO8019.out) hb)
            have n5_ := Aside0.mk (Kd.S_below (by (with_reducible repeat (first | apply Kd.S_alloc | apply Kd.S_drewN | apply Kd.S_drew)); exact HO8022.out) hb)
            have n6_ := Aside0.mk (blk_below (g := gb8001) (o := .cells #[.slice A0_0 l0_0.length c0_0, .slice A0_1 l0_1.length c0_1, .slice A0_2 l0_2.length c0_2] 76 (0, 0)) (by (with_reducible repeat (first | refine blk_drewN ?_ _ | refine blk_drew ?_ | refine blk_alloc ?_ _)); exact BK8001.out) hb)
            have n7_ := Aside0.mk (blk_below (g := gb8002) (o := .cells #[.slice A1_0 l1_0.length c1_0, .slice A1_1 l1_1.length c1_1, .slice A1_2 l1_2.length c1_2] 76 (0, 0)) (by (with_reducible repeat (first | refine blk_drewN ?_ _ | refine blk_drew ?_ | refine blk_alloc ?_ _)); exact BK8002.out) hb)
            have n8_ := Aside0.mk (below_step (by repeat (first | (with_reducible first | exact HB.out | apply below_alloc | apply pw_below_drewN | apply below_drew1 | refine below_set ?_ GE8001.out | refine below_set ?_ GE8002.out) | exact HB.out)) hb)
            clear HO8007
            clear HO8010
            clear HO8013
            clear HO8016
            clear HO8019
            clear HO8022
            clear BK8001
            clear BK8002
            clear HB
            have HO8007 := n0_
            have HO8010 := n1_
            have HO8013 := n2_
            have HO8016 := n3_
            have HO8019 := n4_
            have HO8022 := n5_
            have BK8001 := n6_
            have BK8002 := n7_
            have HB := n8_
            clear n0_ n1_ n2_ n3_ n4_ n5_ n6_ n7_ n8_
            (try clear hb)
            (try clear hb2)
            (try clear hk)
            (try clear hi)
            refine hK.out _ _ ⟨(blk_cell BK8001.out 0).trans rfl, (blk_cell BK8001.out 1).trans rfl, (blk_cell BK8001.out 2).trans rfl, (blk_cell BK8002.out 0).trans rfl, (blk_cell BK8002.out 1).trans rfl, (blk_cell BK8002.out 2).trans rfl⟩ (fun hHeld => ?_)
            clear hK K
            refine norm_ (a' := ?_) ?_ ?_
            rotate_left
            · show Act.put _ (some 24) _ = _
              simp only [Act.put, List.setIfInBounds_toArray, List.set_cons_zero, List.set_cons_succ, i64_w, i32_w]
              rfl
            refine pure_ (i := 5) (N := some 6) (v := ?_) (a' := ?_) #[true, true, true, true, true, true] rfl rfl (by kernel_rfl) (fun _ _ _ h => h) (Or.inl ⟨by rfl, ?_⟩) ?_ ?_
            rotate_left
            · intro w'
              go_simp
              first | with_reducible rfl | (rw [if_neg (by omega)]; done)
            rotate_left
            · simp only [Act.put, List.setIfInBounds_toArray, List.set_cons_zero, List.set_cons_succ, i64_w, i32_w]
              rfl
            refine done_ (by kernel_rfl) ?_
            have hcz87_0 : w86.cell? ⟨gb8001, 0, none⟩ = some (.slice A0_0 l0_0.length c0_0) := (blk_cell BK8001.out 0).trans rfl
            have hcz87_1 : w86.cell? ⟨gb8001, 1, none⟩ = some (.slice A0_1 l0_1.length c0_1) := (blk_cell BK8001.out 1).trans rfl
            have hcz87_2 : w86.cell? ⟨gb8001, 2, none⟩ = some (.slice A0_2 l0_2.length c0_2) := (blk_cell BK8001.out 2).trans rfl
            have hfz87_0 := blk_frozen BK8001.out 0
            have hfz87_1 := blk_frozen BK8001.out 1
            have hfz87_2 := blk_frozen BK8001.out 2
            try go_wp2_with (first | ((with_reducible refine gate_callee (f := 49) rfl ?_); refine goesL_ (some 26) rfl rfl Try.func49 (by kernel_rfl) rfl #[.agg #[.slice A0_0 l0_0.length c0_0, .slice A0_1 l0_1.length c0_1, .slice A0_2 l0_2.length c0_2]] rfl (by (try simp only [List.map_toArray, List.map_cons, List.map_nil]); first | done | rfl | (simp only [List.length_drop, List.length_take]; rfl)) ?_; (with_reducible refine (laws_toMonoid.calls k _ _ l0_0 _ _ l0_1 _ _ l0_2 t8024 t8027 t8030 _ ?side1 ?side2 ?side3 ?side4 ?side5 ?side6 A22.out).mono ?_); (case side1 => repeat (first | exact (Kd.C_below HR0_0.out HB.out) | (with_reducible refine Kd.C_alloc ?_ _) | (with_reducible refine Kd.C_drewN ?_ _) | (with_reducible refine Kd.C_drew ?_))); (case side2 => exact HC0_0.out); (case side3 => repeat (first | exact (Kd.C_below HR0_1.out HB.out) | (with_reducible refine Kd.C_alloc ?_ _) | (with_reducible refine Kd.C_drewN ?_ _) | (with_reducible refine Kd.C_drew ?_))); (case side4 => exact HC0_1.out); (case side5 => repeat (first | exact (Kd.C_below HR0_2.out HB.out) | (with_reducible refine Kd.C_alloc ?_ _) | (with_reducible refine Kd.C_drewN ?_ _) | (with_reducible refine Kd.C_drew ?_))); (case side6 => exact HC0_2.out); rintro e w88 ⟨v8025, v8028, v8031, rfl, ho0, ho1, ho2, hb⟩; refine ⟨_, rfl, ?_⟩; have n0_ := Aside0.mk (Kd.S_mono (Kd.S_told (Kd.S_told (Kd.S_told (Kd.S_old (by (with_reducible repeat (first | apply Kd.S_alloc | apply Kd.S_drewN | apply Kd.S_drew)); exact HO8007.out) hb) (Kd.S_base ho0)) (Kd.R_base ho1)) (Kd.S_base ho2)) (fun _ h_ => h_.1)); have n1_ := Aside0.mk (Kd.R_elder' (by (with_reducible repeat (first | apply Kd.R_alloc | apply Kd.R_drewN | apply Kd.R_drew)); exact HO8010.out) (Kd.R_base ho1) hb); have n2_ := Aside0.mk (Kd.S_mono (Kd.S_told (Kd.S_told (Kd.S_told (Kd.S_old (by (with_reducible repeat (first | apply Kd.S_alloc | apply Kd.S_drewN | apply Kd.S_drew)); exact HO8013.out) hb) (Kd.S_base ho0)) (Kd.R_base ho1)) (Kd.S_base ho2)) (fun _ h_ => h_.1)); have n3_ := Aside0.mk (Kd.S_mono (Kd.S_told (Kd.S_told (Kd.S_told (Kd.S_old (by (with_reducible repeat (first | apply Kd.S_alloc | apply Kd.S_drewN | apply Kd.S_drew)); exact HO8016.out) hb) (Kd.S_base ho0)) (Kd.R_base ho1)) (Kd.S_base ho2)) (fun _ h_ => h_.1)); have n4_ := Aside0.mk (Kd.R_elder' (by (with_reducible repeat (first | apply Kd.R_alloc | apply Kd.R_drewN | apply Kd.R_drew)); exact HO8019.out) (Kd.R_base ho1) hb); have n5_ := Aside0.mk (Kd.S_mono (Kd.S_told (Kd.S_told (Kd.S_told (Kd.S_old (by (with_reducible repeat (first | apply Kd.S_alloc | apply Kd.S_drewN | apply Kd.S_drew)); exact HO8022.out) hb) (Kd.S_base ho0)) (Kd.R_base ho1)) (Kd.S_base ho2)) (fun _ h_ => h_.1)); have n6_ := Aside0.mk (Kd.S_lower (Kd.S_new' (Kd.S_new' (Kd.S_new' (Kd.S_new' (Kd.S_new' (Kd.S_new' ho0 (Kd.S_lt (by (with_reducible repeat (first | apply Kd.S_alloc | apply Kd.S_drewN | apply Kd.S_drew)); exact HO8007.out))) (Kd.R_lt (by (with_reducible repeat (first | apply Kd.R_alloc | apply Kd.R_drewN | apply Kd.R_drew)); exact HO8010.out))) (Kd.S_lt (by (with_reducible repeat (first | apply Kd.S_alloc | apply Kd.S_drewN | apply Kd.S_drew)); exact HO8013.out))) (Kd.S_lt (by (with_reducible repeat (first | apply Kd.S_alloc | apply Kd.S_drewN | apply Kd.S_drew)); exact HO8016.out))) (Kd.R_lt (by (with_reducible repeat (first | apply Kd.R_alloc | apply Kd.R_drewN | apply Kd.R_drew)); exact HO8019.out))) (Kd.S_lt (by (with_reducible repeat (first | apply Kd.S_alloc | apply Kd.S_drewN | apply Kd.S_drew)); exact HO8022.out))) (below_size (by repeat (first | (with_reducible first | exact HB.out | apply below_alloc | apply pw_below_drewN | apply below_drew1 | refine below_set ?_ GE8001.out | refine below_set ?_ GE8002.out) | exact HB.out)))); have n7_ := Aside0.mk (Kd.R_lower (Kd.R_new' (Kd.R_new' ho1 (Kd.R_lt (by (with_reducible repeat (first | apply Kd.R_alloc | apply Kd.R_drewN | apply Kd.R_drew)); exact HO8010.out))) (Kd.R_lt (by (with_reducible repeat (first | apply Kd.R_alloc | apply Kd.R_drewN | apply Kd.R_drew)); exact HO8019.out))) (below_size (by repeat (first | (with_reducible first | exact HB.out | apply below_alloc | apply pw_below_drewN | apply below_drew1 | refine below_set ?_ GE8001.out | refine below_set ?_ GE8002.out) | exact HB.out)))); have n8_ := Aside0.mk (Kd.S_lower (Kd.S_new' (Kd.S_new' (Kd.S_new' (Kd.S_new' (Kd.S_new' (Kd.S_new' ho2 (Kd.S_lt (by (with_reducible repeat (first | apply Kd.S_alloc | apply Kd.S_drewN | apply Kd.S_drew)); exact HO8007.out))) (Kd.R_lt (by (with_reducible repeat (first | apply Kd.R_alloc | apply Kd.R_drewN | apply Kd.R_drew)); exact HO8010.out))) (Kd.S_lt (by (with_reducible repeat (first | apply Kd.S_alloc | apply Kd.S_drewN | apply Kd.S_drew)); exact HO8013.out))) (Kd.S_lt (by (with_reducible repeat (first | apply Kd.S_alloc | apply Kd.S_drewN | apply Kd.S_drew)); exact HO8016.out))) (Kd.R_lt (by (with_reducible repeat (first | apply Kd.R_alloc | apply Kd.R_drewN | apply Kd.R_drew)); exact HO8019.out))) (Kd.S_lt (by (with_reducible repeat (first | apply Kd.S_alloc | apply Kd.S_drewN | apply Kd.S_drew)); exact HO8022.out))) (below_size (by repeat (first | (with_reducible first | exact HB.out | apply below_alloc | apply pw_below_drewN | apply below_drew1 | refine below_set ?_ GE8001.out | refine below_set ?_ GE8002.out) | exact HB.out)))); have n9_ := Aside0.mk (blk_below (g := gb8001) (o := .cells #[.slice A0_0 l0_0.length c0_0, .slice A0_1 l0_1.length c0_1, .slice A0_2 l0_2.length c0_2] 76 (0, 0)) (by (with_reducible repeat (first | refine blk_drewN ?_ _ | refine blk_drew ?_ | refine blk_alloc ?_ _)); exact BK8001.out) hb); have n10_ := Aside0.mk (blk_below (g := gb8002) (o := .cells #[.slice A1_0 l1_0.length c1_0, .slice A1_1 l1_1.length c1_1, .slice A1_2 l1_2.length c1_2] 76 (0, 0)) (by (with_reducible repeat (first | refine blk_drewN ?_ _ | refine blk_drew ?_ | refine blk_alloc ?_ _)); exact BK8002.out) hb); have n11_ := Aside0.mk (below_step (by repeat (first | (with_reducible first | exact HB.out | apply below_alloc | apply pw_below_drewN | apply below_drew1 | refine below_set ?_ GE8001.out | refine below_set ?_ GE8002.out) | exact HB.out)) hb); clear HO8007; clear HO8010; clear HO8013; clear HO8016; clear HO8019; clear HO8022; clear BK8001; clear BK8002; clear HB; have HO8007 := n0_; have HO8010 := n1_; have HO8013 := n2_; have HO8016 := n3_; have HO8019 := n4_; have HO8022 := n5_; have HO8026 := n6_; have HO8029 := n7_; have HO8032 := n8_; have BK8001 := n9_; have BK8002 := n10_; have HB := n11_; clear n0_ n1_ n2_ n3_ n4_ n5_ n6_ n7_ n8_ n9_ n10_ n11_; (try clear hb); (try clear hb2); (try clear hk); (try clear hi); (try clear ho0); (try clear ho1); (try clear ho2)) | ((with_reducible refine gate_dst (N := 7) rfl ?_); refine box_event ?hg (N := 7) ?hd (cs := #[.slice none 0 0, .slice none 0 0, .slice none 0 0]) (t := 31) ?hr ?_; (case hd => rfl); (case hg => rfl); (case hr => first | (go_simp; done) | (go_simp; rfl)); intro gb8033 hg w89 hbox hb; have n0_ := Aside0.mk (Kd.S_below (by (with_reducible repeat (first | apply Kd.S_alloc | apply Kd.S_drewN | apply Kd.S_drew)); exact HO8007.out) hb); have n1_ := Aside0.mk (Kd.R_below (by (with_reducible repeat (first | apply Kd.R_alloc | apply Kd.R_drewN | apply Kd.R_drew)); exact HO8010.out) hb); have n2_ := Aside0.mk (Kd.S_below (by (with_reducible repeat (first | apply Kd.S_alloc | apply Kd.S_drewN | apply Kd.S_drew)); exact HO8013.out) hb); have n3_ := Aside0.mk (Kd.S_below (by (with_reducible repeat (first | apply Kd.S_alloc | apply Kd.S_drewN | apply Kd.S_drew)); exact HO8016.out) hb); have n4_ := Aside0.mk (Kd.R_below (by (with_reducible repeat (first | apply Kd.R_alloc | apply Kd.R_drewN | apply Kd.R_drew)); exact HO8019.out) hb); have n5_ := Aside0.mk (Kd.S_below (by (with_reducible repeat (first | apply Kd.S_alloc | apply Kd.S_drewN | apply Kd.S_drew)); exact HO8022.out) hb); have n6_ := Aside0.mk (Kd.S_below (by (with_reducible repeat (first | apply Kd.S_alloc | apply Kd.S_drewN | apply Kd.S_drew)); exact HO8026.out) hb); have n7_ := Aside0.mk (Kd.R_below (by (with_reducible repeat (first | apply Kd.R_alloc | apply Kd.R_drewN | apply Kd.R_drew)); exact HO8029.out) hb); have n8_ := Aside0.mk (Kd.S_below (by (with_reducible repeat (first | apply Kd.S_alloc | apply Kd.S_drewN | apply Kd.S_drew)); exact HO8032.out) hb); have n9_ := Aside0.mk (blk_below (g := gb8001) (o := .cells #[.slice A0_0 l0_0.length c0_0, .slice A0_1 l0_1.length c0_1, .slice A0_2 l0_2.length c0_2] 76 (0, 0)) (by (with_reducible repeat (first | refine blk_drewN ?_ _ | refine blk_drew ?_ | refine blk_alloc ?_ _)); exact BK8001.out) hb); have n10_ := Aside0.mk (blk_below (g := gb8002) (o := .cells #[.slice A1_0 l1_0.length c1_0, .slice A1_1 l1_1.length c1_1, .slice A1_2 l1_2.length c1_2] 76 (0, 0)) (by (with_reducible repeat (first | refine blk_drewN ?_ _ | refine blk_drew ?_ | refine blk_alloc ?_ _)); exact BK8002.out) hb); have n11_ := Aside0.mk (below_step (by repeat (first | (with_reducible first | exact HB.out | apply below_alloc | apply pw_below_drewN | apply below_drew1 | refine below_set ?_ GE8001.out | refine below_set ?_ GE8002.out) | exact HB.out)) hb); have n12_ := Aside0.mk (hbox); have n13_ := Aside0.mk ((by rw [hg]; exact (below_size (by repeat (first | (with_reducible first | exact HB.out | apply below_alloc | apply pw_below_drewN | apply below_drew1 | refine below_set ?_ GE8001.out | refine below_set ?_ GE8002.out) | exact HB.out))) : w.heap.size ≤ gb8033)); have n14_ := Aside0.mk ((by rw [hg]; exact (below_size (by repeat (first | (with_reducible first | exact HB.out | apply below_alloc | apply pw_below_drewN | apply below_drew1 | refine below_set ?_ GE8001.out | refine below_set ?_ GE8002.out) | exact HB.out))) : w.heap.size ≤ gb8033)); have n15_ := Aside0.mk ((by rw [hg]; exact Nat.ne_of_lt (blk_lt (g := gb8001) (o := .cells #[.slice A0_0 l0_0.length c0_0, .slice A0_1 l0_1.length c0_1, .slice A0_2 l0_2.length c0_2] 76 (0, 0)) (by (with_reducible repeat (first | refine blk_drewN ?_ _ | refine blk_drew ?_ | refine blk_alloc ?_ _)); exact BK8001.out)) : gb8001 ≠ gb8033)); have n16_ := Aside0.mk ((by rw [hg]; exact Nat.ne_of_gt (blk_lt (g := gb8001) (o := .cells #[.slice A0_0 l0_0.length c0_0, .slice A0_1 l0_1.length c0_1, .slice A0_2 l0_2.length c0_2] 76 (0, 0)) (by (with_reducible repeat (first | refine blk_drewN ?_ _ | refine blk_drew ?_ | refine blk_alloc ?_ _)); exact BK8001.out)) : gb8033 ≠ gb8001)); have n17_ := Aside0.mk ((by rw [hg]; exact Nat.ne_of_lt (blk_lt (g := gb8002) (o := .cells #[.slice A1_0 l1_0.length c1_0, .slice A1_1 l1_1.length c1_1, .slice A1_2 l1_2.length c1_2] 76 (0, 0)) (by (with_reducible repeat (first | refine blk_drewN ?_ _ | refine blk_drew ?_ | refine blk_alloc ?_ _)); exact BK8002.out)) : gb8002 ≠ gb8033)); have n18_ := Aside0.mk ((by rw [hg]; exact Nat.ne_of_gt (blk_lt (g := gb8002) (o := .cells #[.slice A1_0 l1_0.length c1_0, .slice A1_1 l1_1.length c1_1, .slice A1_2 l1_2.length c1_2] 76 (0, 0)) (by (with_reducible repeat (first | refine blk_drewN ?_ _ | refine blk_drew ?_ | refine blk_alloc ?_ _)); exact BK8002.out)) : gb8033 ≠ gb8002)); clear HO8007; clear HO8010; clear HO8013; clear HO8016; clear HO8019; clear HO8022; clear HO8026; clear HO8029; clear HO8032; clear BK8001; clear BK8002; clear HB; have HO8007 := n0_; have HO8010 := n1_; have HO8013 := n2_; have HO8016 := n3_; have HO8019 := n4_; have HO8022 := n5_; have HO8026 := n6_; have HO8029 := n7_; have HO8032 := n8_; have BK8001 := n9_; have BK8002 := n10_; have HB := n11_; have BK8033 := n12_; have GW8033 := n13_; have GE8033 := n14_; have NB8001_8033 := n15_; have NB8033_8001 := n16_; have NB8002_8033 := n17_; have NB8033_8002 := n18_; clear n0_ n1_ n2_ n3_ n4_ n5_ n6_ n7_ n8_ n9_ n10_ n11_ n12_ n13_ n14_ n15_ n16_ n17_ n18_; clear hb hbox hg; obtain ⟨Ao90, co90, eo90⟩ := Kd.S_slice HO8026.out; subst eo90; have hnb91 := NB8033_8001.out; have hnc91 := NB8001_8033.out; have hnb92 := NB8033_8002.out; have hnc92 := NB8002_8033.out; have hcz93_0 : w89.cell? ⟨gb8033, 0, none⟩ = some (.slice none 0 0) := (blk_cell BK8033.out 0).trans rfl; have hcz93_1 : w89.cell? ⟨gb8033, 1, none⟩ = some (.slice none 0 0) := (blk_cell BK8033.out 1).trans rfl; have hcz93_2 : w89.cell? ⟨gb8033, 2, none⟩ = some (.slice none 0 0) := (blk_cell BK8033.out 2).trans rfl; have hfz93_0 := blk_frozen BK8033.out 0; have hfz93_1 := blk_frozen BK8033.out 1; have hfz93_2 := blk_frozen BK8033.out 2; obtain ⟨Ao94, co94, eo94⟩ := Kd.R_slice HO8029.out; subst eo94; obtain ⟨Ao95, co95, eo95⟩ := Kd.S_slice HO8032.out; subst eo95; have hcz96_0 : w89.cell? ⟨gb8002, 0, none⟩ = some (.slice A1_0 l1_0.length c1_0) := (blk_cell BK8002.out 0).trans rfl; have hcz96_1 : w89.cell? ⟨gb8002, 1, none⟩ = some (.slice A1_1 l1_1.length c1_1) := (blk_cell BK8002.out 1).trans rfl; have hcz96_2 : w89.cell? ⟨gb8002, 2, none⟩ = some (.slice A1_2 l1_2.length c1_2) := (blk_cell BK8002.out 2).trans rfl; have hfz96_0 := blk_frozen BK8002.out 0; have hfz96_1 := blk_frozen BK8002.out 1; have hfz96_2 := blk_frozen BK8002.out 2) | ((with_reducible refine gate_callee (f := 49) rfl ?_); refine goesL_ (some 28) rfl rfl Try.func49 (by kernel_rfl) rfl #[.agg #[.slice A1_0 l1_0.length c1_0, .slice A1_1 l1_1.length c1_1, .slice A1_2 l1_2.length c1_2]] rfl (by (try simp only [List.map_toArray, List.map_cons, List.map_nil]); first | done | rfl | (simp only [List.length_drop, List.length_take]; rfl)) ?_; (with_reducible refine (laws_toMonoid.calls k _ _ l1_0 _ _ l1_1 _ _ l1_2 t8034 t8037 t8040 _ ?side1 ?side2 ?side3 ?side4 ?side5 ?side6 A23.out).mono ?_); (case side1 => exact Kd.C_below HR1_0.out (by repeat (first | (with_reducible first | exact HB.out | apply below_alloc | apply pw_below_drewN | apply below_drew1 | refine below_set ?_ GE8001.out | refine below_set ?_ GE8002.out | refine below_set ?_ GE8033.out) | exact HB.out))); (case side2 => exact HC1_0.out); (case side3 => exact Kd.C_below HR1_1.out (by repeat (first | (with_reducible first | exact HB.out | apply below_alloc | apply pw_below_drewN | apply below_drew1 | refine below_set ?_ GE8001.out | refine below_set ?_ GE8002.out | refine below_set ?_ GE8033.out) | exact HB.out))); (case side4 => exact HC1_1.out); (case side5 => exact Kd.C_below HR1_2.out (by repeat (first | (with_reducible first | exact HB.out | apply below_alloc | apply pw_below_drewN | apply below_drew1 | refine below_set ?_ GE8001.out | refine below_set ?_ GE8002.out | refine below_set ?_ GE8033.out) | exact HB.out))); (case side6 => exact HC1_2.out); rintro e w97 ⟨v8035, v8038, v8041, rfl, ho0, ho1, ho2, hb⟩; refine ⟨_, rfl, ?_⟩; have n0_ := Aside0.mk (Kd.S_mono (Kd.S_told (Kd.S_told (Kd.S_told (Kd.S_old (by (with_reducible repeat (first | apply Kd.S_alloc | apply Kd.S_drewN | apply Kd.S_drew)); exact (Kd.S_mono (Kd.S_far (p := ⟨gb8033, 2, none⟩) (Kd.S_far (p := ⟨gb8033, 1, none⟩) (Kd.S_far (p := ⟨gb8033, 0, none⟩) (Kd.S_types HO8007.out BK8033.out (by decide)) (fun _ hk => hk.2) (.slice Ao90 t8024.length co90)) (fun _ hk => hk.2) (.slice Ao94 t8027.length co94)) (fun _ hk => hk.2) (.slice Ao95 t8030.length co95)) (fun _ h_ => h_.1))) hb) (Kd.S_base ho0)) (Kd.R_base ho1)) (Kd.S_base ho2)) (fun _ h_ => h_.1)); have n1_ := Aside0.mk (Kd.R_elder' (by (with_reducible repeat (first | apply Kd.R_alloc | apply Kd.R_drewN | apply Kd.R_drew)); exact (Kd.R_mono (Kd.R_far (p := ⟨gb8033, 2, none⟩) (Kd.R_far (p := ⟨gb8033, 1, none⟩) (Kd.R_far (p := ⟨gb8033, 0, none⟩) (Kd.R_types HO8010.out BK8033.out (by decide)) (fun _ hk => hk.2) (.slice Ao90 t8024.length co90)) (fun _ hk => hk.2) (.slice Ao94 t8027.length co94)) (fun _ hk => hk.2) (.slice Ao95 t8030.length co95)) (fun _ h_ => h_.1))) (Kd.R_base ho1) hb); have n2_ := Aside0.mk (Kd.S_mono (Kd.S_told (Kd.S_told (Kd.S_told (Kd.S_old (by (with_reducible repeat (first | apply Kd.S_alloc | apply Kd.S_drewN | apply Kd.S_drew)); exact (Kd.S_mono (Kd.S_far (p := ⟨gb8033, 2, none⟩) (Kd.S_far (p := ⟨gb8033, 1, none⟩) (Kd.S_far (p := ⟨gb8033, 0, none⟩) (Kd.S_types HO8013.out BK8033.out (by decide)) (fun _ hk => hk.2) (.slice Ao90 t8024.length co90)) (fun _ hk => hk.2) (.slice Ao94 t8027.length co94)) (fun _ hk => hk.2) (.slice Ao95 t8030.length co95)) (fun _ h_ => h_.1))) hb) (Kd.S_base ho0)) (Kd.R_base ho1)) (Kd.S_base ho2)) (fun _ h_ => h_.1)); have n3_ := Aside0.mk (Kd.S_mono (Kd.S_told (Kd.S_told (Kd.S_told (Kd.S_old (by (with_reducible repeat (first | apply Kd.S_alloc | apply Kd.S_drewN | apply Kd.S_drew)); exact (Kd.S_mono (Kd.S_far (p := ⟨gb8033, 2, none⟩) (Kd.S_far (p := ⟨gb8033, 1, none⟩) (Kd.S_far (p := ⟨gb8033, 0, none⟩) (Kd.S_types HO8016.out BK8033.out (by decide)) (fun _ hk => hk.2) (.slice Ao90 t8024.length co90)) (fun _ hk => hk.2) (.slice Ao94 t8027.length co94)) (fun _ hk => hk.2) (.slice Ao95 t8030.length co95)) (fun _ h_ => h_.1))) hb) (Kd.S_base ho0)) (Kd.R_base ho1)) (Kd.S_base ho2)) (fun _ h_ => h_.1)); have n4_ := Aside0.mk (Kd.R_elder' (by (with_reducible repeat (first | apply Kd.R_alloc | apply Kd.R_drewN | apply Kd.R_drew)); exact (Kd.R_mono (Kd.R_far (p := ⟨gb8033, 2, none⟩) (Kd.R_far (p := ⟨gb8033, 1, none⟩) (Kd.R_far (p := ⟨gb8033, 0, none⟩) (Kd.R_types HO8019.out BK8033.out (by decide)) (fun _ hk => hk.2) (.slice Ao90 t8024.length co90)) (fun _ hk => hk.2) (.slice Ao94 t8027.length co94)) (fun _ hk => hk.2) (.slice Ao95 t8030.length co95)) (fun _ h_ => h_.1))) (Kd.R_base ho1) hb); have n5_ := Aside0.mk (Kd.S_mono (Kd.S_told (Kd.S_told (Kd.S_told (Kd.S_old (by (with_reducible repeat (first | apply Kd.S_alloc | apply Kd.S_drewN | apply Kd.S_drew)); exact (Kd.S_mono (Kd.S_far (p := ⟨gb8033, 2, none⟩) (Kd.S_far (p := ⟨gb8033, 1, none⟩) (Kd.S_far (p := ⟨gb8033, 0, none⟩) (Kd.S_types HO8022.out BK8033.out (by decide)) (fun _ hk => hk.2) (.slice Ao90 t8024.length co90)) (fun _ hk => hk.2) (.slice Ao94 t8027.length co94)) (fun _ hk => hk.2) (.slice Ao95 t8030.length co95)) (fun _ h_ => h_.1))) hb) (Kd.S_base ho0)) (Kd.R_base ho1)) (Kd.S_base ho2)) (fun _ h_ => h_.1)); have n6_ := Aside0.mk (Kd.S_mono (Kd.S_told (Kd.S_told (Kd.S_told (Kd.S_old (by (with_reducible repeat (first | apply Kd.S_alloc | apply Kd.S_drewN | apply Kd.S_drew)); exact (Kd.S_mono (Kd.S_far (p := ⟨gb8033, 2, none⟩) (Kd.S_far (p := ⟨gb8033, 1, none⟩) (Kd.S_far (p := ⟨gb8033, 0, none⟩) (Kd.S_types HO8026.out BK8033.out (by decide)) (fun _ hk => hk.2) (.slice Ao90 t8024.length co90)) (fun _ hk => hk.2) (.slice Ao94 t8027.length co94)) (fun _ hk => hk.2) (.slice Ao95 t8030.length co95)) (fun _ h_ => h_.1))) hb) (Kd.S_base ho0)) (Kd.R_base ho1)) (Kd.S_base ho2)) (fun _ h_ => h_.1)); have n7_ := Aside0.mk (Kd.R_elder' (by (with_reducible repeat (first | apply Kd.R_alloc | apply Kd.R_drewN | apply Kd.R_drew)); exact (Kd.R_mono (Kd.R_far (p := ⟨gb8033, 2, none⟩) (Kd.R_far (p := ⟨gb8033, 1, none⟩) (Kd.R_far (p := ⟨gb8033, 0, none⟩) (Kd.R_types HO8029.out BK8033.out (by decide)) (fun _ hk => hk.2) (.slice Ao90 t8024.length co90)) (fun _ hk => hk.2) (.slice Ao94 t8027.length co94)) (fun _ hk => hk.2) (.slice Ao95 t8030.length co95)) (fun _ h_ => h_.1))) (Kd.R_base ho1) hb); have n8_ := Aside0.mk (Kd.S_mono (Kd.S_told (Kd.S_told (Kd.S_told (Kd.S_old (by (with_reducible repeat (first | apply Kd.S_alloc | apply Kd.S_drewN | apply Kd.S_drew)); exact (Kd.S_mono (Kd.S_far (p := ⟨gb8033, 2, none⟩) (Kd.S_far (p := ⟨gb8033, 1, none⟩) (Kd.S_far (p := ⟨gb8033, 0, none⟩) (Kd.S_types HO8032.out BK8033.out (by decide)) (fun _ hk => hk.2) (.slice Ao90 t8024.length co90)) (fun _ hk => hk.2) (.slice Ao94 t8027.length co94)) (fun _ hk => hk.2) (.slice Ao95 t8030.length co95)) (fun _ h_ => h_.1))) hb) (Kd.S_base ho0)) (Kd.R_base ho1)) (Kd.S_base ho2)) (fun _ h_ => h_.1)); have n9_ := Aside0.mk (Kd.S_lower (Kd.S_new' (Kd.S_new' (Kd.S_new' (Kd.S_new' (Kd.S_new' (Kd.S_new' (Kd.S_new' (Kd.S_new' (Kd.S_new' ho0 (Kd.S_lt (by (with_reducible repeat (first | apply Kd.S_alloc | apply Kd.S_drewN | apply Kd.S_drew)); exact (Kd.S_mono (Kd.S_far (p := ⟨gb8033, 2, none⟩) (Kd.S_far (p := ⟨gb8033, 1, none⟩) (Kd.S_far (p := ⟨gb8033, 0, none⟩) (Kd.S_types HO8007.out BK8033.out (by decide)) (fun _ hk => hk.2) (.slice Ao90 t8024.length co90)) (fun _ hk => hk.2) (.slice Ao94 t8027.length co94)) (fun _ hk => hk.2) (.slice Ao95 t8030.length co95)) (fun _ h_ => h_.1))))) (Kd.R_lt (by (with_reducible repeat (first | apply Kd.R_alloc | apply Kd.R_drewN | apply Kd.R_drew)); exact (Kd.R_mono (Kd.R_far (p := ⟨gb8033, 2, none⟩) (Kd.R_far (p := ⟨gb8033, 1, none⟩) (Kd.R_far (p := ⟨gb8033, 0, none⟩) (Kd.R_types HO8010.out BK8033.out (by decide)) (fun _ hk => hk.2) (.slice Ao90 t8024.length co90)) (fun _ hk => hk.2) (.slice Ao94 t8027.length co94)) (fun _ hk => hk.2) (.slice Ao95 t8030.length co95)) (fun _ h_ => h_.1))))) (Kd.S_lt (by (with_reducible repeat (first | apply Kd.S_alloc | apply Kd.S_drewN | apply Kd.S_drew)); exact (Kd.S_mono (Kd.S_far (p := ⟨gb8033, 2, none⟩) (Kd.S_far (p := ⟨gb8033, 1, none⟩) (Kd.S_far (p := ⟨gb8033, 0, none⟩) (Kd.S_types HO8013.out BK8033.out (by decide)) (fun _ hk => hk.2) (.slice Ao90 t8024.length co90)) (fun _ hk => hk.2) (.slice Ao94 t8027.length co94)) (fun _ hk => hk.2) (.slice Ao95 t8030.length co95)) (fun _ h_ => h_.1))))) (Kd.S_lt (by (with_reducible repeat (first | apply Kd.S_alloc | apply Kd.S_drewN | apply Kd.S_drew)); exact (Kd.S_mono (Kd.S_far (p := ⟨gb8033, 2, none⟩) (Kd.S_far (p := ⟨gb8033, 1, none⟩) (Kd.S_far (p := ⟨gb8033, 0, none⟩) (Kd.S_types HO8016.out BK8033.out (by decide)) (fun _ hk => hk.2) (.slice Ao90 t8024.length co90)) (fun _ hk => hk.2) (.slice Ao94 t8027.length co94)) (fun _ hk => hk.2) (.slice Ao95 t8030.length co95)) (fun _ h_ => h_.1))))) (Kd.R_lt (by (with_reducible repeat (first | apply Kd.R_alloc | apply Kd.R_drewN | apply Kd.R_drew)); exact (Kd.R_mono (Kd.R_far (p := ⟨gb8033, 2, none⟩) (Kd.R_far (p := ⟨gb8033, 1, none⟩) (Kd.R_far (p := ⟨gb8033, 0, none⟩) (Kd.R_types HO8019.out BK8033.out (by decide)) (fun _ hk => hk.2) (.slice Ao90 t8024.length co90)) (fun _ hk => hk.2) (.slice Ao94 t8027.length co94)) (fun _ hk => hk.2) (.slice Ao95 t8030.length co95)) (fun _ h_ => h_.1))))) (Kd.S_lt (by (with_reducible repeat (first | apply Kd.S_alloc | apply Kd.S_drewN | apply Kd.S_drew)); exact (Kd.S_mono (Kd.S_far (p := ⟨gb8033, 2, none⟩) (Kd.S_far (p := ⟨gb8033, 1, none⟩) (Kd.S_far (p := ⟨gb8033, 0, none⟩) (Kd.S_types HO8022.out BK8033.out (by decide)) (fun _ hk => hk.2) (.slice Ao90 t8024.length co90)) (fun _ hk => hk.2) (.slice Ao94 t8027.length co94)) (fun _ hk => hk.2) (.slice Ao95 t8030.length co95)) (fun _ h_ => h_.1))))) (Kd.S_lt (by (with_reducible repeat (first | apply Kd.S_alloc | apply Kd.S_drewN | apply Kd.S_drew)); exact (Kd.S_mono (Kd.S_far (p := ⟨gb8033, 2, none⟩) (Kd.S_far (p := ⟨gb8033, 1, none⟩) (Kd.S_far (p := ⟨gb8033, 0, none⟩) (Kd.S_types HO8026.out BK8033.out (by decide)) (fun _ hk => hk.2) (.slice Ao90 t8024.length co90)) (fun _ hk => hk.2) (.slice Ao94 t8027.length co94)) (fun _ hk => hk.2) (.slice Ao95 t8030.length co95)) (fun _ h_ => h_.1))))) (Kd.R_lt (by (with_reducible repeat (first | apply Kd.R_alloc | apply Kd.R_drewN | apply Kd.R_drew)); exact (Kd.R_mono (Kd.R_far (p := ⟨gb8033, 2, none⟩) (Kd.R_far (p := ⟨gb8033, 1, none⟩) (Kd.R_far (p := ⟨gb8033, 0, none⟩) (Kd.R_types HO8029.out BK8033.out (by decide)) (fun _ hk => hk.2) (.slice Ao90 t8024.length co90)) (fun _ hk => hk.2) (.slice Ao94 t8027.length co94)) (fun _ hk => hk.2) (.slice Ao95 t8030.length co95)) (fun _ h_ => h_.1))))) (Kd.S_lt (by (with_reducible repeat (first | apply Kd.S_alloc | apply Kd.S_drewN | apply Kd.S_drew)); exact (Kd.S_mono (Kd.S_far (p := ⟨gb8033, 2, none⟩) (Kd.S_far (p := ⟨gb8033, 1, none⟩) (Kd.S_far (p := ⟨gb8033, 0, none⟩) (Kd.S_types HO8032.out BK8033.out (by decide)) (fun _ hk => hk.2) (.slice Ao90 t8024.length co90)) (fun _ hk => hk.2) (.slice Ao94 t8027.length co94)) (fun _ hk => hk.2) (.slice Ao95 t8030.length co95)) (fun _ h_ => h_.1))))) (below_size (by repeat (first | (with_reducible first | exact HB.out | apply below_alloc | apply pw_below_drewN | apply below_drew1 | refine below_set ?_ GE8001.out | refine below_set ?_ GE8002.out | refine below_set ?_ GE8033.out) | exact HB.out)))); have n10_ := Aside0.mk (Kd.R_lower (Kd.R_new' (Kd.R_new' (Kd.R_new' ho1 (Kd.R_lt (by (with_reducible repeat (first | apply Kd.R_alloc | apply Kd.R_drewN | apply Kd.R_drew)); exact (Kd.R_mono (Kd.R_far (p := ⟨gb8033, 2, none⟩) (Kd.R_far (p := ⟨gb8033, 1, none⟩) (Kd.R_far (p := ⟨gb8033, 0, none⟩) (Kd.R_types HO8010.out BK8033.out (by decide)) (fun _ hk => hk.2) (.slice Ao90 t8024.length co90)) (fun _ hk => hk.2) (.slice Ao94 t8027.length co94)) (fun _ hk => hk.2) (.slice Ao95 t8030.length co95)) (fun _ h_ => h_.1))))) (Kd.R_lt (by (with_reducible repeat (first | apply Kd.R_alloc | apply Kd.R_drewN | apply Kd.R_drew)); exact (Kd.R_mono (Kd.R_far (p := ⟨gb8033, 2, none⟩) (Kd.R_far (p := ⟨gb8033, 1, none⟩) (Kd.R_far (p := ⟨gb8033, 0, none⟩) (Kd.R_types HO8019.out BK8033.out (by decide)) (fun _ hk => hk.2) (.slice Ao90 t8024.length co90)) (fun _ hk => hk.2) (.slice Ao94 t8027.length co94)) (fun _ hk => hk.2) (.slice Ao95 t8030.length co95)) (fun _ h_ => h_.1))))) (Kd.R_lt (by (with_reducible repeat (first | apply Kd.R_alloc | apply Kd.R_drewN | apply Kd.R_drew)); exact (Kd.R_mono (Kd.R_far (p := ⟨gb8033, 2, none⟩) (Kd.R_far (p := ⟨gb8033, 1, none⟩) (Kd.R_far (p := ⟨gb8033, 0, none⟩) (Kd.R_types HO8029.out BK8033.out (by decide)) (fun _ hk => hk.2) (.slice Ao90 t8024.length co90)) (fun _ hk => hk.2) (.slice Ao94 t8027.length co94)) (fun _ hk => hk.2) (.slice Ao95 t8030.length co95)) (fun _ h_ => h_.1))))) (below_size (by repeat (first | (with_reducible first | exact HB.out | apply below_alloc | apply pw_below_drewN | apply below_drew1 | refine below_set ?_ GE8001.out | refine below_set ?_ GE8002.out | refine below_set ?_ GE8033.out) | exact HB.out)))); have n11_ := Aside0.mk (Kd.S_lower (Kd.S_new' (Kd.S_new' (Kd.S_new' (Kd.S_new' (Kd.S_new' (Kd.S_new' (Kd.S_new' (Kd.S_new' (Kd.S_new' ho2 (Kd.S_lt (by (with_reducible repeat (first | apply Kd.S_alloc | apply Kd.S_drewN | apply Kd.S_drew)); exact (Kd.S_mono (Kd.S_far (p := ⟨gb8033, 2, none⟩) (Kd.S_far (p := ⟨gb8033, 1, none⟩) (Kd.S_far (p := ⟨gb8033, 0, none⟩) (Kd.S_types HO8007.out BK8033.out (by decide)) (fun _ hk => hk.2) (.slice Ao90 t8024.length co90)) (fun _ hk => hk.2) (.slice Ao94 t8027.length co94)) (fun _ hk => hk.2) (.slice Ao95 t8030.length co95)) (fun _ h_ => h_.1))))) (Kd.R_lt (by (with_reducible repeat (first | apply Kd.R_alloc | apply Kd.R_drewN | apply Kd.R_drew)); exact (Kd.R_mono (Kd.R_far (p := ⟨gb8033, 2, none⟩) (Kd.R_far (p := ⟨gb8033, 1, none⟩) (Kd.R_far (p := ⟨gb8033, 0, none⟩) (Kd.R_types HO8010.out BK8033.out (by decide)) (fun _ hk => hk.2) (.slice Ao90 t8024.length co90)) (fun _ hk => hk.2) (.slice Ao94 t8027.length co94)) (fun _ hk => hk.2) (.slice Ao95 t8030.length co95)) (fun _ h_ => h_.1))))) (Kd.S_lt (by (with_reducible repeat (first | apply Kd.S_alloc | apply Kd.S_drewN | apply Kd.S_drew)); exact (Kd.S_mono (Kd.S_far (p := ⟨gb8033, 2, none⟩) (Kd.S_far (p := ⟨gb8033, 1, none⟩) (Kd.S_far (p := ⟨gb8033, 0, none⟩) (Kd.S_types HO8013.out BK8033.out (by decide)) (fun _ hk => hk.2) (.slice Ao90 t8024.length co90)) (fun _ hk => hk.2) (.slice Ao94 t8027.length co94)) (fun _ hk => hk.2) (.slice Ao95 t8030.length co95)) (fun _ h_ => h_.1))))) (Kd.S_lt (by (with_reducible repeat (first | apply Kd.S_alloc | apply Kd.S_drewN | apply Kd.S_drew)); exact (Kd.S_mono (Kd.S_far (p := ⟨gb8033, 2, none⟩) (Kd.S_far (p := ⟨gb8033, 1, none⟩) (Kd.S_far (p := ⟨gb8033, 0, none⟩) (Kd.S_types HO8016.out BK8033.out (by decide)) (fun _ hk => hk.2) (.slice Ao90 t8024.length co90)) (fun _ hk => hk.2) (.slice Ao94 t8027.length co94)) (fun _ hk => hk.2) (.slice Ao95 t8030.length co95)) (fun _ h_ => h_.1))))) (Kd.R_lt (by (with_reducible repeat (first | apply Kd.R_alloc | apply Kd.R_drewN | apply Kd.R_drew)); exact (Kd.R_mono (Kd.R_far (p := ⟨gb8033, 2, none⟩) (Kd.R_far (p := ⟨gb8033, 1, none⟩) (Kd.R_far (p := ⟨gb8033, 0, none⟩) (Kd.R_types HO8019.out BK8033.out (by decide)) (fun _ hk => hk.2) (.slice Ao90 t8024.length co90)) (fun _ hk => hk.2) (.slice Ao94 t8027.length co94)) (fun _ hk => hk.2) (.slice Ao95 t8030.length co95)) (fun _ h_ => h_.1))))) (Kd.S_lt (by (with_reducible repeat (first | apply Kd.S_alloc | apply Kd.S_drewN | apply Kd.S_drew)); exact (Kd.S_mono (Kd.S_far (p := ⟨gb8033, 2, none⟩) (Kd.S_far (p := ⟨gb8033, 1, none⟩) (Kd.S_far (p := ⟨gb8033, 0, none⟩) (Kd.S_types HO8022.out BK8033.out (by decide)) (fun _ hk => hk.2) (.slice Ao90 t8024.length co90)) (fun _ hk => hk.2) (.slice Ao94 t8027.length co94)) (fun _ hk => hk.2) (.slice Ao95 t8030.length co95)) (fun _ h_ => h_.1))))) (Kd.S_lt (by (with_reducible repeat (first | apply Kd.S_alloc | apply Kd.S_drewN | apply Kd.S_drew)); exact (Kd.S_mono (Kd.S_far (p := ⟨gb8033, 2, none⟩) (Kd.S_far (p := ⟨gb8033, 1, none⟩) (Kd.S_far (p := ⟨gb8033, 0, none⟩) (Kd.S_types HO8026.out BK8033.out (by decide)) (fun _ hk => hk.2) (.slice Ao90 t8024.length co90)) (fun _ hk => hk.2) (.slice Ao94 t8027.length co94)) (fun _ hk => hk.2) (.slice Ao95 t8030.length co95)) (fun _ h_ => h_.1))))) (Kd.R_lt (by (with_reducible repeat (first | apply Kd.R_alloc | apply Kd.R_drewN | apply Kd.R_drew)); exact (Kd.R_mono (Kd.R_far (p := ⟨gb8033, 2, none⟩) (Kd.R_far (p := ⟨gb8033, 1, none⟩) (Kd.R_far (p := ⟨gb8033, 0, none⟩) (Kd.R_types HO8029.out BK8033.out (by decide)) (fun _ hk => hk.2) (.slice Ao90 t8024.length co90)) (fun _ hk => hk.2) (.slice Ao94 t8027.length co94)) (fun _ hk => hk.2) (.slice Ao95 t8030.length co95)) (fun _ h_ => h_.1))))) (Kd.S_lt (by (with_reducible repeat (first | apply Kd.S_alloc | apply Kd.S_drewN | apply Kd.S_drew)); exact (Kd.S_mono (Kd.S_far (p := ⟨gb8033, 2, none⟩) (Kd.S_far (p := ⟨gb8033, 1, none⟩) (Kd.S_far (p := ⟨gb8033, 0, none⟩) (Kd.S_types HO8032.out BK8033.out (by decide)) (fun _ hk => hk.2) (.slice Ao90 t8024.length co90)) (fun _ hk => hk.2) (.slice Ao94 t8027.length co94)) (fun _ hk => hk.2) (.slice Ao95 t8030.length co95)) (fun _ h_ => h_.1))))) (below_size (by repeat (first | (with_reducible first | exact HB.out | apply below_alloc | apply pw_below_drewN | apply below_drew1 | refine below_set ?_ GE8001.out | refine below_set ?_ GE8002.out | refine below_set ?_ GE8033.out) | exact HB.out)))); have n12_ := Aside0.mk (blk_below (g := gb8001) (o := .cells #[.slice A0_0 l0_0.length c0_0, .slice A0_1 l0_1.length c0_1, .slice A0_2 l0_2.length c0_2] 76 (0, 0)) (by (with_reducible repeat (first | refine blk_drewN ?_ _ | refine blk_drew ?_ | refine blk_alloc ?_ _)); refine blk_far ?_ NB8001_8033.out _; (with_reducible repeat (first | refine blk_drewN ?_ _ | refine blk_drew ?_ | refine blk_alloc ?_ _)); refine blk_far ?_ NB8001_8033.out _; (with_reducible repeat (first | refine blk_drewN ?_ _ | refine blk_drew ?_ | refine blk_alloc ?_ _)); refine blk_far ?_ NB8001_8033.out _; (with_reducible repeat (first | refine blk_drewN ?_ _ | refine blk_drew ?_ | refine blk_alloc ?_ _)); exact BK8001.out) hb); have n13_ := Aside0.mk (blk_below (g := gb8002) (o := .cells #[.slice A1_0 l1_0.length c1_0, .slice A1_1 l1_1.length c1_1, .slice A1_2 l1_2.length c1_2] 76 (0, 0)) (by (with_reducible repeat (first | refine blk_drewN ?_ _ | refine blk_drew ?_ | refine blk_alloc ?_ _)); refine blk_far ?_ NB8002_8033.out _; (with_reducible repeat (first | refine blk_drewN ?_ _ | refine blk_drew ?_ | refine blk_alloc ?_ _)); refine blk_far ?_ NB8002_8033.out _; (with_reducible repeat (first | refine blk_drewN ?_ _ | refine blk_drew ?_ | refine blk_alloc ?_ _)); refine blk_far ?_ NB8002_8033.out _; (with_reducible repeat (first | refine blk_drewN ?_ _ | refine blk_drew ?_ | refine blk_alloc ?_ _)); exact BK8002.out) hb); have n14_ := Aside0.mk (blk_below (g := gb8033) (o := .cells #[.slice Ao90 t8024.length co90, .slice Ao94 t8027.length co94, .slice Ao95 t8030.length co95] 31 (0, 0)) (by (with_reducible repeat (first | refine blk_drewN ?_ _ | refine blk_drew ?_ | refine blk_alloc ?_ _)); refine blk_put (cs := #[.slice Ao90 t8024.length co90, .slice Ao94 t8027.length co94, .slice none 0 0]) ?_ 2 _ rfl; (with_reducible repeat (first | refine blk_drewN ?_ _ | refine blk_drew ?_ | refine blk_alloc ?_ _)); refine blk_put (cs := #[.slice Ao90 t8024.length co90, .slice none 0 0, .slice none 0 0]) ?_ 1 _ rfl; (with_reducible repeat (first | refine blk_drewN ?_ _ | refine blk_drew ?_ | refine blk_alloc ?_ _)); refine blk_put (cs := #[.slice none 0 0, .slice none 0 0, .slice none 0 0]) ?_ 0 _ rfl; (with_reducible repeat (first | refine blk_drewN ?_ _ | refine blk_drew ?_ | refine blk_alloc ?_ _)); exact BK8033.out) hb); have n15_ := Aside0.mk (below_step (by repeat (first | (with_reducible first | exact HB.out | apply below_alloc | apply pw_below_drewN | apply below_drew1 | refine below_set ?_ GE8001.out | refine below_set ?_ GE8002.out | refine below_set ?_ GE8033.out) | exact HB.out)) hb); clear HO8007; clear HO8010; clear HO8013; clear HO8016; clear HO8019; clear HO8022; clear HO8026; clear HO8029; clear HO8032; clear BK8001; clear BK8002; clear BK8033; clear HB; have HO8007 := n0_; have HO8010 := n1_; have HO8013 := n2_; have HO8016 := n3_; have HO8019 := n4_; have HO8022 := n5_; have HO8026 := n6_; have HO8029 := n7_; have HO8032 := n8_; have HO8036 := n9_; have HO8039 := n10_; have HO8042 := n11_; have BK8001 := n12_; have BK8002 := n13_; have BK8033 := n14_; have HB := n15_; clear n0_ n1_ n2_ n3_ n4_ n5_ n6_ n7_ n8_ n9_ n10_ n11_ n12_ n13_ n14_ n15_; (try clear hb); (try clear hb2); (try clear hk); (try clear hi); (try clear ho0); (try clear ho1); (try clear ho2)) | ((with_reducible refine gate_dst (N := 8) rfl ?_); refine box_event ?hg (N := 8) ?hd (cs := #[.slice none 0 0, .slice none 0 0, .slice none 0 0]) (t := 31) ?hr ?_; (case hd => rfl); (case hg => rfl); (case hr => first | (go_simp; done) | (go_simp; rfl)); intro gb8043 hg w98 hbox hb; have n0_ := Aside0.mk (Kd.S_below (by (with_reducible repeat (first | apply Kd.S_alloc | apply Kd.S_drewN | apply Kd.S_drew)); exact HO8007.out) hb); have n1_ := Aside0.mk (Kd.R_below (by (with_reducible repeat (first | apply Kd.R_alloc | apply Kd.R_drewN | apply Kd.R_drew)); exact HO8010.out) hb); have n2_ := Aside0.mk (Kd.S_below (by (with_reducible repeat (first | apply Kd.S_alloc | apply Kd.S_drewN | apply Kd.S_drew)); exact HO8013.out) hb); have n3_ := Aside0.mk (Kd.S_below (by (with_reducible repeat (first | apply Kd.S_alloc | apply Kd.S_drewN | apply Kd.S_drew)); exact HO8016.out) hb); have n4_ := Aside0.mk (Kd.R_below (by (with_reducible repeat (first | apply Kd.R_alloc | apply Kd.R_drewN | apply Kd.R_drew)); exact HO8019.out) hb); have n5_ := Aside0.mk (Kd.S_below (by (with_reducible repeat (first | apply Kd.S_alloc | apply Kd.S_drewN | apply Kd.S_drew)); exact HO8022.out) hb); have n6_ := Aside0.mk (Kd.S_below (by (with_reducible repeat (first | apply Kd.S_alloc | apply Kd.S_drewN | apply Kd.S_drew)); exact HO8026.out) hb); have n7_ := Aside0.mk (Kd.R_below (by (with_reducible repeat (first | apply Kd.R_alloc | apply Kd.R_drewN | apply Kd.R_drew)); exact HO8029.out) hb); have n8_ := Aside0.mk (Kd.S_below (by (with_reducible repeat (first | apply Kd.S_alloc | apply Kd.S_drewN | apply Kd.S_drew)); exact HO8032.out) hb); have n9_ := Aside0.mk (Kd.S_below (by (with_reducible repeat (first | apply Kd.S_alloc | apply Kd.S_drewN | apply Kd.S_drew)); exact HO8036.out) hb); have n10_ := Aside0.mk (Kd.R_below (by (with_reducible repeat (first | apply Kd.R_alloc | apply Kd.R_drewN | apply Kd.R_drew)); exact HO8039.out) hb); have n11_ := Aside0.mk (Kd.S_below (by (with_reducible repeat (first | apply Kd.S_alloc | apply Kd.S_drewN | apply Kd.S_drew)); exact HO8042.out) hb); have n12_ := Aside0.mk (blk_below (g := gb8001) (o := .cells #[.slice A0_0 l0_0.length c0_0, .slice A0_1 l0_1.length c0_1, .slice A0_2 l0_2.length c0_2] 76 (0, 0)) (by (with_reducible repeat (first | refine blk_drewN ?_ _ | refine blk_drew ?_ | refine blk_alloc ?_ _)); exact BK8001.out) hb); have n13_ := Aside0.mk (blk_below (g := gb8002) (o := .cells #[.slice A1_0 l1_0.length c1_0, .slice A1_1 l1_1.length c1_1, .slice A1_2 l1_2.length c1_2] 76 (0, 0)) (by (with_reducible repeat (first | refine blk_drewN ?_ _ | refine blk_drew ?_ | refine blk_alloc ?_ _)); exact BK8002.out) hb); have n14_ := Aside0.mk (blk_below (g := gb8033) (o := .cells #[.slice Ao90 t8024.length co90, .slice Ao94 t8027.length co94, .slice Ao95 t8030.length co95] 31 (0, 0)) (by (with_reducible repeat (first | refine blk_drewN ?_ _ | refine blk_drew ?_ | refine blk_alloc ?_ _)); exact BK8033.out) hb); have n15_ := Aside0.mk (below_step (by repeat (first | (with_reducible first | exact HB.out | apply below_alloc | apply pw_below_drewN | apply below_drew1 | refine below_set ?_ GE8001.out | refine below_set ?_ GE8002.out | refine below_set ?_ GE8033.out) | exact HB.out)) hb); have n16_ := Aside0.mk (hbox); have n17_ := Aside0.mk ((by rw [hg]; exact (below_size (by repeat (first | (with_reducible first | exact HB.out | apply below_alloc | apply pw_below_drewN | apply below_drew1 | refine below_set ?_ GE8001.out | refine below_set ?_ GE8002.out | refine below_set ?_ GE8033.out) | exact HB.out))) : w.heap.size ≤ gb8043)); have n18_ := Aside0.mk ((by rw [hg]; exact (below_size (by repeat (first | (with_reducible first | exact HB.out | apply below_alloc | apply pw_below_drewN | apply below_drew1 | refine below_set ?_ GE8001.out | refine below_set ?_ GE8002.out | refine below_set ?_ GE8033.out) | exact HB.out))) : w.heap.size ≤ gb8043)); have n19_ := Aside0.mk ((by rw [hg]; exact Nat.ne_of_lt (blk_lt (g := gb8001) (o := .cells #[.slice A0_0 l0_0.length c0_0, .slice A0_1 l0_1.length c0_1, .slice A0_2 l0_2.length c0_2] 76 (0, 0)) (by (with_reducible repeat (first | refine blk_drewN ?_ _ | refine blk_drew ?_ | refine blk_alloc ?_ _)); exact BK8001.out)) : gb8001 ≠ gb8043)); have n20_ := Aside0.mk ((by rw [hg]; exact Nat.ne_of_gt (blk_lt (g := gb8001) (o := .cells #[.slice A0_0 l0_0.length c0_0, .slice A0_1 l0_1.length c0_1, .slice A0_2 l0_2.length c0_2] 76 (0, 0)) (by (with_reducible repeat (first | refine blk_drewN ?_ _ | refine blk_drew ?_ | refine blk_alloc ?_ _)); exact BK8001.out)) : gb8043 ≠ gb8001)); have n21_ := Aside0.mk ((by rw [hg]; exact Nat.ne_of_lt (blk_lt (g := gb8002) (o := .cells #[.slice A1_0 l1_0.length c1_0, .slice A1_1 l1_1.length c1_1, .slice A1_2 l1_2.length c1_2] 76 (0, 0)) (by (with_reducible repeat (first | refine blk_drewN ?_ _ | refine blk_drew ?_ | refine blk_alloc ?_ _)); exact BK8002.out)) : gb8002 ≠ gb8043)); have n22_ := Aside0.mk ((by rw [hg]; exact Nat.ne_of_gt (blk_lt (g := gb8002) (o := .cells #[.slice A1_0 l1_0.length c1_0, .slice A1_1 l1_1.length c1_1, .slice A1_2 l1_2.length c1_2] 76 (0, 0)) (by (with_reducible repeat (first | refine blk_drewN ?_ _ | refine blk_drew ?_ | refine blk_alloc ?_ _)); exact BK8002.out)) : gb8043 ≠ gb8002)); have n23_ := Aside0.mk ((by rw [hg]; exact Nat.ne_of_lt (blk_lt (g := gb8033) (o := .cells #[.slice Ao90 t8024.length co90, .slice Ao94 t8027.length co94, .slice Ao95 t8030.length co95] 31 (0, 0)) (by (with_reducible repeat (first | refine blk_drewN ?_ _ | refine blk_drew ?_ | refine blk_alloc ?_ _)); exact BK8033.out)) : gb8033 ≠ gb8043)); have n24_ := Aside0.mk ((by rw [hg]; exact Nat.ne_of_gt (blk_lt (g := gb8033) (o := .cells #[.slice Ao90 t8024.length co90, .slice Ao94 t8027.length co94, .slice Ao95 t8030.length co95] 31 (0, 0)) (by (with_reducible repeat (first | refine blk_drewN ?_ _ | refine blk_drew ?_ | refine blk_alloc ?_ _)); exact BK8033.out)) : gb8043 ≠ gb8033)); clear HO8007; clear HO8010; clear HO8013; clear HO8016; clear HO8019; clear HO8022; clear HO8026; clear HO8029; clear HO8032; clear HO8036; clear HO8039; clear HO8042; clear BK8001; clear BK8002; clear BK8033; clear HB; have HO8007 := n0_; have HO8010 := n1_; have HO8013 := n2_; have HO8016 := n3_; have HO8019 := n4_; have HO8022 := n5_; have HO8026 := n6_; have HO8029 := n7_; have HO8032 := n8_; have HO8036 := n9_; have HO8039 := n10_; have HO8042 := n11_; have BK8001 := n12_; have BK8002 := n13_; have BK8033 := n14_; have HB := n15_; have BK8043 := n16_; have GW8043 := n17_; have GE8043 := n18_; have NB8001_8043 := n19_; have NB8043_8001 := n20_; have NB8002_8043 := n21_; have NB8043_8002 := n22_; have NB8033_8043 := n23_; have NB8043_8033 := n24_; clear n0_ n1_ n2_ n3_ n4_ n5_ n6_ n7_ n8_ n9_ n10_ n11_ n12_ n13_ n14_ n15_ n16_ n17_ n18_ n19_ n20_ n21_ n22_ n23_ n24_; clear hb hbox hg; obtain ⟨Ao99, co99, eo99⟩ := Kd.S_slice HO8036.out; subst eo99; have hnb100 := NB8043_8001.out; have hnc100 := NB8001_8043.out; have hnb101 := NB8043_8002.out; have hnc101 := NB8002_8043.out; have hnb102 := NB8043_8033.out; have hnc102 := NB8033_8043.out; have hcz103_0 : w98.cell? ⟨gb8043, 0, none⟩ = some (.slice none 0 0) := (blk_cell BK8043.out 0).trans rfl; have hcz103_1 : w98.cell? ⟨gb8043, 1, none⟩ = some (.slice none 0 0) := (blk_cell BK8043.out 1).trans rfl; have hcz103_2 : w98.cell? ⟨gb8043, 2, none⟩ = some (.slice none 0 0) := (blk_cell BK8043.out 2).trans rfl; have hfz103_0 := blk_frozen BK8043.out 0; have hfz103_1 := blk_frozen BK8043.out 1; have hfz103_2 := blk_frozen BK8043.out 2; obtain ⟨Ao104, co104, eo104⟩ := Kd.R_slice HO8039.out; subst eo104; obtain ⟨Ao105, co105, eo105⟩ := Kd.S_slice HO8042.out; subst eo105; have hcz106_0 : w98.cell? ⟨gb8033, 0, none⟩ = some (.slice Ao90 t8024.length co90) := (blk_cell BK8033.out 0).trans rfl; have hcz106_1 : w98.cell? ⟨gb8033, 1, none⟩ = some (.slice Ao94 t8027.length co94) := (blk_cell BK8033.out 1).trans rfl; have hcz106_2 : w98.cell? ⟨gb8033, 2, none⟩ = some (.slice Ao95 t8030.length co95) := (blk_cell BK8033.out 2).trans rfl; have hfz106_0 := blk_frozen BK8033.out 0; have hfz106_1 := blk_frozen BK8033.out 1; have hfz106_2 := blk_frozen BK8033.out 2) | ((with_reducible refine gate_callee (f := 19) rfl ?_); refine goesL_ (some 31) rfl rfl Try.func19 (by kernel_rfl) rfl #[.agg #[.slice Ao90 t8024.length co90, .slice Ao94 t8027.length co94, .slice Ao95 t8030.length co95], .agg #[.slice Ao99 t8034.length co99, .slice Ao104 t8037.length co104, .slice Ao105 t8040.length co105]] rfl (by (try simp only [List.map_toArray, List.map_cons, List.map_nil]); first | done | rfl | (simp only [List.length_drop, List.length_take]; rfl)) ?_; (with_reducible refine (impl_EqualMonoid.calls k _ _ t8024 _ _ t8027 _ _ t8030 _ _ t8034 _ _ t8037 _ _ t8040 t8044 _ ?side1 ?side2 ?side3 ?side4 ?side5 ?side6 ?side7 ?side8 ?side9 ?side10 ?side11 ?side12 A24.out).mono ?_); (case side1 => refine (Kd.S_reads' (e := 29) (base := w.heap.size) (ok := fun k_ => ((((((((((some k_ ≠ (.slice Ao94 t8027.length co94 : Value).ownBlock ∧ some k_ ≠ (.slice Ao95 t8030.length co95 : Value).ownBlock) ∧ some k_ ≠ (.slice Ao80 t8005.length co80 : Value).ownBlock) ∧ some k_ ≠ (.slice Ao81 t8008.length co81 : Value).ownBlock) ∧ some k_ ≠ (.slice Ao82 t8011.length co82 : Value).ownBlock) ∧ some k_ ≠ (.slice Ao83 t8014.length co83 : Value).ownBlock) ∧ some k_ ≠ (.slice Ao84 t8017.length co84 : Value).ownBlock) ∧ some k_ ≠ (.slice Ao85 t8020.length co85 : Value).ownBlock) ∧ some k_ ≠ (.slice Ao99 t8034.length co99 : Value).ownBlock) ∧ some k_ ≠ (.slice Ao104 t8037.length co104 : Value).ownBlock) ∧ some k_ ≠ (.slice Ao105 t8040.length co105 : Value).ownBlock)) (n := t8024.length) (c := co90) ?_).2.2; exact (by (with_reducible repeat (first | apply Kd.S_alloc | apply Kd.S_drewN | apply Kd.S_drew)); exact (Kd.S_mono (Kd.S_far (p := ⟨gb8043, 2, none⟩) (Kd.S_far (p := ⟨gb8043, 1, none⟩) (Kd.S_far (p := ⟨gb8043, 0, none⟩) (Kd.S_types HO8026.out BK8043.out (by decide)) (fun _ hk => hk.2) (.slice Ao99 t8034.length co99)) (fun _ hk => hk.2) (.slice Ao104 t8037.length co104)) (fun _ hk => hk.2) (.slice Ao105 t8040.length co105)) (fun _ h_ => h_.1)))); (case side2 => exact (Kd.S_reads' HO8026.out).2.1); (case side3 => refine (Kd.R_reads' (e := 3) (base := w.heap.size) (ok := fun k_ => (((True ∧ some k_ ≠ (.slice Ao81 t8008.length co81 : Value).ownBlock) ∧ some k_ ≠ (.slice Ao84 t8017.length co84 : Value).ownBlock) ∧ some k_ ≠ (.slice Ao104 t8037.length co104 : Value).ownBlock)) (n := t8027.length) (c := co94) ?_).2.2; exact (by (with_reducible repeat (first | apply Kd.R_alloc | apply Kd.R_drewN | apply Kd.R_drew)); exact (Kd.R_mono (Kd.R_far (p := ⟨gb8043, 2, none⟩) (Kd.R_far (p := ⟨gb8043, 1, none⟩) (Kd.R_far (p := ⟨gb8043, 0, none⟩) (Kd.R_types HO8029.out BK8043.out (by decide)) (fun _ hk => hk.2) (.slice Ao99 t8034.length co99)) (fun _ hk => hk.2) (.slice Ao104 t8037.length co104)) (fun _ hk => hk.2) (.slice Ao105 t8040.length co105)) (fun _ h_ => h_.1)))); (case side4 => exact (Kd.R_reads' HO8029.out).2.1); (case side5 => refine (Kd.S_reads' (e := 29) (base := w.heap.size) (ok := fun k_ => ((((((((((some k_ ≠ (.slice Ao90 t8024.length co90 : Value).ownBlock ∧ some k_ ≠ (.slice Ao94 t8027.length co94 : Value).ownBlock) ∧ some k_ ≠ (.slice Ao80 t8005.length co80 : Value).ownBlock) ∧ some k_ ≠ (.slice Ao81 t8008.length co81 : Value).ownBlock) ∧ some k_ ≠ (.slice Ao82 t8011.length co82 : Value).ownBlock) ∧ some k_ ≠ (.slice Ao83 t8014.length co83 : Value).ownBlock) ∧ some k_ ≠ (.slice Ao84 t8017.length co84 : Value).ownBlock) ∧ some k_ ≠ (.slice Ao85 t8020.length co85 : Value).ownBlock) ∧ some k_ ≠ (.slice Ao99 t8034.length co99 : Value).ownBlock) ∧ some k_ ≠ (.slice Ao104 t8037.length co104 : Value).ownBlock) ∧ some k_ ≠ (.slice Ao105 t8040.length co105 : Value).ownBlock)) (n := t8030.length) (c := co95) ?_).2.2; exact (by (with_reducible repeat (first | apply Kd.S_alloc | apply Kd.S_drewN | apply Kd.S_drew)); exact (Kd.S_mono (Kd.S_far (p := ⟨gb8043, 2, none⟩) (Kd.S_far (p := ⟨gb8043, 1, none⟩) (Kd.S_far (p := ⟨gb8043, 0, none⟩) (Kd.S_types HO8032.out BK8043.out (by decide)) (fun _ hk => hk.2) (.slice Ao99 t8034.length co99)) (fun _ hk => hk.2) (.slice Ao104 t8037.length co104)) (fun _ hk => hk.2) (.slice Ao105 t8040.length co105)) (fun _ h_ => h_.1)))); (case side6 => exact (Kd.S_reads' HO8032.out).2.1); (case side7 => refine (Kd.S_reads' (e := 29) (base := w.heap.size) (ok := fun k_ => ((((((((((some k_ ≠ (.slice Ao104 t8037.length co104 : Value).ownBlock ∧ some k_ ≠ (.slice Ao105 t8040.length co105 : Value).ownBlock) ∧ some k_ ≠ (.slice Ao80 t8005.length co80 : Value).ownBlock) ∧ some k_ ≠ (.slice Ao81 t8008.length co81 : Value).ownBlock) ∧ some k_ ≠ (.slice Ao82 t8011.length co82 : Value).ownBlock) ∧ some k_ ≠ (.slice Ao83 t8014.length co83 : Value).ownBlock) ∧ some k_ ≠ (.slice Ao84 t8017.length co84 : Value).ownBlock) ∧ some k_ ≠ (.slice Ao85 t8020.length co85 : Value).ownBlock) ∧ some k_ ≠ (.slice Ao90 t8024.length co90 : Value).ownBlock) ∧ some k_ ≠ (.slice Ao94 t8027.length co94 : Value).ownBlock) ∧ some k_ ≠ (.slice Ao95 t8030.length co95 : Value).ownBlock)) (n := t8034.length) (c := co99) ?_).2.2; exact (by (with_reducible repeat (first | apply Kd.S_alloc | apply Kd.S_drewN | apply Kd.S_drew)); exact (Kd.S_mono (Kd.S_far (p := ⟨gb8043, 2, none⟩) (Kd.S_far (p := ⟨gb8043, 1, none⟩) (Kd.S_far (p := ⟨gb8043, 0, none⟩) (Kd.S_types HO8036.out BK8043.out (by decide)) (fun _ hk => hk.2) (.slice Ao99 t8034.length co99)) (fun _ hk => hk.2) (.slice Ao104 t8037.length co104)) (fun _ hk => hk.2) (.slice Ao105 t8040.length co105)) (fun _ h_ => h_.1)))); (case side8 => exact (Kd.S_reads' HO8036.out).2.1); (case side9 => refine (Kd.R_reads' (e := 3) (base := w.heap.size) (ok := fun k_ => (((True ∧ some k_ ≠ (.slice Ao81 t8008.length co81 : Value).ownBlock) ∧ some k_ ≠ (.slice Ao84 t8017.length co84 : Value).ownBlock) ∧ some k_ ≠ (.slice Ao94 t8027.length co94 : Value).ownBlock)) (n := t8037.length) (c := co104) ?_).2.2; exact (by (with_reducible repeat (first | apply Kd.R_alloc | apply Kd.R_drewN | apply Kd.R_drew)); exact (Kd.R_mono (Kd.R_far (p := ⟨gb8043, 2, none⟩) (Kd.R_far (p := ⟨gb8043, 1, none⟩) (Kd.R_far (p := ⟨gb8043, 0, none⟩) (Kd.R_types HO8039.out BK8043.out (by decide)) (fun _ hk => hk.2) (.slice Ao99 t8034.length co99)) (fun _ hk => hk.2) (.slice Ao104 t8037.length co104)) (fun _ hk => hk.2) (.slice Ao105 t8040.length co105)) (fun _ h_ => h_.1)))); (case side10 => exact (Kd.R_reads' HO8039.out).2.1); (case side11 => refine (Kd.S_reads' (e := 29) (base := w.heap.size) (ok := fun k_ => ((((((((((some k_ ≠ (.slice Ao99 t8034.length co99 : Value).ownBlock ∧ some k_ ≠ (.slice Ao104 t8037.length co104 : Value).ownBlock) ∧ some k_ ≠ (.slice Ao80 t8005.length co80 : Value).ownBlock) ∧ some k_ ≠ (.slice Ao81 t8008.length co81 : Value).ownBlock) ∧ some k_ ≠ (.slice Ao82 t8011.length co82 : Value).ownBlock) ∧ some k_ ≠ (.slice Ao83 t8014.length co83 : Value).ownBlock) ∧ some k_ ≠ (.slice Ao84 t8017.length co84 : Value).ownBlock) ∧ some k_ ≠ (.slice Ao85 t8020.length co85 : Value).ownBlock) ∧ some k_ ≠ (.slice Ao90 t8024.length co90 : Value).ownBlock) ∧ some k_ ≠ (.slice Ao94 t8027.length co94 : Value).ownBlock) ∧ some k_ ≠ (.slice Ao95 t8030.length co95 : Value).ownBlock)) (n := t8040.length) (c := co105) ?_).2.2; exact (by (with_reducible repeat (first | apply Kd.S_alloc | apply Kd.S_drewN | apply Kd.S_drew)); exact (Kd.S_mono (Kd.S_far (p := ⟨gb8043, 2, none⟩) (Kd.S_far (p := ⟨gb8043, 1, none⟩) (Kd.S_far (p := ⟨gb8043, 0, none⟩) (Kd.S_types HO8042.out BK8043.out (by decide)) (fun _ hk => hk.2) (.slice Ao99 t8034.length co99)) (fun _ hk => hk.2) (.slice Ao104 t8037.length co104)) (fun _ hk => hk.2) (.slice Ao105 t8040.length co105)) (fun _ h_ => h_.1)))); (case side12 => exact (Kd.S_reads' HO8042.out).2.1); rintro e w107 ⟨rfl, hb⟩; refine ⟨_, rfl, ?_⟩; have n0_ := Aside0.mk (Kd.S_below (by (with_reducible repeat (first | apply Kd.S_alloc | apply Kd.S_drewN | apply Kd.S_drew)); exact (Kd.S_mono (Kd.S_far (p := ⟨gb8043, 2, none⟩) (Kd.S_far (p := ⟨gb8043, 1, none⟩) (Kd.S_far (p := ⟨gb8043, 0, none⟩) (Kd.S_types HO8007.out BK8043.out (by decide)) (fun _ hk => hk.2) (.slice Ao99 t8034.length co99)) (fun _ hk => hk.2) (.slice Ao104 t8037.length co104)) (fun _ hk => hk.2) (.slice Ao105 t8040.length co105)) (fun _ h_ => h_.1))) hb); have n1_ := Aside0.mk (Kd.R_below (by (with_reducible repeat (first | apply Kd.R_alloc | apply Kd.R_drewN | apply Kd.R_drew)); exact (Kd.R_mono (Kd.R_far (p := ⟨gb8043, 2, none⟩) (Kd.R_far (p := ⟨gb8043, 1, none⟩) (Kd.R_far (p := ⟨gb8043, 0, none⟩) (Kd.R_types HO8010.out BK8043.out (by decide)) (fun _ hk => hk.2) (.slice Ao99 t8034.length co99)) (fun _ hk => hk.2) (.slice Ao104 t8037.length co104)) (fun _ hk => hk.2) (.slice Ao105 t8040.length co105)) (fun _ h_ => h_.1))) hb); have n2_ := Aside0.mk (Kd.S_below (by (with_reducible repeat (first | apply Kd.S_alloc | apply Kd.S_drewN | apply Kd.S_drew)); exact (Kd.S_mono (Kd.S_far (p := ⟨gb8043, 2, none⟩) (Kd.S_far (p := ⟨gb8043, 1, none⟩) (Kd.S_far (p := ⟨gb8043, 0, none⟩) (Kd.S_types HO8013.out BK8043.out (by decide)) (fun _ hk => hk.2) (.slice Ao99 t8034.length co99)) (fun _ hk => hk.2) (.slice Ao104 t8037.length co104)) (fun _ hk => hk.2) (.slice Ao105 t8040.length co105)) (fun _ h_ => h_.1))) hb); have n3_ := Aside0.mk (Kd.S_below (by (with_reducible repeat (first | apply Kd.S_alloc | apply Kd.S_drewN | apply Kd.S_drew)); exact (Kd.S_mono (Kd.S_far (p := ⟨gb8043, 2, none⟩) (Kd.S_far (p := ⟨gb8043, 1, none⟩) (Kd.S_far (p := ⟨gb8043, 0, none⟩) (Kd.S_types HO8016.out BK8043.out (by decide)) (fun _ hk => hk.2) (.slice Ao99 t8034.length co99)) (fun _ hk => hk.2) (.slice Ao104 t8037.length co104)) (fun _ hk => hk.2) (.slice Ao105 t8040.length co105)) (fun _ h_ => h_.1))) hb); have n4_ := Aside0.mk (Kd.R_below (by (with_reducible repeat (first | apply Kd.R_alloc | apply Kd.R_drewN | apply Kd.R_drew)); exact (Kd.R_mono (Kd.R_far (p := ⟨gb8043, 2, none⟩) (Kd.R_far (p := ⟨gb8043, 1, none⟩) (Kd.R_far (p := ⟨gb8043, 0, none⟩) (Kd.R_types HO8019.out BK8043.out (by decide)) (fun _ hk => hk.2) (.slice Ao99 t8034.length co99)) (fun _ hk => hk.2) (.slice Ao104 t8037.length co104)) (fun _ hk => hk.2) (.slice Ao105 t8040.length co105)) (fun _ h_ => h_.1))) hb); have n5_ := Aside0.mk (Kd.S_below (by (with_reducible repeat (first | apply Kd.S_alloc | apply Kd.S_drewN | apply Kd.S_drew)); exact (Kd.S_mono (Kd.S_far (p := ⟨gb8043, 2, none⟩) (Kd.S_far (p := ⟨gb8043, 1, none⟩) (Kd.S_far (p := ⟨gb8043, 0, none⟩) (Kd.S_types HO8022.out BK8043.out (by decide)) (fun _ hk => hk.2) (.slice Ao99 t8034.length co99)) (fun _ hk => hk.2) (.slice Ao104 t8037.length co104)) (fun _ hk => hk.2) (.slice Ao105 t8040.length co105)) (fun _ h_ => h_.1))) hb); have n6_ := Aside0.mk (Kd.S_below (by (with_reducible repeat (first | apply Kd.S_alloc | apply Kd.S_drewN | apply Kd.S_drew)); exact (Kd.S_mono (Kd.S_far (p := ⟨gb8043, 2, none⟩) (Kd.S_far (p := ⟨gb8043, 1, none⟩) (Kd.S_far (p := ⟨gb8043, 0, none⟩) (Kd.S_types HO8026.out BK8043.out (by decide)) (fun _ hk => hk.2) (.slice Ao99 t8034.length co99)) (fun _ hk => hk.2) (.slice Ao104 t8037.length co104)) (fun _ hk => hk.2) (.slice Ao105 t8040.length co105)) (fun _ h_ => h_.1))) hb); have n7_ := Aside0.mk (Kd.R_below (by (with_reducible repeat (first | apply Kd.R_alloc | apply Kd.R_drewN | apply Kd.R_drew)); exact (Kd.R_mono (Kd.R_far (p := ⟨gb8043, 2, none⟩) (Kd.R_far (p := ⟨gb8043, 1, none⟩) (Kd.R_far (p := ⟨gb8043, 0, none⟩) (Kd.R_types HO8029.out BK8043.out (by decide)) (fun _ hk => hk.2) (.slice Ao99 t8034.length co99)) (fun _ hk => hk.2) (.slice Ao104 t8037.length co104)) (fun _ hk => hk.2) (.slice Ao105 t8040.length co105)) (fun _ h_ => h_.1))) hb); have n8_ := Aside0.mk (Kd.S_below (by (with_reducible repeat (first | apply Kd.S_alloc | apply Kd.S_drewN | apply Kd.S_drew)); exact (Kd.S_mono (Kd.S_far (p := ⟨gb8043, 2, none⟩) (Kd.S_far (p := ⟨gb8043, 1, none⟩) (Kd.S_far (p := ⟨gb8043, 0, none⟩) (Kd.S_types HO8032.out BK8043.out (by decide)) (fun _ hk => hk.2) (.slice Ao99 t8034.length co99)) (fun _ hk => hk.2) (.slice Ao104 t8037.length co104)) (fun _ hk => hk.2) (.slice Ao105 t8040.length co105)) (fun _ h_ => h_.1))) hb); have n9_ := Aside0.mk (Kd.S_below (by (with_reducible repeat (first | apply Kd.S_alloc | apply Kd.S_drewN | apply Kd.S_drew)); exact (Kd.S_mono (Kd.S_far (p := ⟨gb8043, 2, none⟩) (Kd.S_far (p := ⟨gb8043, 1, none⟩) (Kd.S_far (p := ⟨gb8043, 0, none⟩) (Kd.S_types HO8036.out BK8043.out (by decide)) (fun _ hk => hk.2) (.slice Ao99 t8034.length co99)) (fun _ hk => hk.2) (.slice Ao104 t8037.length co104)) (fun _ hk => hk.2) (.slice Ao105 t8040.length co105)) (fun _ h_ => h_.1))) hb); have n10_ := Aside0.mk (Kd.R_below (by (with_reducible repeat (first | apply Kd.R_alloc | apply Kd.R_drewN | apply Kd.R_drew)); exact (Kd.R_mono (Kd.R_far (p := ⟨gb8043, 2, none⟩) (Kd.R_far (p := ⟨gb8043, 1, none⟩) (Kd.R_far (p := ⟨gb8043, 0, none⟩) (Kd.R_types HO8039.out BK8043.out (by decide)) (fun _ hk => hk.2) (.slice Ao99 t8034.length co99)) (fun _ hk => hk.2) (.slice Ao104 t8037.length co104)) (fun _ hk => hk.2) (.slice Ao105 t8040.length co105)) (fun _ h_ => h_.1))) hb); have n11_ := Aside0.mk (Kd.S_below (by (with_reducible repeat (first | apply Kd.S_alloc | apply Kd.S_drewN | apply Kd.S_drew)); exact (Kd.S_mono (Kd.S_far (p := ⟨gb8043, 2, none⟩) (Kd.S_far (p := ⟨gb8043, 1, none⟩) (Kd.S_far (p := ⟨gb8043, 0, none⟩) (Kd.S_types HO8042.out BK8043.out (by decide)) (fun _ hk => hk.2) (.slice Ao99 t8034.length co99)) (fun _ hk => hk.2) (.slice Ao104 t8037.length co104)) (fun _ hk => hk.2) (.slice Ao105 t8040.length co105)) (fun _ h_ => h_.1))) hb); have n12_ := Aside0.mk (blk_below (g := gb8001) (o := .cells #[.slice A0_0 l0_0.length c0_0, .slice A0_1 l0_1.length c0_1, .slice A0_2 l0_2.length c0_2] 76 (0, 0)) (by (with_reducible repeat (first | refine blk_drewN ?_ _ | refine blk_drew ?_ | refine blk_alloc ?_ _)); refine blk_far ?_ NB8001_8043.out _; (with_reducible repeat (first | refine blk_drewN ?_ _ | refine blk_drew ?_ | refine blk_alloc ?_ _)); refine blk_far ?_ NB8001_8043.out _; (with_reducible repeat (first | refine blk_drewN ?_ _ | refine blk_drew ?_ | refine blk_alloc ?_ _)); refine blk_far ?_ NB8001_8043.out _; (with_reducible repeat (first | refine blk_drewN ?_ _ | refine blk_drew ?_ | refine blk_alloc ?_ _)); exact BK8001.out) hb); have n13_ := Aside0.mk (blk_below (g := gb8002) (o := .cells #[.slice A1_0 l1_0.length c1_0, .slice A1_1 l1_1.length c1_1, .slice A1_2 l1_2.length c1_2] 76 (0, 0)) (by (with_reducible repeat (first | refine blk_drewN ?_ _ | refine blk_drew ?_ | refine blk_alloc ?_ _)); refine blk_far ?_ NB8002_8043.out _; (with_reducible repeat (first | refine blk_drewN ?_ _ | refine blk_drew ?_ | refine blk_alloc ?_ _)); refine blk_far ?_ NB8002_8043.out _; (with_reducible repeat (first | refine blk_drewN ?_ _ | refine blk_drew ?_ | refine blk_alloc ?_ _)); refine blk_far ?_ NB8002_8043.out _; (with_reducible repeat (first | refine blk_drewN ?_ _ | refine blk_drew ?_ | refine blk_alloc ?_ _)); exact BK8002.out) hb); have n14_ := Aside0.mk (blk_below (g := gb8033) (o := .cells #[.slice Ao90 t8024.length co90, .slice Ao94 t8027.length co94, .slice Ao95 t8030.length co95] 31 (0, 0)) (by (with_reducible repeat (first | refine blk_drewN ?_ _ | refine blk_drew ?_ | refine blk_alloc ?_ _)); refine blk_far ?_ NB8033_8043.out _; (with_reducible repeat (first | refine blk_drewN ?_ _ | refine blk_drew ?_ | refine blk_alloc ?_ _)); refine blk_far ?_ NB8033_8043.out _; (with_reducible repeat (first | refine blk_drewN ?_ _ | refine blk_drew ?_ | refine blk_alloc ?_ _)); refine blk_far ?_ NB8033_8043.out _; (with_reducible repeat (first | refine blk_drewN ?_ _ | refine blk_drew ?_ | refine blk_alloc ?_ _)); exact BK8033.out) hb); have n15_ := Aside0.mk (blk_below (g := gb8043) (o := .cells #[.slice Ao99 t8034.length co99, .slice Ao104 t8037.length co104, .slice Ao105 t8040.length co105] 31 (0, 0)) (by (with_reducible repeat (first | refine blk_drewN ?_ _ | refine blk_drew ?_ | refine blk_alloc ?_ _)); refine blk_put (cs := #[.slice Ao99 t8034.length co99, .slice Ao104 t8037.length co104, .slice none 0 0]) ?_ 2 _ rfl; (with_reducible repeat (first | refine blk_drewN ?_ _ | refine blk_drew ?_ | refine blk_alloc ?_ _)); refine blk_put (cs := #[.slice Ao99 t8034.length co99, .slice none 0 0, .slice none 0 0]) ?_ 1 _ rfl; (with_reducible repeat (first | refine blk_drewN ?_ _ | refine blk_drew ?_ | refine blk_alloc ?_ _)); refine blk_put (cs := #[.slice none 0 0, .slice none 0 0, .slice none 0 0]) ?_ 0 _ rfl; (with_reducible repeat (first | refine blk_drewN ?_ _ | refine blk_drew ?_ | refine blk_alloc ?_ _)); exact BK8043.out) hb); have n16_ := Aside0.mk (below_step (by repeat (first | (with_reducible first | exact HB.out | apply below_alloc | apply pw_below_drewN | apply below_drew1 | refine below_set ?_ GE8001.out | refine below_set ?_ GE8002.out | refine below_set ?_ GE8033.out | refine below_set ?_ GE8043.out) | exact HB.out)) hb); clear HO8007; clear HO8010; clear HO8013; clear HO8016; clear HO8019; clear HO8022; clear HO8026; clear HO8029; clear HO8032; clear HO8036; clear HO8039; clear HO8042; clear BK8001; clear BK8002; clear BK8033; clear BK8043; clear HB; have HO8007 := n0_; have HO8010 := n1_; have HO8013 := n2_; have HO8016 := n3_; have HO8019 := n4_; have HO8022 := n5_; have HO8026 := n6_; have HO8029 := n7_; have HO8032 := n8_; have HO8036 := n9_; have HO8039 := n10_; have HO8042 := n11_; have BK8001 := n12_; have BK8002 := n13_; have BK8033 := n14_; have BK8043 := n15_; have HB := n16_; clear n0_ n1_ n2_ n3_ n4_ n5_ n6_ n7_ n8_ n9_ n10_ n11_ n12_ n13_ n14_ n15_ n16_; (try clear hb); (try clear hb2); (try clear hk); (try clear hi)))
            have n0_ := Aside0.mk (Kd.S_drew HO8007.out)
            have n1_ := Aside0.mk (Kd.R_drew HO8010.out)
            have n2_ := Aside0.mk (Kd.S_drew HO8013.out)
            have n3_ := Aside0.mk (Kd.S_drew HO8016.out)
            have n4_ := Aside0.mk (Kd.R_drew HO8019.out)
            have n5_ := Aside0.mk (Kd.S_drew HO8022.out)
            have n6_ := Aside0.mk (Kd.S_drew HO8026.out)
            have n7_ := Aside0.mk (Kd.R_drew HO8029.out)
            have n8_ := Aside0.mk (Kd.S_drew HO8032.out)
            have n9_ := Aside0.mk (Kd.S_drew HO8036.out)
            have n10_ := Aside0.mk (Kd.R_drew HO8039.out)
            have n11_ := Aside0.mk (Kd.S_drew HO8042.out)
            have n12_ := Aside0.mk (blk_drew BK8001.out)
            have n13_ := Aside0.mk (blk_drew BK8002.out)
            have n14_ := Aside0.mk (blk_drew BK8033.out)
            have n15_ := Aside0.mk (blk_drew BK8043.out)
            have n16_ := Aside0.mk (below_drew1 HB.out)
            clear HO8007
            clear HO8010
            clear HO8013
            clear HO8016
            clear HO8019
            clear HO8022
            clear HO8026
            clear HO8029
            clear HO8032
            clear HO8036
            clear HO8039
            clear HO8042
            clear BK8001
            clear BK8002
            clear BK8033
            clear BK8043
            clear HB
            have HO8007 := n0_
            have HO8010 := n1_
            have HO8013 := n2_
            have HO8016 := n3_
            have HO8019 := n4_
            have HO8022 := n5_
            have HO8026 := n6_
            have HO8029 := n7_
            have HO8032 := n8_
            have HO8036 := n9_
            have HO8039 := n10_
            have HO8042 := n11_
            have BK8001 := n12_
            have BK8002 := n13_
            have BK8033 := n14_
            have BK8043 := n15_
            have HB := n16_
            clear n0_ n1_ n2_ n3_ n4_ n5_ n6_ n7_ n8_ n9_ n10_ n11_ n12_ n13_ n14_ n15_ n16_
            refine start_ (n := 5) (S := fun w' => w'.cell? ⟨gb8033, 0, none⟩ = some (.slice Ao90 t8024.length co90) ∧ w'.cell? ⟨gb8033, 1, none⟩ = some (.slice Ao94 t8027.length co94) ∧ w'.cell? ⟨gb8033, 2, none⟩ = some (.slice Ao95 t8030.length co95) ∧ w'.cell? ⟨gb8001, 0, none⟩ = some (.slice A0_0 l0_0.length c0_0) ∧ w'.cell? ⟨gb8001, 1, none⟩ = some (.slice A0_1 l0_1.length c0_1) ∧ w'.cell? ⟨gb8001, 2, none⟩ = some (.slice A0_2 l0_2.length c0_2)) (ds := []) #[false, false, false, false, false] (by kernel_rfl) rfl rfl ⟨(blk_cell BK8033.out 0).trans rfl, (blk_cell BK8033.out 1).trans rfl, (blk_cell BK8033.out 2).trans rfl, (blk_cell BK8001.out 0).trans rfl, (blk_cell BK8001.out 1).trans rfl, (blk_cell BK8001.out 2).trans rfl⟩ (fun hHeld => ?_)
            generalize w107.drew = w108 at HO8007 HO8010 HO8013 HO8016 HO8019 HO8022 HO8026 HO8029 HO8032 HO8036 HO8039 HO8042 BK8001 BK8002 BK8033 BK8043 HB hHeld ⊢
            refine take_ (i := 0) (N := some 35) (v := ?_) (a' := ?_) #[true, false, false, false, false] rfl rfl (by kernel_rfl) (fun _ _ _ h => h) (Or.inl ⟨by rfl, ?_⟩) hHeld ?_ ?_
            rotate_left
            · rintro w' ⟨s0, s1, s2, s3, s4, s5⟩
              go_simp
              first | with_reducible rfl | (rw [if_neg (by omega)]; done)
            rotate_left
            · simp only [Act.put, List.setIfInBounds_toArray, List.set_cons_zero, List.set_cons_succ, i64_w, i32_w]
              rfl
            refine take_ (i := 1) (N := some 36) (v := ?_) (a' := ?_) #[true, true, false, false, false] rfl rfl (by kernel_rfl) (fun _ _ _ h => h) (Or.inl ⟨by rfl, ?_⟩) hHeld ?_ ?_
            rotate_left
            · rintro w' ⟨s0, s1, s2, s3, s4, s5⟩
              go_simp
              first | with_reducible rfl | (rw [if_neg (by omega)]; done)
            rotate_left
            · simp only [Act.put, List.setIfInBounds_toArray, List.set_cons_zero, List.set_cons_succ, i64_w, i32_w]
              rfl
            refine one_ (i := 2) (N := some 37) #[true, true, true, false, false] rfl rfl (by kernel_rfl) (by decide) (fun K hK => ?_)
            refine goes_ Try.func49 (by kernel_rfl) rfl #[.agg #[.slice A0_0 l0_0.length c0_0, .slice A0_1 l0_1.length c0_1, .slice A0_2 l0_2.length c0_2]] (by rfl) rfl rfl (by (try simp only [List.map_toArray, List.map_cons, List.map_nil]); first | done | rfl | (simp only [List.length_drop, List.length_take]; rfl)) ?_
            with_reducible refine (laws_toMonoid.calls k _ _ l0_0 _ _ l0_1 _ _ l0_2 t8045 t8048 t8051 _ ?side1 ?side2 ?side3 ?side4 ?side5 ?side6 A64.out).mono ?_
            (case side1 => repeat (first | exact (Kd.C_below HR0_0.out HB.out) | (with_reducible refine Kd.C_alloc ?_ _) | (with_reducible refine Kd.C_drewN ?_ _) | (with_reducible refine Kd.C_drew ?_)))
            (case side2 => exact HC0_0.out)
            (case side3 => repeat (first | exact (Kd.C_below HR0_1.out HB.out) | (with_reducible refine Kd.C_alloc ?_ _) | (with_reducible refine Kd.C_drewN ?_ _) | (with_reducible refine Kd.C_drew ?_)))
            (case side4 => exact HC0_1.out)
            (case side5 => repeat (first | exact (Kd.C_below HR0_2.out HB.out) | (with_reducible refine Kd.C_alloc ?_ _) | (with_reducible refine Kd.C_drewN ?_ _) | (with_reducible refine Kd.C_drew ?_)))
            (case side6 => exact HC0_2.out)
            rintro e w109 ⟨v8046, v8049, v8052, rfl, ho0, ho1, ho2, hb⟩
            refine ⟨_, rfl, ?_⟩
            have n0_ := Aside0.mk (Kd.S_mono (Kd.S_told (Kd.S_told (Kd.S_told (Kd.S_old (by (with_reducible repeat (first | apply Kd.S_alloc | apply Kd.S_drewN | apply Kd.S_drew)); exact HO8007.out) hb) (Kd.S_base ho0)) (Kd.R_base ho1)) (Kd.S_base ho2)) (fun _ h_ => h_.1))
            have n1_ := Aside0.mk (Kd.R_elder' (by (with_reducible repeat (first | apply Kd.R_alloc | apply Kd.R_drewN | apply Kd.R_drew)); exact HO8010.out) (Kd.R_base ho1) hb)
            have n2_ := Aside0.mk (Kd.S_mono (Kd.S_told (Kd.S_told (Kd.S_told (Kd.S_old (by (with_reducible repeat (first | apply Kd.S_alloc | apply Kd.S_drewN | apply Kd.S_drew)); exact HO8013.out) hb) (Kd.S_base ho0)) (Kd.R_base ho1)) (Kd.S_base ho2)) (fun _ h_ => h_.1))
            have n3_ := Aside0.mk (Kd.S_mono (Kd.S_told (Kd.S_told (Kd.S_told (Kd.S_old (by (with_reducible repeat (first | apply Kd.S_alloc | apply Kd.S_drewN | apply Kd.S_drew)); exact HO8016.out) hb) (Kd.S_base ho0)) (Kd.R_base ho1)) (Kd.S_base ho2)) (fun _ h_ => h_.1))
            have n4_ := Aside0.mk (Kd.R_elder' (by (with_reducible repeat (first | apply Kd.R_alloc | apply Kd.R_drewN | apply Kd.R_drew)); exact HO8019.out) (Kd.R_base ho1) hb)
            have n5_ := Aside0.mk (Kd.S_mono (Kd.S_told (Kd.S_told (Kd.S_told (Kd.S_old (by (with_reducible repeat (first | apply Kd.S_alloc | apply Kd.S_drewN | apply Kd.S_drew)); exact HO8022.out) hb) (Kd.S_base ho0)) (Kd.R_base ho1)) (Kd.S_base ho2)) (fun _ h_ => h_.1))
            have n6_ := Aside0.mk (Kd.S_mono (Kd.S_told (Kd.S_told (Kd.S_told (Kd.S_old (by (with_reducible repeat (first | apply Kd.S_alloc | apply Kd.S_drewN | apply Kd.S_drew)); exact HO8026.out) hb) (Kd.S_base ho0)) (Kd.R_base ho1)) (Kd.S_base ho2)) (fun _ h_ => h_.1))
            have n7_ := Aside0.mk (Kd.R_elder' (by (with_reducible repeat (first | apply Kd.R_alloc | apply Kd.R_drewN | apply Kd.R_drew)); exact HO8029.out) (Kd.R_base ho1) hb)
            have n8_ := Aside0.mk (Kd.S_mono (Kd.S_told (Kd.S_told (Kd.S_told (Kd.S_old (by (with_reducible repeat (first | apply Kd.S_alloc | apply Kd.S_drewN | apply Kd.S_drew)); exact HO8032.out) hb) (Kd.S_base ho0)) (Kd.R_base ho1)) (Kd.S_base ho2)) (fun _ h_ => h_.1))
            have n9_ := Aside0.mk (Kd.S_mono (Kd.S_told (Kd.S_told (Kd.S_told (Kd.S_old (by (with_reducible repeat (first | apply Kd.S_alloc | apply Kd.S_drewN | apply Kd.S_drew)); exact HO8036.out) hb) (Kd.S_base ho0)) (Kd.R_base ho1)) (Kd.S_base ho2)) (fun _ h_ => h_.1))
            have n10_ := Aside0.mk (Kd.R_elder' (by (with_reducible repeat (first | apply Kd.R_alloc | apply Kd.R_drewN | apply Kd.R_drew)); exact HO8039.out) (Kd.R_base ho1) hb)
            have n11_ := Aside0.mk (Kd.S_mono (Kd.S_told (Kd.S_told (Kd.S_told (Kd.S_old (by (with_reducible repeat (first | apply Kd.S_alloc | apply Kd.S_drewN | apply Kd.S_drew)); exact HO8042.out) hb) (Kd.S_base ho0)) (Kd.R_base ho1)) (Kd.S_base ho2)) (fun _ h_ => h_.1))
            have n12_ := Aside0.mk (Kd.S_lower (Kd.S_new' (Kd.S_new' (Kd.S_new' (Kd.S_new' (Kd.S_new' (Kd.S_new' (Kd.S_new' (Kd.S_new' (Kd.S_new' (Kd.S_new' (Kd.S_new' (Kd.S_new' ho0 (Kd.S_lt (by (with_reducible repeat (first | apply Kd.S_alloc | apply Kd.S_drewN | apply Kd.S_drew)); exact HO8007.out))) (Kd.R_lt (by (with_reducible repeat (first | apply Kd.R_alloc | apply Kd.R_drewN | apply Kd.R_drew)); exact HO8010.out))) (Kd.S_lt (by (with_reducible repeat (first | apply Kd.S_alloc | apply Kd.S_drewN | apply Kd.S_drew)); exact HO8013.out))) (Kd.S_lt (by (with_reducible repeat (first | apply Kd.S_alloc | apply Kd.S_drewN | apply Kd.S_drew)); exact HO8016.out))) (Kd.R_lt (by (with_reducible repeat (first | apply Kd.R_alloc | apply Kd.R_drewN | apply Kd.R_drew)); exact HO8019.out))) (Kd.S_lt (by (with_reducible repeat (first | apply Kd.S_alloc | apply Kd.S_drewN | apply Kd.S_drew)); exact HO8022.out))) (Kd.S_lt (by (with_reducible repeat (first | apply Kd.S_alloc | apply Kd.S_drewN | apply Kd.S_drew)); exact HO8026.out))) (Kd.R_lt (by (with_reducible repeat (first | apply Kd.R_alloc | apply Kd.R_drewN | apply Kd.R_drew)); exact HO8029.out))) (Kd.S_lt (by (with_reducible repeat (first | apply Kd.S_alloc | apply Kd.S_drewN | apply Kd.S_drew)); exact HO8032.out))) (Kd.S_lt (by (with_reducible repeat (first | apply Kd.S_alloc | apply Kd.S_drewN | apply Kd.S_drew)); exact HO8036.out))) (Kd.R_lt (by (with_reducible repeat (first | apply Kd.R_alloc | apply Kd.R_drewN | apply Kd.R_drew)); exact HO8039.out))) (Kd.S_lt (by (with_reducible repeat (first | apply Kd.S_alloc | apply Kd.S_drewN | apply Kd.S_drew)); exact HO8042.out))) (below_size (by repeat (first | (with_reducible first | exact HB.out | apply below_alloc | apply pw_below_drewN | apply below_drew1 | refine below_set ?_ GE8001.out | refine below_set ?_ GE8002.out | refine below_set ?_ GE8033.out | refine below_set ?_ GE8043.out) | exact HB.out))))
            have n13_ := Aside0.mk (Kd.R_lower (Kd.R_new' (Kd.R_new' (Kd.R_new' (Kd.R_new' ho1 (Kd.R_lt (by (with_reducible repeat (first | apply Kd.R_alloc | apply Kd.R_drewN | apply Kd.R_drew)); exact HO8010.out))) (Kd.R_lt (by (with_reducible repeat (first | apply Kd.R_alloc | apply Kd.R_drewN | apply Kd.R_drew)); exact HO8019.out))) (Kd.R_lt (by (with_reducible repeat (first | apply Kd.R_alloc | apply Kd.R_drewN | apply Kd.R_drew)); exact HO8029.out))) (Kd.R_lt (by (with_reducible repeat (first | apply Kd.R_alloc | apply Kd.R_drewN | apply Kd.R_drew)); exact HO8039.out))) (below_size (by repeat (first | (with_reducible first | exact HB.out | apply below_alloc | apply pw_below_drewN | apply below_drew1 | refine below_set ?_ GE8001.out | refine below_set ?_ GE8002.out | refine below_set ?_ GE8033.out | refine below_set ?_ GE8043.out) | exact HB.out))))
            have n14_ := Aside0.mk (Kd.S_lower (Kd.S_new' (Kd.S_new' (Kd.S_new' (Kd.S_new' (Kd.S_new' (Kd.S_new' (Kd.S_new' (Kd.S_new' (Kd.S_new' (Kd.S_new' (Kd.S_new' (Kd.S_new' ho2 (Kd.S_lt (by (with_reducible repeat (first | apply Kd.S_alloc | apply Kd.S_drewN | apply Kd.S_drew)); exact HO8007.out))) (Kd.R_lt (by (with_reducible repeat (first | apply Kd.R_alloc | apply Kd.R_drewN | apply Kd.R_drew)); exact HO8010.out))) (Kd.S_lt (by (with_reducible repeat (first | apply Kd.S_alloc | apply Kd.S_drewN | apply Kd.S_drew)); exact HO8013.out))) (Kd.S_lt (by (with_reducible repeat (first | apply Kd.S_alloc | apply Kd.S_drewN | apply Kd.S_drew)); exact HO8016.out))) (Kd.R_lt (by (with_reducible repeat (first | apply Kd.R_alloc | apply Kd.R_drewN | apply Kd.R_drew)); exact HO8019.out))) (Kd.S_lt (by (with_reducible repeat (first | apply Kd.S_alloc | apply Kd.S_drewN | apply Kd.S_drew)); exact HO8022.out))) (Kd.S_lt (by (with_reducible repeat (first | apply Kd.S_alloc | apply Kd.S_drewN | apply Kd.S_drew)); exact HO8026.out))) (Kd.R_lt (by (with_reducible repeat (first | apply Kd.R_alloc | apply Kd.R_drewN | apply Kd.R_drew)); exact HO8029.out))) (Kd.S_lt (by (with_reducible repeat (first | apply Kd.S_alloc | apply Kd.S_drewN | apply Kd.S_drew)); exact HO8032.out))) (Kd.S_lt (by (with_reducible repeat (first | apply Kd.S_alloc | apply Kd.S_drewN | apply Kd.S_drew)); exact HO8036.out))) (Kd.R_lt (by (with_reducible repeat (first | apply Kd.R_alloc | apply Kd.R_drewN | apply Kd.R_drew)); exact HO8039.out))) (Kd.S_lt (by (with_reducible repeat (first | apply Kd.S_alloc | apply Kd.S_drewN | apply Kd.S_drew)); exact HO8042.out))) (below_size (by repeat (first | (with_reducible first | exact HB.out | apply below_alloc | apply pw_below_drewN | apply below_drew1 | refine below_set ?_ GE8001.out | refine below_set ?_ GE8002.out | refine below_set ?_ GE8033.out | refine below_set ?_ GE8043.out) | exact HB.out))))
            have n15_ := Aside0.mk (blk_below (g := gb8001) (o := .cells #[.slice A0_0 l0_0.length c0_0, .slice A0_1 l0_1.length c0_1, .slice A0_2 l0_2.length c0_2] 76 (0, 0)) (by (with_reducible repeat (first | refine blk_drewN ?_ _ | refine blk_drew ?_ | refine blk_alloc ?_ _)); exact BK8001.out) hb)
            have n16_ := Aside0.mk (blk_below (g := gb8002) (o := .cells #[.slice A1_0 l1_0.length c1_0, .slice A1_1 l1_1.length c1_1, .slice A1_2 l1_2.length c1_2] 76 (0, 0)) (by (with_reducible repeat (first | refine blk_drewN ?_ _ | refine blk_drew ?_ | refine blk_alloc ?_ _)); exact BK8002.out) hb)
            have n17_ := Aside0.mk (blk_below (g := gb8033) (o := .cells #[.slice Ao90 t8024.length co90, .slice Ao94 t8027.length co94, .slice Ao95 t8030.length co95] 31 (0, 0)) (by (with_reducible repeat (first | refine blk_drewN ?_ _ | refine blk_drew ?_ | refine blk_alloc ?_ _)); exact BK8033.out) hb)
            have n18_ := Aside0.mk (blk_below (g := gb8043) (o := .cells #[.slice Ao99 t8034.length co99, .slice Ao104 t8037.length co104, .slice Ao105 t8040.length co105] 31 (0, 0)) (by (with_reducible repeat (first | refine blk_drewN ?_ _ | refine blk_drew ?_ | refine blk_alloc ?_ _)); exact BK8043.out) hb)
            have n19_ := Aside0.mk (below_step (by repeat (first | (with_reducible first | exact HB.out | apply below_alloc | apply pw_below_drewN | apply below_drew1 | refine below_set ?_ GE8001.out | refine below_set ?_ GE8002.out | refine below_set ?_ GE8033.out | refine below_set ?_ GE8043.out) | exact HB.out)) hb)
            clear HO8007
            clear HO8010
            clear HO8013
            clear HO8016
            clear HO8019
            clear HO8022
            clear HO8026
            clear HO8029
            clear HO8032
            clear HO8036
            clear HO8039
            clear HO8042
            clear BK8001
            clear BK8002
            clear BK8033
            clear BK8043
            clear HB
            have HO8007 := n0_
            have HO8010 := n1_
            have HO8013 := n2_
            have HO8016 := n3_
            have HO8019 := n4_
            have HO8022 := n5_
            have HO8026 := n6_
            have HO8029 := n7_
            have HO8032 := n8_
            have HO8036 := n9_
            have HO8039 := n10_
            have HO8042 := n11_
            have HO8047 := n12_
            have HO8050 := n13_
            have HO8053 := n14_
            have BK8001 := n15_
            have BK8002 := n16_
            have BK8033 := n17_
            have BK8043 := n18_
            have HB := n19_
            clear n0_ n1_ n2_ n3_ n4_ n5_ n6_ n7_ n8_ n9_ n10_ n11_ n12_ n13_ n14_ n15_ n16_ n17_ n18_ n19_
            (try clear hb)
            (try clear hb2)
            (try clear hk)
            (try clear hi)
            (try clear ho0)
            (try clear ho1)
            (try clear ho2)
            obtain ⟨Ao110, co110, eo110⟩ := Kd.S_slice HO8047.out
            (first | subst eo110 | (injection eo110 with f1_ f2_ f3_; have f4_ := f1_.symm; have f5_ := f3_.symm; clear f1_ f2_ f3_; subst f4_; subst f5_))
            obtain ⟨Ao111, co111, eo111⟩ := Kd.R_slice HO8050.out
            (first | subst eo111 | (injection eo111 with f1_ f2_ f3_; have f4_ := f1_.symm; have f5_ := f3_.symm; clear f1_ f2_ f3_; subst f4_; subst f5_))
            obtain ⟨Ao112, co112, eo112⟩ := Kd.S_slice HO8053.out
            (first | subst eo112 | (injection eo112 with f1_ f2_ f3_; have f4_ := f1_.symm; have f5_ := f3_.symm; clear f1_ f2_ f3_; subst f4_; subst f5_))
            refine hK.out _ _ ⟨(blk_cell BK8033.out 0).trans rfl, (blk_cell BK8033.out 1).trans rfl, (blk_cell BK8033.out 2).trans rfl, (blk_cell BK8001.out 0).trans rfl, (blk_cell BK8001.out 1).trans rfl, (blk_cell BK8001.out 2).trans rfl⟩ (fun hHeld => ?_)
            clear hK K
            refine norm_ (a' := ?_) ?_ ?_
            rotate_left
            · show Act.put _ (some 37) _ = _
              simp only [Act.put, List.setIfInBounds_toArray, List.set_cons_zero, List.set_cons_succ, i64_w, i32_w]
              rfl
            refine one_ (i := 3) (N := some 38) #[true, true, true, true, false] rfl rfl (by kernel_rfl) (by decide) (fun K hK => ?_)
            refine goes_ Try.func50 (by kernel_rfl) rfl #[.agg #[.slice Ao90 t8024.length co90, .slice Ao94 t8027.length co94, .slice Ao95 t8030.length co95], .agg #[.slice Ao110 t8045.length co110, .slice Ao111 t8048.length co111, .slice Ao112 t8051.length co112]] (by rfl) rfl rfl (by (try simp only [List.map_toArray, List.map_cons, List.map_nil]); first | done | rfl | (simp only [List.length_drop, List.length_take]; rfl)) ?_
            with_reducible refine (laws_eqMonoid.calls k _ _ t8024 _ _ t8027 _ _ t8030 _ _ t8045 _ _ t8048 _ _ t8051 true _ ?side1 ?side2 ?side3 ?side4 ?side5 ?side6 ?side7 ?side8 ?side9 ?side10 ?side11 ?side12 A65.out).mono ?_
            (case side1 => repeat (first | exact (Kd.S_reads' HO8026.out).2.2 | (with_reducible refine Kd.C_alloc ?_ _) | (with_reducible refine Kd.C_drewN ?_ _) | (with_reducible refine Kd.C_drew ?_)))
            (case side2 => exact (Kd.S_reads' HO8026.out).2.1)
            (case side3 => repeat (first | exact (Kd.R_reads' HO8029.out).2.2 | (with_reducible refine Kd.C_alloc ?_ _) | (with_reducible refine Kd.C_drewN ?_ _) | (with_reducible refine Kd.C_drew ?_)))
            (case side4 => exact (Kd.R_reads' HO8029.out).2.1)
            (case side5 => repeat (first | exact (Kd.S_reads' HO8032.out).2.2 | (with_reducible refine Kd.C_alloc ?_ _) | (with_reducible refine Kd.C_drewN ?_ _) | (with_reducible refine Kd.C_drew ?_)))
            (case side6 => exact (Kd.S_reads' HO8032.out).2.1)
            (case side7 => repeat (first | exact (Kd.S_reads' HO8047.out).2.2 | (with_reducible refine Kd.C_alloc ?_ _) | (with_reducible refine Kd.C_drewN ?_ _) | (with_reducible refine Kd.C_drew ?_)))
            (case side8 => exact (Kd.S_reads' HO8047.out).2.1)
            (case side9 => repeat (first | exact (Kd.R_reads' HO8050.out).2.2 | (with_reducible refine Kd.C_alloc ?_ _) | (with_reducible refine Kd.C_drewN ?_ _) | (with_reducible refine Kd.C_drew ?_)))
            (case side10 => exact (Kd.R_reads' HO8050.out).2.1)
            (case side11 => repeat (first | exact (Kd.S_reads' HO8053.out).2.2 | (with_reducible refine Kd.C_alloc ?_ _) | (with_reducible refine Kd.C_drewN ?_ _) | (with_reducible refine Kd.C_drew ?_)))
            (case side12 => exact (Kd.S_reads' HO8053.out).2.1)
            rintro e w113 ⟨rfl, hb⟩
            refine ⟨_, rfl, ?_⟩
            have n0_ := Aside0.mk (Kd.S_below (by (with_reducible repeat (first | apply Kd.S_alloc | apply Kd.S_drewN | apply Kd.S_drew)); exact HO8007.out) hb)
            have n1_ := Aside0.mk (Kd.R_below (by (with_reducible repeat (first | apply Kd.R_alloc | apply Kd.R_drewN | apply Kd.R_drew)); exact HO8010.out) hb)
            have n2_ := Aside0.mk (Kd.S_below (by (with_reducible repeat (first | apply Kd.S_alloc | apply Kd.S_drewN | apply Kd.S_drew)); exact HO8013.out) hb)
            have n3_ := Aside0.mk (Kd.S_below (by (with_reducible repeat (first | apply Kd.S_alloc | apply Kd.S_drewN | apply Kd.S_drew)); exact HO8016.out) hb)
            have n4_ := Aside0.mk (Kd.R_below (by (with_reducible repeat (first | apply Kd.R_alloc | apply Kd.R_drewN | apply Kd.R_drew)); exact HO8019.out) hb)
            have n5_ := Aside0.mk (Kd.S_below (by (with_reducible repeat (first | apply Kd.S_alloc | apply Kd.S_drewN | apply Kd.S_drew)); exact HO8022.out) hb)
            have n6_ := Aside0.mk (Kd.S_below (by (with_reducible repeat (first | apply Kd.S_alloc | apply Kd.S_drewN | apply Kd.S_drew)); exact HO8026.out) hb)
            have n7_ := Aside0.mk (Kd.R_below (by (with_reducible repeat (first | apply Kd.R_alloc | apply Kd.R_drewN | apply Kd.R_drew)); exact HO8029.out) hb)
            have n8_ := Aside0.mk (Kd.S_below (by (with_reducible repeat (first | apply Kd.S_alloc | apply Kd.S_drewN | apply Kd.S_drew)); exact HO8032.out) hb)
            have n9_ := Aside0.mk (Kd.S_below (by (with_reducible repeat (first | apply Kd.S_alloc | apply Kd.S_drewN | apply Kd.S_drew)); exact HO8036.out) hb)
            have n10_ := Aside0.mk (Kd.R_below (by (with_reducible repeat (first | apply Kd.R_alloc | apply Kd.R_drewN | apply Kd.R_drew)); exact HO8039.out) hb)
            have n11_ := Aside0.mk (Kd.S_below (by (with_reducible repeat (first | apply Kd.S_alloc | apply Kd.S_drewN | apply Kd.S_drew)); exact HO8042.out) hb)
            have n12_ := Aside0.mk (Kd.S_below (by (with_reducible repeat (first | apply Kd.S_alloc | apply Kd.S_drewN | apply Kd.S_drew)); exact HO8047.out) hb)
            have n13_ := Aside0.mk (Kd.R_below (by (with_reducible repeat (first | apply Kd.R_alloc | apply Kd.R_drewN | apply Kd.R_drew)); exact HO8050.out) hb)
            have n14_ := Aside0.mk (Kd.S_below (by (with_reducible repeat (first | apply Kd.S_alloc | apply Kd.S_drewN | apply Kd.S_drew)); exact HO8053.out) hb)
            have n15_ := Aside0.mk (blk_below (g := gb8001) (o := .cells #[.slice A0_0 l0_0.length c0_0, .slice A0_1 l0_1.length c0_1, .slice A0_2 l0_2.length c0_2] 76 (0, 0)) (by (with_reducible repeat (first | refine blk_drewN ?_ _ | refine blk_drew ?_ | refine blk_alloc ?_ _)); exact BK8001.out) hb)
            have n16_ := Aside0.mk (blk_below (g := gb8002) (o := .cells #[.slice A1_0 l1_0.length c1_0, .slice A1_1 l1_1.length c1_1, .slice A1_2 l1_2.length c1_2] 76 (0, 0)) (by (with_reducible repeat (first | refine blk_drewN ?_ _ | refine blk_drew ?_ | refine blk_alloc ?_ _)); exact BK8002.out) hb)
            have n17_ := Aside0.mk (blk_below (g := gb8033) (o := .cells #[.slice Ao90 t8024.length co90, .slice Ao94 t8027.length co94, .slice Ao95 t8030.length co95] 31 (0, 0)) (by (with_reducible repeat (first | refine blk_drewN ?_ _ | refine blk_drew ?_ | refine blk_alloc ?_ _)); exact BK8033.out) hb)
            have n18_ := Aside0.mk (blk_below (g := gb8043) (o := .cells #[.slice Ao99 t8034.length co99, .slice Ao104 t8037.length co104, .slice Ao105 t8040.length co105] 31 (0, 0)) (by (with_reducible repeat (first | refine blk_drewN ?_ _ | refine blk_drew ?_ | refine blk_alloc ?_ _)); exact BK8043.out) hb)
            have n19_ := Aside0.mk (below_step (by repeat (first | (with_reducible first | exact HB.out | apply below_alloc | apply pw_below_drewN | apply below_drew1 | refine below_set ?_ GE8001.out | refine below_set ?_ GE8002.out | refine below_set ?_ GE8033.out | refine below_set ?_ GE8043.out) | exact HB.out)) hb)
            clear HO8007
            clear HO8010
            clear HO8013
            clear HO8016
            clear HO8019
            clear HO8022
            clear HO8026
            clear HO8029
            clear HO8032
            clear HO8036
            clear HO8039
            clear HO8042
            clear HO8047
            clear HO8050
            clear HO8053
            clear BK8001
            clear BK8002
            clear BK8033
            clear BK8043
            clear HB
            have HO8007 := n0_
            have HO8010 := n1_
            have HO8013 := n2_
            have HO8016 := n3_
            have HO8019 := n4_
            have HO8022 := n5_
            have HO8026 := n6_
            have HO8029 := n7_
            have HO8032 := n8_
            have HO8036 := n9_
            have HO8039 := n10_
            have HO8042 := n11_
            have HO8047 := n12_
            have HO8050 := n13_
            have HO8053 := n14_
            have BK8001 := n15_
            have BK8002 := n16_
            have BK8033 := n17_
            have BK8043 := n18_
            have HB := n19_
            clear n0_ n1_ n2_ n3_ n4_ n5_ n6_ n7_ n8_ n9_ n10_ n11_ n12_ n13_ n14_ n15_ n16_ n17_ n18_ n19_
            (try clear hb)
            (try clear hb2)
            (try clear hk)
            (try clear hi)
            refine hK.out _ _ ⟨(blk_cell BK8033.out 0).trans rfl, (blk_cell BK8033.out 1).trans rfl, (blk_cell BK8033.out 2).trans rfl, (blk_cell BK8001.out 0).trans rfl, (blk_cell BK8001.out 1).trans rfl, (blk_cell BK8001.out 2).trans rfl⟩ (fun hHeld => ?_)
            clear hK K
            refine norm_ (a' := ?_) ?_ ?_
            rotate_left
            · show Act.put _ (some 38) _ = _
              simp only [Act.put, List.setIfInBounds_toArray, List.set_cons_zero, List.set_cons_succ, i64_w, i32_w]
              rfl
            refine pure_ (i := 4) (N := some 39) (v := ?_) (a' := ?_) #[true, true, true, true, true] rfl rfl (by kernel_rfl) (fun _ _ _ h => h) (Or.inl ⟨by rfl, ?_⟩) ?_ ?_
            rotate_left
            · intro w'
              go_simp
              first | with_reducible rfl | (rw [if_neg (by omega)]; done)
            rotate_left
            · simp only [Act.put, List.setIfInBounds_toArray, List.set_cons_zero, List.set_cons_succ, i64_w, i32_w]
              rfl
            refine done_ (by kernel_rfl) ?_
            try go_wp2
            have n0_ := Aside0.mk (Kd.S_drew HO8007.out)
            have n1_ := Aside0.mk (Kd.R_drew HO8010.out)
            have n2_ := Aside0.mk (Kd.S_drew HO8013.out)
            have n3_ := Aside0.mk (Kd.S_drew HO8016.out)
            have n4_ := Aside0.mk (Kd.R_drew HO8019.out)
            have n5_ := Aside0.mk (Kd.S_drew HO8022.out)
            have n6_ := Aside0.mk (Kd.S_drew HO8026.out)
            have n7_ := Aside0.mk (Kd.R_drew HO8029.out)
            have n8_ := Aside0.mk (Kd.S_drew HO8032.out)
            have n9_ := Aside0.mk (Kd.S_drew HO8036.out)
            have n10_ := Aside0.mk (Kd.R_drew HO8039.out)
            have n11_ := Aside0.mk (Kd.S_drew HO8042.out)
            have n12_ := Aside0.mk (Kd.S_drew HO8047.out)
            have n13_ := Aside0.mk (Kd.R_drew HO8050.out)
            have n14_ := Aside0.mk (Kd.S_drew HO8053.out)
            have n15_ := Aside0.mk (blk_drew BK8001.out)
            have n16_ := Aside0.mk (blk_drew BK8002.out)
            have n17_ := Aside0.mk (blk_drew BK8033.out)
            have n18_ := Aside0.mk (blk_drew BK8043.out)
            have n19_ := Aside0.mk (below_drew1 HB.out)
            clear HO8007
            clear HO8010
            clear HO8013
            clear HO8016
            clear HO8019
            clear HO8022
            clear HO8026
            clear HO8029
            clear HO8032
            clear HO8036
            clear HO8039
            clear HO8042
            clear HO8047
            clear HO8050
            clear HO8053
            clear BK8001
            clear BK8002
            clear BK8033
            clear BK8043
            clear HB
            have HO8007 := n0_
            have HO8010 := n1_
            have HO8013 := n2_
            have HO8016 := n3_
            have HO8019 := n4_
            have HO8022 := n5_
            have HO8026 := n6_
            have HO8029 := n7_
            have HO8032 := n8_
            have HO8036 := n9_
            have HO8039 := n10_
            have HO8042 := n11_
            have HO8047 := n12_
            have HO8050 := n13_
            have HO8053 := n14_
            have BK8001 := n15_
            have BK8002 := n16_
            have BK8033 := n17_
            have BK8043 := n18_
            have HB := n19_
            clear n0_ n1_ n2_ n3_ n4_ n5_ n6_ n7_ n8_ n9_ n10_ n11_ n12_ n13_ n14_ n15_ n16_ n17_ n18_ n19_
            refine start_ (n := 5) (S := fun w' => w'.cell? ⟨gb8043, 0, none⟩ = some (.slice Ao99 t8034.length co99) ∧ w'.cell? ⟨gb8043, 1, none⟩ = some (.slice Ao104 t8037.length co104) ∧ w'.cell? ⟨gb8043, 2, none⟩ = some (.slice Ao105 t8040.length co105) ∧ w'.cell? ⟨gb8002, 0, none⟩ = some (.slice A1_0 l1_0.length c1_0) ∧ w'.cell? ⟨gb8002, 1, none⟩ = some (.slice A1_1 l1_1.length c1_1) ∧ w'.cell? ⟨gb8002, 2, none⟩ = some (.slice A1_2 l1_2.length c1_2)) (ds := []) #[false, false, false, false, false] (by kernel_rfl) rfl rfl ⟨(blk_cell BK8043.out 0).trans rfl, (blk_cell BK8043.out 1).trans rfl, (blk_cell BK8043.out 2).trans rfl, (blk_cell BK8002.out 0).trans rfl, (blk_cell BK8002.out 1).trans rfl, (blk_cell BK8002.out 2).trans rfl⟩ (fun hHeld => ?_)
            generalize w113.drew = w114 at HO8007 HO8010 HO8013 HO8016 HO8019 HO8022 HO8026 HO8029 HO8032 HO8036 HO8039 HO8042 HO8047 HO8050 HO8053 BK8001 BK8002 BK8033 BK8043 HB hHeld ⊢
            refine take_ (i := 0) (N := some 40) (v := ?_) (a' := ?_) #[true, false, false, false, false] rfl rfl (by kernel_rfl) (fun _ _ _ h => h) (Or.inl ⟨by rfl, ?_⟩) hHeld ?_ ?_
            rotate_left
            · rintro w' ⟨s0, s1, s2, s3, s4, s5⟩
              go_simp
              first | with_reducible rfl | (rw [if_neg (by omega)]; done)
            rotate_left
            · simp only [Act.put, List.setIfInBounds_toArray, List.set_cons_zero, List.set_cons_succ, i64_w, i32_w]
              rfl
            refine take_ (i := 1) (N := some 41) (v := ?_) (a' := ?_) #[true, true, false, false, false] rfl rfl (by kernel_rfl) (fun _ _ _ h => h) (Or.inl ⟨by rfl, ?_⟩) hHeld ?_ ?_
            rotate_left
            · rintro w' ⟨s0, s1, s2, s3, s4, s5⟩
              go_simp
              first | with_reducible rfl | (rw [if_neg (by omega)]; done)
            rotate_left
            · simp only [Act.put, List.setIfInBounds_toArray, List.set_cons_zero, List.set_cons_succ, i64_w, i32_w]
              rfl
            refine one_ (i := 2) (N := some 42) #[true, true, true, false, false] rfl rfl (by kernel_rfl) (by decide) (fun K hK => ?_)
            refine goes_ Try.func49 (by kernel_rfl) rfl #[.agg #[.slice A1_0 l1_0.length c1_0, .slice A1_1 l1_1.length c1_1, .slice A1_2 l1_2.length c1_2]] (by rfl) rfl rfl (by (try simp only [List.map_toArray, List.map_cons, List.map_nil]); first | done | rfl | (simp only [List.length_drop, List.length_take]; rfl)) ?_
            with_reducible refine (laws_toMonoid.calls k _ _ l1_0 _ _ l1_1 _ _ l1_2 t8055 t8058 t8061 _ ?side1 ?side2 ?side3 ?side4 ?side5 ?side6 A67.out).mono ?_
            (case side1 => repeat (first | exact (Kd.C_below HR1_0.out HB.out) | (with_reducible refine Kd.C_alloc ?_ _) | (with_reducible refine Kd.C_drewN ?_ _) | (with_reducible refine Kd.C_drew ?_)))
            (case side2 => exact HC1_0.out)
            (case side3 => repeat (first | exact (Kd.C_below HR1_1.out HB.out) | (with_reducible refine Kd.C_alloc ?_ _) | (with_reducible refine Kd.C_drewN ?_ _) | (with_reducible refine Kd.C_drew ?_)))
            (case side4 => exact HC1_1.out)
            (case side5 => repeat (first | exact (Kd.C_below HR1_2.out HB.out) | (with_reducible refine Kd.C_alloc ?_ _) | (with_reducible refine Kd.C_drewN ?_ _) | (with_reducible refine Kd.C_drew ?_)))
            (case side6 => exact HC1_2.out)
            rintro e w115 ⟨v8056, v8059, v8062, rfl, ho0, ho1, ho2, hb⟩
            refine ⟨_, rfl, ?_⟩
            have n0_ := Aside0.mk (Kd.S_mono (Kd.S_told (Kd.S_told (Kd.S_told (Kd.S_old (by (with_reducible repeat (first | apply Kd.S_alloc | apply Kd.S_drewN | apply Kd.S_drew)); exact HO8007.out) hb) (Kd.S_base ho0)) (Kd.R_base ho1)) (Kd.S_base ho2)) (fun _ h_ => h_.1))
            have n1_ := Aside0.mk (Kd.R_elder' (by (with_reducible repeat (first | apply Kd.R_alloc | apply Kd.R_drewN | apply Kd.R_drew)); exact HO8010.out) (Kd.R_base ho1) hb)
            have n2_ := Aside0.mk (Kd.S_mono (Kd.S_told (Kd.S_told (Kd.S_told (Kd.S_old (by (with_reducible repeat (first | apply Kd.S_alloc | apply Kd.S_drewN | apply Kd.S_drew)); exact HO8013.out) hb) (Kd.S_base ho0)) (Kd.R_base ho1)) (Kd.S_base ho2)) (fun _ h_ => h_.1))
            have n3_ := Aside0.mk (Kd.S_mono (Kd.S_told (Kd.S_told (Kd.S_told (Kd.S_old (by (with_reducible repeat (first | apply Kd.S_alloc | apply Kd.S_drewN | apply Kd.S_drew)); exact HO8016.out) hb) (Kd.S_base ho0)) (Kd.R_base ho1)) (Kd.S_base ho2)) (fun _ h_ => h_.1))
            have n4_ := Aside0.mk (Kd.R_elder' (by (with_reducible repeat (first | apply Kd.R_alloc | apply Kd.R_drewN | apply Kd.R_drew)); exact HO8019.out) (Kd.R_base ho1) hb)
            have n5_ := Aside0.mk (Kd.S_mono (Kd.S_told (Kd.S_told (Kd.S_told (Kd.S_old (by (with_reducible repeat (first | apply Kd.S_alloc | apply Kd.S_drewN | apply Kd.S_drew)); exact HO8022.out) hb) (Kd.S_base ho0)) (Kd.R_base ho1)) (Kd.S_base ho2)) (fun _ h_ => h_.1))
            have n6_ := Aside0.mk (Kd.S_mono (Kd.S_told (Kd.S_told (Kd.S_told (Kd.S_old (by (with_reducible repeat (first | apply Kd.S_alloc | apply Kd.S_drewN | apply Kd.S_drew)); exact HO8026.out) hb) (Kd.S_base ho0)) (Kd.R_base ho1)) (Kd.S_base ho2)) (fun _ h_ => h_.1))
            have n7_ := Aside0.mk (Kd.R_elder' (by (with_reducible repeat (first | apply Kd.R_alloc | apply Kd.R_drewN | apply Kd.R_drew)); exact HO8029.out) (Kd.R_base ho1) hb)
            have n8_ := Aside0.mk (Kd.S_mono (Kd.S_told (Kd.S_told (Kd.S_told (Kd.S_old (by (with_reducible repeat (first | apply Kd.S_alloc | apply Kd.S_drewN | apply Kd.S_drew)); exact HO8032.out) hb) (Kd.S_base ho0)) (Kd.R_base ho1)) (Kd.S_base ho2)) (fun _ h_ => h_.1))
            have n9_ := Aside0.mk (Kd.S_mono (Kd.S_told (Kd.S_told (Kd.S_told (Kd.S_old (by (with_reducible repeat (first | apply Kd.S_alloc | apply Kd.S_drewN | apply Kd.S_drew)); exact HO8036.out) hb) (Kd.S_base ho0)) (Kd.R_base ho1)) (Kd.S_base ho2)) (fun _ h_ => h_.1))
            have n10_ := Aside0.mk (Kd.R_elder' (by (with_reducible repeat (first | apply Kd.R_alloc | apply Kd.R_drewN | apply Kd.R_drew)); exact HO8039.out) (Kd.R_base ho1) hb)
            have n11_ := Aside0.mk (Kd.S_mono (Kd.S_told (Kd.S_told (Kd.S_told (Kd.S_old (by (with_reducible repeat (first | apply Kd.S_alloc | apply Kd.S_drewN | apply Kd.S_drew)); exact HO8042.out) hb) (Kd.S_base ho0)) (Kd.R_base ho1)) (Kd.S_base ho2)) (fun _ h_ => h_.1))
            have n12_ := Aside0.mk (Kd.S_mono (Kd.S_told (Kd.S_told (Kd.S_told (Kd.S_old (by (with_reducible repeat (first | apply Kd.S_alloc | apply Kd.S_drewN | apply Kd.S_drew)); exact HO8047.out) hb) (Kd.S_base ho0)) (Kd.R_base ho1)) (Kd.S_base ho2)) (fun _ h_ => h_.1))
            have n13_ := Aside0.mk (Kd.R_elder' (by (with_reducible repeat (first | apply Kd.R_alloc | apply Kd.R_drewN | apply Kd.R_drew)); exact HO8050.out) (Kd.R_base ho1) hb)
            have n14_ := Aside0.mk (Kd.S_mono (Kd.S_told (Kd.S_told (Kd.S_told (Kd.S_old (by (with_reducible repeat (first | apply Kd.S_alloc | apply Kd.S_drewN | apply Kd.S_drew)); exact HO8053.out) hb) (Kd.S_base ho0)) (Kd.R_base ho1)) (Kd.S_base ho2)) (fun _ h_ => h_.1))
            have n15_ := Aside0.mk (Kd.S_lower (Kd.S_new' (Kd.S_new' (Kd.S_new' (Kd.S_new' (Kd.S_new' (Kd.S_new' (Kd.S_new' (Kd.S_new' (Kd.S_new' (Kd.S_new' (Kd.S_new' (Kd.S_new' (Kd.S_new' (Kd.S_new' (Kd.S_new' ho0 (Kd.S_lt (by (with_reducible repeat (first | apply Kd.S_alloc | apply Kd.S_drewN | apply Kd.S_drew)); exact HO8007.out))) (Kd.R_lt (by (with_reducible repeat (first | apply Kd.R_alloc | apply Kd.R_drewN | apply Kd.R_drew)); exact HO8010.out))) (Kd.S_lt (by (with_reducible repeat (first | apply Kd.S_alloc | apply Kd.S_drewN | apply Kd.S_drew)); exact HO8013.out))) (Kd.S_lt (by (with_reducible repeat (first | apply Kd.S_alloc | apply Kd.S_drewN | apply Kd.S_drew)); exact HO8016.out))) (Kd.R_lt (by (with_reducible repeat (first | apply Kd.R_alloc | apply Kd.R_drewN | apply Kd.R_drew)); exact HO8019.out))) (Kd.S_lt (by (with_reducible repeat (first | apply Kd.S_alloc | apply Kd.S_drewN | apply Kd.S_drew)); exact HO8022.out))) (Kd.S_lt (by (with_reducible repeat (first | apply Kd.S_alloc | apply Kd.S_drewN | apply Kd.S_drew)); exact HO8026.out))) (Kd.R_lt (by (with_reducible repeat (first | apply Kd.R_alloc | apply Kd.R_drewN | apply Kd.R_drew)); exact HO8029.out))) (Kd.S_lt (by (with_reducible repeat (first | apply Kd.S_alloc | apply Kd.S_drewN | apply Kd.S_drew)); exact HO8032.out))) (Kd.S_lt (by (with_reducible repeat (first | apply Kd.S_alloc | apply Kd.S_drewN | apply Kd.S_drew)); exact HO8036.out))) (Kd.R_lt (by (with_reducible repeat (first | apply Kd.R_alloc | apply Kd.R_drewN | apply Kd.R_drew)); exact HO8039.out))) (Kd.S_lt (by (with_reducible repeat (first | apply Kd.S_alloc | apply Kd.S_drewN | apply Kd.S_drew)); exact HO8042.out))) (Kd.S_lt (by (with_reducible repeat (first | apply Kd.S_alloc | apply Kd.S_drewN | apply Kd.S_drew)); exact HO8047.out))) (Kd.R_lt (by (with_reducible repeat (first | apply Kd.R_alloc | apply Kd.R_drewN | apply Kd.R_drew)); exact HO8050.out))) (Kd.S_lt (by (with_reducible repeat (first | apply Kd.S_alloc | apply Kd.S_drewN | apply Kd.S_drew)); exact HO8053.out))) (below_size (by repeat (first | (with_reducible first | exact HB.out | apply below_alloc | apply pw_below_drewN | apply below_drew1 | refine below_set ?_ GE8001.out | refine below_set ?_ GE8002.out | refine below_set ?_ GE8033.out | refine below_set ?_ GE8043.out) | exact HB.out))))
            have n16_ := Aside0.mk (Kd.R_lower (Kd.R_new' (Kd.R_new' (Kd.R_new' (Kd.R_new' (Kd.R_new' ho1 (Kd.R_lt (by (with_reducible repeat (first | apply Kd.R_alloc | apply Kd.R_drewN | apply Kd.R_drew)); exact HO8010.out))) (Kd.R_lt (by (with_reducible repeat (first | apply Kd.R_alloc | apply Kd.R_drewN | apply Kd.R_drew)); exact HO8019.out))) (Kd.R_lt (by (with_reducible repeat (first | apply Kd.R_alloc | apply Kd.R_drewN | apply Kd.R_drew)); exact HO8029.out))) (Kd.R_lt (by (with_reducible repeat (first | apply Kd.R_alloc | apply Kd.R_drewN | apply Kd.R_drew)); exact HO8039.out))) (Kd.R_lt (by (with_reducible repeat (first | apply Kd.R_alloc | apply Kd.R_drewN | apply Kd.R_drew)); exact HO8050.out))) (below_size (by repeat (first | (with_reducible first | exact HB.out | apply below_alloc | apply pw_below_drewN | apply below_drew1 | refine below_set ?_ GE8001.out | refine below_set ?_ GE8002.out | refine below_set ?_ GE8033.out | refine below_set ?_ GE8043.out) | exact HB.out))))
            have n17_ := Aside0.mk (Kd.S_lower (Kd.S_new' (Kd.S_new' (Kd.S_new' (Kd.S_new' (Kd.S_new' (Kd.S_new' (Kd.S_new' (Kd.S_new' (Kd.S_new' (Kd.S_new' (Kd.S_new' (Kd.S_new' (Kd.S_new' (Kd.S_new' (Kd.S_new' ho2 (Kd.S_lt (by (with_reducible repeat (first | apply Kd.S_alloc | apply Kd.S_drewN | apply Kd.S_drew)); exact HO8007.out))) (Kd.R_lt (by (with_reducible repeat (first | apply Kd.R_alloc | apply Kd.R_drewN | apply Kd.R_drew)); exact HO8010.out))) (Kd.S_lt (by (with_reducible repeat (first | apply Kd.S_alloc | apply Kd.S_drewN | apply Kd.S_drew)); exact HO8013.out))) (Kd.S_lt (by (with_reducible repeat (first | apply Kd.S_alloc | apply Kd.S_drewN | apply Kd.S_drew)); exact HO8016.out))) (Kd.R_lt (by (with_reducible repeat (first | apply Kd.R_alloc | apply Kd.R_drewN | apply Kd.R_drew)); exact HO8019.out))) (Kd.S_lt (by (with_reducible repeat (first | apply Kd.S_alloc | apply Kd.S_drewN | apply Kd.S_drew)); exact HO8022.out))) (Kd.S_lt (by (with_reducible repeat (first | apply Kd.S_alloc | apply Kd.S_drewN | apply Kd.S_drew)); exact HO8026.out))) (Kd.R_lt (by (with_reducible repeat (first | apply Kd.R_alloc | apply Kd.R_drewN | apply Kd.R_drew)); exact HO8029.out))) (Kd.S_lt (by (with_reducible repeat (first | apply Kd.S_alloc | apply Kd.S_drewN | apply Kd.S_drew)); exact HO8032.out))) (Kd.S_lt (by (with_reducible repeat (first | apply Kd.S_alloc | apply Kd.S_drewN | apply Kd.S_drew)); exact HO8036.out))) (Kd.R_lt (by (with_reducible repeat (first | apply Kd.R_alloc | apply Kd.R_drewN | apply Kd.R_drew)); exact HO8039.out))) (Kd.S_lt (by (with_reducible repeat (first | apply Kd.S_alloc | apply Kd.S_drewN | apply Kd.S_drew)); exact HO8042.out))) (Kd.S_lt (by (with_reducible repeat (first | apply Kd.S_alloc | apply Kd.S_drewN | apply Kd.S_drew)); exact HO8047.out))) (Kd.R_lt (by (with_reducible repeat (first | apply Kd.R_alloc | apply Kd.R_drewN | apply Kd.R_drew)); exact HO8050.out))) (Kd.S_lt (by (with_reducible repeat (first | apply Kd.S_alloc | apply Kd.S_drewN | apply Kd.S_drew)); exact HO8053.out))) (below_size (by repeat (first | (with_reducible first | exact HB.out | apply below_alloc | apply pw_below_drewN | apply below_drew1 | refine below_set ?_ GE8001.out | refine below_set ?_ GE8002.out | refine below_set ?_ GE8033.out | refine below_set ?_ GE8043.out) | exact HB.out))))
            have n18_ := Aside0.mk (blk_below (g := gb8001) (o := .cells #[.slice A0_0 l0_0.length c0_0, .slice A0_1 l0_1.length c0_1, .slice A0_2 l0_2.length c0_2] 76 (0, 0)) (by (with_reducible repeat (first | refine blk_drewN ?_ _ | refine blk_drew ?_ | refine blk_alloc ?_ _)); exact BK8001.out) hb)
            have n19_ := Aside0.mk (blk_below (g := gb8002) (o := .cells #[.slice A1_0 l1_0.length c1_0, .slice A1_1 l1_1.length c1_1, .slice A1_2 l1_2.length c1_2] 76 (0, 0)) (by (with_reducible repeat (first | refine blk_drewN ?_ _ | refine blk_drew ?_ | refine blk_alloc ?_ _)); exact BK8002.out) hb)
            have n20_ := Aside0.mk (blk_below (g := gb8033) (o := .cells #[.slice Ao90 t8024.length co90, .slice Ao94 t8027.length co94, .slice Ao95 t8030.length co95] 31 (0, 0)) (by (with_reducible repeat (first | refine blk_drewN ?_ _ | refine blk_drew ?_ | refine blk_alloc ?_ _)); exact BK8033.out) hb)
            have n21_ := Aside0.mk (blk_below (g := gb8043) (o := .cells #[.slice Ao99 t8034.length co99, .slice Ao104 t8037.length co104, .slice Ao105 t8040.length co105] 31 (0, 0)) (by (with_reducible repeat (first | refine blk_drewN ?_ _ | refine blk_drew ?_ | refine blk_alloc ?_ _)); exact BK8043.out) hb)
            have n22_ := Aside0.mk (below_step (by repeat (first | (with_reducible first | exact HB.out | apply below_alloc | apply pw_below_drewN | apply below_drew1 | refine below_set ?_ GE8001.out | refine below_set ?_ GE8002.out | refine below_set ?_ GE8033.out | refine below_set ?_ GE8043.out) | exact HB.out)) hb)
            clear HO8007
            clear HO8010
            clear HO8013
            clear HO8016
            clear HO8019
            clear HO8022
            clear HO8026
            clear HO8029
            clear HO8032
            clear HO8036
            clear HO8039
            clear HO8042
            clear HO8047
            clear HO8050
            clear HO8053
            clear BK8001
            clear BK8002
            clear BK8033
            clear BK8043
            clear HB
            have HO8007 := n0_
            have HO8010 := n1_
            have HO8013 := n2_
            have HO8016 := n3_
            have HO8019 := n4_
            have HO8022 := n5_
            have HO8026 := n6_
            have HO8029 := n7_
            have HO8032 := n8_
            have HO8036 := n9_
            have HO8039 := n10_
            have HO8042 := n11_
            have HO8047 := n12_
            have HO8050 := n13_
            have HO8053 := n14_
            have HO8057 := n15_
            have HO8060 := n16_
            have HO8063 := n17_
            have BK8001 := n18_
            have BK8002 := n19_
            have BK8033 := n20_
            have BK8043 := n21_
            have HB := n22_
            clear n0_ n1_ n2_ n3_ n4_ n5_ n6_ n7_ n8_ n9_ n10_ n11_ n12_ n13_ n14_ n15_ n16_ n17_ n18_ n19_ n20_ n21_ n22_
            (try clear hb)
            (try clear hb2)
            (try clear hk)
            (try clear hi)
            (try clear ho0)
            (try clear ho1)
            (try clear ho2)
            obtain ⟨Ao116, co116, eo116⟩ := Kd.S_slice HO8057.out
            (first | subst eo116 | (injection eo116 with f1_ f2_ f3_; have f4_ := f1_.symm; have f5_ := f3_.symm; clear f1_ f2_ f3_; subst f4_; subst f5_))
            obtain ⟨Ao117, co117, eo117⟩ := Kd.R_slice HO8060.out
            (first | subst eo117 | (injection eo117 with f1_ f2_ f3_; have f4_ := f1_.symm; have f5_ := f3_.symm; clear f1_ f2_ f3_; subst f4_; subst f5_))
            obtain ⟨Ao118, co118, eo118⟩ := Kd.S_slice HO8063.out
            (first | subst eo118 | (injection eo118 with f1_ f2_ f3_; have f4_ := f1_.symm; have f5_ := f3_.symm; clear f1_ f2_ f3_; subst f4_; subst f5_))
            refine hK.out _ _ ⟨(blk_cell BK8043.out 0).trans rfl, (blk_cell BK8043.out 1).trans rfl, (blk_cell BK8043.out 2).trans rfl, (blk_cell BK8002.out 0).trans rfl, (blk_cell BK8002.out 1).trans rfl, (blk_cell BK8002.out 2).trans rfl⟩ (fun hHeld => ?_)
            clear hK K
            refine norm_ (a' := ?_) ?_ ?_
            rotate_left
            · show Act.put _ (some 42) _ = _
              simp only [Act.put, List.setIfInBounds_toArray, List.set_cons_zero, List.set_cons_succ, i64_w, i32_w]
              rfl
            refine one_ (i := 3) (N := some 43) #[true, true, true, true, false] rfl rfl (by kernel_rfl) (by decide) (fun K hK => ?_)
            refine goes_ Try.func50 (by kernel_rfl) rfl #[.agg #[.slice Ao99 t8034.length co99, .slice Ao104 t8037.length co104, .slice Ao105 t8040.length co105], .agg #[.slice Ao116 t8055.length co116, .slice Ao117 t8058.length co117, .slice Ao118 t8061.length co118]] (by rfl) rfl rfl (by (try simp only [List.map_toArray, List.map_cons, List.map_nil]); first | done | rfl | (simp only [List.length_drop, List.length_take]; rfl)) ?_
            with_reducible refine (laws_eqMonoid.calls k _ _ t8034 _ _ t8037 _ _ t8040 _ _ t8055 _ _ t8058 _ _ t8061 true _ ?side1 ?side2 ?side3 ?side4 ?side5 ?side6 ?side7 ?side8 ?side9 ?side10 ?side11 ?side12 A68.out).mono ?_
            (case side1 => repeat (first | exact (Kd.S_reads' HO8036.out).2.2 | (with_reducible refine Kd.C_alloc ?_ _) | (with_reducible refine Kd.C_drewN ?_ _) | (with_reducible refine Kd.C_drew ?_)))
            (case side2 => exact (Kd.S_reads' HO8036.out).2.1)
            (case side3 => repeat (first | exact (Kd.R_reads' HO8039.out).2.2 | (with_reducible refine Kd.C_alloc ?_ _) | (with_reducible refine Kd.C_drewN ?_ _) | (with_reducible refine Kd.C_drew ?_)))
            (case side4 => exact (Kd.R_reads' HO8039.out).2.1)
            (case side5 => repeat (first | exact (Kd.S_reads' HO8042.out).2.2 | (with_reducible refine Kd.C_alloc ?_ _) | (with_reducible refine Kd.C_drewN ?_ _) | (with_reducible refine Kd.C_drew ?_)))
            (case side6 => exact (Kd.S_reads' HO8042.out).2.1)
            (case side7 => repeat (first | exact (Kd.S_reads' HO8057.out).2.2 | (with_reducible refine Kd.C_alloc ?_ _) | (with_reducible refine Kd.C_drewN ?_ _) | (with_reducible refine Kd.C_drew ?_)))
            (case side8 => exact (Kd.S_reads' HO8057.out).2.1)
            (case side9 => repeat (first | exact (Kd.R_reads' HO8060.out).2.2 | (with_reducible refine Kd.C_alloc ?_ _) | (with_reducible refine Kd.C_drewN ?_ _) | (with_reducible refine Kd.C_drew ?_)))
            (case side10 => exact (Kd.R_reads' HO8060.out).2.1)
            (case side11 => repeat (first | exact (Kd.S_reads' HO8063.out).2.2 | (with_reducible refine Kd.C_alloc ?_ _) | (with_reducible refine Kd.C_drewN ?_ _) | (with_reducible refine Kd.C_drew ?_)))
            (case side12 => exact (Kd.S_reads' HO8063.out).2.1)
            rintro e w119 ⟨rfl, hb⟩
            refine ⟨_, rfl, ?_⟩
            have n0_ := Aside0.mk (Kd.S_below (by (with_reducible repeat (first | apply Kd.S_alloc | apply Kd.S_drewN | apply Kd.S_drew)); exact HO8007.out) hb)
            have n1_ := Aside0.mk (Kd.R_below (by (with_reducible repeat (first | apply Kd.R_alloc | apply Kd.R_drewN | apply Kd.R_drew)); exact HO8010.out) hb)
            have n2_ := Aside0.mk (Kd.S_below (by (with_reducible repeat (first | apply Kd.S_alloc | apply Kd.S_drewN | apply Kd.S_drew)); exact HO8013.out) hb)
            have n3_ := Aside0.mk (Kd.S_below (by (with_reducible repeat (first | apply Kd.S_alloc | apply Kd.S_drewN | apply Kd.S_drew)); exact HO8016.out) hb)
            have n4_ := Aside0.mk (Kd.R_below (by (with_reducible repeat (first | apply Kd.R_alloc | apply Kd.R_drewN | apply Kd.R_drew)); exact HO8019.out) hb)
            have n5_ := Aside0.mk (Kd.S_below (by (with_reducible repeat (first | apply Kd.S_alloc | apply Kd.S_drewN | apply Kd.S_drew)); exact HO8022.out) hb)
            have n6_ := Aside0.mk (Kd.S_below (by (with_reducible repeat (first | apply Kd.S_alloc | apply Kd.S_drewN | apply Kd.S_drew)); exact HO8026.out) hb)
            have n7_ := Aside0.mk (Kd.R_below (by (with_reducible repeat (first | apply Kd.R_alloc | apply Kd.R_drewN | apply Kd.R_drew)); exact HO8029.out) hb)
            have n8_ := Aside0.mk (Kd.S_below (by (with_reducible repeat (first | apply Kd.S_alloc | apply Kd.S_drewN | apply Kd.S_drew)); exact HO8032.out) hb)
            have n9_ := Aside0.mk (Kd.S_below (by (with_reducible repeat (first | apply Kd.S_alloc | apply Kd.S_drewN | apply Kd.S_drew)); exact HO8036.out) hb)
            have n10_ := Aside0.mk (Kd.R_below (by (with_reducible repeat (first | apply Kd.R_alloc | apply Kd.R_drewN | apply Kd.R_drew)); exact HO8039.out) hb)
            have n11_ := Aside0.mk (Kd.S_below (by (with_reducible repeat (first | apply Kd.S_alloc | apply Kd.S_drewN | apply Kd.S_drew)); exact HO8042.out) hb)
            have n12_ := Aside0.mk (Kd.S_below (by (with_reducible repeat (first | apply Kd.S_alloc | apply Kd.S_drewN | apply Kd.S_drew)); exact HO8047.out) hb)
            have n13_ := Aside0.mk (Kd.R_below (by (with_reducible repeat (first | apply Kd.R_alloc | apply Kd.R_drewN | apply Kd.R_drew)); exact HO8050.out) hb)
            have n14_ := Aside0.mk (Kd.S_below (by (with_reducible repeat (first | apply Kd.S_alloc | apply Kd.S_drewN | apply Kd.S_drew)); exact HO8053.out) hb)
            have n15_ := Aside0.mk (Kd.S_below (by (with_reducible repeat (first | apply Kd.S_alloc | apply Kd.S_drewN | apply Kd.S_drew)); exact HO8057.out) hb)
            have n16_ := Aside0.mk (Kd.R_below (by (with_reducible repeat (first | apply Kd.R_alloc | apply Kd.R_drewN | apply Kd.R_drew)); exact HO8060.out) hb)
            have n17_ := Aside0.mk (Kd.S_below (by (with_reducible repeat (first | apply Kd.S_alloc | apply Kd.S_drewN | apply Kd.S_drew)); exact HO8063.out) hb)
            have n18_ := Aside0.mk (blk_below (g := gb8001) (o := .cells #[.slice A0_0 l0_0.length c0_0, .slice A0_1 l0_1.length c0_1, .slice A0_2 l0_2.length c0_2] 76 (0, 0)) (by (with_reducible repeat (first | refine blk_drewN ?_ _ | refine blk_drew ?_ | refine blk_alloc ?_ _)); exact BK8001.out) hb)
            have n19_ := Aside0.mk (blk_below (g := gb8002) (o := .cells #[.slice A1_0 l1_0.length c1_0, .slice A1_1 l1_1.length c1_1, .slice A1_2 l1_2.length c1_2] 76 (0, 0)) (by (with_reducible repeat (first | refine blk_drewN ?_ _ | refine blk_drew ?_ | refine blk_alloc ?_ _)); exact BK8002.out) hb)
            have n20_ := Aside0.mk (blk_below (g := gb8033) (o := .cells #[.slice Ao90 t8024.length co90, .slice Ao94 t8027.length co94, .slice Ao95 t8030.length co95] 31 (0, 0)) (by (with_reducible repeat (first | refine blk_drewN ?_ _ | refine blk_drew ?_ | refine blk_alloc ?_ _)); exact BK8033.out) hb)
            have n21_ := Aside0.mk (blk_below (g := gb8043) (o := .cells #[.slice Ao99 t8034.length co99, .slice Ao104 t8037.length co104, .slice Ao105 t8040.length co105] 31 (0, 0)) (by (with_reducible repeat (first | refine blk_drewN ?_ _ | refine blk_drew ?_ | refine blk_alloc ?_ _)); exact BK8043.out) hb)
            have n22_ := Aside0.mk (below_step (by repeat (first | (with_reducible first | exact HB.out | apply below_alloc | apply pw_below_drewN | apply below_drew1 | refine below_set ?_ GE8001.out | refine below_set ?_ GE8002.out | refine below_set ?_ GE8033.out | refine below_set ?_ GE8043.out) | exact HB.out)) hb)
            clear HO8007
            clear HO8010
            clear HO8013
            clear HO8016
            clear HO8019
            clear HO8022
            clear HO8026
            clear HO8029
            clear HO8032
            clear HO8036
            clear HO8039
            clear HO8042
            clear HO8047
            clear HO8050
            clear HO8053
            clear HO8057
            clear HO8060
            clear HO8063
            clear BK8001
            clear BK8002
            clear BK8033
            clear BK8043
            clear HB
            have HO8007 := n0_
            have HO8010 := n1_
            have HO8013 := n2_
            have HO8016 := n3_
            have HO8019 := n4_
            have HO8022 := n5_
            have HO8026 := n6_
            have HO8029 := n7_
            have HO8032 := n8_
            have HO8036 := n9_
            have HO8039 := n10_
            have HO8042 := n11_
            have HO8047 := n12_
            have HO8050 := n13_
            have HO8053 := n14_
            have HO8057 := n15_
            have HO8060 := n16_
            have HO8063 := n17_
            have BK8001 := n18_
            have BK8002 := n19_
            have BK8033 := n20_
            have BK8043 := n21_
            have HB := n22_
            clear n0_ n1_ n2_ n3_ n4_ n5_ n6_ n7_ n8_ n9_ n10_ n11_ n12_ n13_ n14_ n15_ n16_ n17_ n18_ n19_ n20_ n21_ n22_
            (try clear hb)
            (try clear hb2)
            (try clear hk)
            (try clear hi)
            refine hK.out _ _ ⟨(blk_cell BK8043.out 0).trans rfl, (blk_cell BK8043.out 1).trans rfl, (blk_cell BK8043.out 2).trans rfl, (blk_cell BK8002.out 0).trans rfl, (blk_cell BK8002.out 1).trans rfl, (blk_cell BK8002.out 2).trans rfl⟩ (fun hHeld => ?_)
            clear hK K
            refine norm_ (a' := ?_) ?_ ?_
            rotate_left
            · show Act.put _ (some 43) _ = _
              simp only [Act.put, List.setIfInBounds_toArray, List.set_cons_zero, List.set_cons_succ, i64_w, i32_w]
              rfl
            refine pure_ (i := 4) (N := some 44) (v := ?_) (a' := ?_) #[true, true, true, true, true] rfl rfl (by kernel_rfl) (fun _ _ _ h => h) (Or.inl ⟨by rfl, ?_⟩) ?_ ?_
            rotate_left
            · intro w'
              go_simp
              first | with_reducible rfl | (rw [if_neg (by omega)]; done)
            rotate_left
            · simp only [Act.put, List.setIfInBounds_toArray, List.set_cons_zero, List.set_cons_succ, i64_w, i32_w]
              rfl
            refine done_ (by kernel_rfl) ?_
            try go_wp2
            go_ret
            exact ⟨by first | rfl | (simp [errW_none, errW_some] <;> rfl) | (simp [*, errW_none, errW_some] <;> rfl), by repeat (first | (with_reducible first | exact HB.out | apply below_alloc | apply pw_below_drewN | apply below_drew1 | refine below_set ?_ GE8001.out | refine below_set ?_ GE8002.out | refine below_set ?_ GE8033.out | refine below_set ?_ GE8043.out) | exact HB.out)⟩
          · replace c69 := Bool.eq_false_iff.mpr c69
            subst c69
            have H1 : (some false) = some r := by rw [if_neg (show ¬ (false = true) by decide)] at H; exact H
            clear H
            have H := H1
            clear H1
            exact absurd ((Option.some.inj H).trans HRT_.out) (by decide)
        · replace c66 := Bool.eq_false_iff.mpr c66
          subst c66
          have H1 : (some false) = some r := by rw [if_neg (show ¬ (false = true) by decide)] at H; exact H
          clear H
          have H := H1
          clear H1
          exact absurd ((Option.some.inj H).trans HRT_.out) (by decide)

end Go.Proofs.Ytkefiajemifklaa.A


namespace Go.Proofs.Ytkefiajemifklaa.Br
set_option linter.unusedVariables false
set_option linter.unusedSimpArgs false
open Go Go.Proofs.YtkefiajemifklaaW.PrintWords

/-- Whatever reads at type t, with at most n of fuel, is of kind d and well formed. -/
def BrN (P : Program) (n : Nat) (t : TypeId) {α : Type} (d : Kd α) (wf : α → Prop) : Prop :=
  ∀ (H : Type) (enc : TypeId × Value → H) (w : World) (base : Nat) (spare : Nat → Bool) (held : Bool) (m : Nat) (cs : List Value) (x : DataW H × List MemPlace),
    m ≤ n → DataW.trod enc P w base spare held m t cs = some x → ∃ a, d.K w a cs ∧ wf a
def Br (P : Program) (t : TypeId) {α : Type} (d : Kd α) (wf : α → Prop) : Prop := ∀ n, BrN P n t d wf

/-- The same of the fields of a struct, from offset o on. -/
def BF (P : Program) (n : Nat) (fs : List Field) (o : Nat) {α : Type} (d : Kd α) (wf : α → Prop) : Prop :=
  ∀ (H : Type) (enc : TypeId × Value → H) (w : World) (base : Nat) (spare : Nat → Bool) (held : Bool) (m : Nat) (cs : List Value) (xs : List (DataW H × List MemPlace)),
    m ≤ n → cs.length = d.sz → xs.length = fs.length →
    (∀ (i : Nat) (f : Field), fs[i]? = some f → DataW.trod enc P w base spare held m f.type ((cs.drop (f.offset - o)).take (P.cellsOf f.type)) = xs[i]?) → ∃ a, d.K w a cs ∧ wf a

theorem BrN.mono {P : Program} {n m : Nat} {t : TypeId} {α : Type} {d : Kd α} {wf : α → Prop} (h : BrN P n t d wf) (hm : m ≤ n) : BrN P m t d wf :=
  fun H enc w base spare held k cs x hk => h H enc w base spare held k cs x (Nat.le_trans hk hm)
theorem BrN.zero (P : Program) (t : TypeId) {α : Type} (d : Kd α) (wf : α → Prop) : BrN P 0 t d wf := by
  intro H enc w base spare held m cs x hm hx
  obtain rfl : m = 0 := by omega
  simp [DataW.trod] at hx

theorem br_int {P : Program} {t : TypeId} {k : IntKind} (ht : P.underlying t = some (.int k)) (n : Nat) : BrN P n t (Kd.int k) (fun a => (Lit.int k a).wf = true) := by
  intro H enc w base spare held m cs x _ hx
  obtain ⟨a, rfl, _, hw⟩ := DataW.trod_int ht hx
  exact ⟨a, rfl, hw⟩
theorem list_of_all {α : Type} {Q : Nat → α → Prop} (n : Nat) (h : ∀ i, i < n → ∃ a, Q i a) : ∃ l : List α, l.length = n ∧ ∀ i a, l[i]? = some a → Q i a := by
  induction n with
  | zero => exact ⟨[], rfl, fun i a h => by simp at h⟩
  | succ n ih =>
    obtain ⟨l, hl, hq⟩ := ih (fun i hi => h i (by omega))
    obtain ⟨a, ha⟩ := h n (by omega)
    refine ⟨l ++ [a], by simp [hl], fun i b hb => ?_⟩
    rcases Nat.lt_or_ge i l.length with hi | hi
    · rw [List.getElem?_append_left hi] at hb
      exact hq i b hb
    · rw [List.getElem?_append_right hi] at hb
      obtain ⟨h0, rfl⟩ : i - l.length = 0 ∧ a = b := by
        rcases Nat.eq_zero_or_pos (i - l.length) with h0 | h0
        · rw [h0] at hb; exact ⟨h0, by simpa using hb⟩
        · rw [List.getElem?_eq_none (by simp; omega)] at hb; simp at hb
      obtain rfl : i = n := by omega
      exact ha

theorem cells_at {w : World} {base : Nat} {a : Addr} {n : Nat} {cs : List Value} (h : w.cells? base a n = some cs) : cs.length = n ∧ ∀ i u, cs[i]? = some u → w.cell? (a.add i) = some u := by
  unfold World.cells? at h
  split at h
  · have hl := mapM_some_length h
    refine ⟨by simpa using hl, fun i u hu => ?_⟩
    have hi : i < n := by
      have := (List.getElem?_eq_some_iff.1 hu).1
      simp at hl
      omega
    have := mapM_some_get h i i (by simp [hi])
    rw [this, hu]
  · simp at h

theorem br_slice {P : Program} {t e : TypeId} {α : Type} {d : Kd α} {wf : α → Prop} {n : Nat} (ht : P.underlying t = some (.slice e)) (hs : P.cellsOf e = d.sz) (h : BrN P n e d wf) :
    BrN P (n + 1) t (Kd.slice e d) (fun l => l.length ≤ 9223372036854775807 ∧ ∀ a ∈ l, wf a) := by
  intro H enc w base spare held m cs x hm hx
  rcases DataW.trod_slice ht hx with ⟨rfl, _⟩ | ⟨a, len, cap, elems, rest, k, rfl, rfl, _, _, hl, hc, he, hg, _, _⟩
  · exact ⟨[], ⟨none, 0, rfl, Nat.le_refl _, Kd.C_nil d w⟩, by simp, by simp⟩
  · have hq : ∀ i, i < len → ∃ b, (∃ c, c.length = d.sz ∧ d.K w b c ∧ ∀ j u, c[j]? = some u → w.cell? (a.add (i * d.sz + j)) = some u) ∧ wf b := by
      intro i hi
      have g := hg i hi
      rw [List.getElem?_eq_getElem (by omega)] at g
      obtain ⟨c, hc1, hc2⟩ := Option.bind_eq_some_iff.1 g
      obtain ⟨b, hb, hw⟩ := h H enc w base spare held k c _ (by omega) hc2
      obtain ⟨h1, h2⟩ := cells_at hc1
      refine ⟨b, ⟨c, by rw [h1, hs], hb, fun j u hu => ?_⟩, hw⟩
      have := h2 j u hu
      rw [Addr.add_add, hs] at this
      exact this
    obtain ⟨l, hl1, hl2⟩ := list_of_all len hq
    have hlen : len ≤ 9223372036854775807 := by simp only [maxLen] at hc; omega
    refine ⟨l, ⟨some a, cap, by rw [hl1], by omega, rfl, by omega, fun _ => ⟨a, rfl, fun j p hp => (hl2 j p hp).1⟩⟩, by omega, fun b hb => ?_⟩
    obtain ⟨i, hi, rfl⟩ := List.mem_iff_getElem.1 hb
    exact (hl2 i _ (List.getElem?_eq_getElem hi)).2
theorem br_slice' {P : Program} {t e : TypeId} {α : Type} {d : Kd α} {wf : α → Prop} (ht : P.underlying t = some (.slice e)) (hs : P.cellsOf e = d.sz) (h : ∀ n, BrN P n e d wf) (n : Nat) :
    BrN P n t (Kd.slice e d) (fun l => l.length ≤ 9223372036854775807 ∧ ∀ a ∈ l, wf a) := (br_slice ht hs (h n)).mono (Nat.le_succ n)

theorem bf_one {P : Program} {n o : Nat} {f : Field} {α : Type} {d : Kd α} {wf : α → Prop} (ho : f.offset = o) (hs : P.cellsOf f.type = d.sz) (h : BrN P n f.type d wf) : BF P n [f] o d wf := by
  intro H enc w base spare held m cs xs hm hl hx hf
  have g := hf 0 f rfl
  rw [ho, Nat.sub_self, List.drop_zero, hs, ← hl, List.take_length, List.getElem?_eq_getElem (by simp at hx; omega)] at g
  exact h H enc w base spare held m cs _ hm g
theorem bf_cons {P : Program} {n o : Nat} {f : Field} {fs : List Field} {α β : Type} {d : Kd α} {d' : Kd β} {wf : α → Prop} {wf' : β → Prop} (ho : f.offset = o) (hs : P.cellsOf f.type = d.sz) (h : BrN P n f.type d wf)
    (hfs : BF P n fs (o + d.sz) d' wf') (hle : ∀ g ∈ fs, o + d.sz ≤ g.offset) : BF P n (f :: fs) o (Kd.pair d d') (fun x => wf x.1 ∧ wf' x.2) := by
  intro H enc w base spare held m cs xs hm hl hx hf
  have hl' : cs.length = d.sz + d'.sz := hl
  have g := hf 0 f rfl
  rw [ho, Nat.sub_self, List.drop_zero, hs, List.getElem?_eq_getElem (by simp at hx; omega)] at g
  obtain ⟨a, ha, hwa⟩ := h H enc w base spare held m _ _ hm g
  cases xs with
  | nil => simp at hx
  | cons y ys =>
    obtain ⟨b, hb, hwb⟩ := hfs H enc w base spare held m (cs.drop d.sz) ys hm (by rw [List.length_drop]; omega) (by simpa using hx) (fun i q hq => by
      have g2 := hf (i + 1) q (by simpa using hq)
      have hm : q ∈ fs := List.mem_of_getElem? hq
      have := hle q hm
      rw [List.drop_drop, show d.sz + (q.offset - (o + d.sz)) = q.offset - o by omega]
      simpa using g2)
    exact ⟨(a, b), ⟨cs.take d.sz, cs.drop d.sz, (List.take_append_drop _ _).symm, ha, hb⟩, hwa, hwb⟩
theorem br_struct {P : Program} {t : TypeId} {fs : Array Field} {α : Type} {d : Kd α} {wf : α → Prop} {n : Nat} (ht : P.underlying t = some (.struct fs)) (hs : P.cellsOf t = d.sz) (h : BF P n fs.toList 0 d wf) : BrN P (n + 1) t d wf := by
  intro H enc w base spare held m cs x hm hx
  obtain ⟨xs, k, rfl, _, hl, hxs, hf⟩ := DataW.trod_struct ht hx
  exact h H enc w base spare held k cs xs (by omega) (by rw [hl, hs]) (by simpa using hxs) (fun i f hi => by simpa using hf i f (by simpa using hi))
theorem br_struct' {P : Program} {t : TypeId} {fs : Array Field} {α : Type} {d : Kd α} {wf : α → Prop} (ht : P.underlying t = some (.struct fs)) (hs : P.cellsOf t = d.sz) (h : ∀ n, BF P n fs.toList 0 d wf) (n : Nat) : BrN P n t d wf :=
  (br_struct ht hs (h n)).mono (Nat.le_succ n)
theorem arr_of {xs : Array Value} {l : List Value} (h : xs.toList = l) : xs = l.toArray := by rw [← h]

end Go.Proofs.Ytkefiajemifklaa.Br


namespace Go.Proofs.Ytkefiajemifklaa.Pure
open Go Go.RowKit Go.Proofs.Ytkefiajemifklaa.Br Go.Proofs.YtkefiajemifklaaW.PrintWords Go.Proofs.YtkefiajemifklaaW.PrintLast Go.Proofs.Ytkefiajemifklaa.A Go.Proofs.Ytkefiajemifklaa.Ext
set_option linter.unusedVariables false
def FnExactEqualMonoid.Pure : Prop := ∀ (l0_0 : (List (List Int))) (l0_1 : (List Int)) (l0_2 : (List (List Int))) (l1_0 : (List (List Int))) (l1_1 : (List Int)) (l1_2 : (List (List Int))), ((l0_0 : (List (List Int))).length ≤ 9223372036854775807 ∧ ∀ a ∈ l0_0, (a : (List Int)).length ≤ 9223372036854775807 ∧ ∀ b ∈ a, (Lit.int .i64 b).wf = true) → ((l0_1 : (List Int)).length ≤ 9223372036854775807 ∧ ∀ a ∈ l0_1, (Lit.int .i64 a).wf = true) → ((l0_2 : (List (List Int))).length ≤ 9223372036854775807 ∧ ∀ a ∈ l0_2, (a : (List Int)).length ≤ 9223372036854775807 ∧ ∀ b ∈ a, (Lit.int .i64 b).wf = true) → ((l1_0 : (List (List Int))).length ≤ 9223372036854775807 ∧ ∀ a ∈ l1_0, (a : (List Int)).length ≤ 9223372036854775807 ∧ ∀ b ∈ a, (Lit.int .i64 b).wf = true) → ((l1_1 : (List Int)).length ≤ 9223372036854775807 ∧ ∀ a ∈ l1_1, (Lit.int .i64 a).wf = true) → ((l1_2 : (List (List Int))).length ≤ 9223372036854775807 ∧ ∀ a ∈ l1_2, (a : (List Int)).length ≤ 9223372036854775807 ∧ ∀ b ∈ a, (Lit.int .i64 b).wf = true) → ∃ k, laws_FnExactEqualMonoid.f k l0_0 l0_1 l0_2 l1_0 l1_1 l1_2 = some true
end Go.Proofs.Ytkefiajemifklaa.Pure

namespace Go.Proofs.Ytkefiajemifklaa.F
set_option linter.unusedVariables false
set_option linter.unusedSimpArgs false
open Go.RowKit Go.Proofs.YtkefiajemifklaaW.PrintWords Go.Proofs.Ytkefiajemifklaa.Pl Go.Proofs.Ytkefiajemifklaa.A

theorem szIntS_eq (l : List Int) (a : Int) (ha : -1 ≤ a) (ha' : a ≤ 1048576) (hl : l.length ≤ 9223372036854775807) :
    ∃ t, laws_szIntS.f l a = some t ∧ (t = -1 ∨ (0 ≤ t ∧ t = a - l.length)) := by
  unfold laws_szIntS.f
  rw [w64_sub ha ha' hl]
  by_cases h1 : a - l.length < 0
  · exact ⟨-1, by rw [if_pos h1], .inl rfl⟩
  · rw [if_neg h1]; exact ⟨_, rfl, .inr ⟨by omega, rfl⟩⟩
theorem set_next (l : List Int) (i n : Nat) (hn : l.length = n) (hi : i < n) : (l.take i ++ List.replicate (n - i) 0).set i (rd l (i : Int)) = l.take (i + 1) ++ List.replicate (n - (i + 1)) 0 := by
  have hl : (l.take i).length = i := by rw [List.length_take]; omega
  have e : rd l (i : Int) = l[i] := by simp [rd, show i < l.length by omega]
  rw [List.set_append_right _ _ (by omega), hl, Nat.sub_self, show n - i = (n - (i + 1)) + 1 by omega, List.replicate_succ, List.set_cons_zero, List.take_succ_eq_append_getElem (by omega), e, List.append_assoc]
  rfl
theorem toIntS_ev (l : List Int) (hl : l.length ≤ 35184372088832) : Evt (fun k => laws_toIntS.f k l) l := by
  simp only [laws_toIntS.f]
  refine Evt.pos (by omega) (Evt.pos (by omega) ?_)
  rw [Int.toNat_natCast]
  have h : ∀ d i : Nat, i + d = l.length → Evt (fun k => laws_toIntS.l0 k l (l.take i ++ List.replicate (l.length - i) 0) (i : Int)) l := by
    intro d
    induction d with
    | zero =>
      intro i hi
      refine Evt.step ?_
      simp only [laws_toIntS.l0]
      refine Evt.neg (by omega) (Evt.const ?_)
      obtain rfl : i = l.length := by omega
      simp
    | succ d ih =>
      intro i hi
      refine Evt.step ?_
      simp only [laws_toIntS.l0]
      rw [w64s (by omega), Int.toNat_natCast, set_next l i l.length rfl (by omega)]
      exact Evt.pos (by omega) (Evt.pos (by omega) (Evt.pos (by simp; omega) (ih (i + 1) (by omega))))
  simpa using h l.length 0 (by omega)
theorem eqIntS_ev (l l' : List Int) (hl : l.length ≤ 9223372036854775807) : Evt (fun k => laws_eqIntS.f k l l') (decide (l = l')) := by
  simp only [laws_eqIntS.f]
  by_cases he : l.length = l'.length
  · refine Evt.pos (by omega) ?_
    have h := Evt.up (fun k i => laws_eqIntS.l0 k l l' i) l.length (fun i => decide (l.drop i = l'.drop i)) ?_ ?_
    · simpa using h
    · refine Evt.step ?_
      simp only [laws_eqIntS.l0]
      refine Evt.neg (by omega) (Evt.const ?_)
      rw [List.drop_of_length_le (Nat.le_refl _), List.drop_of_length_le (by omega)]
      rfl
    · intro i hi h
      refine Evt.step ?_
      simp only [laws_eqIntS.l0]
      have hi' : i < l'.length := by omega
      refine Evt.pos (by omega) (Evt.pos (by omega) (Evt.pos (by omega) ?_))
      rw [List.drop_eq_getElem_cons hi, List.drop_eq_getElem_cons hi', w64s (by omega)]
      have e1 : rd l (i : Int) = l[i] := by simp [rd, hi]
      have e2 : rd l' (i : Int) = l'[i] := by simp [rd, hi']
      rw [e1, e2]
      by_cases hc : l[i] = l'[i]
      · exact Evt.pos hc (h.cast (by rw [hc]; simp only [List.cons.injEq, true_and]))
      · exact Evt.neg hc (Evt.const (by rw [decide_eq_false (fun e => hc (List.cons.inj e).1)]))
  · refine Evt.neg (by omega) (Evt.const ?_)
    have : l ≠ l' := fun e => he (by rw [e])
    simp [this]

end Go.Proofs.Ytkefiajemifklaa.F


namespace Go.Proofs.Ytkefiajemifklaa.F
set_option linter.unusedVariables false
set_option linter.unusedSimpArgs false
open Go.RowKit Go.Proofs.YtkefiajemifklaaW.PrintWords Go.Proofs.Ytkefiajemifklaa.Pl Go.Proofs.Ytkefiajemifklaa.A

theorem rows_at (l : List (List Int)) (i : Nat) (h : i < l.length) : rd_L1 l (i : Int) = l[i] := by simp [rd_L1, h]
/-- A table that weighing lets through. -/
def RowsLe (l : List (List Int)) (b : Nat) : Prop := l.length ≤ b ∧ ∀ x ∈ l, x.length ≤ b
theorem szIntSS_ev (l : List (List Int)) (a : Int) (ha : 0 ≤ a) (ha' : a ≤ 1048576) (hl : l.length ≤ 9223372036854775807) (hw : ∀ x ∈ l, x.length ≤ 9223372036854775807) :
    ∃ t, Evt (fun k => laws_szIntSS.f k l a) t ∧ (t = -1 ∨ (0 ≤ t ∧ t ≤ a ∧ RowsLe l 1048576)) := by
  simp only [laws_szIntSS.f]
  rw [w64_sub (by omega) ha' hl]
  by_cases h1 : a - l.length < 0
  · exact ⟨-1, Evt.pos h1 (Evt.ret _), .inl rfl⟩
  have h : ∀ d i : Nat, i + d = l.length → ∀ b : Int, 0 ≤ b → b ≤ 1048576 → ∃ t, Evt (fun k => laws_szIntSS.l0 k l b (i : Int)) t ∧ (t = -1 ∨ (0 ≤ t ∧ t ≤ b ∧ ∀ x ∈ l.drop i, x.length ≤ 1048576)) := by
    intro d
    induction d with
    | zero =>
      intro i hi b hb hb'
      refine ⟨b, Evt.step ?_, .inr ⟨hb, Int.le_refl _, ?_⟩⟩
      · simp only [laws_szIntSS.l0]
        exact Evt.neg (by omega) (Evt.ret _)
      · rw [List.drop_of_length_le (by omega)]
        intro x hx
        cases hx
    | succ d ih =>
      intro i hi b hb hb'
      have hi' : i < l.length := by omega
      obtain ⟨t, ht, hc⟩ := szIntS_eq l[i] b (by omega) hb' (hw _ (List.getElem_mem hi'))
      by_cases h2 : t < 0
      · refine ⟨-1, Evt.step ?_, .inl rfl⟩
        simp only [laws_szIntSS.l0]
        rw [rows_at l i hi']
        exact Evt.pos (by omega) (Evt.pos (by omega) (Evt.bindc ht (Evt.pos h2 (Evt.ret _))))
      · have hc' : 0 ≤ t ∧ t = b - l[i].length := hc.elim (fun e => absurd (show t < 0 by omega) h2) id
        obtain ⟨t', ht', hc2⟩ := ih (i + 1) (by omega) t (by omega) (by omega)
        refine ⟨t', Evt.step ?_, ?_⟩
        · simp only [laws_szIntSS.l0]
          rw [rows_at l i hi', w64s (by omega)]
          exact Evt.pos (by omega) (Evt.pos (by omega) (Evt.bindc ht (Evt.neg h2 ht')))
        · rcases hc2 with h3 | ⟨h3, h4, h5⟩
          · exact .inl h3
          · refine .inr ⟨h3, by omega, ?_⟩
            rw [List.drop_eq_getElem_cons hi']
            intro x hx
            rcases List.mem_cons.1 hx with rfl | hx
            · omega
            · exact h5 x hx
  obtain ⟨t, ht, hc⟩ := h l.length 0 (by omega) (a - l.length) (by omega) (by omega)
  refine ⟨t, Evt.neg h1 ht, ?_⟩
  rcases hc with hc | ⟨h2, h3, h4⟩
  · exact .inl hc
  · exact .inr ⟨h2, by omega, by omega, by simpa using h4⟩
theorem set_nextR (l : List (List Int)) (i n : Nat) (hn : l.length = n) (hi : i < n) : (l.take i ++ List.replicate (n - i) []).set i l[i] = l.take (i + 1) ++ List.replicate (n - (i + 1)) [] := by
  have hl : (l.take i).length = i := by rw [List.length_take]; omega
  rw [List.set_append_right _ _ (by omega), hl, Nat.sub_self, show n - i = (n - (i + 1)) + 1 by omega, List.replicate_succ, List.set_cons_zero, List.take_succ_eq_append_getElem (by omega), List.append_assoc]
  rfl
theorem toIntSS_ev (l : List (List Int)) (hl : RowsLe l 1048576) : Evt (fun k => laws_toIntSS.f k l) l := by
  have hn := hl.1
  simp only [laws_toIntSS.f]
  refine Evt.pos (by omega) (Evt.pos (by omega) ?_)
  rw [Int.toNat_natCast]
  have h : ∀ d i : Nat, i + d = l.length → Evt (fun k => laws_toIntSS.l0 k l (l.take i ++ List.replicate (l.length - i) []) (i : Int)) l := by
    intro d
    induction d with
    | zero =>
      intro i hi
      refine Evt.step ?_
      simp only [laws_toIntSS.l0]
      refine Evt.neg (by omega) (Evt.const ?_)
      obtain rfl : i = l.length := by omega
      simp
    | succ d ih =>
      intro i hi
      have hi' : i < l.length := by omega
      have hx := hl.2 _ (List.getElem_mem hi')
      refine Evt.step ?_
      simp only [laws_toIntSS.l0]
      rw [rows_at l i hi']
      refine Evt.pos (by omega) (Evt.pos (by omega) (Evt.bind (toIntS_ev _ (by omega)) (Evt.pos (by simp; omega) ?_)))
      rw [Int.toNat_natCast, set_nextR l i l.length rfl hi', w64s (by omega)]
      exact ih (i + 1) (by omega)
  simpa using h l.length 0 (by omega)
theorem eqIntSS_ev (l l' : List (List Int)) (hl : l.length ≤ 9223372036854775807) (hw : ∀ x ∈ l, x.length ≤ 9223372036854775807) : Evt (fun k => laws_eqIntSS.f k l l') (decide (l = l')) := by
  simp only [laws_eqIntSS.f]
  by_cases he : l.length = l'.length
  · refine Evt.pos (by omega) ?_
    have h := Evt.up (fun k i => laws_eqIntSS.l0 k l l' i) l.length (fun i => decide (l.drop i = l'.drop i)) ?_ ?_
    · simpa using h
    · refine Evt.step ?_
      simp only [laws_eqIntSS.l0]
      refine Evt.neg (by omega) (Evt.const ?_)
      rw [List.drop_of_length_le (Nat.le_refl _), List.drop_of_length_le (by omega)]
      rfl
    · intro i hi h
      refine Evt.step ?_
      simp only [laws_eqIntSS.l0]
      have hi' : i < l'.length := by omega
      rw [rows_at l i hi, rows_at l' i hi']
      refine Evt.pos (by omega) (Evt.pos (by omega) (Evt.pos (by omega) (Evt.bind (eqIntS_ev _ _ (hw _ (List.getElem_mem hi))) ?_)))
      rw [List.drop_eq_getElem_cons hi, List.drop_eq_getElem_cons hi', w64s (by omega)]
      by_cases hc : l[i] = l'[i]
      · exact Evt.pos (by simp [hc]) (h.cast (by rw [hc]; simp only [List.cons.injEq, true_and]))
      · exact Evt.neg (by simp [hc]) (Evt.const (by rw [decide_eq_false (fun e => hc (List.cons.inj e).1)]))
  · refine Evt.neg (by omega) (Evt.const ?_)
    have : l ≠ l' := fun e => he (by rw [e])
    simp [this]

end Go.Proofs.Ytkefiajemifklaa.F


namespace Go.Proofs.Ytkefiajemifklaa.F
set_option linter.unusedVariables false
set_option linter.unusedSimpArgs false
open Go.RowKit Go.Proofs.YtkefiajemifklaaW.PrintWords Go.Proofs.Ytkefiajemifklaa.Pl Go.Proofs.Ytkefiajemifklaa.A

theorem l13Lists_ev (l l' : List (List Int)) (hl : l.length ≤ 9223372036854775807) (hw : ∀ x ∈ l, x.length ≤ 9223372036854775807) : Evt (fun k => spec_l13Lists.f k l l') (decide (l = l')) := by
  simp only [spec_l13Lists.f]
  by_cases he : l.length = l'.length
  · refine Evt.pos (by omega) ?_
    have h := Evt.up (fun k i => spec_l13Lists.l0 k l l' i) l.length (fun i => decide (l.drop i = l'.drop i)) ?_ ?_
    · simpa using h
    · refine Evt.step ?_
      simp only [spec_l13Lists.l0]
      refine Evt.neg (by omega) (Evt.const ?_)
      rw [List.drop_of_length_le (Nat.le_refl _), List.drop_of_length_le (by omega)]
      rfl
    · intro i hi h
      refine Evt.step ?_
      simp only [spec_l13Lists.l0]
      have hi' : i < l'.length := by omega
      rw [rows_at l i hi, rows_at l' i hi']
      refine Evt.pos (by omega) (Evt.pos (by omega) (Evt.pos (by omega) (Evt.bind (l5Ints_ev _ _ (hw _ (List.getElem_mem hi))) ?_)))
      rw [List.drop_eq_getElem_cons hi, List.drop_eq_getElem_cons hi', w64s (by omega)]
      by_cases hc : l[i] = l'[i]
      · exact Evt.pos (by simp [hc]) (h.cast (by rw [hc]; simp only [List.cons.injEq, true_and]))
      · exact Evt.neg (by simp [hc]) (Evt.const (by rw [decide_eq_false (fun e => hc (List.cons.inj e).1)]))
  · refine Evt.neg (by omega) (Evt.const ?_)
    have : l ≠ l' := fun e => he (by rw [e])
    simp [this]

end Go.Proofs.Ytkefiajemifklaa.F


namespace Go.Proofs.Ytkefiajemifklaa.F
set_option linter.unusedVariables false
set_option linter.unusedSimpArgs false
open Go.RowKit Go.Proofs.YtkefiajemifklaaW.PrintWords Go.Proofs.Ytkefiajemifklaa.Pl Go.Proofs.Ytkefiajemifklaa.A Go.Proofs.Ytkefiajemifklaa.Ext

/-- Lengths that a machine can hold. -/
def RowsWf (l : List (List Int)) : Prop := l.length ≤ 9223372036854775807 ∧ ∀ x ∈ l, x.length ≤ 9223372036854775807
theorem RowsLe.wf {l : List (List Int)} (h : RowsLe l 1048576) : RowsWf l := ⟨by have := h.1; omega, fun x hx => by have := h.2 x hx; omega⟩
theorem szMonoid_ev (x : List (List Int)) (y : List Int) (z : List (List Int)) (a : Int) (ha : 0 ≤ a) (ha' : a ≤ 1048576) (hx : RowsWf x) (hy : y.length ≤ 9223372036854775807) (hz : RowsWf z) :
    ∃ t, Evt (fun k => laws_szMonoid.f k x y z a) t ∧ (t = -1 ∨ (0 ≤ t ∧ t ≤ a ∧ RowsLe x 1048576 ∧ y.length ≤ 1048576 ∧ RowsLe z 1048576)) := by
  simp only [laws_szMonoid.f]
  obtain ⟨t, ht, hc⟩ := szIntSS_ev x a ha ha' hx.1 hx.2
  rcases hc with rfl | ⟨h0, h1, h2⟩
  · exact ⟨-1, Evt.bind ht (Evt.pos (by decide) (Evt.ret _)), .inl rfl⟩
  obtain ⟨u, hu, hc⟩ := szIntS_eq y t (by omega) (by omega) hy
  rcases hc with rfl | ⟨g0, g1⟩
  · exact ⟨-1, Evt.bind ht (Evt.neg (by omega) (Evt.bindc hu (Evt.pos (by decide) (Evt.ret _)))), .inl rfl⟩
  obtain ⟨v, hv, hc⟩ := szIntSS_ev z u (by omega) (by omega) hz.1 hz.2
  rcases hc with rfl | ⟨k0, k1, k2⟩
  · exact ⟨-1, Evt.bind ht (Evt.neg (by omega) (Evt.bindc hu (Evt.neg (by omega) (Evt.bind hv (Evt.pos (by decide) (Evt.ret _)))))), .inl rfl⟩
  · exact ⟨v, Evt.bind ht (Evt.neg (by omega) (Evt.bindc hu (Evt.neg (by omega) (Evt.bind hv (Evt.neg (by omega) (Evt.ret _)))))), .inr ⟨k0, by omega, h2, by omega, k2⟩⟩
theorem toMonoid_ev (x : List (List Int)) (y : List Int) (z : List (List Int)) (hx : RowsLe x 1048576) (hy : y.length ≤ 1048576) (hz : RowsLe z 1048576) : Evt (fun k => laws_toMonoid.f k x y z) (x, y, z) := by
  simp only [laws_toMonoid.f]
  exact Evt.bind (toIntSS_ev x hx) (Evt.bind (toIntS_ev y (by omega)) (Evt.bind (toIntSS_ev z hz) (Evt.ret _)))
theorem eqMonoid_ev (x : List (List Int)) (y : List Int) (z : List (List Int)) (hx : RowsWf x) (hy : y.length ≤ 9223372036854775807) (hz : RowsWf z) : Evt (fun k => laws_eqMonoid.f k x y z x y z) true := by
  simp only [laws_eqMonoid.f]
  exact Evt.bind (eqIntSS_ev x x hx.1 hx.2) (Evt.pos (by simp) (Evt.bind (eqIntS_ev y y hy) (Evt.pos (by simp) (Evt.bind (eqIntSS_ev z z hz.1 hz.2) (Evt.pos (by simp) (Evt.ret _))))))
/-- The reference and the library answer the same. -/
theorem equalMonoid_ev (x : List (List Int)) (y : List Int) (z : List (List Int)) (x' : List (List Int)) (y' : List Int) (z' : List (List Int)) (hx : RowsWf x) (hy : y.length ≤ 9223372036854775807) (hz : RowsWf z) :
    ∃ q, Evt (fun k => spec_EqualMonoid.f k x y z x' y' z') q ∧ Evt (fun k => impl_EqualMonoid.f k x y z x' y' z') q := by
  simp only [spec_EqualMonoid.f, impl_EqualMonoid.f]
  have h1 := l13Lists_ev x x' hx.1 hx.2
  have h2 := l5Ints_ev y y' hy
  have h2' := slEq_ev y y' hy
  have h3 := l13Lists_ev z z' hz.1 hz.2
  by_cases c1 : x = x'
  · by_cases c2 : y = y'
    · exact ⟨_, Evt.bind h1 (Evt.pos (by simp [c1]) (Evt.bind h2 (Evt.pos (by simp [c2]) (Evt.bind h3 (Evt.ret _))))), Evt.bindc rfl (Evt.pos (by simp [c1]) (Evt.bind h2' (Evt.pos (by simp [c2]) (Evt.bindc rfl (Evt.ret _)))))⟩
    · exact ⟨_, Evt.bind h1 (Evt.pos (by simp [c1]) (Evt.bind h2 (Evt.neg (by simp [c2]) (Evt.ret _)))), Evt.bindc rfl (Evt.pos (by simp [c1]) (Evt.bind h2' (Evt.neg (by simp [c2]) (Evt.ret _))))⟩
  · exact ⟨_, Evt.bind h1 (Evt.neg (by simp [c1]) (Evt.ret _)), Evt.bindc rfl (Evt.neg (by simp [c1]) (Evt.ret _))⟩

end Go.Proofs.Ytkefiajemifklaa.F


namespace Go.Proofs.Ytkefiajemifklaa.Pure
set_option linter.unusedVariables false
set_option linter.unusedSimpArgs false
open Go Go.RowKit Go.Proofs.YtkefiajemifklaaW.PrintWords Go.Proofs.Ytkefiajemifklaa.Pl Go.Proofs.Ytkefiajemifklaa.F Go.Proofs.Ytkefiajemifklaa.A Go.Proofs.Ytkefiajemifklaa.Ext

theorem FnExactEqualMonoid : FnExactEqualMonoid.Pure := by
  intro x y z x' y' z' hx hy hz hx' hy' hz'
  have X : RowsWf x := ⟨hx.1, fun a h => (hx.2 a h).1⟩
  have Z : RowsWf z := ⟨hz.1, fun a h => (hz.2 a h).1⟩
  have X' : RowsWf x' := ⟨hx'.1, fun a h => (hx'.2 a h).1⟩
  have Z' : RowsWf z' := ⟨hz'.1, fun a h => (hz'.2 a h).1⟩
  refine Evt.get (g := fun k => laws_FnExactEqualMonoid.f k x y z x' y' z') ?_
  simp only [laws_FnExactEqualMonoid.f]
  obtain ⟨t, ht, hs⟩ := szMonoid_ev x y z 1048576 (by omega) (by omega) X hy.1 Z
  rcases hs with rfl | ⟨h0, h1, h2, h3, h4⟩
  · exact Evt.bind ht (Evt.pos (by decide) (Evt.ret _))
  obtain ⟨t', ht', hs'⟩ := szMonoid_ev x' y' z' t (by omega) (by omega) X' hy'.1 Z'
  rcases hs' with rfl | ⟨h0', h1', h2', h3', h4'⟩
  · exact Evt.bind ht (Evt.neg (by omega) (Evt.bind ht' (Evt.pos (by decide) (Evt.ret _))))
  obtain ⟨q, e1, e2⟩ := equalMonoid_ev x y z x' y' z' X hy.1 Z
  have q1 := toMonoid_ev x y z h2 h3 h4
  have q2 := toMonoid_ev x' y' z' h2' h3' h4'
  refine Evt.bind ht (Evt.neg (by omega) (Evt.bind ht' (Evt.neg (by omega) (Evt.bind q1 (Evt.bind q2 (Evt.bind e1 (Evt.bind q1 (Evt.bind q2 (Evt.bind e2 (Evt.neg (by simp) ?_))))))))))
  exact Evt.bind q1 (Evt.bind (eqMonoid_ev x y z X hy.1 Z) (Evt.pos rfl (Evt.bind q2 (Evt.bind (eqMonoid_ev x' y' z' X' hy'.1 Z') (Evt.pos rfl (Evt.ret _))))))


end Go.Proofs.Ytkefiajemifklaa.Pure


namespace Go.Proofs.Ytkefiajemifklaa.fnExactEqualMonoid
open Go.ChangeShapes Go.WideShapes Go.ChangeAt Go.RowKit Go.Proofs.Ytkefiajemifklaa.Br Go.Proofs.YtkefiajemifklaaW.PrintWords Go.Proofs.Ytkefiajemifklaa.A
open Go.ChangeMaps (open_string shut_string)
set_option linter.unusedVariables false
theorem own : ownKnob Try.prog.godebug = none := by kernel_rfl
theorem laidOut : laidOutB Try.prog = true := by kernel_rfl
set_option maxHeartbeats 2000000 in
set_option maxRecDepth 100000 in
theorem lifted (os : Os) (started : os.Started) (H : Type) (enc : TypeId × Value → H) :
    ReturnsInHanded {} Try.checked os 8 .any (Rows.fnExactEqualMonoidSpec.pre6 enc Try.prog Try.f8 Rows.fnExactEqualMonoidRow.domain false) (Rows.fnExactEqualMonoidSpec.post enc Try.prog Try.f8 false true false false) := by
  refine returnsInHanded_of_change_sized (C := Try.checked) own started (by kernel_rfl) Try.func8
    (ChangeSpec.witness6 (enc := enc) (C := Try.checked) false ⟨#[], #[.agg #[.slice none 0 0, .slice none 0 0, .slice none 0 0], .agg #[.slice none 0 0, .slice none 0 0, .slice none 0 0]], []⟩ 8 (by kernel_rfl) (by kernel_rfl) (by kernel_rfl) (by kernel_rfl)) ?_
  intro W base args ds gs before hval0 hW hcnd hsz0 _
  have hval : ∀ (j : Nat) t v, Try.f8.params[j]? = some t → args[j]? = some v → Value.okWide Try.prog W .any base t v := hval0
  have hW' := hW
  obtain ⟨p, q, hA0, hV, rfl, hfz, hnd⟩ := hW
  have hA : DataW.TrodAll enc Try.prog W 0 (fun _ => true) true Try.f8.params.toList args.toList ds p := hA0
  rw [Try.params8] at hA hval
  obtain ⟨v0, vs0, d0, ds0, p0, q0, hargs, rfl, rfl, h0, r0⟩ := trodAll_cons hA
  obtain ⟨v1, vs1, d1, ds1, p1, q1, rfl, rfl, rfl, h1, r1⟩ := trodAll_cons r0
  obtain ⟨rfl, rfl, rfl⟩ := trodAll_nil r1
  obtain rfl : args = #[v0, v1] := by cases args; simp_all
  obtain ⟨rfl, rfl⟩ := trodVars_none hV
  have k0 := h0
  have lt0 : ∀ x ∈ p0, x.block < W.heap.size := by obtain ⟨m, hm⟩ := k0; exact DataW.trod_lt m _ _ _ hm
  obtain ⟨arr0, rfl, _, _⟩ : ∃ cs, v0 = .agg cs ∧ cs.size = Try.prog.cellsOf 76 ∧ Row.okWide Try.prog W .any base 76 cs := by have z := (hval 0 76 v0 rfl rfl); unfold Value.okWide at z; rw [Try.underlying76] at z; exact z
  obtain ⟨fuel0, hf0⟩ := h0
  obtain ⟨x0, hK0, hw0⟩ := (show ∀ n, BrN Try.prog n 76 _ _ from fun n => (br_struct' Try.underlying76 (show Try.prog.cellsOf 76 = 3 by kernel_rfl) (fun n => (bf_cons rfl (show Try.prog.cellsOf 25 = 1 by kernel_rfl) (br_slice' Try.underlying25 (show Try.prog.cellsOf 29 = 1 by kernel_rfl) (fun n => (br_slice' Try.underlying29 (show Try.prog.cellsOf 3 = 1 by kernel_rfl) (fun n => (br_int Try.underlying3 n)) n)) n) (bf_cons rfl (show Try.prog.cellsOf 29 = 1 by kernel_rfl) (br_slice' Try.underlying29 (show Try.prog.cellsOf 3 = 1 by kernel_rfl) (fun n => (br_int Try.underlying3 n)) n) (bf_one rfl (show Try.prog.cellsOf 25 = 1 by kernel_rfl) (br_slice' Try.underlying25 (show Try.prog.cellsOf 29 = 1 by kernel_rfl) (fun n => (br_slice' Try.underlying29 (show Try.prog.cellsOf 3 = 1 by kernel_rfl) (fun n => (br_int Try.underlying3 n)) n)) n)) (of_decide_eq_true (by kernel_rfl))) (of_decide_eq_true (by kernel_rfl)))) n)) fuel0 H enc W 0 (fun _ => true) true fuel0 _ _ (Nat.le_refl _) hf0
  obtain ⟨l0_0, ⟨l0_1, l0_2⟩⟩ := x0
  replace hw0 := hw0
  obtain ⟨w0_0, ⟨w0_1, w0_2⟩⟩ := hw0
  obtain ⟨cs0, hcs0, hK0⟩ : ∃ cs, (Value.agg arr0).cells.toList = cs ∧ _ := ⟨_, rfl, hK0⟩
  obtain ⟨_, _, rfl, ⟨A0_0, c0_0, rfl, hc0_0, hr0_0⟩, ⟨_, _, rfl, ⟨A0_1, c0_1, rfl, hc0_1, hr0_1⟩, ⟨A0_2, c0_2, rfl, hc0_2, hr0_2⟩⟩⟩ := hK0
  obtain rfl : arr0 = #[.slice A0_0 l0_0.length c0_0, .slice A0_1 l0_1.length c0_1, .slice A0_2 l0_2.length c0_2] := arr_of hcs0
  have k1 := h1
  have lt1 : ∀ x ∈ p1, x.block < W.heap.size := by obtain ⟨m, hm⟩ := k1; exact DataW.trod_lt m _ _ _ hm
  obtain ⟨arr1, rfl, _, _⟩ : ∃ cs, v1 = .agg cs ∧ cs.size = Try.prog.cellsOf 76 ∧ Row.okWide Try.prog W .any base 76 cs := by have z := (hval 1 76 v1 rfl rfl); unfold Value.okWide at z; rw [Try.underlying76] at z; exact z
  obtain ⟨fuel1, hf1⟩ := h1
  obtain ⟨x1, hK1, hw1⟩ := (show ∀ n, BrN Try.prog n 76 _ _ from fun n => (br_struct' Try.underlying76 (show Try.prog.cellsOf 76 = 3 by kernel_rfl) (fun n => (bf_cons rfl (show Try.prog.cellsOf 25 = 1 by kernel_rfl) (br_slice' Try.underlying25 (show Try.prog.cellsOf 29 = 1 by kernel_rfl) (fun n => (br_slice' Try.underlying29 (show Try.prog.cellsOf 3 = 1 by kernel_rfl) (fun n => (br_int Try.underlying3 n)) n)) n) (bf_cons rfl (show Try.prog.cellsOf 29 = 1 by kernel_rfl) (br_slice' Try.underlying29 (show Try.prog.cellsOf 3 = 1 by kernel_rfl) (fun n => (br_int Try.underlying3 n)) n) (bf_one rfl (show Try.prog.cellsOf 25 = 1 by kernel_rfl) (br_slice' Try.underlying25 (show Try.prog.cellsOf 29 = 1 by kernel_rfl) (fun n => (br_slice' Try.underlying29 (show Try.prog.cellsOf 3 = 1 by kernel_rfl) (fun n => (br_int Try.underlying3 n)) n)) n)) (of_decide_eq_true (by kernel_rfl))) (of_decide_eq_true (by kernel_rfl)))) n)) fuel1 H enc W 0 (fun _ => true) true fuel1 _ _ (Nat.le_refl _) hf1
  obtain ⟨l1_0, ⟨l1_1, l1_2⟩⟩ := x1
  replace hw1 := hw1
  obtain ⟨w1_0, ⟨w1_1, w1_2⟩⟩ := hw1
  obtain ⟨cs1, hcs1, hK1⟩ : ∃ cs, (Value.agg arr1).cells.toList = cs ∧ _ := ⟨_, rfl, hK1⟩
  obtain ⟨_, _, rfl, ⟨A1_0, c1_0, rfl, hc1_0, hr1_0⟩, ⟨_, _, rfl, ⟨A1_1, c1_1, rfl, hc1_1, hr1_1⟩, ⟨A1_2, c1_2, rfl, hc1_2, hr1_2⟩⟩⟩ := hK1
  obtain rfl : arr1 = #[.slice A1_0 l1_0.length c1_0, .slice A1_1 l1_1.length c1_1, .slice A1_2 l1_2.length c1_2] := arr_of hcs1
  clear hA0 hval0 hsz0
  obtain ⟨k, hp⟩ := Pure.FnExactEqualMonoid l0_0 l0_1 l0_2 l1_0 l1_1 l1_2 w0_0 w0_1 w0_2 w1_0 w1_1 w1_2
  refine (laws_FnExactEqualMonoid.calls k _ _ l0_0 _ _ l0_1 _ _ l0_2 _ _ l1_0 _ _ l1_1 _ _ l1_2 true W hr0_0 hc0_0 hr0_1 hc0_1 hr0_2 hc0_2 hr1_0 hc1_0 hr1_1 hc1_1 hr1_2 hc1_2 hp rfl).mono fun e W' ⟨he, bel0⟩ => ?_
  subst he
  have bel : Below W.heap.size W W' := bel0
  exact ⟨_, rfl, _, _, _, [], _, [], hW', trodAll_mk1 (shut_bool Try.underlying4 _), (trodAll_cons_mk (Below.trod laidOut (by kernel_rfl) (of_decide_eq_true (by kernel_rfl)) k0 bel lt0) (trodAll_cons_mk (Below.trod laidOut (by kernel_rfl) (of_decide_eq_true (by kernel_rfl)) k1 bel lt1) trodAll_mk0)), rfl, bel.frame _, fun h => by cases h⟩
theorem over : Rows.fnExactEqualMonoidRow.holds Try.pinned (OpenSpec.ofChange Rows.fnExactEqualMonoidSpec) :=
  OpenClaim.holds_of_wide 8 Try.f8 rfl rfl rfl rfl rfl rfl rfl ⟨rfl, rfl, rfl, rfl, rfl⟩ rfl rfl rfl rfl rfl (by kernel_rfl) Try.func8 (by kernel_rfl)
    (of_decide_eq_true (by kernel_rfl)) (by unfold Func.isWrapper; first | (rw [if_pos (by decide +kernel)]; kernel_rfl) | (rw [if_neg (by decide +kernel)]; exact ⟨rfl, rfl⟩))
    (fun os started H enc _ => lifted os started H enc)
theorem proved : Rows.FnExactEqualMonoidSaid := over
#print axioms proved
end Go.Proofs.Ytkefiajemifklaa.fnExactEqualMonoid
namespace Go.Proofs.Ytkefiajemifklaa
/-- The row, under a short name, for the claim. -/
theorem fnExactEqualMonoid_holds : Rows.FnExactEqualMonoidSaid := fnExactEqualMonoid.proved
end Go.Proofs.Ytkefiajemifklaa
