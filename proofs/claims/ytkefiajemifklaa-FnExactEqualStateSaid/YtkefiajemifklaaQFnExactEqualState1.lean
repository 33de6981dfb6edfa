/- FnExactEqualState: what its proof needs, put together by this session's program wip/merge.py out of the texts that wip/xp.py printed and of this session's own. -/
import Derived.Test.YtkefiajemifklaaQFnExactEqualState0
namespace Go.Proofs.Ytkefiajemifklaa.A
open Go.RowKit Go.Proofs.Ytkefiajemifklaa.Ext Go.Proofs.YtkefiajemifklaaW.PrintWords Go.Proofs.YtkefiajemifklaaW.PrintLast Go.Proofs.YtkefiajemifklaaW.PrintMore
attribute [local go_sem] max2_int min2_int max_two min_two max_three min_three max_four min_four   -- for this text's walks alone
set_option linter.unusedVariables false
set_option linter.unusedSimpArgs false

/-! ### laws_FnExactEqualState: function 4 -/
def laws_FnExactEqualState.f (k : Nat) (a0_0 : ByteArray) (a0_1 : ByteArray) (l0_2 : List Int) (a1_0 : ByteArray) (a1_1 : ByteArray) (l1_2 : List Int) : Option (Bool) := (laws_szState.f a0_0 a0_1 l0_2 1048576).bind fun t4003 => (if t4003 < 0 then (some true) else ((laws_szState.f a1_0 a1_1 l1_2 t4003).bind fun t4004 => (if t4004 < 0 then (some true) else ((laws_toState.f k a0_0 a0_1 l0_2).bind fun bt4005 => ((laws_toState.f k a1_0 a1_1 l1_2).bind fun bt4010 => ((spec_EqualState.f k bt4005.1 bt4005.2.1 bt4005.2.2 bt4010.1 bt4010.2.1 bt4010.2.2).bind fun t4015 => ((laws_toState.f k a0_0 a0_1 l0_2).bind fun bt4016 => ((laws_toState.f k a1_0 a1_1 l1_2).bind fun bt4022 => ((impl_EqualState.f k bt4016.1 bt4016.2.1 bt4016.2.2 bt4022.1 bt4022.2.1 bt4022.2.2).bind fun t4028 => (if (t4028 != t4015) = true then (some false) else ((laws_toState.f k a0_0 a0_1 l0_2).bind fun bt4029 => ((laws_eqState.f k bt4016.1 bt4016.2.1 bt4016.2.2 bt4029.1 bt4029.2.1 bt4029.2.2).bind fun t4034 => (if t4034 = true then ((laws_toState.f k a1_0 a1_1 l1_2).bind fun bt4035 => ((laws_eqState.f k bt4022.1 bt4022.2.1 bt4022.2.2 bt4035.1 bt4035.2.1 bt4035.2.2).bind fun t4040 => (if t4040 = true then (some true) else (some false)))) else (some false))))))))))))))
theorem laws_FnExactEqualState.mono : ∀ a0 a1 a2 a3 a4 a5 k, LeO (laws_FnExactEqualState.f k a0 a1 a2 a3 a4 a5) (laws_FnExactEqualState.f (k + 1) a0 a1 a2 a3 a4 a5) := by
  intro a0 a1 a2 a3 a4 a5 k
  unfold laws_FnExactEqualState.f
  repeat' first
      | (with_reducible exact impl_EqualState.mono _ _ _ _ _ _ _)
      | (with_reducible exact laws_eqState.mono _ _ _ _ _ _ _)
      | (with_reducible exact laws_toState.mono _ _ _ _)
      | (with_reducible exact spec_EqualState.mono _ _ _ _ _ _ _)
      | (with_reducible exact LeO.refl _)
      | (with_reducible exact LeO.none _)
      | (with_reducible refine LeO.ite ?_ ?_)
      | (with_reducible refine LeO.bind ?_ (fun _ => ?_))
      | exact impl_EqualState.mono _ _ _ _ _ _ _
      | exact laws_eqState.mono _ _ _ _ _ _ _
      | exact laws_toState.mono _ _ _ _
      | exact spec_EqualState.mono _ _ _ _ _ _ _
      | exact LeO.none _
      | refine LeO.ite ?_ ?_
      | refine LeO.bind ?_ (fun _ => ?_)
set_option maxHeartbeats 8000000 in
set_option maxRecDepth 100000 in
theorem laws_FnExactEqualState.calls (k : Nat) (a0_0 : ByteArray) (a0_1 : ByteArray) (A0_2 : Option Addr) (c0_2 : Nat) (l0_2 : List Int) (a1_0 : ByteArray) (a1_1 : ByteArray) (A1_2 : Option Addr) (c1_2 : Nat) (l1_2 : List Int) (r : Bool) (w : World) (hr0_2 : Kd.C (Kd.int .i64) w A0_2 l0_2.length l0_2) (hc0_2 : l0_2.length ≤ c0_2) (hr1_2 : Kd.C (Kd.int .i64) w A1_2 l1_2.length l1_2) (hc1_2 : l1_2.length ≤ c1_2) (h : laws_FnExactEqualState.f k a0_0 a0_1 l0_2 a1_0 a1_1 l1_2 = some r) :
    Calls Try.prog 4 #[.agg #[.string a0_0, .string a0_1, .slice A0_2 l0_2.length c0_2], .agg #[.string a1_0, .string a1_1, .slice A1_2 l1_2.length c1_2]] w fun e w' => e = .returned (.bool r) ∧ Below w.heap.size w w' := by
  have hu47 := Try.underlying47
  have hu50 := Try.underlying50
  have HR0_2 := Aside0.mk hr0_2
  have HC0_2 := Aside0.mk hc0_2
  clear hr0_2 hc0_2
  have HR1_2 := Aside0.mk hr1_2
  have HC1_2 := Aside0.mk hc1_2
  clear hr1_2 hc1_2
  have HB := Aside0.mk (Below.refl w.heap.size w)
  have H : ((laws_szState.f a0_0 a0_1 l0_2 1048576).bind fun t4003 => (if t4003 < 0 then (some true) else ((laws_szState.f a1_0 a1_1 l1_2 t4003).bind fun t4004 => (if t4004 < 0 then (some true) else ((laws_toState.f k a0_0 a0_1 l0_2).bind fun bt4005 => ((laws_toState.f k a1_0 a1_1 l1_2).bind fun bt4010 => ((spec_EqualState.f k bt4005.1 bt4005.2.1 bt4005.2.2 bt4010.1 bt4010.2.1 bt4010.2.2).bind fun t4015 => ((laws_toState.f k a0_0 a0_1 l0_2).bind fun bt4016 => ((laws_toState.f k a1_0 a1_1 l1_2).bind fun bt4022 => ((impl_EqualState.f k bt4016.1 bt4016.2.1 bt4016.2.2 bt4022.1 bt4022.2.1 bt4022.2.2).bind fun t4028 => (if (t4028 != t4015) = true then (some false) else ((laws_toState.f k a0_0 a0_1 l0_2).bind fun bt4029 => ((laws_eqState.f k bt4016.1 bt4016.2.1 bt4016.2.2 bt4029.1 bt4029.2.1 bt4029.2.2).bind fun t4034 => (if t4034 = true then ((laws_toState.f k a1_0 a1_1 l1_2).bind fun bt4035 => ((laws_eqState.f k bt4022.1 bt4022.2.1 bt4022.2.2 bt4035.1 bt4035.2.1 bt4035.2.2).bind fun t4040 => (if t4040 = true then (some true) else (some false)))) else (some false))))))))))))))) = some r := h
  clear h
  replace H := Option.bind_eq_some_iff.mp H
  obtain ⟨t4003, A30, H⟩ := H
  replace H : (if t4003 < 0 then (some true) else ((laws_szState.f a1_0 a1_1 l1_2 t4003).bind fun t4004 => (if t4004 < 0 then (some true) else ((laws_toState.f k a0_0 a0_1 l0_2).bind fun bt4005 => ((laws_toState.f k a1_0 a1_1 l1_2).bind fun bt4010 => ((spec_EqualState.f k bt4005.1 bt4005.2.1 bt4005.2.2 bt4010.1 bt4010.2.1 bt4010.2.2).bind fun t4015 => ((laws_toState.f k a0_0 a0_1 l0_2).bind fun bt4016 => ((laws_toState.f k a1_0 a1_1 l1_2).bind fun bt4022 => ((impl_EqualState.f k bt4016.1 bt4016.2.1 bt4016.2.2 bt4022.1 bt4022.2.1 bt4022.2.2).bind fun t4028 => (if (t4028 != t4015) = true then (some false) else ((laws_toState.f k a0_0 a0_1 l0_2).bind fun bt4029 => ((laws_eqState.f k bt4016.1 bt4016.2.1 bt4016.2.2 bt4029.1 bt4029.2.1 bt4029.2.2).bind fun t4034 => (if t4034 = true then ((laws_toState.f k a1_0 a1_1 l1_2).bind fun bt4035 => ((laws_eqState.f k bt4022.1 bt4022.2.1 bt4022.2.2 bt4035.1 bt4035.2.1 bt4035.2.2).bind fun t4040 => (if t4040 = true then (some true) else (some false)))) else (some false)))))))))))))) = some r := H
  have A3 := Aside0.mk A30
  clear A30
  by_cases c4 : t4003 < 0
  · rw [if_pos c4] at H
    have c4b0 : decide (t4003 < 0) = true := decide_eq_true c4
    clear c4
    obtain rfl := Option.some.inj H
    go_enter Try.func4, Try.ntmps4
    go_wp2_with (first | ((with_reducible refine gate_dst (N := 2) rfl ?_); refine box_event ?hg (N := 2) ?hd (cs := #[.string a0_0, .string a0_1, .slice A0_2 l0_2.length c0_2]) (t := 47) ?hr ?_; (case hd => rfl); (case hg => rfl); (case hr => first | (go_simp; done) | (go_simp; rfl)); intro gb4001 hg w5 hbox hb; have n0_ := Aside0.mk (below_step (by repeat (first | (with_reducible first | exact HB.out | apply below_alloc | apply pw_below_drewN | apply below_drew1) | exact HB.out)) hb); have n1_ := Aside0.mk (hbox); have n2_ := Aside0.mk ((by rw [hg]; exact (below_size (by repeat (first | (with_reducible first | exact HB.out | apply below_alloc | apply pw_below_drewN | apply below_drew1) | exact HB.out))) : w.heap.size ≤ gb4001)); have n3_ := Aside0.mk ((by rw [hg]; exact (below_size (by repeat (first | (with_reducible first | exact HB.out | apply below_alloc | apply pw_below_drewN | apply below_drew1) | exact HB.out))) : w.heap.size ≤ gb4001)); clear HB; have HB := n0_; have BK4001 := n1_; have GW4001 := n2_; have GE4001 := n3_; clear n0_ n1_ n2_ n3_; clear hb hbox hg) | ((with_reducible refine gate_dst (N := 3) rfl ?_); refine box_event ?hg (N := 3) ?hd (cs := #[.string a1_0, .string a1_1, .slice A1_2 l1_2.length c1_2]) (t := 47) ?hr ?_; (case hd => rfl); (case hg => rfl); (case hr => first | (go_simp; done) | (go_simp; rfl)); intro gb4002 hg w6 hbox hb; have n0_ := Aside0.mk (blk_below (g := gb4001) (o := .cells #[.string a0_0, .string a0_1, .slice A0_2 l0_2.length c0_2] 47 (0, 0)) (by (with_reducible repeat (first | refine blk_drewN ?_ _ | refine blk_drew ?_ | refine blk_alloc ?_ _)); exact BK4001.out) hb); have n1_ := Aside0.mk (below_step (by repeat (first | (with_reducible first | exact HB.out | apply below_alloc | apply pw_below_drewN | apply below_drew1 | refine below_set ?_ GE4001.out) | exact HB.out)) hb); have n2_ := Aside0.mk (hbox); have n3_ := Aside0.mk ((by rw [hg]; exact (below_size (by repeat (first | (with_reducible first | exact HB.out | apply below_alloc | apply pw_below_drewN | apply below_drew1 | refine below_set ?_ GE4001.out) | exact HB.out))) : w.heap.size ≤ gb4002)); have n4_ := Aside0.mk ((by rw [hg]; exact (below_size (by repeat (first | (with_reducible first | exact HB.out | apply below_alloc | apply pw_below_drewN | apply below_drew1 | refine below_set ?_ GE4001.out) | exact HB.out))) : w.heap.size ≤ gb4002)); have n5_ := Aside0.mk ((by rw [hg]; exact Nat.ne_of_lt (blk_lt (g := gb4001) (o := .cells #[.string a0_0, .string a0_1, .slice A0_2 l0_2.length c0_2] 47 (0, 0)) (by (with_reducible repeat (first | refine blk_drewN ?_ _ | refine blk_drew ?_ | refine blk_alloc ?_ _)); exact BK4001.out)) : gb4001 ≠ gb4002)); have n6_ := Aside0.mk ((by rw [hg]; exact Nat.ne_of_gt (blk_lt (g := gb4001) (o := .cells #[.string a0_0, .string a0_1, .slice A0_2 l0_2.length c0_2] 47 (0, 0)) (by (with_reducible repeat (first | refine blk_drewN ?_ _ | refine blk_drew ?_ | refine blk_alloc ?_ _)); exact BK4001.out)) : gb4002 ≠ gb4001)); clear BK4001; clear HB; have BK4001 := n0_; have HB := n1_; have BK4002 := n2_; have GW4002 := n3_; have GE4002 := n4_; have NB4001_4002 := n5_; have NB4002_4001 := n6_; clear n0_ n1_ n2_ n3_ n4_ n5_ n6_; clear hb hbox hg; have hnb7 := NB4001_4002.out; have hnc7 := NB4002_4001.out; have hcz8_0 : w6.cell? ⟨gb4001, 0, none⟩ = some (.string a0_0) := (blk_cell BK4001.out 0).trans rfl; have hcz8_1 : w6.cell? ⟨gb4001, 1, none⟩ = some (.string a0_1) := (blk_cell BK4001.out 1).trans rfl; have hcz8_2 : w6.cell? ⟨gb4001, 2, none⟩ = some (.slice A0_2 l0_2.length c0_2) := (blk_cell BK4001.out 2).trans rfl; have hfz8_0 := blk_frozen BK4001.out 0; have hfz8_1 := blk_frozen BK4001.out 1; have hfz8_2 := blk_frozen BK4001.out 2) | ((with_reducible refine gate_callee (f := 28) rfl ?_); refine goesL_ (some 12) rfl rfl Try.func28 (by kernel_rfl) rfl #[.agg #[.string a0_0, .string a0_1, .slice A0_2 l0_2.length c0_2], .int .i64 1048576] rfl (by (try simp only [List.map_toArray, List.map_cons, List.map_nil]); first | done | rfl | (simp only [List.length_drop, List.length_take]; rfl)) ?_; (with_reducible refine (laws_szState.calls a0_0 a0_1 _ _ l0_2 1048576 t4003 _ ?side1 ?side2 A3.out).mono ?_); (case side1 => repeat (first | exact (Kd.C_below HR0_2.out HB.out) | (with_reducible refine Kd.C_alloc ?_ _) | (with_reducible refine Kd.C_drewN ?_ _) | (with_reducible refine Kd.C_drew ?_))); (case side2 => exact HC0_2.out); rintro e w9 ⟨rfl, hb⟩; refine ⟨_, rfl, ?_⟩; have n0_ := Aside0.mk (blk_below (g := gb4001) (o := .cells #[.string a0_0, .string a0_1, .slice A0_2 l0_2.length c0_2] 47 (0, 0)) (by (with_reducible repeat (first | refine blk_drewN ?_ _ | refine blk_drew ?_ | refine blk_alloc ?_ _)); exact BK4001.out) hb); have n1_ := Aside0.mk (blk_below (g := gb4002) (o := .cells #[.string a1_0, .string a1_1, .slice A1_2 l1_2.length c1_2] 47 (0, 0)) (by (with_reducible repeat (first | refine blk_drewN ?_ _ | refine blk_drew ?_ | refine blk_alloc ?_ _)); exact BK4002.out) hb); have n2_ := Aside0.mk (below_step (by repeat (first | (with_reducible first | exact HB.out | apply below_alloc | apply pw_below_drewN | apply below_drew1 | refine below_set ?_ GE4001.out | refine below_set ?_ GE4002.out) | exact HB.out)) hb); clear BK4001; clear BK4002; clear HB; have BK4001 := n0_; have BK4002 := n1_; have HB := n2_; clear n0_ n1_ n2_; (try clear hb); (try clear hb2); (try clear hk); (try clear hi)))
    go_ret
    exact ⟨by first | rfl | (simp [errW_none, errW_some] <;> rfl) | (simp [*, errW_none, errW_some] <;> rfl), by repeat (first | (with_reducible first | exact HB.out | apply below_alloc | apply pw_below_drewN | apply below_drew1 | refine below_set ?_ GE4001.out | refine below_set ?_ GE4002.out) | exact HB.out)⟩
  · rw [if_neg c4] at H
    have c4b0 : decide (t4003 < 0) = false := decide_eq_false c4
    clear c4
    replace H := Option.bind_eq_some_iff.mp H
    obtain ⟨t4004, A100, H⟩ := H
    replace H : (if t4004 < 0 then (some true) else ((laws_toState.f k a0_0 a0_1 l0_2).bind fun bt4005 => ((laws_toState.f k a1_0 a1_1 l1_2).bind fun bt4010 => ((spec_EqualState.f k bt4005.1 bt4005.2.1 bt4005.2.2 bt4010.1 bt4010.2.1 bt4010.2.2).bind fun t4015 => ((laws_toState.f k a0_0 a0_1 l0_2).bind fun bt4016 => ((laws_toState.f k a1_0 a1_1 l1_2).bind fun bt4022 => ((impl_EqualState.f k bt4016.1 bt4016.2.1 bt4016.2.2 bt4022.1 bt4022.2.1 bt4022.2.2).bind fun t4028 => (if (t4028 != t4015) = true then (some false) else ((laws_toState.f k a0_0 a0_1 l0_2).bind fun bt4029 => ((laws_eqState.f k bt4016.1 bt4016.2.1 bt4016.2.2 bt4029.1 bt4029.2.1 bt4029.2.2).bind fun t4034 => (if t4034 = true then ((laws_toState.f k a1_0 a1_1 l1_2).bind fun bt4035 => ((laws_eqState.f k bt4022.1 bt4022.2.1 bt4022.2.2 bt4035.1 bt4035.2.1 bt4035.2.2).bind fun t4040 => (if t4040 = true then (some true) else (some false)))) else (some false)))))))))))) = some r := H
    have A10 := Aside0.mk A100
    clear A100
    by_cases c11 : t4004 < 0
    · rw [if_pos c11] at H
      have c11b0 : decide (t4004 < 0) = true := decide_eq_true c11
      clear c11
      obtain rfl := Option.some.inj H
      go_enter Try.func4, Try.ntmps4
      go_wp2_with (first | ((with_reducible refine gate_dst (N := 2) rfl ?_); refine box_event ?hg (N := 2) ?hd (cs := #[.string a0_0, .string a0_1, .slice A0_2 l0_2.length c0_2]) (t := 47) ?hr ?_; (case hd => rfl); (case hg => rfl); (case hr => first | (go_simp; done) | (go_simp; rfl)); intro gb4001 hg w12 hbox hb; have n0_ := Aside0.mk (below_step (by repeat (first | (with_reducible first | exact HB.out | apply below_alloc | apply pw_below_drewN | apply below_drew1) | exact HB.out)) hb); have n1_ := Aside0.mk (hbox); have n2_ := Aside0.mk ((by rw [hg]; exact (below_size (by repeat (first | (with_reducible first | exact HB.out | apply below_alloc | apply pw_below_drewN | apply below_drew1) | exact HB.out))) : w.heap.size ≤ gb4001)); have n3_ := Aside0.mk ((by rw [hg]; exact (below_size (by repeat (first | (with_reducible first | exact HB.out | apply below_alloc | apply pw_below_drewN | apply below_drew1) | exact HB.out))) : w.heap.size ≤ gb4001)); clear HB; have HB := n0_; have BK4001 := n1_; have GW4001 := n2_; have GE4001 := n3_; clear n0_ n1_ n2_ n3_; clear hb hbox hg) | ((with_reducible refine gate_dst (N := 3) rfl ?_); refine box_event ?hg (N := 3) ?hd (cs := #[.string a1_0, .string a1_1, .slice A1_2 l1_2.length c1_2]) (t := 47) ?hr ?_; (case hd => rfl); (case hg => rfl); (case hr => first | (go_simp; done) | (go_simp; rfl)); intro gb4002 hg w13 hbox hb; have n0_ := Aside0.mk (blk_below (g := gb4001) (o := .cells #[.string a0_0, .string a0_1, .slice A0_2 l0_2.length c0_2] 47 (0, 0)) (by (with_reducible repeat (first | refine blk_drewN ?_ _ | refine blk_drew ?_ | refine blk_alloc ?_ _)); exact BK4001.out) hb); have n1_ := Aside0.mk (below_step (by repeat (first | (with_reducible first | exact HB.out | apply below_alloc | apply pw_below_drewN | apply below_drew1 | refine below_set ?_ GE4001.out) | exact HB.out)) hb); have n2_ := Aside0.mk (hbox); have n3_ := Aside0.mk ((by rw [hg]; exact (below_size (by repeat (first | (with_reducible first | exact HB.out | apply below_alloc | apply pw_below_drewN | apply below_drew1 | refine below_set ?_ GE4001.out) | exact HB.out))) : w.heap.size ≤ gb4002)); have n4_ := Aside0.mk ((by rw [hg]; exact (below_size (by repeat (first | (with_reducible first | exact HB.out | apply below_alloc | apply pw_below_drewN | apply below_drew1 | refine below_set ?_ GE4001.out) | exact HB.out))) : w.heap.size ≤ gb4002)); have n5_ := Aside0.mk ((by rw [hg]; exact Nat.ne_of_lt (blk_lt (g := gb4001) (o := .cells #[.string a0_0, .string a0_1, .slice A0_2 l0_2.length c0_2] 47 (0, 0)) (by (with_reducible repeat (first | refine blk_drewN ?_ _ | refine blk_drew ?_ | refine blk_alloc ?_ _)); exact BK4001.out)) : gb4001 ≠ gb4002)); have n6_ := Aside0.mk ((by rw [hg]; exact Nat.ne_of_gt (blk_lt (g := gb4001) (o := .cells #[.string a0_0, .string a0_1, .slice A0_2 l0_2.length c0_2] 47 (0, 0)) (by (with_reducible repeat (first | refine blk_drewN ?_ _ | refine blk_drew ?_ | refine blk_alloc ?_ _)); exact BK4001.out)) : gb4002 ≠ gb4001)); clear BK4001; clear HB; have BK4001 := n0_; have HB := n1_; have BK4002 := n2_; have GW4002 := n3_; have GE4002 := n4_; have NB4001_4002 := n5_; have NB4002_4001 := n6_; clear n0_ n1_ n2_ n3_ n4_ n5_ n6_; clear hb hbox hg; have hnb14 := NB4001_4002.out; have hnc14 := NB4002_4001.out; have hcz15_0 : w13.cell? ⟨gb4001, 0, none⟩ = some (.string a0_0) := (blk_cell BK4001.out 0).trans rfl; have hcz15_1 : w13.cell? ⟨gb4001, 1, none⟩ = some (.string a0_1) := (blk_cell BK4001.out 1).trans rfl; have hcz15_2 : w13.cell? ⟨gb4001, 2, none⟩ = some (.slice A0_2 l0_2.length c0_2) := (blk_cell BK4001.out 2).trans rfl; have hfz15_0 := blk_frozen BK4001.out 0; have hfz15_1 := blk_frozen BK4001.out 1; have hfz15_2 := blk_frozen BK4001.out 2) | ((with_reducible refine gate_callee (f := 28) rfl ?_); refine goesL_ (some 12) rfl rfl Try.func28 (by kernel_rfl) rfl #[.agg #[.string a0_0, .string a0_1, .slice A0_2 l0_2.length c0_2], .int .i64 1048576] rfl (by (try simp only [List.map_toArray, List.map_cons, List.map_nil]); first | done | rfl | (simp only [List.length_drop, List.length_take]; rfl)) ?_; (with_reducible refine (laws_szState.calls a0_0 a0_1 _ _ l0_2 1048576 t4003 _ ?side1 ?side2 A3.out).mono ?_); (case side1 => repeat (first | exact (Kd.C_below HR0_2.out HB.out) | (with_reducible refine Kd.C_alloc ?_ _) | (with_reducible refine Kd.C_drewN ?_ _) | (with_reducible refine Kd.C_drew ?_))); (case side2 => exact HC0_2.out); rintro e w16 ⟨rfl, hb⟩; refine ⟨_, rfl, ?_⟩; have n0_ := Aside0.mk (blk_below (g := gb4001) (o := .cells #[.string a0_0, .string a0_1, .slice A0_2 l0_2.length c0_2] 47 (0, 0)) (by (with_reducible repeat (first | refine blk_drewN ?_ _ | refine blk_drew ?_ | refine blk_alloc ?_ _)); exact BK4001.out) hb); have n1_ := Aside0.mk (blk_below (g := gb4002) (o := .cells #[.string a1_0, .string a1_1, .slice A1_2 l1_2.length c1_2] 47 (0, 0)) (by (with_reducible repeat (first | refine blk_drewN ?_ _ | refine blk_drew ?_ | refine blk_alloc ?_ _)); exact BK4002.out) hb); have n2_ := Aside0.mk (below_step (by repeat (first | (with_reducible first | exact HB.out | apply below_alloc | apply pw_below_drewN | apply below_drew1 | refine below_set ?_ GE4001.out | refine below_set ?_ GE4002.out) | exact HB.out)) hb); clear BK4001; clear BK4002; clear HB; have BK4001 := n0_; have BK4002 := n1_; have HB := n2_; clear n0_ n1_ n2_; (try clear hb); (try clear hb2); (try clear hk); (try clear hi); have hcz17_0 : w16.cell? ⟨gb4002, 0, none⟩ = some (.string a1_0) := (blk_cell BK4002.out 0).trans rfl; have hcz17_1 : w16.cell? ⟨gb4002, 1, none⟩ = some (.string a1_1) := (blk_cell BK4002.out 1).trans rfl; have hcz17_2 : w16.cell? ⟨gb4002, 2, none⟩ = some (.slice A1_2 l1_2.length c1_2) := (blk_cell BK4002.out 2).trans rfl; have hfz17_0 := blk_frozen BK4002.out 0; have hfz17_1 := blk_frozen BK4002.out 1; have hfz17_2 := blk_frozen BK4002.out 2) | ((with_reducible refine gate_callee (f := 28) rfl ?_); refine goesL_ (some 17) rfl rfl Try.func28 (by kernel_rfl) rfl #[.agg #[.string a1_0, .string a1_1, .slice A1_2 l1_2.length c1_2], .int .i64 t4003] rfl (by (try simp only [List.map_toArray, List.map_cons, List.map_nil]); first | done | rfl | (simp only [List.length_drop, List.length_take]; rfl)) ?_; (with_reducible refine (laws_szState.calls a1_0 a1_1 _ _ l1_2 t4003 t4004 _ ?side1 ?side2 A10.out).mono ?_); (case side1 => repeat (first | exact (Kd.C_below HR1_2.out HB.out) | (with_reducible refine Kd.C_alloc ?_ _) | (with_reducible refine Kd.C_drewN ?_ _) | (with_reducible refine Kd.C_drew ?_))); (case side2 => exact HC1_2.out); rintro e w18 ⟨rfl, hb⟩; refine ⟨_, rfl, ?_⟩; have n0_ := Aside0.mk (blk_below (g := gb4001) (o := .cells #[.string a0_0, .string a0_1, .slice A0_2 l0_2.length c0_2] 47 (0, 0)) (by (with_reducible repeat (first | refine blk_drewN ?_ _ | refine blk_drew ?_ | refine blk_alloc ?_ _)); exact BK4001.out) hb); have n1_ := Aside0.mk (blk_below (g := gb4002) (o := .cells #[.string a1_0, .string a1_1, .slice A1_2 l1_2.length c1_2] 47 (0, 0)) (by (with_reducible repeat (first | refine blk_drewN ?_ _ | refine blk_drew ?_ | refine blk_alloc ?_ _)); exact BK4002.out) hb); have n2_ := Aside0.mk (below_step (by repeat (first | (with_reducible first | exact HB.out | apply below_alloc | apply pw_below_drewN | apply below_drew1 | refine below_set ?_ GE4001.out | refine below_set ?_ GE4002.out) | exact HB.out)) hb); clear BK4001; clear BK4002; clear HB; have BK4001 := n0_; have BK4002 := n1_; have HB := n2_; clear n0_ n1_ n2_; (try clear hb); (try clear hb2); (try clear hk); (try clear hi)))
      go_ret
      exact ⟨by first | rfl | (simp [errW_none, errW_some] <;> rfl) | (simp [*, errW_none, errW_some] <;> rfl), by repeat (first | (with_reducible first | exact HB.out | apply below_alloc | apply pw_below_drewN | apply below_drew1 | refine below_set ?_ GE4001.out | refine below_set ?_ GE4002.out) | exact HB.out)⟩
    · rw [if_neg c11] at H
      have c11b0 : decide (t4004 < 0) = false := decide_eq_false c11
      clear c11
      replace H := Option.bind_eq_some_iff.mp H
      obtain ⟨⟨t4005, t4006, t4007⟩, A190, H⟩ := H
      replace H : ((laws_toState.f k a1_0 a1_1 l1_2).bind fun bt4010 => ((spec_EqualState.f k t4005 t4006 t4007 bt4010.1 bt4010.2.1 bt4010.2.2).bind fun t4015 => ((laws_toState.f k a0_0 a0_1 l0_2).bind fun bt4016 => ((laws_toState.f k a1_0 a1_1 l1_2).bind fun bt4022 => ((impl_EqualState.f k bt4016.1 bt4016.2.1 bt4016.2.2 bt4022.1 bt4022.2.1 bt4022.2.2).bind fun t4028 => (if (t4028 != t4015) = true then (some false) else ((laws_toState.f k a0_0 a0_1 l0_2).bind fun bt4029 => ((laws_eqState.f k bt4016.1 bt4016.2.1 bt4016.2.2 bt4029.1 bt4029.2.1 bt4029.2.2).bind fun t4034 => (if t4034 = true then ((laws_toState.f k a1_0 a1_1 l1_2).bind fun bt4035 => ((laws_eqState.f k bt4022.1 bt4022.2.1 bt4022.2.2 bt4035.1 bt4035.2.1 bt4035.2.2).bind fun t4040 => (if t4040 = true then (some true) else (some false)))) else (some false)))))))))) = some r := H
      have A19 := Aside0.mk A190
      clear A190
      replace H := Option.bind_eq_some_iff.mp H
      obtain ⟨⟨t4010, t4011, t4012⟩, A200, H⟩ := H
      replace H : ((spec_EqualState.f k t4005 t4006 t4007 t4010 t4011 t4012).bind fun t4015 => ((laws_toState.f k a0_0 a0_1 l0_2).bind fun bt4016 => ((laws_toState.f k a1_0 a1_1 l1_2).bind fun bt4022 => ((impl_EqualState.f k bt4016.1 bt4016.2.1 bt4016.2.2 bt4022.1 bt4022.2.1 bt4022.2.2).bind fun t4028 => (if (t4028 != t4015) = true then (some false) else ((laws_toState.f k a0_0 a0_1 l0_2).bind fun bt4029 => ((laws_eqState.f k bt4016.1 bt4016.2.1 bt4016.2.2 bt4029.1 bt4029.2.1 bt4029.2.2).bind fun t4034 => (if t4034 = true then ((laws_toState.f k a1_0 a1_1 l1_2).bind fun bt4035 => ((laws_eqState.f k bt4022.1 bt4022.2.1 bt4022.2.2 bt4035.1 bt4035.2.1 bt4035.2.2).bind fun t4040 => (if t4040 = true then (some true) else (some false)))) else (some false))))))))) = some r := H
      have A20 := Aside0.mk A200
      clear A200
      replace H := Option.bind_eq_some_iff.mp H
      obtain ⟨t4015, A210, H⟩ := H
      replace H : ((laws_toState.f k a0_0 a0_1 l0_2).bind fun bt4016 => ((laws_toState.f k a1_0 a1_1 l1_2).bind fun bt4022 => ((impl_EqualState.f k bt4016.1 bt4016.2.1 bt4016.2.2 bt4022.1 bt4022.2.1 bt4022.2.2).bind fun t4028 => (if (t4028 != t4015) = true then (some false) else ((laws_toState.f k a0_0 a0_1 l0_2).bind fun bt4029 => ((laws_eqState.f k bt4016.1 bt4016.2.1 bt4016.2.2 bt4029.1 bt4029.2.1 bt4029.2.2).bind fun t4034 => (if t4034 = true then ((laws_toState.f k a1_0 a1_1 l1_2).bind fun bt4035 => ((laws_eqState.f k bt4022.1 bt4022.2.1 bt4022.2.2 bt4035.1 bt4035.2.1 bt4035.2.2).bind fun t4040 => (if t4040 = true then (some true) else (some false)))) else (some false)))))))) = some r := H
      have A21 := Aside0.mk A210
      clear A210
      replace H := Option.bind_eq_some_iff.mp H
      obtain ⟨⟨t4016, t4017, t4018⟩, A220, H⟩ := H
      replace H : ((laws_toState.f k a1_0 a1_1 l1_2).bind fun bt4022 => ((impl_EqualState.f k t4016 t4017 t4018 bt4022.1 bt4022.2.1 bt4022.2.2).bind fun t4028 => (if (t4028 != t4015) = true then (some false) else ((laws_toState.f k a0_0 a0_1 l0_2).bind fun bt4029 => ((laws_eqState.f k t4016 t4017 t4018 bt4029.1 bt4029.2.1 bt4029.2.2).bind fun t4034 => (if t4034 = true then ((laws_toState.f k a1_0 a1_1 l1_2).bind fun bt4035 => ((laws_eqState.f k bt4022.1 bt4022.2.1 bt4022.2.2 bt4035.1 bt4035.2.1 bt4035.2.2).bind fun t4040 => (if t4040 = true then (some true) else (some false)))) else (some false))))))) = some r := H
      have A22 := Aside0.mk A220
      clear A220
      replace H := Option.bind_eq_some_iff.mp H
      obtain ⟨⟨t4022, t4023, t4024⟩, A230, H⟩ := H
      replace H : ((impl_EqualState.f k t4016 t4017 t4018 t4022 t4023 t4024).bind fun t4028 => (if (t4028 != t4015) = true then (some false) else ((laws_toState.f k a0_0 a0_1 l0_2).bind fun bt4029 => ((laws_eqState.f k t4016 t4017 t4018 bt4029.1 bt4029.2.1 bt4029.2.2).bind fun t4034 => (if t4034 = true then ((laws_toState.f k a1_0 a1_1 l1_2).bind fun bt4035 => ((laws_eqState.f k t4022 t4023 t4024 bt4035.1 bt4035.2.1 bt4035.2.2).bind fun t4040 => (if t4040 = true then (some true) else (some false)))) else (some false)))))) = some r := H
      have A23 := Aside0.mk A230
      clear A230
      replace H := Option.bind_eq_some_iff.mp H
      obtain ⟨t4028, A240, H⟩ := H
      replace H : (if (t4028 != t4015) = true then (some false) else ((laws_toState.f k a0_0 a0_1 l0_2).bind fun bt4029 => ((laws_eqState.f k t4016 t4017 t4018 bt4029.1 bt4029.2.1 bt4029.2.2).bind fun t4034 => (if t4034 = true then ((laws_toState.f k a1_0 a1_1 l1_2).bind fun bt4035 => ((laws_eqState.f k t4022 t4023 t4024 bt4035.1 bt4035.2.1 bt4035.2.2).bind fun t4040 => (if t4040 = true then (some true) else (some false)))) else (some false))))) = some r := H
      have A24 := Aside0.mk A240
      clear A240
      by_cases c25 : (t4028 != t4015) = true
      · rw [if_pos c25] at H
        have c25b0 : (t4028 != t4015) = true := c25
        (try (have c25b1 : decide (t4028 = t4015) = false := by simpa using c25))
        (try (have c25b2 : (t4028 == t4015) = false := by simpa using c25))
        (try (have c25b3 : ¬ (t4028 = t4015) := by simpa using c25))
        clear c25
        obtain rfl := Option.some.inj H
        go_enter Try.func4, Try.ntmps4
        try go_wp2_with (first | ((with_reducible refine gate_dst (N := 2) rfl ?_); refine box_event ?hg (N := 2) ?hd (cs := #[.string a0_0, .string a0_1, .slice A0_2 l0_2.length c0_2]) (t := 47) ?hr ?_; (case hd => rfl); (case hg => rfl); (case hr => first | (go_simp; done) | (go_simp; rfl)); intro gb4001 hg w26 hbox hb; have n0_ := Aside0.mk (below_step (by repeat (first | (with_reducible first | exact HB.out | apply below_alloc | apply pw_below_drewN | apply below_drew1) | exact HB.out)) hb); have n1_ := Aside0.mk (hbox); have n2_ := Aside0.mk ((by rw [hg]; exact (below_size (by repeat (first | (with_reducible first | exact HB.out | apply below_alloc | apply pw_below_drewN | apply below_drew1) | exact HB.out))) : w.heap.size ≤ gb4001)); have n3_ := Aside0.mk ((by rw [hg]; exact (below_size (by repeat (first | (with_reducible first | exact HB.out | apply below_alloc | apply pw_below_drewN | apply below_drew1) | exact HB.out))) : w.heap.size ≤ gb4001)); clear HB; have HB := n0_; have BK4001 := n1_; have GW4001 := n2_; have GE4001 := n3_; clear n0_ n1_ n2_ n3_; clear hb hbox hg) | ((with_reducible refine gate_dst (N := 3) rfl ?_); refine box_event ?hg (N := 3) ?hd (cs := #[.string a1_0, .string a1_1, .slice A1_2 l1_2.length c1_2]) (t := 47) ?hr ?_; (case hd => rfl); (case hg => rfl); (case hr => first | (go_simp; done) | (go_simp; rfl)); intro gb4002 hg w27 hbox hb; have n0_ := Aside0.mk (blk_below (g := gb4001) (o := .cells #[.string a0_0, .string a0_1, .slice A0_2 l0_2.length c0_2] 47 (0, 0)) (by (with_reducible repeat (first | refine blk_drewN ?_ _ | refine blk_drew ?_ | refine blk_alloc ?_ _)); exact BK4001.out) hb); have n1_ := Aside0.mk (below_step (by repeat (first | (with_reducible first | exact HB.out | apply below_alloc | apply pw_below_drewN | apply below_drew1 | refine below_set ?_ GE4001.out) | exact HB.out)) hb); have n2_ := Aside0.mk (hbox); have n3_ := Aside0.mk ((by rw [hg]; exact (below_size (by repeat (first | (with_reducible first | exact HB.out | apply below_alloc | apply pw_below_drewN | apply below_drew1 | refine below_set ?_ GE4001.out) | exact HB.out))) : w.heap.size ≤ gb4002)); have n4_ := Aside0.mk ((by rw [hg]; exact (below_size (by repeat (first | (with_reducible first | exact HB.out | apply below_alloc | apply pw_below_drewN | apply below_drew1 | refine below_set ?_ GE4001.out) | exact HB.out))) : w.heap.size ≤ gb4002)); have n5_ := Aside0.mk ((by rw [hg]; exact Nat.ne_of_lt (blk_lt (g := gb4001) (o := .cells #[.string a0_0, .string a0_1, .slice A0_2 l0_2.length c0_2] 47 (0, 0)) (by (with_reducible repeat (first | refine blk_drewN ?_ _ | refine blk_drew ?_ | refine blk_alloc ?_ _)); exact BK4001.out)) : gb4001 ≠ gb4002)); have n6_ := Aside0.mk ((by rw [hg]; exact Nat.ne_of_gt (blk_lt (g := gb4001) (o := .cells #[.string a0_0, .string a0_1, .slice A0_2 l0_2.length c0_2] 47 (0, 0)) (by (with_reducible repeat (first | refine blk_drewN ?_ _ | refine blk_drew ?_ | refine blk_alloc ?_ _)); exact BK4001.out)) : gb4002 ≠ gb4001)); clear BK4001; clear HB; have BK4001 := n0_; have HB := n1_; have BK4002 := n2_; have GW4002 := n3_; have GE4002 := n4_; have NB4001_4002 := n5_; have NB4002_4001 := n6_; clear n0_ n1_ n2_ n3_ n4_ n5_ n6_; clear hb hbox hg; have hnb28 := NB4001_4002.out; have hnc28 := NB4002_4001.out; have hcz29_0 : w27.cell? ⟨gb4001, 0, none⟩ = some (.string a0_0) := (blk_cell BK4001.out 0).trans rfl; have hcz29_1 : w27.cell? ⟨gb4001, 1, none⟩ = some (.string a0_1) := (blk_cell BK4001.out 1).trans rfl; have hcz29_2 : w27.cell? ⟨gb4001, 2, none⟩ = some (.slice A0_2 l0_2.length c0_2) := (blk_cell BK4001.out 2).trans rfl; have hfz29_0 := blk_frozen BK4001.out 0; have hfz29_1 := blk_frozen BK4001.out 1; have hfz29_2 := blk_frozen BK4001.out 2) | ((with_reducible refine gate_callee (f := 28) rfl ?_); refine goesL_ (some 12) rfl rfl Try.func28 (by kernel_rfl) rfl #[.agg #[.string a0_0, .string a0_1, .slice A0_2 l0_2.length c0_2], .int .i64 1048576] rfl (by (try simp only [List.map_toArray, List.map_cons, List.map_nil]); first | done | rfl | (simp only [List.length_drop, List.length_take]; rfl)) ?_; (with_reducible refine (laws_szState.calls a0_0 a0_1 _ _ l0_2 1048576 t4003 _ ?side1 ?side2 A3.out).mono ?_); (case side1 => repeat (first | exact (Kd.C_below HR0_2.out HB.out) | (with_reducible refine Kd.C_alloc ?_ _) | (with_reducible refine Kd.C_drewN ?_ _) | (with_reducible refine Kd.C_drew ?_))); (case side2 => exact HC0_2.out); rintro e w30 ⟨rfl, hb⟩; refine ⟨_, rfl, ?_⟩; have n0_ := Aside0.mk (blk_below (g := gb4001) (o := .cells #[.string a0_0, .string a0_1, .slice A0_2 l0_2.length c0_2] 47 (0, 0)) (by (with_reducible repeat (first | refine blk_drewN ?_ _ | refine blk_drew ?_ | refine blk_alloc ?_ _)); exact BK4001.out) hb); have n1_ := Aside0.mk (blk_below (g := gb4002) (o := .cells #[.string a1_0, .string a1_1, .slice A1_2 l1_2.length c1_2] 47 (0, 0)) (by (with_reducible repeat (first | refine blk_drewN ?_ _ | refine blk_drew ?_ | refine blk_alloc ?_ _)); exact BK4002.out) hb); have n2_ := Aside0.mk (below_step (by repeat (first | (with_reducible first | exact HB.out | apply below_alloc | apply pw_below_drewN | apply below_drew1 | refine below_set ?_ GE4001.out | refine below_set ?_ GE4002.out) | exact HB.out)) hb); clear BK4001; clear BK4002; clear HB; have BK4001 := n0_; have BK4002 := n1_; have HB := n2_; clear n0_ n1_ n2_; (try clear hb); (try clear hb2); (try clear hk); (try clear hi); have hcz31_0 : w30.cell? ⟨gb4002, 0, none⟩ = some (.string a1_0) := (blk_cell BK4002.out 0).trans rfl; have hcz31_1 : w30.cell? ⟨gb4002, 1, none⟩ = some (.string a1_1) := (blk_cell BK4002.out 1).trans rfl; have hcz31_2 : w30.cell? ⟨gb4002, 2, none⟩ = some (.slice A1_2 l1_2.length c1_2) := (blk_cell BK4002.out 2).trans rfl; have hfz31_0 := blk_frozen BK4002.out 0; have hfz31_1 := blk_frozen BK4002.out 1; have hfz31_2 := blk_frozen BK4002.out 2) | ((with_reducible refine gate_callee (f := 28) rfl ?_); refine goesL_ (some 17) rfl rfl Try.func28 (by kernel_rfl) rfl #[.agg #[.string a1_0, .string a1_1, .slice A1_2 l1_2.length c1_2], .int .i64 t4003] rfl (by (try simp only [List.map_toArray, List.map_cons, List.map_nil]); first | done | rfl | (simp only [List.length_drop, List.length_take]; rfl)) ?_; (with_reducible refine (laws_szState.calls a1_0 a1_1 _ _ l1_2 t4003 t4004 _ ?side1 ?side2 A10.out).mono ?_); (case side1 => repeat (first | exact (Kd.C_below HR1_2.out HB.out) | (with_reducible refine Kd.C_alloc ?_ _) | (with_reducible refine Kd.C_drewN ?_ _) | (with_reducible refine Kd.C_drew ?_))); (case side2 => exact HC1_2.out); rintro e w32 ⟨rfl, hb⟩; refine ⟨_, rfl, ?_⟩; have n0_ := Aside0.mk (blk_below (g := gb4001) (o := .cells #[.string a0_0, .string a0_1, .slice A0_2 l0_2.length c0_2] 47 (0, 0)) (by (with_reducible repeat (first | refine blk_drewN ?_ _ | refine blk_drew ?_ | refine blk_alloc ?_ _)); exact BK4001.out) hb); have n1_ := Aside0.mk (blk_below (g := gb4002) (o := .cells #[.string a1_0, .string a1_1, .slice A1_2 l1_2.length c1_2] 47 (0, 0)) (by (with_reducible repeat (first | refine blk_drewN ?_ _ | refine blk_drew ?_ | refine blk_alloc ?_ _)); exact BK4002.out) hb); have n2_ := Aside0.mk (below_step (by repeat (first | (with_reducible first | exact HB.out | apply below_alloc | apply pw_below_drewN | apply below_drew1 | refine below_set ?_ GE4001.out | refine below_set ?_ GE4002.out) | exact HB.out)) hb); clear BK4001; clear BK4002; clear HB; have BK4001 := n0_; have BK4002 := n1_; have HB := n2_; clear n0_ n1_ n2_; (try clear hb); (try clear hb2); (try clear hk); (try clear hi)))
        have n0_ := Aside0.mk (blk_drew BK4001.out)
        have n1_ := Aside0.mk (blk_drew BK4002.out)
        have n2_ := Aside0.mk (below_drew1 HB.out)
        clear BK4001
        clear BK4002
        clear HB
        have BK4001 := n0_
        have BK4002 := n1_
        have HB := n2_
        clear n0_ n1_ n2_
        refine start_ (n := 6) (S := fun w' => w'.cell? ⟨gb4001, 0, none⟩ = some (.string a0_0) ∧ w'.cell? ⟨gb4001, 1, none⟩ = some (.string a0_1) ∧ w'.cell? ⟨gb4001, 2, none⟩ = some (.slice A0_2 l0_2.length c0_2) ∧ w'.cell? ⟨gb4002, 0, none⟩ = some (.string a1_0) ∧ w'.cell? ⟨gb4002, 1, none⟩ = some (.string a1_1) ∧ w'.cell? ⟨gb4002, 2, none⟩ = some (.slice A1_2 l1_2.length c1_2)) (ds := []) #[false, false, false, false, false, false] (by kernel_rfl) rfl rfl ⟨(blk_cell BK4001.out 0).trans rfl, (blk_cell BK4001.out 1).trans rfl, (blk_cell BK4001.out 2).trans rfl, (blk_cell BK4002.out 0).trans rfl, (blk_cell BK4002.out 1).trans rfl, (blk_cell BK4002.out 2).trans rfl⟩ (fun hHeld => ?_)
        generalize w32.drew = w33 at BK4001 BK4002 HB hHeld ⊢
        refine take_ (i := 0) (N := some 20) (v := ?_) (a' := ?_) #[true, false, false, false, false, false] rfl rfl (by kernel_rfl) (fun _ _ _ h => h) (Or.inl ⟨by rfl, ?_⟩) hHeld ?_ ?_
        rotate_left
        · rintro w' ⟨s0, s1, s2, s3, s4, s5⟩
          go_simp
          first | with_reducible rfl | (rw [if_neg (by omega)]; done)
        rotate_left
        · simp only [Act.put, List.setIfInBounds_toArray, List.set_cons_zero, List.set_cons_succ, i64_w, i32_w]
          rfl
        refine take_ (i := 2) (N := some 22) (v := ?_) (a' := ?_) #[true, false, true, false, false, false] rfl rfl (by kernel_rfl) (fun _ _ _ h => h) (Or.inl ⟨by rfl, ?_⟩) hHeld ?_ ?_
        rotate_left
        · rintro w' ⟨s0, s1, s2, s3, s4, s5⟩
          go_simp
          first | with_reducible rfl | (rw [if_neg (by omega)]; done)
        rotate_left
        · simp only [Act.put, List.setIfInBounds_toArray, List.set_cons_zero, List.set_cons_succ, i64_w, i32_w]
          rfl
        refine one_ (i := 1) (N := some 21) #[true, true, true, false, false, false] rfl rfl (by kernel_rfl) (by decide) (fun K hK => ?_)
        refine goes_ Try.func30 (by kernel_rfl) rfl #[.agg #[.string a0_0, .string a0_1, .slice A0_2 l0_2.length c0_2]] (by rfl) rfl rfl (by (try simp only [List.map_toArray, List.map_cons, List.map_nil]); first | done | rfl | (simp only [List.length_drop, List.length_take]; rfl)) ?_
        with_reducible refine (laws_toState.calls k a0_0 a0_1 _ _ l0_2 t4005 t4006 t4007 _ ?side1 ?side2 A19.out).mono ?_
        (case side1 => repeat (first | exact (Kd.C_below HR0_2.out HB.out) | (with_reducible refine Kd.C_alloc ?_ _) | (with_reducible refine Kd.C_drewN ?_ _) | (with_reducible refine Kd.C_drew ?_)))
        (case side2 => exact HC0_2.out)
        rintro e w34 ⟨v4008, rfl, ho0, hb⟩
        refine ⟨_, rfl, ?_⟩
        have n0_ := Aside0.mk (Kd.R_lower ho0 (below_size (by repeat (first | (with_reducible first | exact HB.out | apply below_alloc | apply pw_below_drewN | apply below_drew1 | refine below_set ?_ GE4001.out | refine below_set ?_ GE4002.out) | exact HB.out))))
        have n1_ := Aside0.mk (blk_below (g := gb4001) (o := .cells #[.string a0_0, .string a0_1, .slice A0_2 l0_2.length c0_2] 47 (0, 0)) (by (with_reducible repeat (first | refine blk_drewN ?_ _ | refine blk_drew ?_ | refine blk_alloc ?_ _)); exact BK4001.out) hb)
        have n2_ := Aside0.mk (blk_below (g := gb4002) (o := .cells #[.string a1_0, .string a1_1, .slice A1_2 l1_2.length c1_2] 47 (0, 0)) (by (with_reducible repeat (first | refine blk_drewN ?_ _ | refine blk_drew ?_ | refine blk_alloc ?_ _)); exact BK4002.out) hb)
        have n3_ := Aside0.mk (below_step (by repeat (first | (with_reducible first | exact HB.out | apply below_alloc | apply pw_below_drewN | apply below_drew1 | refine below_set ?_ GE4001.out | refine below_set ?_ GE4002.out) | exact HB.out)) hb)
        clear BK4001
        clear BK4002
        clear HB
        have HO4009 := n0_
        have BK4001 := n1_
        have BK4002 := n2_
        have HB := n3_
        clear n0_ n1_ n2_ n3_
        (try clear hb)
        (try clear hb2)
        (try clear hk)
        (try clear hi)
        (try clear ho0)
        refine hK.out _ _ ⟨(blk_cell BK4001.out 0).trans rfl, (blk_cell BK4001.out 1).trans rfl, (blk_cell BK4001.out 2).trans rfl, (blk_cell BK4002.out 0).trans rfl, (blk_cell BK4002.out 1).trans rfl, (blk_cell BK4002.out 2).trans rfl⟩ (fun hHeld => ?_)
        clear hK K
        refine norm_ (a' := ?_) ?_ ?_
        rotate_left
        · show Act.put _ (some 21) _ = _
          simp only [Act.put, List.setIfInBounds_toArray, List.set_cons_zero, List.set_cons_succ, i64_w, i32_w]
          rfl
        refine one_ (i := 3) (N := some 23) #[true, true, true, true, false, false] rfl rfl (by kernel_rfl) (by decide) (fun K hK => ?_)
        refine goes_ Try.func30 (by kernel_rfl) rfl #[.agg #[.string a1_0, .string a1_1, .slice A1_2 l1_2.length c1_2]] (by rfl) rfl rfl (by (try simp only [List.map_toArray, List.map_cons, List.map_nil]); first | done | rfl | (simp only [List.length_drop, List.length_take]; rfl)) ?_
        with_reducible refine (laws_toState.calls k a1_0 a1_1 _ _ l1_2 t4010 t4011 t4012 _ ?side1 ?side2 A20.out).mono ?_
        (case side1 => repeat (first | exact (Kd.C_below HR1_2.out HB.out) | (with_reducible refine Kd.C_alloc ?_ _) | (with_reducible refine Kd.C_drewN ?_ _) | (with_reducible refine Kd.C_drew ?_)))
        (case side2 => exact HC1_2.out)
        rintro e w35 ⟨v4013, rfl, ho0, hb⟩
        refine ⟨_, rfl, ?_⟩
        have n0_ := Aside0.mk (Kd.R_elder' (by (with_reducible repeat (first | apply Kd.R_alloc | apply Kd.R_drewN | apply Kd.R_drew)); exact HO4009.out) (Kd.R_base ho0) hb)
        have n1_ := Aside0.mk (Kd.R_lower (Kd.R_new' ho0 (Kd.R_lt (by (with_reducible repeat (first | apply Kd.R_alloc | apply Kd.R_drewN | apply Kd.R_drew)); exact HO4009.out))) (below_size (by repeat (first | (with_reducible first | exact HB.out | apply below_alloc | apply pw_below_drewN | apply below_drew1 | refine below_set ?_ GE4001.out | refine below_set ?_ GE4002.out) | exact HB.out))))
        have n2_ := Aside0.mk (blk_below (g := gb4001) (o := .cells #[.string a0_0, .string a0_1, .slice A0_2 l0_2.length c0_2] 47 (0, 0)) (by (with_reducible repeat (first | refine blk_drewN ?_ _ | refine blk_drew ?_ | refine blk_alloc ?_ _)); exact BK4001.out) hb)
        have n3_ := Aside0.mk (blk_below (g := gb4002) (o := .cells #[.string a1_0, .string a1_1, .slice A1_2 l1_2.length c1_2] 47 (0, 0)) (by (with_reducible repeat (first | refine blk_drewN ?_ _ | refine blk_drew ?_ | refine blk_alloc ?_ _)); exact BK4002.out) hb)
        have n4_ := Aside0.mk (below_step (by repeat (first | (with_reducible first | exact HB.out | apply below_alloc | apply pw_below_drewN | apply below_drew1 | refine below_set ?_ GE4001.out | refine below_set ?_ GE4002.out) | exact HB.out)) hb)
        clear HO4009
        clear BK4001
        clear BK4002
        clear HB
        have HO4009 := n0_
        have HO4014 := n1_
        have BK4001 := n2_
        have BK4002 := n3_
        have HB := n4_
        clear n0_ n1_ n2_ n3_ n4_
        (try clear hb)
        (try clear hb2)
        (try clear hk)
        (try clear hi)
        (try clear ho0)
        obtain ⟨Ao36, co36, eo36⟩ := Kd.R_slice HO4009.out
        (first | subst eo36 | (injection eo36 with f1_ f2_ f3_; have f4_ := f1_.symm; have f5_ := f3_.symm; clear f1_ f2_ f3_; subst f4_; subst f5_))
        obtain ⟨Ao37, co37, eo37⟩ := Kd.R_slice HO4014.out
        (first | subst eo37 | (injection eo37 with f1_ f2_ f3_; have f4_ := f1_.symm; have f5_ := f3_.symm; clear f1_ f2_ f3_; subst f4_; subst f5_))
        refine hK.out _ _ ⟨(blk_cell BK4001.out 0).trans rfl, (blk_cell BK4001.out 1).trans rfl, (blk_cell BK4001.out 2).trans rfl, (blk_cell BK4002.out 0).trans rfl, (blk_cell BK4002.out 1).trans rfl, (blk_cell BK4002.out 2).trans rfl⟩ (fun hHeld => ?_)
        clear hK K
        refine norm_ (a' := ?_) ?_ ?_
        rotate_left
        · show Act.put _ (some 23) _ = _
          simp only [Act.put, List.setIfInBounds_toArray, List.set_cons_zero, List.set_cons_succ, i64_w, i32_w]
          rfl
        refine one_ (i := 4) (N := some 24) #[true, true, true, true, true, false] rfl rfl (by kernel_rfl) (by decide) (fun K hK => ?_)
        refine goes_ Try.func29 (by kernel_rfl) rfl #[.agg #[.string t4005, .string t4006, .slice Ao36 t4007.length co36], .agg #[.string t4010, .string t4011, .slice Ao37 t4012.length co37]] (by rfl) rfl rfl (by (try simp only [List.map_toArray, List.map_cons, List.map_nil]); first | done | rfl | (simp only [List.length_drop, List.length_take]; rfl)) ?_
        with_reducible refine (spec_EqualState.calls k t4005 t4006 _ _ t4007 t4010 t4011 _ _ t4012 t4015 _ ?side1 ?side2 ?side3 ?side4 A21.out).mono ?_
        (case side1 => repeat (first | exact (Kd.R_reads' HO4009.out).2.2 | (with_reducible refine Kd.C_alloc ?_ _) | (with_reducible refine Kd.C_drewN ?_ _) | (with_reducible refine Kd.C_drew ?_)))
        (case side2 => exact (Kd.R_reads' HO4009.out).2.1)
        (case side3 => repeat (first | exact (Kd.R_reads' HO4014.out).2.2 | (with_reducible refine Kd.C_alloc ?_ _) | (with_reducible refine Kd.C_drewN ?_ _) | (with_reducible refine Kd.C_drew ?_)))
        (case side4 => exact (Kd.R_reads' HO4014.out).2.1)
        rintro e w38 ⟨rfl, hb⟩
        refine ⟨_, rfl, ?_⟩
        have n0_ := Aside0.mk (Kd.R_below (by (with_reducible repeat (first | apply Kd.R_alloc | apply Kd.R_drewN | apply Kd.R_drew)); exact HO4009.out) hb)
        have n1_ := Aside0.mk (Kd.R_below (by (with_reducible repeat (first | apply Kd.R_alloc | apply Kd.R_drewN | apply Kd.R_drew)); exact HO4014.out) hb)
        have n2_ := Aside0.mk (blk_below (g := gb4001) (o := .cells #[.string a0_0, .string a0_1, .slice A0_2 l0_2.length c0_2] 47 (0, 0)) (by (with_reducible repeat (first | refine blk_drewN ?_ _ | refine blk_drew ?_ | refine blk_alloc ?_ _)); exact BK4001.out) hb)
        have n3_ := Aside0.mk (blk_below (g := gb4002) (o := .cells #[.string a1_0, .string a1_1, .slice A1_2 l1_2.length c1_2] 47 (0, 0)) (by (with_reducible repeat (first | refine blk_drewN ?_ _ | refine blk_drew ?_ | refine blk_alloc ?_ _)); exact BK4002.out) hb)
        have n4_ := Aside0.mk (below_step (by repeat (first | (with_reducible first | exact HB.out | apply below_alloc | apply pw_below_drewN | apply below_drew1 | refine below_set ?_ GE4001.out | refine below_set ?_ GE4002.out) | exact HB.out)) hb)
        clear HO4009
        clear HO4014
        clear BK4001
        clear BK4002
        clear HB
        have HO4009 := n0_
        have HO4014 := n1_
        have BK4001 := n2_
        have BK4002 := n3_
        have HB := n4_
        clear n0_ n1_ n2_ n3_ n4_
        (try clear hb)
        (try clear hb2)
        (try clear hk)
        (try clear hi)
        refine hK.out _ _ ⟨(blk_cell BK4001.out 0).trans rfl, (blk_cell BK4001.out 1).trans rfl, (blk_cell BK4001.out 2).trans rfl, (blk_cell BK4002.out 0).trans rfl, (blk_cell BK4002.out 1).trans rfl, (blk_cell BK4002.out 2).trans rfl⟩ (fun hHeld => ?_)
        clear hK K
        refine norm_ (a' := ?_) ?_ ?_
        rotate_left
        · show Act.put _ (some 24) _ = _
          simp only [Act.put, List.setIfInBounds_toArray, List.set_cons_zero, List.set_cons_succ, i64_w, i32_w]
          rfl
        refine pure_ (i := 5) (N := some 6) (v := ?_) (a' := ?_) #[true, true, true, true, true, true] rfl rfl (by kernel_rfl) (fun _ _ _ h => h) (Or.inl ⟨by rfl, ?_⟩) ?_ ?_
        rotate_left
        · intro w'
          go_simp
          first | with_reducible rfl | (rw [if_neg (by omega)]; done)
        rotate_left
        · simp only [Act.put, List.setIfInBounds_toArray, List.set_cons_zero, List.set_cons_succ, i64_w, i32_w]
          rfl
        refine done_ (by kernel_rfl) ?_
        have hcz39_0 : w38.cell? ⟨gb4001, 0, none⟩ = some (.string a0_0) := (blk_cell BK4001.out 0).trans rfl
        have hcz39_1 : w38.cell? ⟨gb4001, 1, none⟩ = some (.string a0_1) := (blk_cell BK4001.out 1).trans rfl
        have hcz39_2 : w38.cell? ⟨gb4001, 2, none⟩ = some (.slice A0_2 l0_2.length c0_2) := (blk_cell BK4001.out 2).trans rfl
        have hfz39_0 := blk_frozen BK4001.out 0
        have hfz39_1 := blk_frozen BK4001.out 1
        have hfz39_2 := blk_frozen BK4001.out 2
        try go_wp2_with (first | ((with_reducible refine gate_callee (f := 30) rfl ?_); refine goesL_ (some 26) rfl rfl Try.func30 (by kernel_rfl) rfl #[.agg #[.string a0_0, .string a0_1, .slice A0_2 l0_2.length c0_2]] rfl (by (try simp only [List.map_toArray, List.map_cons, List.map_nil]); first | done | rfl | (simp only [List.length_drop, List.length_take]; rfl)) ?_; (with_reducible refine (laws_toState.calls k a0_0 a0_1 _ _ l0_2 t4016 t4017 t4018 _ ?side1 ?side2 A22.out).mono ?_); (case side1 => repeat (first | exact (Kd.C_below HR0_2.out HB.out) | (with_reducible refine Kd.C_alloc ?_ _) | (with_reducible refine Kd.C_drewN ?_ _) | (with_reducible refine Kd.C_drew ?_))); (case side2 => exact HC0_2.out); rintro e w40 ⟨v4019, rfl, ho0, hb⟩; refine ⟨_, rfl, ?_⟩; have n0_ := Aside0.mk (Kd.R_elder' (by (with_reducible repeat (first | apply Kd.R_alloc | apply Kd.R_drewN | apply Kd.R_drew)); exact HO4009.out) (Kd.R_base ho0) hb); have n1_ := Aside0.mk (Kd.R_elder' (by (with_reducible repeat (first | apply Kd.R_alloc | apply Kd.R_drewN | apply Kd.R_drew)); exact HO4014.out) (Kd.R_base ho0) hb); have n2_ := Aside0.mk (Kd.R_lower (Kd.R_new' (Kd.R_new' ho0 (Kd.R_lt (by (with_reducible repeat (first | apply Kd.R_alloc | apply Kd.R_drewN | apply Kd.R_drew)); exact HO4009.out))) (Kd.R_lt (by (with_reducible repeat (first | apply Kd.R_alloc | apply Kd.R_drewN | apply Kd.R_drew)); exact HO4014.out))) (below_size (by repeat (first | (with_reducible first | exact HB.out | apply below_alloc | apply pw_below_drewN | apply below_drew1 | refine below_set ?_ GE4001.out | refine below_set ?_ GE4002.out) | exact HB.out)))); have n3_ := Aside0.mk (blk_below (g := gb4001) (o := .cells #[.string a0_0, .string a0_1, .slice A0_2 l0_2.length c0_2] 47 (0, 0)) (by (with_reducible repeat (first | refine blk_drewN ?_ _ | refine blk_drew ?_ | refine blk_alloc ?_ _)); exact BK4001.out) hb); have n4_ := Aside0.mk (blk_below (g := gb4002) (o := .cells #[.string a1_0, .string a1_1, .slice A1_2 l1_2.length c1_2] 47 (0, 0)) (by (with_reducible repeat (first | refine blk_drewN ?_ _ | refine blk_drew ?_ | refine blk_alloc ?_ _)); exact BK4002.out) hb); have n5_ := Aside0.mk (below_step (by repeat (first | (with_reducible first | exact HB.out | apply below_alloc | apply pw_below_drewN | apply below_drew1 | refine below_set ?_ GE4001.out | refine below_set ?_ GE4002.out) | exact HB.out)) hb); clear HO4009; clear HO4014; clear BK4001; clear BK4002; clear HB; have HO4009 := n0_; have HO4014 := n1_; have HO4020 := n2_; have BK4001 := n3_; have BK4002 := n4_; have HB := n5_; clear n0_ n1_ n2_ n3_ n4_ n5_; (try clear hb); (try clear hb2); (try clear hk); (try clear hi); (try clear ho0)) | ((with_reducible refine gate_dst (N := 7) rfl ?_); refine box_event ?hg (N := 7) ?hd (cs := #[.string (⟨#[]⟩ : ByteArray), .string (⟨#[]⟩ : ByteArray), .slice none 0 0]) (t := 50) ?hr ?_; (case hd => rfl); (case hg => rfl); (case hr => first | (go_simp; done) | (go_simp; rfl)); intro gb4021 hg w41 hbox hb; have n0_ := Aside0.mk (Kd.R_below (by (with_reducible repeat (first | apply Kd.R_alloc | apply Kd.R_drewN | apply Kd.R_drew)); exact HO4009.out) hb); have n1_ := Aside0.mk (Kd.R_below (by (with_reducible repeat (first | apply Kd.R_alloc | apply Kd.R_drewN | apply Kd.R_drew)); exact HO4014.out) hb); have n2_ := Aside0.mk (Kd.R_below (by (with_reducible repeat (first | apply Kd.R_alloc | apply Kd.R_drewN | apply Kd.R_drew)); exact HO4020.out) hb); have n3_ := Aside0.mk (blk_below (g := gb4001) (o := .cells #[.string a0_0, .string a0_1, .slice A0_2 l0_2.length c0_2] 47 (0, 0)) (by (with_reducible repeat (first | refine blk_drewN ?_ _ | refine blk_drew ?_ | refine blk_alloc ?_ _)); exact BK4001.out) hb); have n4_ := Aside0.mk (blk_below (g := gb4002) (o := .cells #[.string a1_0, .string a1_1, .slice A1_2 l1_2.length c1_2] 47 (0, 0)) (by (with_reducible repeat (first | refine blk_drewN ?_ _ | refine blk_drew ?_ | refine blk_alloc ?_ _)); exact BK4002.out) hb); have n5_ := Aside0.mk (below_step (by repeat (first | (with_reducible first | exact HB.out | apply below_alloc | apply pw_below_drewN | apply below_drew1 | refine below_set ?_ GE4001.out | refine below_set ?_ GE4002.out) | exact HB.out)) hb); have n6_ := Aside0.mk (hbox); have n7_ := Aside0.mk ((by rw [hg]; exact (below_size (by repeat (first | (with_reducible first | exact HB.out | apply below_alloc | apply pw_below_drewN | apply below_drew1 | refine below_set ?_ GE4001.out | refine below_set ?_ GE4002.out) | exact HB.out))) : w.heap.size ≤ gb4021)); have n8_ := Aside0.mk ((by rw [hg]; exact (below_size (by repeat (first | (with_reducible first | exact HB.out | apply below_alloc | apply pw_below_drewN | apply below_drew1 | refine below_set ?_ GE4001.out | refine below_set ?_ GE4002.out) | exact HB.out))) : w.heap.size ≤ gb4021)); have n9_ := Aside0.mk ((by rw [hg]; exact Nat.ne_of_lt (blk_lt (g := gb4001) (o := .cells #[.string a0_0, .string a0_1, .slice A0_2 l0_2.length c0_2] 47 (0, 0)) (by (with_reducible repeat (first | refine blk_drewN ?_ _ | refine blk_drew ?_ | refine blk_alloc ?_ _)); exact BK4001.out)) : gb4001 ≠ gb4021)); have n10_ := Aside0.mk ((by rw [hg]; exact Nat.ne_of_gt (blk_lt (g := gb4001) (o := .cells #[.string a0_0, .string a0_1, .slice A0_2 l0_2.length c0_2] 47 (0, 0)) (by (with_reducible repeat (first | refine blk_drewN ?_ _ | refine blk_drew ?_ | refine blk_alloc ?_ _)); exact BK4001.out)) : gb4021 ≠ gb4001)); have n11_ := Aside0.mk ((by rw [hg]; exact Nat.ne_of_lt (blk_lt (g := gb4002) (o := .cells #[.string a1_0, .string a1_1, .slice A1_2 l1_2.length c1_2] 47 (0, 0)) (by (with_reducible repeat (first | refine blk_drewN ?_ _ | refine blk_drew ?_ | refine blk_alloc ?_ _)); exact BK4002.out)) : gb4002 ≠ gb4021)); have n12_ := Aside0.mk ((by rw [hg]; exact Nat.ne_of_gt (blk_lt (g := gb4002) (o := .cells #[.string a1_0, .string a1_1, .slice A1_2 l1_2.length c1_2] 47 (0, 0)) (by (with_reducible repeat (first | refine blk_drewN ?_ _ | refine blk_drew ?_ | refine blk_alloc ?_ _)); exact BK4002.out)) : gb4021 ≠ gb4002)); clear HO4009; clear HO4014; clear HO4020; clear BK4001; clear BK4002; clear HB; have HO4009 := n0_; have HO4014 := n1_; have HO4020 := n2_; have BK4001 := n3_; have BK4002 := n4_; have HB := n5_; have BK4021 := n6_; have GW4021 := n7_; have GE4021 := n8_; have NB4001_4021 := n9_; have NB4021_4001 := n10_; have NB4002_4021 := n11_; have NB4021_4002 := n12_; clear n0_ n1_ n2_ n3_ n4_ n5_ n6_ n7_ n8_ n9_ n10_ n11_ n12_; clear hb hbox hg; have hnb42 := NB4021_4001.out; have hnc42 := NB4001_4021.out; have hnb43 := NB4021_4002.out; have hnc43 := NB4002_4021.out; have hcz44_0 : w41.cell? ⟨gb4021, 0, none⟩ = some (.string (⟨#[]⟩ : ByteArray)) := (blk_cell BK4021.out 0).trans rfl; have hcz44_1 : w41.cell? ⟨gb4021, 1, none⟩ = some (.string (⟨#[]⟩ : ByteArray)) := (blk_cell BK4021.out 1).trans rfl; have hcz44_2 : w41.cell? ⟨gb4021, 2, none⟩ = some (.slice none 0 0) := (blk_cell BK4021.out 2).trans rfl; have hfz44_0 := blk_frozen BK4021.out 0; have hfz44_1 := blk_frozen BK4021.out 1; have hfz44_2 := blk_frozen BK4021.out 2; obtain ⟨Ao45, co45, eo45⟩ := Kd.R_slice HO4020.out; subst eo45; have hcz46_0 : w41.cell? ⟨gb4002, 0, none⟩ = some (.string a1_0) := (blk_cell BK4002.out 0).trans rfl; have hcz46_1 : w41.cell? ⟨gb4002, 1, none⟩ = some (.string a1_1) := (blk_cell BK4002.out 1).trans rfl; have hcz46_2 : w41.cell? ⟨gb4002, 2, none⟩ = some (.slice A1_2 l1_2.length c1_2) := (blk_cell BK4002.out 2).trans rfl; have hfz46_0 := blk_frozen BK4002.out 0; have hfz46_1 := blk_frozen BK4002.out 1; have hfz46_2 := blk_frozen BK4002.out 2) | ((with_reducible refine gate_callee (f := 30) rfl ?_); refine goesL_ (some 28) rfl rfl Try.func30 (by kernel_rfl) rfl #[.agg #[.string a1_0, .string a1_1, .slice A1_2 l1_2.length c1_2]] rfl (by (try simp only [List.map_toArray, List.map_cons, List.map_nil]); first | done | rfl | (simp only [List.length_drop, List.length_take]; rfl)) ?_; (with_reducible refine (laws_toState.calls k a1_0 a1_1 _ _ l1_2 t4022 t4023 t4024 _ ?side1 ?side2 A23.out).mono ?_); (case side1 => exact Kd.C_below HR1_2.out (by repeat (first | (with_reducible first | exact HB.out | apply below_alloc | apply pw_below_drewN | apply below_drew1 | refine below_set ?_ GE4001.out | refine below_set ?_ GE4002.out | refine below_set ?_ GE4021.out) | exact HB.out))); (case side2 => exact HC1_2.out); rintro e w47 ⟨v4025, rfl, ho0, hb⟩; refine ⟨_, rfl, ?_⟩; have n0_ := Aside0.mk (Kd.R_elder' (by (with_reducible repeat (first | apply Kd.R_alloc | apply Kd.R_drewN | apply Kd.R_drew)); exact (Kd.R_mono (Kd.R_far (p := ⟨gb4021, 2, none⟩) (Kd.R_far (p := ⟨gb4021, 1, none⟩) (Kd.R_far (p := ⟨gb4021, 0, none⟩) (Kd.R_types HO4009.out BK4021.out (by decide)) (fun _ hk => hk.2) (.string t4016)) (fun _ hk => hk.2) (.string t4017)) (fun _ hk => hk.2) (.slice Ao45 t4018.length co45)) (fun _ h_ => h_.1))) (Kd.R_base ho0) hb); have n1_ := Aside0.mk (Kd.R_elder' (by (with_reducible repeat (first | apply Kd.R_alloc | apply Kd.R_drewN | apply Kd.R_drew)); exact (Kd.R_mono (Kd.R_far (p := ⟨gb4021, 2, none⟩) (Kd.R_far (p := ⟨gb4021, 1, none⟩) (Kd.R_far (p := ⟨gb4021, 0, none⟩) (Kd.R_types HO4014.out BK4021.out (by decide)) (fun _ hk => hk.2) (.string t4016)) (fun _ hk => hk.2) (.string t4017)) (fun _ hk => hk.2) (.slice Ao45 t4018.length co45)) (fun _ h_ => h_.1))) (Kd.R_base ho0) hb); have n2_ := Aside0.mk (Kd.R_elder' (by (with_reducible repeat (first | apply Kd.R_alloc | apply Kd.R_drewN | apply Kd.R_drew)); exact (Kd.R_mono (Kd.R_far (p := ⟨gb4021, 2, none⟩) (Kd.R_far (p := ⟨gb4021, 1, none⟩) (Kd.R_far (p := ⟨gb4021, 0, none⟩) (Kd.R_types HO4020.out BK4021.out (by decide)) (fun _ hk => hk.2) (.string t4016)) (fun _ hk => hk.2) (.string t4017)) (fun _ hk => hk.2) (.slice Ao45 t4018.length co45)) (fun _ h_ => h_.1))) (Kd.R_base ho0) hb); have n3_ := Aside0.mk (Kd.R_lower (Kd.R_new' (Kd.R_new' (Kd.R_new' ho0 (Kd.R_lt (by (with_reducible repeat (first | apply Kd.R_alloc | apply Kd.R_drewN | apply Kd.R_drew)); exact (Kd.R_mono (Kd.R_far (p := ⟨gb4021, 2, none⟩) (Kd.R_far (p := ⟨gb4021, 1, none⟩) (Kd.R_far (p := ⟨gb4021, 0, none⟩) (Kd.R_types HO4009.out BK4021.out (by decide)) (fun _ hk => hk.2) (.string t4016)) (fun _ hk => hk.2) (.string t4017)) (fun _ hk => hk.2) (.slice Ao45 t4018.length co45)) (fun _ h_ => h_.1))))) (Kd.R_lt (by (with_reducible repeat (first | apply Kd.R_alloc | apply Kd.R_drewN | apply Kd.R_drew)); exact (Kd.R_mono (Kd.R_far (p := ⟨gb4021, 2, none⟩) (Kd.R_far (p := ⟨gb4021, 1, none⟩) (Kd.R_far (p := ⟨gb4021, 0, none⟩) (Kd.R_types HO4014.out BK4021.out (by decide)) (fun _ hk => hk.2) (.string t4016)) (fun _ hk => hk.2) (.string t4017)) (fun _ hk => hk.2) (.slice Ao45 t4018.length co45)) (fun _ h_ => h_.1))))) (Kd.R_lt (by (with_reducible repeat (first | apply Kd.R_alloc | apply Kd.R_drewN | apply Kd.R_drew)); exact (Kd.R_mono (Kd.R_far (p := ⟨gb4021, 2, none⟩) (Kd.R_far (p := ⟨gb4021, 1, none⟩) (Kd.R_far (p := ⟨gb4021, 0, none⟩) (Kd.R_types HO4020.out BK4021.out (by decide)) (fun _ hk => hk.2) (.string t4016)) (fun _ hk => hk.2) (.string t4017)) (fun _ hk => hk.2) (.slice Ao45 t4018.length co45)) (fun _ h_ => h_.1))))) (below_size (by repeat (first | (with_reducible first | exact HB.out | apply below_alloc | apply pw_below_drewN | apply below_drew1 | refine below_set ?_ GE4001.out | refine below_set ?_ GE4002.out | refine below_set ?_ GE4021.out) | exact HB.out)))); have n4_ := Aside0.mk (blk_below (g := gb4001) (o := .cells #[.string a0_0, .string a0_1, .slice A0_2 l0_2.length c0_2] 47 (0, 0)) (by (with_reducible repeat (first | refine blk_drewN ?_ _ | refine blk_drew ?_ | refine blk_alloc ?_ _)); refine blk_far ?_ NB4001_4021.out _; (with_reducible repeat (first | refine blk_drewN ?_ _ | refine blk_drew ?_ | refine blk_alloc ?_ _)); refine blk_far ?_ NB4001_4021.out _; (with_reducible repeat (first | refine blk_drewN ?_ _ | refine blk_drew ?_ | refine blk_alloc ?_ _)); refine blk_far ?_ NB4001_4021.out _; (with_reducible repeat (first | refine blk_drewN ?_ _ | refine blk_drew ?_ | refine blk_alloc ?_ _)); exact BK4001.out) hb); have n5_ := Aside0.mk (blk_below (g := gb4002) (o := .cells #[.string a1_0, .string a1_1, .slice A1_2 l1_2.length c1_2] 47 (0, 0)) (by (with_reducible repeat (first | refine blk_drewN ?_ _ | refine blk_drew ?_ | refine blk_alloc ?_ _)); refine blk_far ?_ NB4002_4021.out _; (with_reducible repeat (first | refine blk_drewN ?_ _ | refine blk_drew ?_ | refine blk_alloc ?_ _)); refine blk_far ?_ NB4002_4021.out _; (with_reducible repeat (first | refine blk_drewN ?_ _ | refine blk_drew ?_ | refine blk_alloc ?_ _)); refine blk_far ?_ NB4002_4021.out _; (with_reducible repeat (first | refine blk_drewN ?_ _ | refine blk_drew ?_ | refine blk_alloc ?_ _)); exact BK4002.out) hb); have n6_ := Aside0.mk (blk_below (g := gb4021) (o := .cells #[.string t4016, .string t4017, .slice Ao45 t4018.length co45] 50 (0, 0)) (by (with_reducible repeat (first | refine blk_drewN ?_ _ | refine blk_drew ?_ | refine blk_alloc ?_ _)); refine blk_put (cs := #[.string t4016, .string t4017, .slice none 0 0]) ?_ 2 _ rfl; (with_reducible repeat (first | refine blk_drewN ?_ _ | refine blk_drew ?_ | refine blk_alloc ?_ _)); refine blk_put (cs := #[.string t4016, .string (⟨#[]⟩ : ByteArray), .slice none 0 0]) ?_ 1 _ rfl; (with_reducible repeat (first | refine blk_drewN ?_ _ | refine blk_drew ?_ | refine blk_alloc ?_ _)); refine blk_put (cs := #[.string (⟨#[]⟩ : ByteArray), .string (⟨#[]⟩ : ByteArray), .slice none 0 0]) ?_ 0 _ rfl; (with_reducible repeat (first | refine blk_drewN ?_ _ | refine blk_drew ?_ | refine blk_alloc ?_ _)); exact BK4021.out) hb); have n7_ := Aside0.mk (below_step (by repeat (first | (with_reducible first | exact HB.out | apply below_alloc | apply pw_below_drewN | apply below_drew1 | refine below_set ?_ GE4001.out | refine below_set ?_ GE4002.out | refine below_set ?_ GE4021.out) | exact HB.out)) hb); clear HO4009; clear HO4014; clear HO4020; clear BK4001; clear BK4002; clear BK4021; clear HB; have HO4009 := n0_; have HO4014 := n1_; have HO4020 := n2_; have HO4026 := n3_; have BK4001 := n4_; have BK4002 := n5_; have BK4021 := n6_; have HB := n7_; clear n0_ n1_ n2_ n3_ n4_ n5_ n6_ n7_; (try clear hb); (try clear hb2); (try clear hk); (try clear hi); (try clear ho0)) | ((with_reducible refine gate_dst (N := 8) rfl ?_); refine box_event ?hg (N := 8) ?hd (cs := #[.string (⟨#[]⟩ : ByteArray), .string (⟨#[]⟩ : ByteArray), .slice none 0 0]) (t := 50) ?hr ?_; (case hd => rfl); (case hg => rfl); (case hr => first | (go_simp; done) | (go_simp; rfl)); intro gb4027 hg w48 hbox hb; have n0_ := Aside0.mk (Kd.R_below (by (with_reducible repeat (first | apply Kd.R_alloc | apply Kd.R_drewN | apply Kd.R_drew)); exact HO4009.out) hb); have n1_ := Aside0.mk (Kd.R_below (by (with_reducible repeat (first | apply Kd.R_alloc | apply Kd.R_drewN | apply Kd.R_drew)); exact HO4014.out) hb); have n2_ := Aside0.mk (Kd.R_below (by (with_reducible repeat (first | apply Kd.R_alloc | apply Kd.R_drewN | apply Kd.R_drew)); exact HO4020.out) hb); have n3_ := Aside0.mk (Kd.R_below (by (with_reducible repeat (first | apply Kd.R_alloc | apply Kd.R_drewN | apply Kd.R_drew)); exact HO4026.out) hb); have n4_ := Aside0.mk (blk_below (g := gb4001) (o := .cells #[.string a0_0, .string a0_1, .slice A0_2 l0_2.length c0_2] 47 (0, 0)) (by (with_reducible repeat (first | refine blk_drewN ?_ _ | refine blk_drew ?_ | refine blk_alloc ?_ _)); exact BK4001.out) hb); have n5_ := Aside0.mk (blk_below (g := gb4002) (o := .cells #[.string a1_0, .string a1_1, .slice A1_2 l1_2.length c1_2] 47 (0, 0)) (by (with_reducible repeat (first | refine blk_drewN ?_ _ | refine blk_drew ?_ | refine blk_alloc ?_ _)); exact BK4002.out) hb); have n6_ := Aside0.mk (blk_below (g := gb4021) (o := .cells #[.string t4016, .string t4017, .slice Ao45 t4018.length co45] 50 (0, 0)) (by (with_reducible repeat (first | refine blk_drewN ?_ _ | refine blk_drew ?_ | refine blk_alloc ?_ _)); exact BK4021.out) hb); have n7_ := Aside0.mk (below_step (by repeat (first | (with_reducible first | exact HB.out | apply below_alloc | apply pw_below_drewN | apply below_drew1 | refine below_set ?_ GE4001.out | refine below_set ?_ GE4002.out | refine below_set ?_ GE4021.out) | exact HB.out)) hb); have n8_ := Aside0.mk (hbox); have n9_ := Aside0.mk ((by rw [hg]; exact (below_size (by repeat (first | (with_reducible first | exact HB.out | apply below_alloc | apply pw_below_drewN | apply below_drew1 | refine below_set ?_ GE4001.out | refine below_set ?_ GE4002.out | refine below_set ?_ GE4021.out) | exact HB.out))) : w.heap.size ≤ gb4027)); have n10_ := Aside0.mk ((by rw [hg]; exact (below_size (by repeat (first | (with_reducible first | exact HB.out | apply below_alloc | apply pw_below_drewN | apply below_drew1 | refine below_set ?_ GE4001.out | refine below_set ?_ GE4002.out | refine below_set ?_ GE4021.out) | exact HB.out))) : w.heap.size ≤ gb4027)); have n11_ := Aside0.mk ((by rw [hg]; exact Nat.ne_of_lt (blk_lt (g := gb4001) (o := .cells #[.string a0_0, .string a0_1, .slice A0_2 l0_2.length c0_2] 47 (0, 0)) (by (with_reducible repeat (first | refine blk_drewN ?_ _ | refine blk_drew ?_ | refine blk_alloc ?_ _)); exact BK4001.out)) : gb4001 ≠ gb4027)); have n12_ := Aside0.mk ((by rw [hg]; exact Nat.ne_of_gt (blk_lt (g := gb4001) (o := .cells #[.string a0_0, .string a0_1, .slice A0_2 l0_2.length c0_2] 47 (0, 0)) (by (with_reducible repeat (first | refine blk_drewN ?_ _ | refine blk_drew ?_ | refine blk_alloc ?_ _)); exact BK4001.out)) : gb4027 ≠ gb4001)); have n13_ := Aside0.mk ((by rw [hg]; exact Nat.ne_of_lt (blk_lt (g := gb4002) (o := .cells #[.string a1_0, .string a1_1, .slice A1_2 l1_2.length c1_2] 47 (0, 0)) (by (with_reducible repeat (first | refine blk_drewN ?_ _ | refine blk_drew ?_ | refine blk_alloc ?_ _)); exact BK4002.out)) : gb4002 ≠ gb4027)); have n14_ := Aside0.mk ((by rw [hg]; exact Nat.ne_of_gt (blk_lt (g := gb4002) (o := .cells #[.string a1_0, .string a1_1, .slice A1_2 l1_2.length c1_2] 47 (0, 0)) (by (with_reducible repeat (first | refine blk_drewN ?_ _ | refine blk_drew ?_ | refine blk_alloc ?_ _)); exact BK4002.out)) : gb4027 ≠ gb4002)); have n15_ := Aside0.mk ((by rw [hg]; exact Nat.ne_of_lt (blk_lt (g := gb4021) (o := .cells #[.string t4016, .string t4017, .slice Ao45 t4018.length co45] 50 (0, 0)) (by (with_reducible repeat (first | refine blk_drewN ?_ _ | refine blk_drew ?_ | refine blk_alloc ?_ _)); exact BK4021.out)) : gb4021 ≠ gb4027)); have n16_ := Aside0.mk ((by rw [hg]; exact Nat.ne_of_gt (blk_lt (g := gb4021) (o := .cells #[.string t4016, .string t4017, .slice Ao45 t4018.length co45] 50 (0, 0)) (by (with_reducible repeat (first | refine blk_drewN ?_ _ | refine blk_drew ?_ | refine blk_alloc ?_ _)); exact BK4021.out)) : gb4027 ≠ gb4021)); clear HO4009; clear HO4014; clear HO4020; clear HO4026; clear BK4001; clear BK4002; clear BK4021; clear HB; have HO4009 := n0_; have HO4014 := n1_; have HO4020 := n2_; have HO4026 := n3_; have BK4001 := n4_; have BK4002 := n5_; have BK4021 := n6_; have HB := n7_; have BK4027 := n8_; have GW4027 := n9_; have GE4027 := n10_; have NB4001_4027 := n11_; have NB4027_4001 := n12_; have NB4002_4027 := n13_; have NB4027_4002 := n14_; have NB4021_4027 := n15_; have NB4027_4021 := n16_; clear n0_ n1_ n2_ n3_ n4_ n5_ n6_ n7_ n8_ n9_ n10_ n11_ n12_ n13_ n14_ n15_ n16_; clear hb hbox hg; have hnb49 := NB4027_4001.out; have hnc49 := NB4001_4027.out; have hnb50 := NB4027_4002.out; have hnc50 := NB4002_4027.out; have hnb51 := NB4027_4021.out; have hnc51 := NB4021_4027.out; have hcz52_0 : w48.cell? ⟨gb4027, 0, none⟩ = some (.string (⟨#[]⟩ : ByteArray)) := (blk_cell BK4027.out 0).trans rfl; have hcz52_1 : w48.cell? ⟨gb4027, 1, none⟩ = some (.string (⟨#[]⟩ : ByteArray)) := (blk_cell BK4027.out 1).trans rfl; have hcz52_2 : w48.cell? ⟨gb4027, 2, none⟩ = some (.slice none 0 0) := (blk_cell BK4027.out 2).trans rfl; have hfz52_0 := blk_frozen BK4027.out 0; have hfz52_1 := blk_frozen BK4027.out 1; have hfz52_2 := blk_frozen BK4027.out 2; obtain ⟨Ao53, co53, eo53⟩ := Kd.R_slice HO4026.out; subst eo53; have hcz54_0 : w48.cell? ⟨gb4021, 0, none⟩ = some (.string t4016) := (blk_cell BK4021.out 0).trans rfl; have hcz54_1 : w48.cell? ⟨gb4021, 1, none⟩ = some (.string t4017) := (blk_cell BK4021.out 1).trans rfl; have hcz54_2 : w48.cell? ⟨gb4021, 2, none⟩ = some (.slice Ao45 t4018.length co45) := (blk_cell BK4021.out 2).trans rfl; have hfz54_0 := blk_frozen BK4021.out 0; have hfz54_1 := blk_frozen BK4021.out 1; have hfz54_2 := blk_frozen BK4021.out 2) | ((with_reducible refine gate_callee (f := 31) rfl ?_); refine goesL_ (some 31) rfl rfl Try.func31 (by kernel_rfl) rfl #[.agg #[.string t4016, .string t4017, .slice Ao45 t4018.length co45], .agg #[.string t4022, .string t4023, .slice Ao53 t4024.length co53]] rfl (by (try simp only [List.map_toArray, List.map_cons, List.map_nil]); first | done | rfl | (simp only [List.length_drop, List.length_take]; rfl)) ?_; (with_reducible refine (impl_EqualState.calls k t4016 t4017 _ _ t4018 t4022 t4023 _ _ t4024 t4028 _ ?side1 ?side2 ?side3 ?side4 A24.out).mono ?_); (case side1 => refine (Kd.R_reads' (e := 3) (base := w.heap.size) (ok := fun k_ => (((True ∧ some k_ ≠ (.slice Ao36 t4007.length co36 : Value).ownBlock) ∧ some k_ ≠ (.slice Ao37 t4012.length co37 : Value).ownBlock) ∧ some k_ ≠ (.slice Ao53 t4024.length co53 : Value).ownBlock)) (n := t4018.length) (c := co45) ?_).2.2; exact (by (with_reducible repeat (first | apply Kd.R_alloc | apply Kd.R_drewN | apply Kd.R_drew)); exact (Kd.R_mono (Kd.R_far (p := ⟨gb4027, 2, none⟩) (Kd.R_far (p := ⟨gb4027, 1, none⟩) (Kd.R_far (p := ⟨gb4027, 0, none⟩) (Kd.R_types HO4020.out BK4027.out (by decide)) (fun _ hk => hk.2) (.string t4022)) (fun _ hk => hk.2) (.string t4023)) (fun _ hk => hk.2) (.slice Ao53 t4024.length co53)) (fun _ h_ => h_.1)))); (case side2 => exact (Kd.R_reads' HO4020.out).2.1); (case side3 => refine (Kd.R_reads' (e := 3) (base := w.heap.size) (ok := fun k_ => (((True ∧ some k_ ≠ (.slice Ao36 t4007.length co36 : Value).ownBlock) ∧ some k_ ≠ (.slice Ao37 t4012.length co37 : Value).ownBlock) ∧ some k_ ≠ (.slice Ao45 t4018.length co45 : Value).ownBlock)) (n := t4024.length) (c := co53) ?_).2.2; exact (by (with_reducible repeat (first | apply Kd.R_alloc | apply Kd.R_drewN | apply Kd.R_drew)); exact (Kd.R_mono (Kd.R_far (p := ⟨gb4027, 2, none⟩) (Kd.R_far (p := ⟨gb4027, 1, none⟩) (Kd.R_far (p := ⟨gb4027, 0, none⟩) (Kd.R_types HO4026.out BK4027.out (by decide)) (fun _ hk => hk.2) (.string t4022)) (fun _ hk => hk.2) (.string t4023)) (fun _ hk => hk.2) (.slice Ao53 t4024.length co53)) (fun _ h_ => h_.1)))); (case side4 => exact (Kd.R_reads' HO4026.out).2.1); rintro e w55 ⟨rfl, hb⟩; refine ⟨_, rfl, ?_⟩; have n0_ := Aside0.mk (Kd.R_below (by (with_reducible repeat (first | apply Kd.R_alloc | apply Kd.R_drewN | apply Kd.R_drew)); exact (Kd.R_mono (Kd.R_far (p := ⟨gb4027, 2, none⟩) (Kd.R_far (p := ⟨gb4027, 1, none⟩) (Kd.R_far (p := ⟨gb4027, 0, none⟩) (Kd.R_types HO4009.out BK4027.out (by decide)) (fun _ hk => hk.2) (.string t4022)) (fun _ hk => hk.2) (.string t4023)) (fun _ hk => hk.2) (.slice Ao53 t4024.length co53)) (fun _ h_ => h_.1))) hb); have n1_ := Aside0.mk (Kd.R_below (by (with_reducible repeat (first | apply Kd.R_alloc | apply Kd.R_drewN | apply Kd.R_drew)); exact (Kd.R_mono (Kd.R_far (p := ⟨gb4027, 2, none⟩) (Kd.R_far (p := ⟨gb4027, 1, none⟩) (Kd.R_far (p := ⟨gb4027, 0, none⟩) (Kd.R_types HO4014.out BK4027.out (by decide)) (fun _ hk => hk.2) (.string t4022)) (fun _ hk => hk.2) (.string t4023)) (fun _ hk => hk.2) (.slice Ao53 t4024.length co53)) (fun _ h_ => h_.1))) hb); have n2_ := Aside0.mk (Kd.R_below (by (with_reducible repeat (first | apply Kd.R_alloc | apply Kd.R_drewN | apply Kd.R_drew)); exact (Kd.R_mono (Kd.R_far (p := ⟨gb4027, 2, none⟩) (Kd.R_far (p := ⟨gb4027, 1, none⟩) (Kd.R_far (p := ⟨gb4027, 0, none⟩) (Kd.R_types HO4020.out BK4027.out (by decide)) (fun _ hk => hk.2) (.string t4022)) (fun _ hk => hk.2) (.string t4023)) (fun _ hk => hk.2) (.slice Ao53 t4024.length co53)) (fun _ h_ => h_.1))) hb); have n3_ := Aside0.mk (Kd.R_below (by (with_reducible repeat (first | apply Kd.R_alloc | apply Kd.R_drewN | apply Kd.R_drew)); exact (Kd.R_mono (Kd.R_far (p := ⟨gb4027, 2, none⟩) (Kd.R_far (p := ⟨gb4027, 1, none⟩) (Kd.R_far (p := ⟨gb4027, 0, none⟩) (Kd.R_types HO4026.out BK4027.out (by decide)) (fun _ hk => hk.2) (.string t4022)) (fun _ hk => hk.2) (.string t4023)) (fun _ hk => hk.2) (.slice Ao53 t4024.length co53)) (fun _ h_ => h_.1))) hb); have n4_ := Aside0.mk (blk_below (g := gb4001) (o := .cells #[.string a0_0, .string a0_1, .slice A0_2 l0_2.length c0_2] 47 (0, 0)) (by (with_reducible repeat (first | refine blk_drewN ?_ _ | refine blk_drew ?_ | refine blk_alloc ?_ _)); refine blk_far ?_ NB4001_4027.out _; (with_reducible repeat (first | refine blk_drewN ?_ _ | refine blk_drew ?_ | refine blk_alloc ?_ _)); refine blk_far ?_ NB4001_4027.out _; (with_reducible repeat (first | refine blk_drewN ?_ _ | refine blk_drew ?_ | refine blk_alloc ?_ _)); refine blk_far ?_ NB4001_4027.out _; (with_reducible repeat (first | refine blk_drewN ?_ _ | refine blk_drew ?_ | refine blk_alloc ?_ _)); exact BK4001.out) hb); have n5_ := Aside0.mk (blk_below (g := gb4002) (o := .cells #[.string a1_0, .string a1_1, .slice A1_2 l1_2.length c1_2] 47 (0, 0)) (by (with_reducible repeat (first | refine blk_drewN ?_ _ | refine blk_drew ?_ | refine blk_alloc ?_ _)); refine blk_far ?_ NB4002_4027.out _; (with_reducible repeat (first | refine blk_drewN ?_ _ | refine blk_drew ?_ | refine blk_alloc ?_ _)); refine blk_far ?_ NB4002_4027.out _; (with_reducible repeat (first | refine blk_drewN ?_ _ | refine blk_drew ?_ | refine blk_alloc ?_ _)); refine blk_far ?_ NB4002_4027.out _; (with_reducible repeat (first | refine blk_drewN ?_ _ | refine blk_drew ?_ | refine blk_alloc ?_ _)); exact BK4002.out) hb); have n6_ := Aside0.mk (blk_below (g := gb4021) (o := .cells #[.string t4016, .string t4017, .slice Ao45 t4018.length co45] 50 (0, 0)) (by (with_reducible repeat (first | refine blk_drewN ?_ _ | refine blk_drew ?_ | refine blk_alloc ?_ _)); refine blk_far ?_ NB4021_4027.out _; (with_reducible repeat (first | refine blk_drewN ?_ _ | refine blk_drew ?_ | refine blk_alloc ?_ _)); refine blk_far ?_ NB4021_4027.out _; (with_reducible repeat (first | refine blk_drewN ?_ _ | refine blk_drew ?_ | refine blk_alloc ?_ _)); refine blk_far ?_ NB4021_4027.out _; (with_reducible repeat (first | refine blk_drewN ?_ _ | refine blk_drew ?_ | refine blk_alloc ?_ _)); exact BK4021.out) hb); have n7_ := Aside0.mk (blk_below (g := gb4027) (o := .cells #[.string t4022, .string t4023, .slice Ao53 t4024.length co53] 50 (0, 0)) (by (with_reducible repeat (first | refine blk_drewN ?_ _ | refine blk_drew ?_ | refine blk_alloc ?_ _)); refine blk_put (cs := #[.string t4022, .string t4023, .slice none 0 0]) ?_ 2 _ rfl; (with_reducible repeat (first | refine blk_drewN ?_ _ | refine blk_drew ?_ | refine blk_alloc ?_ _)); refine blk_put (cs := #[.string t4022, .string (⟨#[]⟩ : ByteArray), .slice none 0 0]) ?_ 1 _ rfl; (with_reducible repeat (first | refine blk_drewN ?_ _ | refine blk_drew ?_ | refine blk_alloc ?_ _)); refine blk_put (cs := #[.string (⟨#[]⟩ : ByteArray), .string (⟨#[]⟩ : ByteArray), .slice none 0 0]) ?_ 0 _ rfl; (with_reducible repeat (first | refine blk_drewN ?_ _ | refine blk_drew ?_ | refine blk_alloc ?_ _)); exact BK4027.out) hb); have n8_ := Aside0.mk (below_step (by repeat (first | (with_reducible first | exact HB.out | apply below_alloc | apply pw_below_drewN | apply below_drew1 | refine below_set ?_ GE4001.out | refine below_set ?_ GE4002.out | refine below_set ?_ GE4021.out | refine below_set ?_ GE4027.out) | exact HB.out)) hb); clear HO4009; clear HO4014; clear HO4020; clear HO4026; clear BK4001; clear BK4002; clear BK4021; clear BK4027; clear HB; have HO4009 := n0_; have HO4014 := n1_; have HO4020 := n2_; have HO4026 := n3_; have BK4001 := n4_; have BK4002 := n5_; have BK4021 := n6_; have BK4027 := n7_; have HB := n8_; clear n0_ n1_ n2_ n3_ n4_ n5_ n6_ n7_ n8_; (try clear hb); (try clear hb2); (try clear hk); (try clear hi)))
        go_ret
        exact ⟨by first | rfl | (simp [errW_none, errW_some] <;> rfl) | (simp [*, errW_none, errW_some] <;> rfl), by repeat (first | (with_reducible first | exact HB.out | apply below_alloc | apply pw_below_drewN | apply below_drew1 | refine below_set ?_ GE4001.out | refine below_set ?_ GE4002.out | refine below_set ?_ GE4021.out | refine below_set ?_ GE4027.out) | exact HB.out)⟩
      · rw [if_neg c25] at H
        have c25b0 : (t4028 != t4015) = false := by simpa using c25
        (try (have c25b1 : decide (t4028 = t4015) = true := by simpa using c25))
        (try (have c25b2 : (t4028 == t4015) = true := by simpa using c25))
        clear c25
        replace H := Option.bind_eq_some_iff.mp H
        obtain ⟨⟨t4029, t4030, t4031⟩, A560, H⟩ := H
        replace H : ((laws_eqState.f k t4016 t4017 t4018 t4029 t4030 t4031).bind fun t4034 => (if t4034 = true then ((laws_toState.f k a1_0 a1_1 l1_2).bind fun bt4035 => ((laws_eqState.f k t4022 t4023 t4024 bt4035.1 bt4035.2.1 bt4035.2.2).bind fun t4040 => (if t4040 = true then (some true) else (some false)))) else (some false))) = some r := H
        have A56 := Aside0.mk A560
        clear A560
        replace H := Option.bind_eq_some_iff.mp H
        obtain ⟨t4034, A570, H⟩ := H
        replace H : (if t4034 = true then ((laws_toState.f k a1_0 a1_1 l1_2).bind fun bt4035 => ((laws_eqState.f k t4022 t4023 t4024 bt4035.1 bt4035.2.1 bt4035.2.2).bind fun t4040 => (if t4040 = true then (some true) else (some false)))) else (some false)) = some r := H
        have A57 := Aside0.mk A570
        clear A570
        by_cases c58 : t4034 = true
        · subst c58
          have H1 : ((laws_toState.f k a1_0 a1_1 l1_2).bind fun bt4035 => ((laws_eqState.f k t4022 t4023 t4024 bt4035.1 bt4035.2.1 bt4035.2.2).bind fun t4040 => (if t4040 = true then (some true) else (some false)))) = some r := by rw [if_pos rfl] at H; exact H
          clear H
          have H := H1
          clear H1
          replace H := Option.bind_eq_some_iff.mp H
          obtain ⟨⟨t4035, t4036, t4037⟩, A590, H⟩ := H
          replace H : ((laws_eqState.f k t4022 t4023 t4024 t4035 t4036 t4037).bind fun t4040 => (if t4040 = true then (some true) else (some false))) = some r := H
          have A59 := Aside0.mk A590
          clear A590
          replace H := Option.bind_eq_some_iff.mp H
          obtain ⟨t4040, A600, H⟩ := H
          replace H : (if t4040 = true then (some true) else (some false)) = some r := H
          have A60 := Aside0.mk A600
          clear A600
          by_cases c61 : t4040 = true
          · subst c61
            have H1 : (some true) = some r := by rw [if_pos rfl] at H; exact H
            clear H
            have H := H1
            clear H1
            obtain rfl := Option.some.inj H
            go_enter Try.func4, Try.ntmps4
            try go_wp2_with (first | ((with_reducible refine gate_dst (N := 2) rfl ?_); refine box_event ?hg (N := 2) ?hd (cs := #[.string a0_0, .string a0_1, .slice A0_2 l0_2.length c0_2]) (t := 47) ?hr ?_; (case hd => rfl); (case hg => rfl); (case hr => first | (go_simp; done) | (go_simp; rfl)); intro gb4001 hg w62 hbox hb; have n0_ := Aside0.mk (below_step (by repeat (first | (with_reducible first | exact HB.out | apply below_alloc | apply pw_below_drewN | apply below_drew1) | exact HB.out)) hb); have n1_ := Aside0.mk (hbox); have n2_ := Aside0.mk ((by rw [hg]; exact (below_size (by repeat (first | (with_reducible first | exact HB.out | apply below_alloc | apply pw_below_drewN | apply below_drew1) | exact HB.out))) : w.heap.size ≤ gb4001)); have n3_ := Aside0.mk ((by rw [hg]; exact (below_size (by repeat (first | (with_reducible first | exact HB.out | apply below_alloc | apply pw_below_drewN | apply below_drew1) | exact HB.out))) : w.heap.size ≤ gb4001)); clear HB; have HB := n0_; have BK4001 := n1_; have GW4001 := n2_; have GE4001 := n3_; clear n0_ n1_ n2_ n3_; clear hb hbox hg) | ((with_reducible refine gate_dst (N := 3) rfl ?_); refine box_event ?hg (N := 3) ?hd (cs := #[.string a1_0, .string a1_1, .slice A1_2 l1_2.length c1_2]) (t := 47) ?hr ?_; (case hd => rfl); (case hg => rfl); (case hr => first | (go_simp; done) | (go_simp; rfl)); intro gb4002 hg w63 hbox hb; have n0_ := Aside0.mk (blk_below (g := gb4001) (o := .cells #[.string a0_0, .string a0_1, .slice A0_2 l0_2.length c0_2] 47 (0, 0)) (by (with_reducible repeat (first | refine blk_drewN ?_ _ | refine blk_drew ?_ | refine blk_alloc ?_ _)); exact BK4001.out) hb); have n1_ := Aside0.mk (below_step (by repeat (first | (with_reducible first | exact HB.out | apply below_alloc | apply pw_below_drewN | apply below_drew1 | refine below_set ?_ GE4001.out) | exact HB.out)) hb); have n2_ := Aside0.mk (hbox); have n3_ := Aside0.mk ((by rw [hg]; exact (below_size (by repeat (first | (with_reducible first | exact HB.out | apply below_alloc | apply pw_below_drewN | apply below_drew1 | refine below_set ?_ GE4001.out) | exact HB.out))) : w.heap.size ≤ gb4002)); have n4_ := Aside0.mk ((by rw [hg]; exact (below_size (by repeat (first | (with_reducible first | exact HB.out | apply below_alloc | apply pw_below_drewN | apply below_drew1 | refine below_set ?_ GE4001.out) | exact HB.out))) : w.heap.size ≤ gb4002)); have n5_ := Aside0.mk ((by rw [hg]; exact Nat.ne_of_lt (blk_lt (g := gb4001) (o := .cells #[.string a0_0, .string a0_1, .slice A0_2 l0_2.length c0_2] 47 (0, 0)) (by (with_reducible repeat (first | refine blk_drewN ?_ _ | refine blk_drew ?_ | refine blk_alloc ?_ _)); exact BK4001.out)) : gb4001 ≠ gb4002)); have n6_ := Aside0.mk ((by rw [hg]; exact Nat.ne_of_gt (blk_lt (g := gb4001) (o := .cells #[.string a0_0, .string a0_1, .slice A0_2 l0_2.length c0_2] 47 (0, 0)) (by (with_reducible repeat (first | refine blk_drewN ?_ _ | refine blk_drew ?_ | refine blk_alloc ?_ _)); exact BK4001.out)) : gb4002 ≠ gb4001)); clear BK4001; clear HB; have BK4001 := n0_; have HB := n1_; have BK4002 := n2_; have GW4002 := n3_; have GE4002 := n4_; have NB4001_4002 := n5_; have NB4002_4001 := n6_; clear n0_ n1_ n2_ n3_ n4_ n5_ n6_; clear hb hbox hg; have hnb64 := NB4001_4002.out; have hnc64 := NB4002_4001.out; have hcz65_0 : w63.cell? ⟨gb4001, 0, none⟩ = some (.string a0_0) := (blk_cell BK4001.out 0).trans rfl; have hcz65_1 : w63.cell? ⟨gb4001, 1, none⟩ = some (.string a0_1) := (blk_cell BK4001.out 1).trans rfl; have hcz65_2 : w63.cell? ⟨gb4001, 2, none⟩ = some (.slice A0_2 l0_2.length c0_2) := (blk_cell BK4001.out 2).trans rfl; have hfz65_0 := blk_frozen BK4001.out 0; have hfz65_1 := blk_frozen BK4001.out 1; have hfz65_2 := blk_frozen BK4001.out 2) | ((with_reducible refine gate_callee (f := 28) rfl ?_); refine goesL_ (some 12) rfl rfl Try.func28 (by kernel_rfl) rfl #[.agg #[.string a0_0, .string a0_1, .slice A0_2 l0_2.length c0_2], .int .i64 1048576] rfl (by (try simp only [List.map_toArray, List.map_cons, List.map_nil]); first | done | rfl | (simp only [List.length_drop, List.length_take]; rfl)) ?_; (with_reducible refine (laws_szState.calls a0_0 a0_1 _ _ l0_2 1048576 t4003 _ ?side1 ?side2 A3.out).mono ?_); (case side1 => repeat (first | exact (Kd.C_below HR0_2.out HB.out) | (with_reducible refine Kd.C_alloc ?_ _) | (with_reducible refine Kd.C_drewN ?_ _) | (with_reducible refine Kd.C_drew ?_))); (case side2 => exact HC0_2.out); rintro e w66 ⟨rfl, hb⟩; refine ⟨_, rfl, ?_⟩; have n0_ := Aside0.mk (blk_below (g := gb4001) (o := .cells #[.string a0_0, .string a0_1, .slice A0_2 l0_2.length c0_2] 47 (0, 0)) (by (with_reducible repeat (first | refine blk_drewN ?_ _ | refine blk_drew ?_ | refine blk_alloc ?_ _)); exact BK4001.out) hb); have n1_ := Aside0.mk (blk_below (g := gb4002) (o := .cells #[.string a1_0, .string a1_1, .slice A1_2 l1_2.length c1_2] 47 (0, 0)) (by (with_reducible repeat (first | refine blk_drewN ?_ _ | refine blk_drew ?_ | refine blk_alloc ?_ _)); exact BK4002.out) hb); have n2_ := Aside0.mk (below_step (by repeat (first | (with_reducible first | exact HB.out | apply below_alloc | apply pw_below_drewN | apply below_drew1 | refine below_set ?_ GE4001.out | refine below_set ?_ GE4002.out) | exact HB.out)) hb); clear BK4001; clear BK4002; clear HB; have BK4001 := n0_; have BK4002 := n1_; have HB := n2_; clear n0_ n1_ n2_; (try clear hb); (try clear hb2); (try clear hk); (try clear hi); have hcz67_0 : w66.cell? ⟨gb4002, 0, none⟩ = some (.string a1_0) := (blk_cell BK4002.out 0).trans rfl; have hcz67_1 : w66.cell? ⟨gb4002, 1, none⟩ = some (.string a1_1) := (blk_cell BK4002.out 1).trans rfl; have hcz67_2 : w66.cell? ⟨gb4002, 2, none⟩ = some (.slice A1_2 l1_2.length c1_2) := (blk_cell BK4002.out 2).trans rfl; have hfz67_0 := blk_frozen BK4002.out 0; have hfz67_1 := blk_frozen BK4002.out 1; have hfz67_2 := blk_frozen BK4002.out 2) | ((with_reducible refine gate_callee (f := 28) rfl ?_); refine goesL_ (some 17) rfl rfl Try.func28 (by kernel_rfl) rfl #[.agg #[.string a1_0, .string a1_1, .slice A1_2 l1_2.length c1_2], .int .i64 t4003] rfl (by (try simp only [List.map_toArray, List.map_cons, List.map_nil]); first | done | rfl | (simp only [List.length_drop, List.length_take]; rfl)) ?_; (with_reducible refine (laws_szState.calls a1_0 a1_1 _ _ l1_2 t4003 t4004 _ ?side1 ?side2 A10.out).mono ?_); (case side1 => repeat (first | exact (Kd.C_below HR1_2.out HB.out) | (with_reducible refine Kd.C_alloc ?_ _) | (with_reducible refine Kd.C_drewN ?_ _) | (with_reducible refine Kd.C_drew ?_))); (case side2 => exact HC1_2.out); rintro e w68 ⟨rfl, hb⟩; refine ⟨_, rfl, ?_⟩; have n0_ := Aside0.mk (blk_below (g := gb4001) (o := .cells #[.string a0_0, .string a0_1, .slice A0_2 l0_2.length c0_2] 47 (0, 0)) (by (with_reducible repeat (first | refine blk_drewN ?_ _ | refine blk_drew ?_ | refine blk_alloc ?_ _)); exact BK4001.out) hb); have n1_ := Aside0.mk (blk_below (g := gb4002) (o := .cells #[.string a1_0, .string a1_1, .slice A1_2 l1_2.length c1_2] 47 (0, 0)) (by (with_reducible repeat (first | refine blk_drewN ?_ _ | refine blk_drew ?_ | refine blk_alloc ?_ _)); exact BK4002.out) hb); have n2_ := Aside0.mk (below_step (by repeat (first | (with_reducible first | exact HB.out | apply below_alloc | apply pw_below_drewN | apply below_drew1 | refine below_set ?_ GE4001.out | refine below_set ?_ GE4002.out) | exact HB.out)) hb); clear BK4001; clear BK4002; clear HB; have BK4001 := n0_; have BK4002 := n1_; have HB := n2_; clear n0_ n1_ n2_; (try clear hb); (try clear hb2); (try clear hk); (try clear hi)))
            have n0_ := Aside0.mk (blk_drew BK4001.out)
            have n1_ := Aside0.mk (blk_drew BK4002.out)
            have n2_ := Aside0.mk (below_drew1 HB.out)
            clear BK4001
            clear BK4002
            clear HB
            have BK4001 := n0_
            have BK4002 := n1_
            have HB := n2_
            clear n0_ n1_ n2_
            refine start_ (n := 6) (S := fun w' => w'.cell? ⟨gb4001, 0, none⟩ = some (.string a0_0) ∧ w'.cell? ⟨gb4001, 1, none⟩ = some (.string a0_1) ∧ w'.cell? ⟨gb4001, 2, none⟩ = some (.slice A0_2 l0_2.length c0_2) ∧ w'.cell? ⟨gb4002, 0, none⟩ = some (.string a1_0) ∧ w'.cell? ⟨gb4002, 1, none⟩ = some (.string a1_1) ∧ w'.cell? ⟨gb4002, 2, none⟩ = some (.slice A1_2 l1_2.length c1_2)) (ds := []) #[false, false, false, false, false, false] (by kernel_rfl) rfl rfl ⟨(blk_cell BK4001.out 0).trans rfl, (blk_cell BK4001.out 1).trans rfl, (blk_cell BK4001.out 2).trans rfl, (blk_cell BK4002.out 0).trans rfl, (blk_cell BK4002.out 1).trans rfl, (blk_cell BK4002.out 2).trans rfl⟩ (fun hHeld => ?_)
            generalize w68.drew = w69 at BK4001 BK4002 HB hHeld ⊢
            refine take_ (i := 0) (N := some 20) (v := ?_) (a' := ?_) #[true, false, false, false, false, false] rfl rfl (by kernel_rfl) (fun _ _ _ h => h) (Or.inl ⟨by rfl, ?_⟩) hHeld ?_ ?_
            rotate_left
            · rintro w' ⟨s0, s1, s2, s3, s4, s5⟩
              go_simp
              first | with_reducible rfl | (rw [if_neg (by omega)]; done)
            rotate_left
            · simp only [Act.put, List.setIfInBounds_toArray, List.set_cons_zero, List.set_cons_succ, i64_w, i32_w]
              rfl
            refine take_ (i := 2) (N := some 22) (v := ?_) (a' := ?_) #[true, false, true, false, false, false] rfl rfl (by kernel_rfl) (fun _ _ _ h => h) (Or.inl ⟨by rfl, ?_⟩) hHeld ?_ ?_
            rotate_left
            · rintro w' ⟨s0, s1, s2, s3, s4, s5⟩
              go_simp
              first | with_reducible rfl | (rw [if_neg (by omega)]; done)
            rotate_left
            · simp only [Act.put, List.setIfInBounds_toArray, List.set_cons_zero, List.set_cons_succ, i64_w, i32_w]
              rfl
            refine one_ (i := 1) (N := some 21) #[true, true, true, false, false, false] rfl rfl (by kernel_rfl) (by decide) (fun K hK => ?_)
            refine goes_ Try.func30 (by kernel_rfl) rfl #[.agg #[.string a0_0, .string a0_1, .slice A0_2 l0_2.length c0_2]] (by rfl) rfl rfl (by (try simp only [List.map_toArray, List.map_cons, List.map_nil]); first | done | rfl | (simp only [List.length_drop, List.length_take]; rfl)) ?_
            with_reducible refine (laws_toState.calls k a0_0 a0_1 _ _ l0_2 t4005 t4006 t4007 _ ?side1 ?side2 A19.out).mono ?_
            (case side1 => repeat (first | exact (Kd.C_below HR0_2.out HB.out) | (with_reducible refine Kd.C_alloc ?_ _) | (with_reducible refine Kd.C_drewN ?_ _) | (with_reducible refine Kd.C_drew ?_)))
            (case side2 => exact HC0_2.out)
            rintro e w70 ⟨v4008, rfl, ho0, hb⟩
            refine ⟨_, rfl, ?_⟩
            have n0_ := Aside0.mk (Kd.R_lower ho0 (below_size (by repeat (first | (with_reducible first | exact HB.out | apply below_alloc | apply pw_below_drewN | apply below_drew1 | refine below_set ?_ GE4001.out | refine below_set ?_ GE4002.out) | exact HB.out))))
            have n1_ := Aside0.mk (blk_below (g := gb4001) (o := .cells #[.string a0_0, .string a0_1, .slice A0_2 l0_2.length c0_2] 47 (0, 0)) (by (with_reducible repeat (first | refine blk_drewN ?_ _ | refine blk_drew ?_ | refine blk_alloc ?_ _)); exact BK4001.out) hb)
            have n2_ := Aside0.mk (blk_below (g := gb4002) (o := .cells #[.string a1_0, .string a1_1, .slice A1_2 l1_2.length c1_2] 47 (0, 0)) (by (with_reducible repeat (first | refine blk_drewN ?_ _ | refine blk_drew ?_ | refine blk_alloc ?_ _)); exact BK4002.out) hb)
            have n3_ := Aside0.mk (below_step (by repeat (first | (with_reducible first | exact HB.out | apply below_alloc | apply pw_below_drewN | apply below_drew1 | refine below_set ?_ GE4001.out | refine below_set ?_ GE4002.out) | exact HB.out)) hb)
            clear BK4001
            clear BK4002
            clear HB
            have HO4009 := n0_
            have BK4001 := n1_
            have BK4002 := n2_
            have HB := n3_
            clear n0_ n1_ n2_ n3_
            (try clear hb)
            (try clear hb2)
            (try clear hk)
            (try clear hi)
            (try clear ho0)
            refine hK.out _ _ ⟨(blk_cell BK4001.out 0).trans rfl, (blk_cell BK4001.out 1).trans rfl, (blk_cell BK4001.out 2).trans rfl, (blk_cell BK4002.out 0).trans rfl, (blk_cell BK4002.out 1).trans rfl, (blk_cell BK4002.out 2).trans rfl⟩ (fun hHeld => ?_)
            clear hK K
            refine norm_ (a' := ?_) ?_ ?_
            rotate_left
            · show Act.put _ (some 21) _ = _
              simp only [Act.put, List.setIfInBounds_toArray, List.set_cons_zero, List.set_cons_succ, i64_w, i32_w]
              rfl
            refine one_ (i := 3) (N := some 23) #[true, true, true, true, false, false] rfl rfl (by kernel_rfl) (by decide) (fun K hK => ?_)
            refine goes_ Try.func30 (by kernel_rfl) rfl #[.agg #[.string a1_0, .string a1_1, .slice A1_2 l1_2.length c1_2]] (by rfl) rfl rfl (by (try simp only [List.map_toArray, List.map_cons, List.map_nil]); first | done | rfl | (simp only [List.length_drop, List.length_take]; rfl)) ?_
            with_reducible refine (laws_toState.calls k a1_0 a1_1 _ _ l1_2 t4010 t4011 t4012 _ ?side1 ?side2 A20.out).mono ?_
            (case side1 => repeat (first | exact (Kd.C_below HR1_2.out HB.out) | (with_reducible refine Kd.C_alloc ?_ _) | (with_reducible refine Kd.C_drewN ?_ _) | (with_reducible refine Kd.C_drew ?_)))
            (case side2 => exact HC1_2.out)
            rintro e w71 ⟨v4013, rfl, ho0, hb⟩
            refine ⟨_, rfl, ?_⟩
            have n0_ := Aside0.mk (Kd.R_elder' (by (with_reducible repeat (first | apply Kd.R_alloc | apply Kd.R_drewN | apply Kd.R_drew)); exact HO4009.out) (Kd.R_base ho0) hb)
            have n1_ := Aside0.mk (Kd.R_lower (Kd.R_new' ho0 (Kd.R_lt (by (with_reducible repeat (first | apply Kd.R_alloc | apply Kd.R_drewN | apply Kd.R_drew)); exact HO4009.out))) (below_size (by repeat (first | (with_reducible first | exact HB.out | apply below_alloc | apply pw_below_drewN | apply below_drew1 | refine below_set ?_ GE4001.out | refine below_set ?_ GE4002.out) | exact HB.out))))
            have n2_ := Aside0.mk (blk_below (g := gb4001) (o := .cells #[.string a0_0, .string a0_1, .slice A0_2 l0_2.length c0_2] 47 (0, 0)) (by (with_reducible repeat (first | refine blk_drewN ?_ _ | refine blk_drew ?_ | refine blk_alloc ?_ _)); exact BK4001.out) hb)
            have n3_ := Aside0.mk (blk_below (g := gb4002) (o := .cells #[.string a1_0, .string a1_1, .slice A1_2 l1_2.length c1_2] 47 (0, 0)) (by (with_reducible repeat (first | refine blk_drewN ?_ _ | refine blk_drew ?_ | refine blk_alloc ?_ _)); exact BK4002.out) hb)
            have n4_ := Aside0.mk (below_step (by repeat (first | (with_reducible first | exact HB.out | apply below_alloc | apply pw_below_drewN | apply below_drew1 | refine below_set ?_ GE4001.out | refine below_set ?_ GE4002.out) | exact HB.out)) hb)
            clear HO4009
            clear BK4001
            clear BK4002
            clear HB
            have HO4009 := n0_
            have HO4014 := n1_
            have BK4001 := n2_
            have BK4002 := n3_
            have HB := n4_
            clear n0_ n1_ n2_ n3_ n4_
            (try clear hb)
            (try clear hb2)
            (try clear hk)
            (try clear hi)
            (try clear ho0)
            obtain ⟨Ao72, co72, eo72⟩ := Kd.R_slice HO4009.out
            (first | subst eo72 | (injection eo72 with f1_ f2_ f3_; have f4_ := f1_.symm; have f5_ := f3_.symm; clear f1_ f2_ f3_; subst f4_; subst f5_))
            obtain ⟨Ao73, co73, eo73⟩ := Kd.R_slice HO4014.out
            (first | subst eo73 | (injection eo73 with f1_ f2_ f3_; have f4_ := f1_.symm; have f5_ := f3_.symm; clear f1_ f2_ f3_; subst f4_; subst f5_))
            refine hK.out _ _ ⟨(blk_cell BK4001.out 0).trans rfl, (blk_cell BK4001.out 1).trans rfl, (blk_cell BK4001.out 2).trans rfl, (blk_cell BK4002.out 0).trans rfl, (blk_cell BK4002.out 1).trans rfl, (blk_cell BK4002.out 2).trans rfl⟩ (fun hHeld => ?_)
            clear hK K
            refine norm_ (a' := ?_) ?_ ?_
            rotate_left
            · show Act.put _ (some 23) _ = _
              simp only [Act.put, List.setIfInBounds_toArray, List.set_cons_zero, List.set_cons_succ, i64_w, i32_w]
              rfl
            refine one_ (i := 4) (N := some 24) #[true, true, true, true, true, false] rfl rfl (by kernel_rfl) (by decide) (fun K hK => ?_)
            refine goes_ Try.func29 (by kernel_rfl) rfl #[.agg #[.string t4005, .string t4006, .slice Ao72 t4007.length co72], .agg #[.string t4010, .string t4011, .slice Ao73 t4012.length co73]] (by rfl) rfl rfl (by (try simp only [List.map_toArray, List.map_cons, List.map_nil]); first | done | rfl | (simp only [List.length_drop, List.length_take]; rfl)) ?_
            with_reducible refine (spec_EqualState.calls k t4005 t4006 _ _ t4007 t4010 t4011 _ _ t4012 t4015 _ ?side1 ?side2 ?side3 ?side4 A21.out).mono ?_
            (case side1 => repeat (first | exact (Kd.R_reads' HO4009.out).2.2 | (with_reducible refine Kd.C_alloc ?_ _) | (with_reducible refine Kd.C_drewN ?_ _) | (with_reducible refine Kd.C_drew ?_)))
            (case side2 => exact (Kd.R_reads' HO4009.out).2.1)
            (case side3 => repeat (first | exact (Kd.R_reads' HO4014.out).2.2 | (with_reducible refine Kd.C_alloc ?_ _) | (with_reducible refine Kd.C_drewN ?_ _) | (with_reducible refine Kd.C_drew ?_)))
            (case side4 => exact (Kd.R_reads' HO4014.out).2.1)
            rintro e w74 ⟨rfl, hb⟩
            refine ⟨_, rfl, ?_⟩
            have n0_ := Aside0.mk (Kd.R_below (by (with_reducible repeat (first | apply Kd.R_alloc | apply Kd.R_drewN | apply Kd.R_drew)); exact HO4009.out) hb)
            have n1_ := Aside0.mk (Kd.R_below (by (with_reducible repeat (first | apply Kd.R_alloc | apply Kd.R_drewN | apply Kd.R_drew)); exact HO4014.out) hb)
            have n2_ := Aside0.mk (blk_below (g := gb4001) (o := .cells #[.string a0_0, .string a0_1, .slice A0_2 l0_2.length c0_2] 47 (0, 0)) (by (with_reducible repeat (first | refine blk_drewN ?_ _ | refine blk_drew ?_ | refine blk_alloc ?_ _)); exact BK4001.out) hb)
            have n3_ := Aside0.mk (blk_below (g := gb4002) (o := .cells #[.string a1_0, .string a1_1, .slice A1_2 l1_2.length c1_2] 47 (0, 0)) (by (with_reducible repeat (first | refine blk_drewN ?_ _ | refine blk_drew ?_ | refine blk_alloc ?_ _)); exact BK4002.out) hb)
            have n4_ := Aside0.mk (below_step (by repeat (first | (with_reducible first | exact HB.out | apply below_alloc | apply pw_below_drewN | apply below_drew1 | refine below_set ?_ GE4001.out | refine below_set ?_ GE4002.out) | exact HB.out)) hb)
            clear HO4009
            clear HO4014
            clear BK4001
            clear BK4002
            clear HB
            have HO4009 := n0_
            have HO4014 := n1_
            have BK4001 := n2_
            have BK4002 := n3_
            have HB := n4_
            clear n0_ n1_ n2_ n3_ n4_
            (try clear hb)
            (try clear hb2)
            (try clear hk)
            (try clear hi)
            refine hK.out _ _ ⟨(blk_cell BK4001.out 0).trans rfl, (blk_cell BK4001.out 1).trans rfl, (blk_cell BK4001.out 2).trans rfl, (blk_cell BK4002.out 0).trans rfl, (blk_cell BK4002.out 1).trans rfl, (blk_cell BK4002.out 2).trans rfl⟩ (fun hHeld => ?_)
            clear hK K
            refine norm_ (a' := ?_) ?_ ?_
            rotate_left
            · show Act.put _ (some 24) _ = _
              simp only [Act.put, List.setIfInBounds_toArray, List.set_cons_zero, List.set_cons_succ, i64_w, i32_w]
              rfl
            refine pure_ (i := 5) (N := some 6) (v := ?_) (a' := ?_) #[true, true, true, true, true, true] rfl rfl (by kernel_rfl) (fun _ _ _ h => h) (Or.inl ⟨by rfl, ?_⟩) ?_ ?_
            rotate_left
            · intro w'
              go_simp
              first | with_reducible rfl | (rw [if_neg (by omega)]; done)
            rotate_left
            · simp only [Act.put, List.setIfInBounds_toArray, List.set_cons_zero, List.set_cons_succ, i64_w, i32_w]
              rfl
            refine done_ (by kernel_rfl) ?_
            have hcz75_0 : w74.cell? ⟨gb4001, 0, none⟩ = some (.string a0_0) := (blk_cell BK4001.out 0).trans rfl
            have hcz75_1 : w74.cell? ⟨gb4001, 1, none⟩ = some (.string a0_1) := (blk_cell BK4001.out 1).trans rfl
            have hcz75_2 : w74.cell? ⟨gb4001, 2, none⟩ = some (.slice A0_2 l0_2.length c0_2) := (blk_cell BK4001.out 2).trans rfl
            have hfz75_0 := blk_frozen BK4001.out 0
            have hfz75_1 := blk_frozen BK4001.out 1
            have hfz75_2 := blk_frozen BK4001.out 2
            try go_wp2_with (first | ((with_reducible refine gate_callee (f := 30) rfl ?_); refine goesL_ (some 26) rfl rfl Try.func30 (by kernel_rfl) rfl #[.agg #[.string a0_0, .string a0_1, .slice A0_2 l0_2.length c0_2]] rfl (by (try simp only [List.map_toArray, List.map_cons, List.map_nil]); first | done | rfl | (simp only [List.length_drop, List.length_take]; rfl)) ?_; (with_reducible refine (laws_toState.calls k a0_0 a0_1 _ _ l0_2 t4016 t4017 t4018 _ ?side1 ?side2 A22.out).mono ?_); (case side1 => repeat (first | exact (Kd.C_below HR0_2.out HB.out) | (with_reducible refine Kd.C_alloc ?_ _) | (with_reducible refine Kd.C_drewN ?_ _) | (with_reducible refine Kd.C_drew ?_))); (case side2 => exact HC0_2.out); rintro e w76 ⟨v4019, rfl, ho0, hb⟩; refine ⟨_, rfl, ?_⟩; have n0_ := Aside0.mk (Kd.R_elder' (by (with_reducible repeat (first | apply Kd.R_alloc | apply Kd.R_drewN | apply Kd.R_drew)); exact HO4009.out) (Kd.R_base ho0) hb); have n1_ := Aside0.mk (Kd.R_elder' (by (with_reducible repeat (first | apply Kd.R_alloc | apply Kd.R_drewN | apply Kd.R_drew)); exact HO4014.out) (Kd.R_base ho0) hb); have n2_ := Aside0.mk (Kd.R_lower (Kd.R_new' (Kd.R_new' ho0 (Kd.R_lt (by (with_reducible repeat (first | apply Kd.R_alloc | apply Kd.R_drewN | apply Kd.R_drew)); exact HO4009.out))) (Kd.R_lt (by (with_reducible repeat (first | apply Kd.R_alloc | apply Kd.R_drewN | apply Kd.R_drew)); exact HO4014.out))) (below_size (by repeat (first | (with_reducible first | exact HB.out | apply below_alloc | apply pw_below_drewN | apply below_drew1 | refine below_set ?_ GE4001.out | refine below_set ?_ GE4002.out) | exact HB.out)))); have n3_ := Aside0.mk (blk_below (g := gb4001) (o := .cells #[.string a0_0, .string a0_1, .slice A0_2 l0_2.length c0_2] 47 (0, 0)) (by (with_reducible repeat (first | refine blk_drewN ?_ _ | refine blk_drew ?_ | refine blk_alloc ?_ _)); exact BK4001.out) hb); have n4_ := Aside0.mk (blk_below (g := gb4002) (o := .cells #[.string a1_0, .string a1_1, .slice A1_2 l1_2.length c1_2] 47 (0, 0)) (by (with_reducible repeat (first | refine blk_drewN ?_ _ | refine blk_drew ?_ | refine blk_alloc ?_ _)); exact BK4002.out) hb); have n5_ := Aside0.mk (below_step (by repeat (first | (with_reducible first | exact HB.out | apply below_alloc | apply pw_below_drewN | apply below_drew1 | refine below_set ?_ GE4001.out | refine below_set ?_ GE4002.out) | exact HB.out)) hb); clear HO4009; clear HO4014; clear BK4001; clear BK4002; clear HB; have HO4009 := n0_; have HO4014 := n1_; have HO4020 := n2_; have BK4001 := n3_; have BK4002 := n4_; have HB := n5_; clear n0_ n1_ n2_ n3_ n4_ n5_; (try clear hb); (try clear hb2); (try clear hk); (try clear hi); (try clear ho0)) | ((with_reducible refine gate_dst (N := 7) rfl ?_); refine box_event ?hg (N := 7) ?hd (cs := #[.string (⟨#[]⟩ : ByteArray), .string (⟨#[]⟩ : ByteArray), .slice none 0 0]) (t := 50) ?hr ?_; (case hd => rfl); (case hg => rfl); (case hr => first | (go_simp; done) | (go_simp; rfl)); intro gb4021 hg w77 hbox hb; have n0_ := Aside0.mk (Kd.R_below (by (with_reducible repeat (first | apply Kd.R_alloc | apply Kd.R_drewN | apply Kd.R_drew)); exact HO4009.out) hb); have n1_ := Aside0.mk (Kd.R_below (by (with_reducible repeat (first | apply Kd.R_alloc | apply Kd.R_drewN | apply Kd.R_drew)); exact HO4014.out) hb); have n2_ := Aside0.mk (Kd.R_below (by (with_reducible repeat (first | apply Kd.R_alloc | apply Kd.R_drewN | apply Kd.R_drew)); exact HO4020.out) hb); have n3_ := Aside0.mk (blk_below (g := gb4001) (o := .cells #[.string a0_0, .string a0_1, .slice A0_2 l0_2.length c0_2] 47 (0, 0)) (by (with_reducible repeat (first | refine blk_drewN ?_ _ | refine blk_drew ?_ | refine blk_alloc ?_ _)); exact BK4001.out) hb); have n4_ := Aside0.mk (blk_below (g := gb4002) (o := .cells #[.string a1_0, .string a1_1, .slice A1_2 l1_2.length c1_2] 47 (0, 0)) (by (with_reducible repeat (first | refine blk_drewN ?_ _ | refine blk_drew ?_ | refine blk_alloc ?_ _)); exact BK4002.out) hb); have n5_ := Aside0.mk (below_step (by repeat (first | (with_reducible first | exact HB.out | apply below_alloc | apply pw_below_drewN | apply below_drew1 | refine below_set ?_ GE4001.out | refine below_set ?_ GE4002.out) | exact HB.out)) hb); have n6_ := Aside0.mk (hbox); have n7_ := Aside0.mk ((by rw [hg]; exact (below_size (by repeat (first | (with_reducible first | exact HB.out | apply below_alloc | apply pw_below_drewN | apply below_drew1 | refine below_set ?_ GE4001.out | refine below_set ?_ GE4002.out) | exact HB.out))) : w.heap.size ≤ gb4021)); have n8_ := Aside0.mk ((by rw [hg]; exact (below_size (by repeat (first | (with_reducible first | exact HB.out | apply below_alloc | apply pw_below_drewN | apply below_drew1 | refine below_set ?_ GE4001.out | refine below_set ?_ GE4002.out) | exact HB.out))) : w.heap.size ≤ gb4021)); have n9_ := Aside0.mk ((by rw [hg]; exact Nat.ne_of_lt (blk_lt (g := gb4001) (o := .cells #[.string a0_0, .string a0_1, .slice A0_2 l0_2.length c0_2] 47 (0, 0)) (by (with_reducible repeat (first | refine blk_drewN ?_ _ | refine blk_drew ?_ | refine blk_alloc ?_ _)); exact BK4001.out)) : gb4001 ≠ gb4021)); have n10_ := Aside0.mk ((by rw [hg]; exact Nat.ne_of_gt (blk_lt (g := gb4001) (o := .cells #[.string a0_0, .string a0_1, .slice A0_2 l0_2.length c0_2] 47 (0, 0)) (by (with_reducible repeat (first | refine blk_drewN ?_ _ | refine blk_drew ?_ | refine blk_alloc ?_ _)); exact BK4001.out)) : gb4021 ≠ gb4001)); have n11_ := Aside0.mk ((by rw [hg]; exact Nat.ne_of_lt (blk_lt (g := gb4002) (o := .cells #[.string a1_0, .string a1_1, .slice A1_2 l1_2.length c1_2] 47 (0, 0)) (by (with_reducible repeat (first | refine blk_drewN ?_ _ | refine blk_drew ?_ | refine blk_alloc ?_ _)); exact BK4002.out)) : gb4002 ≠ gb4021)); have n12_ := Aside0.mk ((by rw [hg]; exact Nat.ne_of_gt (blk_lt (g := gb4002) (o := .cells #[.string a1_0, .string a1_1, .slice A1_2 l1_2.length c1_2] 47 (0, 0)) (by (with_reducible repeat (first | refine blk_drewN ?_ _ | refine blk_drew ?_ | refine blk_alloc ?_ _)); exact BK4002.out)) : gb4021 ≠ gb4002)); clear HO4009; clear HO4014; clear HO4020; clear BK4001; clear BK4002; clear HB; have HO4009 := n0_; have HO4014 := n1_; have HO4020 := n2_; have BK4001 := n3_; have BK4002 := n4_; have HB := n5_; have BK4021 := n6_; have GW4021 := n7_; have GE4021 := n8_; have NB4001_4021 := n9_; have NB4021_4001 := n10_; have NB4002_4021 := n11_; have NB4021_4002 := n12_; clear n0_ n1_ n2_ n3_ n4_ n5_ n6_ n7_ n8_ n9_ n10_ n11_ n12_; clear hb hbox hg; have hnb78 := NB4021_4001.out; have hnc78 := NB4001_4021.out; have hnb79 := NB4021_4002.out; have hnc79 := NB4002_4021.out; have hcz80_0 : w77.cell? ⟨gb4021, 0, none⟩ = some (.string (⟨#[]⟩ : ByteArray)) := (blk_cell BK4021.out 0).trans rfl; have hcz80_1 : w77.cell? ⟨gb4021, 1, none⟩ = some (.string (⟨#[]⟩ : ByteArray)) := (blk_cell BK4021.out 1).trans rfl; have hcz80_2 : w77.cell? ⟨gb4021, 2, none⟩ = some (.slice none 0 0) := (blk_cell BK4021.out 2).trans rfl; have hfz80_0 := blk_frozen BK4021.out 0; have hfz80_1 := blk_frozen BK4021.out 1; have hfz80_2 := blk_frozen BK4021.out 2; obtain ⟨Ao81, co81, eo81⟩ := Kd.R_slice HO4020.out; subst eo81; have hcz82_0 : w77.cell? ⟨gb4002, 0, none⟩ = some (.string a1_0) := (blk_cell BK4002.out 0).trans rfl; have hcz82_1 : w77.cell? ⟨gb4002, 1, none⟩ = some (.string a1_1) := (blk_cell BK4002.out 1).trans rfl; have hcz82_2 : w77.cell? ⟨gb4002, 2, none⟩ = some (.slice A1_2 l1_2.length c1_2) := (blk_cell BK4002.out 2).trans rfl; have hfz82_0 := blk_frozen BK4002.out 0; have hfz82_1 := blk_frozen BK4002.out 1; have hfz82_2 := blk_frozen BK4002.out 2) | ((with_reducible refine gate_callee (f := 30) rfl ?_); refine goesL_ (some 28) rfl rfl Try.func30 (by kernel_rfl) rfl #[.agg #[.string a1_0, .string a1_1, .slice A1_2 l1_2.length c1_2]] rfl (by (try simp only [List.map_toArray, List.map_cons, List.map_nil]); first | done | rfl | (simp only [List.length_drop, List.length_take]; rfl)) ?_; (with_reducible refine (laws_toState.calls k a1_0 a1_1 _ _ l1_2 t4022 t4023 t4024 _ ?side1 ?side2 A23.out).mono ?_); (case side1 => exact Kd.C_below HR1_2.out (by repeat (first | (with_reducible first | exact HB.out | apply below_alloc | apply pw_below_drewN | apply below_drew1 | refine below_set ?_ GE4001.out | refine below_set ?_ GE4002.out | refine below_set ?_ GE4021.out) | exact HB.out))); (case side2 => exact HC1_2.out); rintro e w83 ⟨v4025, rfl, ho0, hb⟩; refine ⟨_, rfl, ?_⟩; have n0_ := Aside0.mk (Kd.R_elder' (by (with_reducible repeat (first | apply Kd.R_alloc | apply Kd.R_drewN | apply Kd.R_drew)); exact (Kd.R_mono (Kd.R_far (p := ⟨gb4021, 2, none⟩) (Kd.R_far (p := ⟨gb4021, 1, none⟩) (Kd.R_far (p := ⟨gb4021, 0, none⟩) (Kd.R_types HO4009.out BK4021.out (by decide)) (fun _ hk => hk.2) (.string t4016)) (fun _ hk => hk.2) (.string t4017)) (fun _ hk => hk.2) (.slice Ao81 t4018.length co81)) (fun _ h_ => h_.1))) (Kd.R_base ho0) hb); have n1_ := Aside0.mk (Kd.R_elder' (by (with_reducible repeat (first | apply Kd.R_alloc | apply Kd.R_drewN | apply Kd.R_drew)); exact (Kd.R_mono (Kd.R_far (p := ⟨gb4021, 2, none⟩) (Kd.R_far (p := ⟨gb4021, 1, none⟩) (Kd.R_far (p := ⟨gb4021, 0, none⟩) (Kd.R_types HO4014.out BK4021.out (by decide)) (fun _ hk => hk.2) (.string t4016)) (fun _ hk => hk.2) (.string t4017)) (fun _ hk => hk.2) (.slice Ao81 t4018.length co81)) (fun _ h_ => h_.1))) (Kd.R_base ho0) hb); have n2_ := Aside0.mk (Kd.R_elder' (by (with_reducible repeat (first | apply Kd.R_alloc | apply Kd.R_drewN | apply Kd.R_drew)); exact (Kd.R_mono (Kd.R_far (p := ⟨gb4021, 2, none⟩) (Kd.R_far (p := ⟨gb4021, 1, none⟩) (Kd.R_far (p := ⟨gb4021, 0, none⟩) (Kd.R_types HO4020.out BK4021.out (by decide)) (fun _ hk => hk.2) (.string t4016)) (fun _ hk => hk.2) (.string t4017)) (fun _ hk => hk.2) (.slice Ao81 t4018.length co81)) (fun _ h_ => h_.1))) (Kd.R_base ho0) hb); have n3_ := Aside0.mk (Kd.R_lower (Kd.R_new' (Kd.R_new' (Kd.R_new' ho0 (Kd.R_lt (by (with_reducible repeat (first | apply Kd.R_alloc | apply Kd.R_drewN | apply Kd.R_drew)); exact (Kd.R_mono (Kd.R_far (p := ⟨gb4021, 2, none⟩) (Kd.R_far (p := ⟨gb4021, 1, none⟩) (Kd.R_far (p := ⟨gb4021, 0, none⟩) (Kd.R_types HO4009.out BK4021.out (by decide)) (fun _ hk => hk.2) (.string t4016)) (fun _ hk => hk.2) (.string t4017)) (fun _ hk => hk.2) (.slice Ao81 t4018.length co81)) (fun _ h_ => h_.1))))) (Kd.R_lt (by (with_reducible repeat (first | apply Kd.R_alloc | apply Kd.R_drewN | apply Kd.R_drew)); exact (Kd.R_mono (Kd.R_far (p := ⟨gb4021, 2, none⟩) (Kd.R_far (p := ⟨gb4021, 1, none⟩) (Kd.R_far (p := ⟨gb4021, 0, none⟩) (Kd.R_types HO4014.out BK4021.out (by decide)) (fun _ hk => hk.2) (.string t4016)) (fun _ hk => hk.2) (.string t4017)) (fun _ hk => hk.2) (.slice Ao81 t4018.length co81)) (fun _ h_ => h_.1))))) (Kd.R_lt (by (with_reducible repeat (first | apply Kd.R_alloc | apply Kd.R_drewN | apply Kd.R_drew)); exact (Kd.R_mono (Kd.R_far (p := ⟨gb4021, 2, none⟩) (Kd.R_far (p := ⟨gb4021, 1, none⟩) (Kd.R_far (p := ⟨gb4021, 0, none⟩) (Kd.R_types HO4020.out BK4021.out (by decide)) (fun _ hk => hk.2) (.string t4016)) (fun _ hk => hk.2) (.string t4017)) (fun _ hk => hk.2) (.slice Ao81 t4018.length co81)) (fun _ h_ => h_.1))))) (below_size (by repeat (first | (with_reducible first | exact HB.out | apply below_alloc | apply pw_below_drewN | apply below_drew1 | refine below_set ?_ GE4001.out | refine below_set ?_ GE4002.out | refine below_set ?_ GE4021.out) | exact HB.out)))); have n4_ := Aside0.mk (blk_below (g := gb4001) (o := .cells #[.string a0_0, .string a0_1, .slice A0_2 l0_2.length c0_2] 47 (0, 0)) (by (with_reducible repeat (first | refine blk_drewN ?_ _ | refine blk_drew ?_ | refine blk_alloc ?_ _)); refine blk_far ?_ NB4001_4021.out _; (with_reducible repeat (first | refine blk_drewN ?_ _ | refine blk_drew ?_ | refine blk_alloc ?_ _)); refine blk_far ?_ NB4001_4021.out _; (with_reducible repeat (first | refine blk_drewN ?_ _ | refine blk_drew ?_ | refine blk_alloc ?_ _)); refine blk_far ?_ NB4001_4021.out _; (with_reducible repeat (first | refine blk_drewN ?_ _ | refine blk_drew ?_ | refine blk_alloc ?_ _)); exact BK4001.out) hb); have n5_ := Aside0.mk (blk_below (g := gb4002) (o := .cells #[.string a1_0, .string a1_1, .slice A1_2 l1_2.length c1_2] 47 (0, 0)) (by (with_reducible repeat (first | refine blk_drewN ?_ _ | refine blk_drew ?_ | refine blk_alloc ?_ _)); refine blk_far ?_ NB4002_4021.out _; (with_reducible repeat (first | refine blk_drewN ?_ _ | refine blk_drew ?_ | refine blk_alloc ?_ _)); refine blk_far ?_ NB4002_4021.out _; (with_reducible repeat (first | refine blk_drewN ?_ _ | refine blk_drew ?_ | refine blk_alloc ?_ _)); refine blk_far ?_ NB4002_4021.out _; (with_reducible repeat (first | refine blk_drewN ?_ _ | refine blk_drew ?_ | refine blk_alloc ?_ _)); exact BK4002.out) hb); have n6_ := Aside0.mk (blk_below (g := gb4021) (o := .cells #[.string t4016, .string t4017, .slice Ao81 t4018.length co81] 50 (0, 0)) (by (with_reducible repeat (first | refine blk_drewN ?_ _ | refine blk_drew ?_ | refine blk_alloc ?_ _)); refine blk_put (cs := #[.string t4016, .string t4017, .slice none 0 0]) ?_ 2 _ rfl; (with_reducible repeat (first | refine blk_drewN ?_ _ | refine blk_drew ?_ | refine blk_alloc ?_ _)); refine blk_put (cs := #[.string t4016, .string (⟨#[]⟩ : ByteArray), .slice none 0 0]) ?_ 1 _ rfl; (with_reducible repeat (first | refine blk_drewN ?_ _ | refine blk_drew ?_ | refine blk_alloc ?_ _)); refine blk_put (cs := #[.string (⟨#[]⟩ : ByteArray), .string (⟨#[]⟩ : ByteArray), .slice none 0 0]) ?_ 0 _ rfl; (with_reducible repeat (first | refine blk_drewN ?_ _ | refine blk_drew ?_ | refine blk_alloc ?_ _)); exact BK4021.out) hb); have n7_ := Aside0.mk (below_step (by repeat (first | (with_reducible first | exact HB.out | apply below_alloc | apply pw_below_drewN | apply below_drew1 | refine below_set ?_ GE4001.out | refine below_set ?_ GE4002.out | refine below_set ?_ GE4021.out) | exact HB.out)) hb); clear HO4009; clear HO4014; clear HO4020; clear BK4001; clear BK4002; clear BK4021; clear HB; have HO4009 := n0_; have HO4014 := n1_; have HO4020 := n2_; have HO4026 := n3_; have BK4001 := n4_; have BK4002 := n5_; have BK4021 := n6_; have HB := n7_; clear n0_ n1_ n2_ n3_ n4_ n5_ n6_ n7_; (try clear hb); (try clear hb2); (try clear hk); (try clear hi); (try clear ho0)) | ((with_reducible refine gate_dst (N := 8) rfl ?_); refine box_event ?hg (N := 8) ?hd (cs := #[.string (⟨#[]⟩ : ByteArray), .string (⟨#[]⟩ : ByteArray), .slice none 0 0]) (t := 50) ?hr ?_; (case hd => rfl); (case hg => rfl); (case hr => first | (go_simp; done) | (go_simp; rfl)); intro gb4027 hg w84 hbox hb; have n0_ := Aside0.mk (Kd.R_below (by (with_reducible repeat (first | apply Kd.R_alloc | apply Kd.R_drewN | apply Kd.R_drew)); exact HO4009.out) hb); have n1_ := Aside0.mk (Kd.R_below (by (with_reducible repeat (first | apply Kd.R_alloc | apply Kd.R_drewN | apply Kd.R_drew)); exact HO4014.out) hb); have n2_ := Aside0.mk (Kd.R_below (by (with_reducible repeat (first | apply Kd.R_alloc | apply Kd.R_drewN | apply Kd.R_drew)); exact HO4020.out) hb); have n3_ := Aside0.mk (Kd.R_below (by (with_reducible repeat (first | apply Kd.R_alloc | apply Kd.R_drewN | apply Kd.R_drew)); exact HO4026.out) hb); have n4_ := Aside0.mk (blk_below (g := gb4001) (o := .cells #[.string a0_0, .string a0_1, .slice A0_2 l0_2.length c0_2] 47 (0, 0)) (by (with_reducible repeat (first | refine blk_drewN ?_ _ | refine blk_drew ?_ | refine blk_alloc ?_ _)); exact BK4001.out) hb); have n5_ := Aside0.mk (blk_below (g := gb4002) (o := .cells #[.string a1_0, .string a1_1, .slice A1_2 l1_2.length c1_2] 47 (0, 0)) (by (with_reducible repeat (first | refine blk_drewN ?_ _ | refine blk_drew ?_ | refine blk_alloc ?_ _)); exact BK4002.out) hb); have n6_ := Aside0.mk (blk_below (g := gb4021) (o := .cells #[.string t4016, .string t4017, .slice Ao81 t4018.length co81] 50 (0, 0)) (by (with_reducible repeat (first | refine blk_drewN ?_ _ | refine blk_drew ?_ | refine blk_alloc ?_ _)); exact BK4021.out) hb); have n7_ := Aside0.mk (below_step (by repeat (first | (with_reducible first | exact HB.out | apply below_alloc | apply pw_below_drewN | apply below_drew1 | refine below_set ?_ GE4001.out | refine below_set ?_ GE4002.out | refine below_set ?_ GE4021.out) | exact HB.out)) hb); have n8_ := Aside0.mk (hbox); have n9_ := Aside0.mk ((by rw [hg]; exact (below_size (by repeat (first | (with_reducible first | exact HB.out | apply below_alloc | apply pw_below_drewN | apply below_drew1 | refine below_set ?_ GE4001.out | refine below_set ?_ GE4002.out | refine below_set ?_ GE4021.out) | exact HB.out))) : w.heap.size ≤ gb4027)); have n10_ := Aside0.mk ((by rw [hg]; exact (below_size (by repeat (first | (with_reducible first | exact HB.out | apply below_alloc | apply pw_below_drewN | apply below_drew1 | refine below_set ?_ GE4001.out | refine below_set ?_ GE4002.out | refine below_set ?_ GE4021.out) | exact HB.out))) : w.heap.size ≤ gb4027)); have n11_ := Aside0.mk ((by rw [hg]; exact Nat.ne_of_lt (blk_lt (g := gb4001) (o := .cells #[.string a0_0, .string a0_1, .slice A0_2 l0_2.length c0_2] 47 (0, 0)) (by (with_reducible repeat (first | refine blk_drewN ?_ _ | refine blk_drew ?_ | refine blk_alloc ?_ _)); exact BK4001.out)) : gb4001 ≠ gb4027)); have n12_ := Aside0.mk ((by rw [hg]; exact Nat.ne_of_gt (blk_lt (g := gb4001) (o := .cells #[.string a0_0, .string a0_1, .slice A0_2 l0_2.length c0_2] 47 (0, 0)) (by (with_reducible repeat (first | refine blk_drewN ?_ _ | refine blk_drew ?_ | refine blk_alloc ?_ _)); exact BK4001.out)) : gb4027 ≠ gb4001)); have n13_ := Aside0.mk ((by rw [hg]; exact Nat.ne_of_lt (blk_lt (g := gb4002) (o := .cells #[.string a1_0, .string a1_1, .slice A1_2 l1_2.length c1_2] 47 (0, 0)) (by (with_reducible repeat (first | refine blk_drewN ?_ _ | refine blk_drew ?_ | refine blk_alloc ?_ _)); exact BK4002.out)) : gb4002 ≠ gb4027)); have n14_ := Aside0.mk ((by rw [hg]; exact Nat.ne_of_gt (blk_lt (g := gb4002) (o := .cells #[.string a1_0, .string a1_1, .slice A1_2 l1_2.length c1_2] 47 (0, 0)) (by (with_reducible repeat (first | refine blk_drewN ?_ _ | refine blk_drew ?_ | refine blk_alloc ?_ _)); exact BK4002.out)) : gb4027 ≠ gb4002)); have n15_ := Aside0.mk ((by rw [hg]; exact Nat.ne_of_lt (blk_lt (g := gb4021) (o := .cells #[.string t4016, .string t4017, .slice Ao81 t4018.length co81] 50 (0, 0)) (by (with_reducible repeat (first | refine blk_drewN ?_ _ | refine blk_drew ?_ | refine blk_alloc ?_ _)); exact BK4021.out)) : gb4021 ≠ gb4027)); have n16_ := Aside0.mk ((by rw [hg]; exact Nat.ne_of_gt (blk_lt (g := gb4021) (o := .cells #[.string t4016, .string t4017, .slice Ao81 t4018.length co81] 50 (0, 0)) (by (with_reducible repeat (first | refine blk_drewN ?_ _ | refine blk_drew ?_ | refine blk_alloc ?_ _)); exact BK4021.out)) : gb4027 ≠ gb4021)); clear HO4009; clear HO4014; clear HO4020; clear HO4026; clear BK4001; clear BK4002; clear BK4021; clear HB; have HO4009 := n0_; have HO4014 := n1_; have HO4020 := n2_; have HO4026 := n3_; have BK4001 := n4_; have BK4002 := n5_; have BK4021 := n6_; have HB := n7_; have BK4027 := n8_; have GW4027 := n9_; have GE4027 := n10_; have NB4001_4027 := n11_; have NB4027_4001 := n12_; have NB4002_4027 := n13_; have NB4027_4002 := n14_; have NB4021_4027 := n15_; have NB4027_4021 := n16_; clear n0_ n1_ n2_ n3_ n4_ n5_ n6_ n7_ n8_ n9_ n10_ n11_ n12_ n13_ n14_ n15_ n16_; clear hb hbox hg; have hnb85 := NB4027_4001.out; have hnc85 := NB4001_4027.out; have hnb86 := NB4027_4002.out; have hnc86 := NB4002_4027.out; have hnb87 := NB4027_4021.out; have hnc87 := NB4021_4027.out; have hcz88_0 : w84.cell? ⟨gb4027, 0, none⟩ = some (.string (⟨#[]⟩ : ByteArray)) := (blk_cell BK4027.out 0).trans rfl; have hcz88_1 : w84.cell? ⟨gb4027, 1, none⟩ = some (.string (⟨#[]⟩ : ByteArray)) := (blk_cell BK4027.out 1).trans rfl; have hcz88_2 : w84.cell? ⟨gb4027, 2, none⟩ = some (.slice none 0 0) := (blk_cell BK4027.out 2).trans rfl; have hfz88_0 := blk_frozen BK4027.out 0; have hfz88_1 := blk_frozen BK4027.out 1; have hfz88_2 := blk_frozen BK4027.out 2; obtain ⟨Ao89, co89, eo89⟩ := Kd.R_slice HO4026.out; subst eo89; have hcz90_0 : w84.cell? ⟨gb4021, 0, none⟩ = some (.string t4016) := (blk_cell BK4021.out 0).trans rfl; have hcz90_1 : w84.cell? ⟨gb4021, 1, none⟩ = some (.string t4017) := (blk_cell BK4021.out 1).trans rfl; have hcz90_2 : w84.cell? ⟨gb4021, 2, none⟩ = some (.slice Ao81 t4018.length co81) := (blk_cell BK4021.out 2).trans rfl; have hfz90_0 := blk_frozen BK4021.out 0; have hfz90_1 := blk_frozen BK4021.out 1; have hfz90_2 := blk_frozen BK4021.out 2) | ((with_reducible refine gate_callee (f := 31) rfl ?_); refine goesL_ (some 31) rfl rfl Try.func31 (by kernel_rfl) rfl #[.agg #[.string t4016, .string t4017, .slice Ao81 t4018.length co81], .agg #[.string t4022, .string t4023, .slice Ao89 t4024.length co89]] rfl (by (try simp only [List.map_toArray, List.map_cons, List.map_nil]); first | done | rfl | (simp only [List.length_drop, List.length_take]; rfl)) ?_; (with_reducible refine (impl_EqualState.calls k t4016 t4017 _ _ t4018 t4022 t4023 _ _ t4024 t4028 _ ?side1 ?side2 ?side3 ?side4 A24.out).mono ?_); (case side1 => refine (Kd.R_reads' (e := 3) (base := w.heap.size) (ok := fun k_ => (((True ∧ some k_ ≠ (.slice Ao72 t4007.length co72 : Value).ownBlock) ∧ some k_ ≠ (.slice Ao73 t4012.length co73 : Value).ownBlock) ∧ some k_ ≠ (.slice Ao89 t4024.length co89 : Value).ownBlock)) (n := t4018.length) (c := co81) ?_).2.2; exact (by (with_reducible repeat (first | apply Kd.R_alloc | apply Kd.R_drewN | apply Kd.R_drew)); exact (Kd.R_mono (Kd.R_far (p := ⟨gb4027, 2, none⟩) (Kd.R_far (p := ⟨gb4027, 1, none⟩) (Kd.R_far (p := ⟨gb4027, 0, none⟩) (Kd.R_types HO4020.out BK4027.out (by decide)) (fun _ hk => hk.2) (.string t4022)) (fun _ hk => hk.2) (.string t4023)) (fun _ hk => hk.2) (.slice Ao89 t4024.length co89)) (fun _ h_ => h_.1)))); (case side2 => exact (Kd.R_reads' HO4020.out).2.1); (case side3 => refine (Kd.R_reads' (e := 3) (base := w.heap.size) (ok := fun k_ => (((True ∧ some k_ ≠ (.slice Ao72 t4007.length co72 : Value).ownBlock) ∧ some k_ ≠ (.slice Ao73 t4012.length co73 : Value).ownBlock) ∧ some k_ ≠ (.slice Ao81 t4018.length co81 : Value).ownBlock)) (n := t4024.length) (c := co89) ?_).2.2; exact (by (with_reducible repeat (first | apply Kd.R_alloc | apply Kd.R_drewN | apply Kd.R_drew)); exact (Kd.R_mono (Kd.R_far (p := ⟨gb4027, 2, none⟩) (Kd.R_far (p := ⟨gb4027, 1, none⟩) (Kd.R_far (p := ⟨gb4027, 0, none⟩) (Kd.R_types HO4026.out BK4027.out (by decide)) (fun _ hk => hk.2) (.string t4022)) (fun _ hk => hk.2) (.string t4023)) (fun _ hk => hk.2) (.slice Ao89 t4024.length co89)) (fun _ h_ => h_.1)))); (case side4 => exact (Kd.R_reads' HO4026.out).2.1); rintro e w91 ⟨rfl, hb⟩; refine ⟨_, rfl, ?_⟩; have n0_ := Aside0.mk (Kd.R_below (by (with_reducible repeat (first | apply Kd.R_alloc | apply Kd.R_drewN | apply Kd.R_drew)); exact (Kd.R_mono (Kd.R_far (p := ⟨gb4027, 2, none⟩) (Kd.R_far (p := ⟨gb4027, 1, none⟩) (Kd.R_far (p := ⟨gb4027, 0, none⟩) (Kd.R_types HO4009.out BK4027.out (by decide)) (fun _ hk => hk.2) (.string t4022)) (fun _ hk => hk.2) (.string t4023)) (fun _ hk => hk.2) (.slice Ao89 t4024.length co89)) (fun _ h_ => h_.1))) hb); have n1_ := Aside0.mk (Kd.R_below (by (with_reducible repeat (first | apply Kd.R_alloc | apply Kd.R_drewN | apply Kd.R_drew)); exact (Kd.R_mono (Kd.R_far (p := ⟨gb4027, 2, none⟩) (Kd.R_far (p := ⟨gb4027, 1, none⟩) (Kd.R_far (p := ⟨gb4027, 0, none⟩) (Kd.R_types HO4014.out BK4027.out (by decide)) (fun _ hk => hk.2) (.string t4022)) (fun _ hk => hk.2) (.string t4023)) (fun _ hk => hk.2) (.slice Ao89 t4024.length co89)) (fun _ h_ => h_.1))) hb); have n2_ := Aside0.mk (Kd.R_below (by (with_reducible repeat (first | apply Kd.R_alloc | apply Kd.R_drewN | apply Kd.R_drew)); exact (Kd.R_mono (Kd.R_far (p := ⟨gb4027, 2, none⟩) (Kd.R_far (p := ⟨gb4027, 1, none⟩) (Kd.R_far (p := ⟨gb4027, 0, none⟩) (Kd.R_types HO4020.out BK4027.out (by decide)) (fun _ hk => hk.2) (.string t4022)) (fun _ hk => hk.2) (.string t4023)) (fun _ hk => hk.2) (.slice Ao89 t4024.length co89)) (fun _ h_ => h_.1))) hb); have n3_ := Aside0.mk (Kd.R_below (by (with_reducible repeat (first | apply Kd.R_alloc | apply Kd.R_drewN | apply Kd.R_drew)); exact (Kd.R_mono (Kd.R_far (p := ⟨gb4027, 2, none⟩) (Kd.R_far (p := ⟨gb4027, 1, none⟩) (Kd.R_far (p := ⟨gb4027, 0, none⟩) (Kd.R_types HO4026.out BK4027.out (by decide)) (fun _ hk => hk.2) (.string t4022)) (fun _ hk => hk.2) (.string t4023)) (fun _ hk => hk.2) (.slice Ao89 t4024.length co89)) (fun _ h_ => h_.1))) hb); have n4_ := Aside0.mk (blk_below (g := gb4001) (o := .cells #[.string a0_0, .string a0_1, .slice A0_2 l0_2.length c0_2] 47 (0, 0)) (by (with_reducible repeat (first | refine blk_drewN ?_ _ | refine blk_drew ?_ | refine blk_alloc ?_ _)); refine blk_far ?_ NB4001_4027.out _; (with_reducible repeat (first | refine blk_drewN ?_ _ | refine blk_drew ?_ | refine blk_alloc ?_ _)); refine blk_far ?_ NB4001_4027.out _; (with_reducible repeat (first | refine blk_drewN ?_ _ | refine blk_drew ?_ | refine blk_alloc ?_ _)); refine blk_far ?_ NB4001_4027.out _; (with_reducible repeat (first | refine blk_drewN ?_ _ | refine blk_drew ?_ | refine blk_alloc ?_ _)); exact BK4001.out) hb); have n5_ := Aside0.mk (blk_below (g := gb4002) (o := .cells #[.string a1_0, .string a1_1, .slice A1_2 l1_2.length c1_2] 47 (0, 0)) (by (with_reducible repeat (first | refine blk_drewN ?_ _ | refine blk_drew ?_ | refine blk_alloc ?_ _)); refine blk_far ?_ NB4002_4027.out _; (with_reducible repeat (first | refine blk_drewN ?_ _ | refine blk_drew ?_ | refine blk_alloc ?_ _)); refine blk_far ?_ NB4002_4027.out _; (with_reducible repeat (first | refine blk_drewN ?_ _ | refine blk_drew ?_ | refine blk_alloc ?_ _)); refine blk_far ?_ NB4002_4027.out _; (with_reducible repeat (first | refine blk_drewN ?_ _ | refine blk_drew ?_ | refine blk_alloc ?_ _)); exact BK4002.out) hb); have n6_ := Aside0.mk (blk_below (g := gb4021) (o := .cells #[.string t4016, .string t4017, .slice Ao81 t4018.length co81] 50 (0, 0)) (by (with_reducible repeat (first | refine blk_drewN ?_ _ | refine blk_drew ?_ | refine blk_alloc ?_ _)); refine blk_far ?_ NB4021_4027.out _; (with_reducible repeat (first | refine blk_drewN ?_ _ | refine blk_drew ?_ | refine blk_alloc ?_ _)); refine blk_far ?_ NB4021_4027.out _; (with_reducible repeat (first | refine blk_drewN ?_ _ | refine blk_drew ?_ | refine blk_alloc ?_ _)); refine blk_far ?_ NB4021_4027.out _; (with_reducible repeat (first | refine blk_drewN ?_ _ | refine blk_drew ?_ | refine blk_alloc ?_ _)); exact BK4021.out) hb); have n7_ := Aside0.mk (blk_below (g := gb4027) (o := .cells #[.string t4022, .string t4023, .slice Ao89 t4024.length co89] 50 (0, 0)) (by (with_reducible repeat (first | refine blk_drewN ?_ _ | refine blk_drew ?_ | refine blk_alloc ?_ _)); refine blk_put (cs := #[.string t4022, .string t4023, .slice none 0 0]) ?_ 2 _ rfl; (with_reducible repeat (first | refine blk_drewN ?_ _ | refine blk_drew ?_ | refine blk_alloc ?_ _)); refine blk_put (cs := #[.string t4022, .string (⟨#[]⟩ : ByteArray), .slice none 0 0]) ?_ 1 _ rfl; (with_reducible repeat (first | refine blk_drewN ?_ _ | refine blk_drew ?_ | refine blk_alloc ?_ _)); refine blk_put (cs := #[.string (⟨#[]⟩ : ByteArray), .string (⟨#[]⟩ : ByteArray), .slice none 0 0]) ?_ 0 _ rfl; (with_reducible repeat (first | refine blk_drewN ?_ _ | refine blk_drew ?_ | refine blk_alloc ?_ _)); exact BK4027.out) hb); have n8_ := Aside0.mk (below_step (by repeat (first | (with_reducible first | exact HB.out | apply below_alloc | apply pw_below_drewN | apply below_drew1 | refine below_set ?_ GE4001.out | refine below_set ?_ GE4002.out | refine below_set ?_ GE4021.out | refine below_set ?_ GE4027.out) | exact HB.out)) hb); clear HO4009; clear HO4014; clear HO4020; clear HO4026; clear BK4001; clear BK4002; clear BK4021; clear BK4027; clear HB; have HO4009 := n0_; have HO4014 := n1_; have HO4020 := n2_; have HO4026 := n3_; have BK4001 := n4_; have BK4002 := n5_; have BK4021 := n6_; have BK4027 := n7_; have HB := n8_; clear n0_ n1_ n2_ n3_ n4_ n5_ n6_ n7_ n8_; (try clear hb); (try clear hb2); (try clear hk); (try clear hi)))
            have n0_ := Aside0.mk (Kd.R_drew HO4009.out)
            have n1_ := Aside0.mk (Kd.R_drew HO4014.out)
            have n2_ := Aside0.mk (Kd.R_drew HO4020.out)
            have n3_ := Aside0.mk (Kd.R_drew HO4026.out)
            have n4_ := Aside0.mk (blk_drew BK4001.out)
            have n5_ := Aside0.mk (blk_drew BK4002.out)
            have n6_ := Aside0.mk (blk_drew BK4021.out)
            have n7_ := Aside0.mk (blk_drew BK4027.out)
            have n8_ := Aside0.mk (below_drew1 HB.out)
            clear HO4009
            clear HO4014
            clear HO4020
            clear HO4026
            clear BK4001
            clear BK4002
            clear BK4021
            clear BK4027
            clear HB
            have HO4009 := n0_
            have HO4014 := n1_
            have HO4020 := n2_
            have HO4026 := n3_
            have BK4001 := n4_
            have BK4002 := n5_
            have BK4021 := n6_
            have BK4027 := n7_
            have HB := n8_
            clear n0_ n1_ n2_ n3_ n4_ n5_ n6_ n7_ n8_
            refine start_ (n := 5) (S := fun w' => w'.cell? ⟨gb4021, 0, none⟩ = some (.string t4016) ∧ w'.cell? ⟨gb4021, 1, none⟩ = some (.string t4017) ∧ w'.cell? ⟨gb4021, 2, none⟩ = some (.slice Ao81 t4018.length co81) ∧ w'.cell? ⟨gb4001, 0, none⟩ = some (.string a0_0) ∧ w'.cell? ⟨gb4001, 1, none⟩ = some (.string a0_1) ∧ w'.cell? ⟨gb4001, 2, none⟩ = some (.slice A0_2 l0_2.length c0_2)) (ds := []) #[false, false, false, false, false] (by kernel_rfl) rfl rfl ⟨(blk_cell BK4021.out 0).trans rfl, (blk_cell BK4021.out 1).trans rfl, (blk_cell BK4021.out 2).trans rfl, (blk_cell BK4001.out 0).trans rfl, (blk_cell BK4001.out 1).trans rfl, (blk_cell BK4001.out 2).trans rfl⟩ (fun hHeld => ?_)
            generalize w91.drew = w92 at HO4009 HO4014 HO4020 HO4026 BK4001 BK4002 BK4021 BK4027 HB hHeld ⊢
            refine take_ (i := 0) (N := some 35) (v := ?_) (a' := ?_) #[true, false, false, false, false] rfl rfl (by kernel_rfl) (fun _ _ _ h => h) (Or.inl ⟨by rfl, ?_⟩) hHeld ?_ ?_
            rotate_left
            · rintro w' ⟨s0, s1, s2, s3, s4, s5⟩
              go_simp
              first | with_reducible rfl | (rw [if_neg (by omega)]; done)
            rotate_left
            · simp only [Act.put, List.setIfInBounds_toArray, List.set_cons_zero, List.set_cons_succ, i64_w, i32_w]
              rfl
            refine take_ (i := 1) (N := some 36) (v := ?_) (a' := ?_) #[true, true, false, false, false] rfl rfl (by kernel_rfl) (fun _ _ _ h => h) (Or.inl ⟨by rfl, ?_⟩) hHeld ?_ ?_
            rotate_left
            · rintro w' ⟨s0, s1, s2, s3, s4, s5⟩
              go_simp
              first | with_reducible rfl | (rw [if_neg (by omega)]; done)
            rotate_left
            · simp only [Act.put, List.setIfInBounds_toArray, List.set_cons_zero, List.set_cons_succ, i64_w, i32_w]
              rfl
            refine one_ (i := 2) (N := some 37) #[true, true, true, false, false] rfl rfl (by kernel_rfl) (by decide) (fun K hK => ?_)
            refine goes_ Try.func30 (by kernel_rfl) rfl #[.agg #[.string a0_0, .string a0_1, .slice A0_2 l0_2.length c0_2]] (by rfl) rfl rfl (by (try simp only [List.map_toArray, List.map_cons, List.map_nil]); first | done | rfl | (simp only [List.length_drop, List.length_take]; rfl)) ?_
            with_reducible refine (laws_toState.calls k a0_0 a0_1 _ _ l0_2 t4029 t4030 t4031 _ ?side1 ?side2 A56.out).mono ?_
            (case side1 => repeat (first | exact (Kd.C_below HR0_2.out HB.out) | (with_reducible refine Kd.C_alloc ?_ _) | (with_reducible refine Kd.C_drewN ?_ _) | (with_reducible refine Kd.C_drew ?_)))
            (case side2 => exact HC0_2.out)
            rintro e w93 ⟨v4032, rfl, ho0, hb⟩
            refine ⟨_, rfl, ?_⟩
            have n0_ := Aside0.mk (Kd.R_elder' (by (with_reducible repeat (first | apply Kd.R_alloc | apply Kd.R_drewN | apply Kd.R_drew)); exact HO4009.out) (Kd.R_base ho0) hb)
            have n1_ := Aside0.mk (Kd.R_elder' (by (with_reducible repeat (first | apply Kd.R_alloc | apply Kd.R_drewN | apply Kd.R_drew)); exact HO4014.out) (Kd.R_base ho0) hb)
            have n2_ := Aside0.mk (Kd.R_elder' (by (with_reducible repeat (first | apply Kd.R_alloc | apply Kd.R_drewN | apply Kd.R_drew)); exact HO4020.out) (Kd.R_base ho0) hb)
            have n3_ := Aside0.mk (Kd.R_elder' (by (with_reducible repeat (first | apply Kd.R_alloc | apply Kd.R_drewN | apply Kd.R_drew)); exact HO4026.out) (Kd.R_base ho0) hb)
            have n4_ := Aside0.mk (Kd.R_lower (Kd.R_new' (Kd.R_new' (Kd.R_new' (Kd.R_new' ho0 (Kd.R_lt (by (with_reducible repeat (first | apply Kd.R_alloc | apply Kd.R_drewN | apply Kd.R_drew)); exact HO4009.out))) (Kd.R_lt (by (with_reducible repeat (first | apply Kd.R_alloc | apply Kd.R_drewN | apply Kd.R_drew)); exact HO4014.out))) (Kd.R_lt (by (with_reducible repeat (first | apply Kd.R_alloc | apply Kd.R_drewN | apply Kd.R_drew)); exact HO4020.out))) (Kd.R_lt (by (with_reducible repeat (first | apply Kd.R_alloc | apply Kd.R_drewN | apply Kd.R_drew)); exact HO4026.out))) (below_size (by repeat (first | (with_reducible first | exact HB.out | apply below_alloc | apply pw_below_drewN | apply below_drew1 | refine below_set ?_ GE4001.out | refine below_set ?_ GE4002.out | refine below_set ?_ GE4021.out | refine below_set ?_ GE4027.out) | exact HB.out))))
            have n5_ := Aside0.mk (blk_below (g := gb4001) (o := .cells #[.string a0_0, .string a0_1, .slice A0_2 l0_2.length c0_2] 47 (0, 0)) (by (with_reducible repeat (first | refine blk_drewN ?_ _ | refine blk_drew ?_ | refine blk_alloc ?_ _)); exact BK4001.out) hb)
            have n6_ := Aside0.mk (blk_below (g := gb4002) (o := .cells #[.string a1_0, .string a1_1, .slice A1_2 l1_2.length c1_2] 47 (0, 0)) (by (with_reducible repeat (first | refine blk_drewN ?_ _ | refine blk_drew ?_ | refine blk_alloc ?_ _)); exact BK4002.out) hb)
            have n7_ := Aside0.mk (blk_below (g := gb4021) (o := .cells #[.string t4016, .string t4017, .slice Ao81 t4018.length co81] 50 (0, 0)) (by (with_reducible repeat (first | refine blk_drewN ?_ _ | refine blk_drew ?_ | refine blk_alloc ?_ _)); exact BK4021.out) hb)
            have n8_ := Aside0.mk (blk_below (g := gb4027) (o := .cells #[.string t4022, .string t4023, .slice Ao89 t4024.length co89] 50 (0, 0)) (by (with_reducible repeat (first | refine blk_drewN ?_ _ | refine blk_drew ?_ | refine blk_alloc ?_ _)); exact BK4027.out) hb)
            have n9_ := Aside0.mk (below_step (by repeat (first | (with_reducible first | exact HB.out | apply below_alloc | apply pw_below_drewN | apply below_drew1 | refine below_set ?_ GE4001.out | refine below_set ?_ GE4002.out | refine below_set ?_ GE4021.out | refine below_set ?_ GE4027.out) | exact HB.out)) hb)
            clear HO4009
            clear HO4014
            clear HO4020
            clear HO4026
            clear BK4001
            clear BK4002
            clear BK4021
            clear BK4027
            clear HB
            have HO4009 := n0_
            have HO4014 := n1_
            have HO4020 := n2_
            have HO4026 := n3_
            have HO4033 := n4_
            have BK4001 := n5_
            have BK4002 := n6_
            have BK4021 := n7_
            have BK4027 := n8_
            have HB := n9_
            clear n0_ n1_ n2_ n3_ n4_ n5_ n6_ n7_ n8_ n9_
            (try clear hb)
            (try clear hb2)
            (try clear hk)
            (try clear hi)
            (try clear ho0)
            obtain ⟨Ao94, co94, eo94⟩ := Kd.R_slice HO4033.out
            (first | subst eo94 | (injection eo94 with f1_ f2_ f3_; have f4_ := f1_.symm; have f5_ := f3_.symm; clear f1_ f2_ f3_; subst f4_; subst f5_))
            refine hK.out _ _ ⟨(blk_cell BK4021.out 0).trans rfl, (blk_cell BK4021.out 1).trans rfl, (blk_cell BK4021.out 2).trans rfl, (blk_cell BK4001.out 0).trans rfl, (blk_cell BK4001.out 1).trans rfl, (blk_cell BK4001.out 2).trans rfl⟩ (fun hHeld => ?_)
            clear hK K
            refine norm_ (a' := ?_) ?_ ?_
            rotate_left
            · show Act.put _ (some 37) _ = _
              simp only [Act.put, List.setIfInBounds_toArray, List.set_cons_zero, List.set_cons_succ, i64_w, i32_w]
              rfl
            refine one_ (i := 3) (N := some 38) #[true, true, true, true, false] rfl rfl (by kernel_rfl) (by decide) (fun K hK => ?_)
            refine goes_ Try.func32 (by kernel_rfl) rfl #[.agg #[.string t4016, .string t4017, .slice Ao81 t4018.length co81], .agg #[.string t4029, .string t4030, .slice Ao94 t4031.length co94]] (by rfl) rfl rfl (by (try simp only [List.map_toArray, List.map_cons, List.map_nil]); first | done | rfl | (simp only [List.length_drop, List.length_take]; rfl)) ?_
            with_reducible refine (laws_eqState.calls k t4016 t4017 _ _ t4018 t4029 t4030 _ _ t4031 true _ ?side1 ?side2 ?side3 ?side4 A57.out).mono ?_
            (case side1 => repeat (first | exact (Kd.R_reads' HO4020.out).2.2 | (with_reducible refine Kd.C_alloc ?_ _) | (with_reducible refine Kd.C_drewN ?_ _) | (with_reducible refine Kd.C_drew ?_)))
            (case side2 => exact (Kd.R_reads' HO4020.out).2.1)
            (case side3 => repeat (first | exact (Kd.R_reads' HO4033.out).2.2 | (with_reducible refine Kd.C_alloc ?_ _) | (with_reducible refine Kd.C_drewN ?_ _) | (with_reducible refine Kd.C_drew ?_)))
            (case side4 => exact (Kd.R_reads' HO4033.out).2.1)
            rintro e w95 ⟨rfl, hb⟩
            refine ⟨_, rfl, ?_⟩
            have n0_ := Aside0.mk (Kd.R_below (by (with_reducible repeat (first | apply Kd.R_alloc | apply Kd.R_drewN | apply Kd.R_drew)); exact HO4009.out) hb)
            have n1_ := Aside0.mk (Kd.R_below (by (with_reducible repeat (first | apply Kd.R_alloc | apply Kd.R_drewN | apply Kd.R_drew)); exact HO4014.out) hb)
            have n2_ := Aside0.mk (Kd.R_below (by (with_reducible repeat (first | apply Kd.R_alloc | apply Kd.R_drewN | apply Kd.R_drew)); exact HO4020.out) hb)
            have n3_ := Aside0.mk (Kd.R_below (by (with_reducible repeat (first | apply Kd.R_alloc | apply Kd.R_drewN | apply Kd.R_drew)); exact HO4026.out) hb)
            have n4_ := Aside0.mk (Kd.R_below (by (with_reducible repeat (first | apply Kd.R_alloc | apply Kd.R_drewN | apply Kd.R_drew)); exact HO4033.out) hb)
            have n5_ := Aside0.mk (blk_below (g := gb4001) (o := .cells #[.string a0_0, .string a0_1, .slice A0_2 l0_2.length c0_2] 47 (0, 0)) (by (with_reducible repeat (first | refine blk_drewN ?_ _ | refine blk_drew ?_ | refine blk_alloc ?_ _)); exact BK4001.out) hb)
            have n6_ := Aside0.mk (blk_below (g := gb4002) (o := .cells #[.string a1_0, .string a1_1, .slice A1_2 l1_2.length c1_2] 47 (0, 0)) (by (with_reducible repeat (first | refine blk_drewN ?_ _ | refine blk_drew ?_ | refine blk_alloc ?_ _)); exact BK4002.out) hb)
            have n7_ := Aside0.mk (blk_below (g := gb4021) (o := .cells #[.string t4016, .string t4017, .slice Ao81 t4018.length co81] 50 (0, 0)) (by (with_reducible repeat (first | refine blk_drewN ?_ _ | refine blk_drew ?_ | refine blk_alloc ?_ _)); exact BK4021.out) hb)
            have n8_ := Aside0.mk (blk_below (g := gb4027) (o := .cells #[.string t4022, .string t4023, .slice Ao89 t4024.length co89] 50 (0, 0)) (by (with_reducible repeat (first | refine blk_drewN ?_ _ | refine blk_drew ?_ | refine blk_alloc ?_ _)); exact BK4027.out) hb)
            have n9_ := Aside0.mk (below_step (by repeat (first | (with_reducible first | exact HB.out | apply below_alloc | apply pw_below_drewN | apply below_drew1 | refine below_set ?_ GE4001.out | refine below_set ?_ GE4002.out | refine below_set ?_ GE4021.out | refine below_set ?_ GE4027.out) | exact HB.out)) hb)
            clear HO4009
            clear HO4014
            clear HO4020
            clear HO4026
            clear HO4033
            clear BK4001
            clear BK4002
            clear BK4021
            clear BK4027
            clear HB
            have HO4009 := n0_
            have HO4014 := n1_
            have HO4020 := n2_
            have HO4026 := n3_
            have HO4033 := n4_
            have BK4001 := n5_
            have BK4002 := n6_
            have BK4021 := n7_
            have BK4027 := n8_
            have HB := n9_
            clear n0_ n1_ n2_ n3_ n4_ n5_ n6_ n7_ n8_ n9_
            (try clear hb)
            (try clear hb2)
            (try clear hk)
            (try clear hi)
            refine hK.out _ _ ⟨(blk_cell BK4021.out 0).trans rfl, (blk_cell BK4021.out 1).trans rfl, (blk_cell BK4021.out 2).trans rfl, (blk_cell BK4001.out 0).trans rfl, (blk_cell BK4001.out 1).trans rfl, (blk_cell BK4001.out 2).trans rfl⟩ (fun hHeld => ?_)
            clear hK K
            refine norm_ (a' := ?_) ?_ ?_
            rotate_left
            · show Act.put _ (some 38) _ = _
              simp only [Act.put, List.setIfInBounds_toArray, List.set_cons_zero, List.set_cons_succ, i64_w, i32_w]
              rfl
            refine pure_ (i := 4) (N := some 39) (v := ?_) (a' := ?_) #[true, true, true, true, true] rfl rfl (by kernel_rfl) (fun _ _ _ h => h) (Or.inl ⟨by rfl, ?_⟩) ?_ ?_
            rotate_left
            · intro w'
              go_simp
              first | with_reducible rfl | (rw [if_neg (by omega)]; done)
            rotate_left
            · simp only [Act.put, List.setIfInBounds_toArray, List.set_cons_zero, List.set_cons_succ, i64_w, i32_w]
              rfl
            refine done_ (by kernel_rfl) ?_
            try go_wp2
            have n0_ := Aside0.mk (Kd.R_drew HO4009.out)
            have n1_ := Aside0.mk (Kd.R_drew HO4014.out)
            have n2_ := Aside0.mk (Kd.R_drew HO4020.out)
            have n3_ := Aside0.mk (Kd.R_drew HO4026.out)
            have n4_ := Aside0.mk (Kd.R_drew HO4033.out)
            have n5_ := Aside0.mk (blk_drew BK4001.out)
            have n6_ := Aside0.mk (blk_drew BK4002.out)
            have n7_ := Aside0.mk (blk_drew BK4021.out)
            have n8_ := Aside0.mk (blk_drew BK4027.out)
            have n9_ := Aside0.mk (below_drew1 HB.out)
            clear HO4009
            clear HO4014
            clear HO4020
            clear HO4026
            clear HO4033
            clear BK4001
            clear BK4002
            clear BK4021
            clear BK4027
            clear HB
            have HO4009 := n0_
            have HO4014 := n1_
            have HO4020 := n2_
            have HO4026 := n3_
            have HO4033 := n4_
            have BK4001 := n5_
            have BK4002 := n6_
            have BK4021 := n7_
            have BK4027 := n8_
            have HB := n9_
            clear n0_ n1_ n2_ n3_ n4_ n5_ n6_ n7_ n8_ n9_
            refine start_ (n := 5) (S := fun w' => w'.cell? ⟨gb4027, 0, none⟩ = some (.string t4022) ∧ w'.cell? ⟨gb4027, 1, none⟩ = some (.string t4023) ∧ w'.cell? ⟨gb4027, 2, none⟩ = some (.slice Ao89 t4024.length co89) ∧ w'.cell? ⟨gb4002, 0, none⟩ = some (.string a1_0) ∧ w'.cell? ⟨gb4002, 1, none⟩ = some (.string a1_1) ∧ w'.cell? ⟨gb4002, 2, none⟩ = some (.slice A1_2 l1_2.length c1_2)) (ds := []) #[false, false, false, false, false] (by kernel_rfl) rfl rfl ⟨(blk_cell BK4027.out 0).trans rfl, (blk_cell BK4027.out 1).trans rfl, (blk_cell BK4027.out 2).trans rfl, (blk_cell BK4002.out 0).trans rfl, (blk_cell BK4002.out 1).trans rfl, (blk_cell BK4002.out 2).trans rfl⟩ (fun hHeld => ?_)
            generalize w95.drew = w96 at HO4009 HO4014 HO4020 HO4026 HO4033 BK4001 BK4002 BK4021 BK4027 HB hHeld ⊢
            refine take_ (i := 0) (N := some 40) (v := ?_) (a' := ?_) #[true, false, false, false, false] rfl rfl (by kernel_rfl) (fun _ _ _ h => h) (Or.inl ⟨by rfl, ?_⟩) hHeld ?_ ?_
            rotate_left
            · rintro w' ⟨s0, s1, s2, s3, s4, s5⟩
              go_simp
              first | with_reducible rfl | (rw [if_neg (by omega)]; done)
            rotate_left
            · simp only [Act.put, List.setIfInBounds_toArray, List.set_cons_zero, List.set_cons_succ, i64_w, i32_w]
              rfl
            refine take_ (i := 1) (N := some 41) (v := ?_) (a' := ?_) #[true, true, false, false, false] rfl rfl (by kernel_rfl) (fun _ _ _ h => h) (Or.inl ⟨by rfl, ?_⟩) hHeld ?_ ?_
            rotate_left
            · rintro w' ⟨s0, s1, s2, s3, s4, s5⟩
              go_simp
              first | with_reducible rfl | (rw [if_neg (by omega)]; done)
            rotate_left
            · simp only [Act.put, List.setIfInBounds_toArray, List.set_cons_zero, List.set_cons_succ, i64_w, i32_w]
              rfl
            refine one_ (i := 2) (N := some 42) #[true, true, true, false, false] rfl rfl (by kernel_rfl) (by decide) (fun K hK => ?_)
            refine goes_ Try.func30 (by kernel_rfl) rfl #[.agg #[.string a1_0, .string a1_1, .slice A1_2 l1_2.length c1_2]] (by rfl) rfl rfl (by (try simp only [List.map_toArray, List.map_cons, List.map_nil]); first | done | rfl | (simp only [List.length_drop, List.length_take]; rfl)) ?_
            with_reducible refine (laws_toState.calls k a1_0 a1_1 _ _ l1_2 t4035 t4036 t4037 _ ?side1 ?side2 A59.out).mono ?_
            (case side1 => repeat (first | exact (Kd.C_below HR1_2.out HB.out) | (with_reducible refine Kd.C_alloc ?_ _) | (with_reducible refine Kd.C_drewN ?_ _) | (with_reducible refine Kd.C_drew ?_)))
            (case side2 => exact HC1_2.out)
            rintro e w97 ⟨v4038, rfl, ho0, hb⟩
            refine ⟨_, rfl, ?_⟩
            have n0_ := Aside0.mk (Kd.R_elder' (by (with_reducible repeat (first | apply Kd.R_alloc | apply Kd.R_drewN | apply Kd.R_drew)); exact HO4009.out) (Kd.R_base ho0) hb)
            have n1_ := Aside0.mk (Kd.R_elder' (by (with_reducible repeat (first | apply Kd.R_alloc | apply Kd.R_drewN | apply Kd.R_drew)); exact HO4014.out) (Kd.R_base ho0) hb)
            have n2_ := Aside0.mk (Kd.R_elder' (by (with_reducible repeat (first | apply Kd.R_alloc | apply Kd.R_drewN | apply Kd.R_drew)); exact HO4020.out) (Kd.R_base ho0) hb)
            have n3_ := Aside0.mk (Kd.R_elder' (by (with_reducible repeat (first | apply Kd.R_alloc | apply Kd.R_drewN | apply Kd.R_drew)); exact HO4026.out) (Kd.R_base ho0) hb)
            have n4_ := Aside0.mk (Kd.R_elder' (by (with_reducible repeat (first | apply Kd.R_alloc | apply Kd.R_drewN | apply Kd.R_drew)); exact HO4033.out) (Kd.R_base ho0) hb)
            have n5_ := Aside0.mk (Kd.R_lower (Kd.R_new' (Kd.R_new' (Kd.R_new' (Kd.R_new' (Kd.R_new' ho0 (Kd.R_lt (by (with_reducible repeat (first | apply Kd.R_alloc | apply Kd.R_drewN | apply Kd.R_drew)); exact HO4009.out))) (Kd.R_lt (by (with_reducible repeat (first | apply Kd.R_alloc | apply Kd.R_drewN | apply Kd.R_drew)); exact HO4014.out))) (Kd.R_lt (by (with_reducible repeat (first | apply Kd.R_alloc | apply Kd.R_drewN | apply Kd.R_drew)); exact HO4020.out))) (Kd.R_lt (by (with_reducible repeat (first | apply Kd.R_alloc | apply Kd.R_drewN | apply Kd.R_drew)); exact HO4026.out))) (Kd.R_lt (by (with_reducible repeat (first | apply Kd.R_alloc | apply Kd.R_drewN | apply Kd.R_drew)); exact HO4033.out))) (below_size (by repeat (first | (with_reducible first | exact HB.out | apply below_alloc | apply pw_below_drewN | apply below_drew1 | refine below_set ?_ GE4001.out | refine below_set ?_ GE4002.out | refine below_set ?_ GE4021.out | refine below_set ?_ GE4027.out) | exact HB.out))))
            have n6_ := Aside0.mk (blk_below (g := gb4001) (o := .cells #[.string a0_0, .string a0_1, .slice A0_2 l0_2.length c0_2] 47 (0, 0)) (by (with_reducible repeat (first | refine blk_drewN ?_ _ | refine blk_drew ?_ | refine blk_alloc ?_ _)); exact BK4001.out) hb)
            have n7_ := Aside0.mk (blk_below (g := gb4002) (o := .cells #[.string a1_0, .string a1_1, .slice A1_2 l1_2.length c1_2] 47 (0, 0)) (by (with_reducible repeat (first | refine blk_drewN ?_ _ | refine blk_drew ?_ | refine blk_alloc ?_ _)); exact BK4002.out) hb)
            have n8_ := Aside0.mk (blk_below (g := gb4021) (o := .cells #[.string t4016, .string t4017, .slice Ao81 t4018.length co81] 50 (0, 0)) (by (with_reducible repeat (first | refine blk_drewN ?_ _ | refine blk_drew ?_ | refine blk_alloc ?_ _)); exact BK4021.out) hb)
            have n9_ := Aside0.mk (blk_below (g := gb4027) (o := .cells #[.string t4022, .string t4023, .slice Ao89 t4024.length co89] 50 (0, 0)) (by (with_reducible repeat (first | refine blk_drewN ?_ _ | refine blk_drew ?_ | refine blk_alloc ?_ _)); exact BK4027.out) hb)
            have n10_ := Aside0.mk (below_step (by repeat (first | (with_reducible first | exact HB.out | apply below_alloc | apply pw_below_drewN | apply below_drew1 | refine below_set ?_ GE4001.out | refine below_set ?_ GE4002.out | refine below_set ?_ GE4021.out | refine below_set ?_ GE4027.out) | exact HB.out)) hb)
            clear HO4009
            clear HO4014
            clear HO4020
            clear HO4026
            clear HO4033
            clear BK4001
            clear BK4002
            clear BK4021
            clear BK4027
            clear HB
            have HO4009 := n0_
            have HO4014 := n1_
            have HO4020 := n2_
            have HO4026 := n3_
            have HO4033 := n4_
            have HO4039 := n5_
            have BK4001 := n6_
            have BK4002 := n7_
            have BK4021 := n8_
            have BK4027 := n9_
            have HB := n10_
            clear n0_ n1_ n2_ n3_ n4_ n5_ n6_ n7_ n8_ n9_ n10_
            (try clear hb)
            (try clear hb2)
            (try clear hk)
            (try clear hi)
            (try clear ho0)
            obtain ⟨Ao98, co98, eo98⟩ := Kd.R_slice HO4039.out
            (first | subst eo98 | (injection eo98 with f1_ f2_ f3_; have f4_ := f1_.symm; have f5_ := f3_.symm; clear f1_ f2_ f3_; subst f4_; subst f5_))
            refine hK.out _ _ ⟨(blk_cell BK4027.out 0).trans rfl, (blk_cell BK4027.out 1).trans rfl, (blk_cell BK4027.out 2).trans rfl, (blk_cell BK4002.out 0).trans rfl, (blk_cell BK4002.out 1).trans rfl, (blk_cell BK4002.out 2).trans rfl⟩ (fun hHeld => ?_)
            clear hK K
            refine norm_ (a' := ?_) ?_ ?_
            rotate_left
            · show Act.put _ (some 42) _ = _
              simp only [Act.put, List.setIfInBounds_toArray, List.set_cons_zero, List.set_cons_succ, i64_w, i32_w]
              rfl
            refine one_ (i := 3) (N := some 43) #[true, true, true, true, false] rfl rfl (by kernel_rfl) (by decide) (fun K hK => ?_)
            refine goes_ Try.func32 (by kernel_rfl) rfl #[.agg #[.string t4022, .string t4023, .slice Ao89 t4024.length co89], .agg #[.string t4035, .string t4036, .slice Ao98 t4037.length co98]] (by rfl) rfl rfl (by (try simp only [List.map_toArray, List.map_cons, List.map_nil]); first | done | rfl | (simp only [List.length_drop, List.length_take]; rfl)) ?_
            with_reducible refine (laws_eqState.calls k t4022 t4023 _ _ t4024 t4035 t4036 _ _ t4037 true _ ?side1 ?side2 ?side3 ?side4 A60.out).mono ?_
            (case side1 => repeat (first | exact (Kd.R_reads' HO4026.out).2.2 | (with_reducible refine Kd.C_alloc ?_ _) | (with_reducible refine Kd.C_drewN ?_ _) | (with_reducible refine Kd.C_drew ?_)))
            (case side2 => exact (Kd.R_reads' HO4026.out).2.1)
            (case side3 => repeat (first | exact (Kd.R_reads' HO4039.out).2.2 | (with_reducible refine Kd.C_alloc ?_ _) | (with_reducible refine Kd.C_drewN ?_ _) | (with_reducible refine Kd.C_drew ?_)))
            (case side4 => exact (Kd.R_reads' HO4039.out).2.1)
            rintro e w99 ⟨rfl, hb⟩
            refine ⟨_, rfl, ?_⟩
            have n0_ := Aside0.mk (Kd.R_below (by (with_reducible repeat (first | apply Kd.R_alloc | apply Kd.R_drewN | apply Kd.R_drew)); exact HO4009.out) hb)
            have n1_ := Aside0.mk (Kd.R_below (by (with_reducible repeat (first | apply Kd.R_alloc | apply Kd.R_drewN | apply Kd.R_drew)); exact HO4014.out) hb)
            have n2_ := Aside0.mk (Kd.R_below (by (with_reducible repeat (first | apply Kd.R_alloc | apply Kd.R_drewN | apply Kd.R_drew)); exact HO4020.out) hb)
            have n3_ := Aside0.mk (Kd.R_below (by (with_reducible repeat (first | apply Kd.R_alloc | apply Kd.R_drewN | apply Kd.R_drew)); exact HO4026.out) hb)
            have n4_ := Aside0.mk (Kd.R_below (by (with_reducible repeat (first | apply Kd.R_alloc | apply Kd.R_drewN | apply Kd.R_drew)); exact HO4033.out) hb)
            have n5_ := Aside0.mk (Kd.R_below (by (with_reducible repeat (first | apply Kd.R_alloc | apply Kd.R_drewN | apply Kd.R_drew)); exact HO4039.out) hb)
            have n6_ := Aside0.mk (blk_below (g := gb4001) (o := .cells #[.string a0_0, .string a0_1, .slice A0_2 l0_2.length c0_2] 47 (0, 0)) (by (with_reducible repeat (first | refine blk_drewN ?_ _ | refine blk_drew ?_ | refine blk_alloc ?_ _)); exact BK4001.out) hb)
            have n7_ := Aside0.mk (blk_below (g := gb4002) (o := .cells #[.string a1_0, .string a1_1, .slice A1_2 l1_2.length c1_2] 47 (0, 0)) (by (with_reducible repeat (first | refine blk_drewN ?_ _ | refine blk_drew ?_ | refine blk_alloc ?_ _)); exact BK4002.out) hb)
            have n8_ := Aside0.mk (blk_below (g := gb4021) (o := .cells #[.string t4016, .string t4017, .slice Ao81 t4018.length co81] 50 (0, 0)) (by (with_reducible repeat (first | refine blk_drewN ?_ _ | refine blk_drew ?_ | refine blk_alloc ?_ _)); exact BK4021.out) hb)
            have n9_ := Aside0.mk (blk_below (g := gb4027) (o := .cells #[.string t4022, .string t4023, .slice Ao89 t4024.length co89] 50 (0, 0)) (by (with_reducible repeat (first | refine blk_drewN ?_ _ | refine blk_drew ?_ | refine blk_alloc ?_ _)); exact BK4027.out) hb)
            have n10_ := Aside0.mk (below_step (by repeat (first | (with_reducible first | exact HB.out | apply below_alloc | apply pw_below_drewN | apply below_drew1 | refine below_set ?_ GE4001.out | refine below_set ?_ GE4002.out | refine below_set ?_ GE4021.out | refine below_set ?_ GE4027.out) | exact HB.out)) hb)
            clear HO4009
            clear HO4014
            clear HO4020
            clear HO4026
            clear HO4033
            clear HO4039
            clear BK4001
            clear BK4002
            clear BK4021
            clear BK4027
            clear HB
            have HO4009 := n0_
            have HO4014 := n1_
            have HO4020 := n2_
            have HO4026 := n3_
            have HO4033 := n4_
            have HO4039 := n5_
            have BK4001 := n6_
            have BK4002 := n7_
            have BK4021 := n8_
            have BK4027 := n9_
            have HB := n10_
            clear n0_ n1_ n2_ n3_ n4_ n5_ n6_ n7_ n8_ n9_ n10_
            (try clear hb)
            (try clear hb2)
            (try clear hk)
            (try clear hi)
            refine hK.out _ _ ⟨(blk_cell BK4027.out 0).trans rfl, (blk_cell BK4027.out 1).trans rfl, (blk_cell BK4027.out 2).trans rfl, (blk_cell BK4002.out 0).trans rfl, (blk_cell BK4002.out 1).trans rfl, (blk_cell BK4002.out 2).trans rfl⟩ (fun hHeld => ?_)
            clear hK K
            refine norm_ (a' := ?_) ?_ ?_
            rotate_left
            · show Act.put _ (some 43) _ = _
              simp only [Act.put, List.setIfInBounds_toArray, List.set_cons_zero, List.set_cons_succ, i64_w, i32_w]
              rfl
            refine pure_ (i := 4) (N := some 44) (v := ?_) (a' := ?_) #[true, true, true, true, true] rfl rfl (by kernel_rfl) (fun _ _ _ h => h) (Or.inl ⟨by rfl, ?_⟩) ?_ ?_
            rotate_left
            · intro w'
              go_simp
              first | with_reducible rfl | (rw [if_neg (by omega)]; done)
            rotate_left
            · simp only [Act.put, List.setIfInBounds_toArray, List.set_cons_zero, List.set_cons_succ, i64_w, i32_w]
              rfl
            refine done_ (by kernel_rfl) ?_
            try go_wp2
            go_ret
            exact ⟨by first | rfl | (simp [errW_none, errW_some] <;> rfl) | (simp [*, errW_none, errW_some] <;> rfl), by repeat (first | (with_reducible first | exact HB.out | apply below_alloc | apply pw_below_drewN | apply below_drew1 | refine below_set ?_ GE4001.out | refine below_set ?_ GE4002.out | refine below_set ?_ GE4021.out | refine below_set ?_ GE4027.out) | exact HB.out)⟩
          · replace c61 := Bool.eq_false_iff.mpr c61
            subst c61
            have H1 : (some false) = some r := by rw [if_neg (show ¬ (false = true) by decide)] at H; exact H
            clear H
            have H := H1
            clear H1
            obtain rfl := Option.some.inj H
            go_enter Try.func4, Try.ntmps4
            try go_wp2_with (first | ((with_reducible refine gate_dst (N := 2) rfl ?_); refine box_event ?hg (N := 2) ?hd (cs := #[.string a0_0, .string a0_1, .slice A0_2 l0_2.length c0_2]) (t := 47) ?hr ?_; (case hd => rfl); (case hg => rfl); (case hr => first | (go_simp; done) | (go_simp; rfl)); intro gb4001 hg w100 hbox hb; have n0_ := Aside0.mk (below_step (by repeat (first | (with_reducible first | exact HB.out | apply below_alloc | apply pw_below_drewN | apply below_drew1) | exact HB.out)) hb); have n1_ := Aside0.mk (hbox); have n2_ := Aside0.mk ((by rw [hg]; exact (below_size (by repeat (first | (with_reducible first | exact HB.out | apply below_alloc | apply pw_below_drewN | apply below_drew1) | exact HB.out))) : w.heap.size ≤ gb4001)); have n3_ := Aside0.mk ((by rw [hg]; exact (below_size (by repeat (first | (with_reducible first | exact HB.out | apply below_alloc | apply pw_below_drewN | apply below_drew1) | exact HB.out))) : w.heap.size ≤ gb4001)); clear HB; have HB := n0_; have BK4001 := n1_; have GW4001 := n2_; have GE4001 := n3_; clear n0_ n1_ n2_ n3_; clear hb hbox hg) | ((with_reducible refine gate_dst (N := 3) rfl ?_); refine box_event ?hg (N := 3) ?hd (cs := #[.string a1_0, .string a1_1, .slice A1_2 l1_2.length c1_2]) (t := 47) ?hr ?_; (case hd => rfl); (case hg => rfl); (case hr => first | (go_simp; done) | (go_simp; rfl)); intro gb4002 hg w101 hbox hb; have n0_ := Aside0.mk (blk_below (g := gb4001) (o := .cells #[.string a0_0, .string a0_1, .slice A0_2 l0_2.length c0_2] 47 (0, 0)) (by (with_reducible repeat (first | refine blk_drewN ?_ _ | refine blk_drew ?_ | refine blk_alloc ?_ _)); exact BK4001.out) hb); have n1_ := Aside0.mk (below_step (by repeat (first | (with_reducible first | exact HB.out | apply below_alloc | apply pw_below_drewN | apply below_drew1 | refine below_set ?_ GE4001.out) | exact HB.out)) hb); have n2_ := Aside0.mk (hbox); have n3_ := Aside0.mk ((by rw [hg]; exact (below_size (by repeat (first | (with_reducible first | exact HB.out | apply below_alloc | apply pw_below_drewN | apply below_drew1 | refine below_set ?_ GE4001.out) | exact HB.out))) : w.heap.size ≤ gb4002)); have n4_ := Aside0.mk ((by rw [hg]; exact (below_size (by repeat (first | (with_reducible first | exact HB.out | apply below_alloc | apply pw_below_drewN | apply below_drew1 | refine below_set ?_ GE4001.out) | exact HB.out))) : w.heap.size ≤ gb4002)); have n5_ := Aside0.mk ((by rw [hg]; exact Nat.ne_of_lt (blk_lt (g := gb4001) (o := .cells #[.string a0_0, .string a0_1, .slice A0_2 l0_2.length c0_2] 47 (0, 0)) (by (with_reducible repeat (first | refine blk_drewN ?_ _ | refine blk_drew ?_ | refine blk_alloc ?_ _)); exact BK4001.out)) : gb4001 ≠ gb4002)); have n6_ := Aside0.mk ((by rw [hg]; exact Nat.ne_of_gt (blk_lt (g := gb4001) (o := .cells #[.string a0_0, .string a0_1, .slice A0_2 l0_2.length c0_2] 47 (0, 0)) (by (with_reducible repeat (first | refine blk_drewN ?_ _ | refine blk_drew ?_ | refine blk_alloc ?_ _)); exact BK4001.out)) : gb4002 ≠ gb4001)); clear BK4001; clear HB; have BK4001 := n0_; have HB := n1_; have BK4002 := n2_; have GW4002 := n3_; have GE4002 := n4_; have NB4001_4002 := n5_; have NB4002_4001 := n6_; clear n0_ n1_ n2_ n3_ n4_ n5_ n6_; clear hb hbox hg; have hnb102 := NB4001_4002.out; have hnc102 := NB4002_4001.out; have hcz103_0 : w101.cell? ⟨gb4001, 0, none⟩ = some (.string a0_0) := (blk_cell BK4001.out 0).trans rfl; have hcz103_1 : w101.cell? ⟨gb4001, 1, none⟩ = some (.string a0_1) := (blk_cell BK4001.out 1).trans rfl; have hcz103_2 : w101.cell? ⟨gb4001, 2, none⟩ = some (.slice A0_2 l0_2.length c0_2) := (blk_cell BK4001.out 2).trans rfl; have hfz103_0 := blk_frozen BK4001.out 0; have hfz103_1 := blk_frozen BK4001.out 1; have hfz103_2 := blk_frozen BK4001.out 2) | ((with_reducible refine gate_callee (f := 28) rfl ?_); refine goesL_ (some 12) rfl rfl Try.func28 (by kernel_rfl) rfl #[.agg #[.string a0_0, .string a0_1, .slice A0_2 l0_2.length c0_2], .int .i64 1048576] rfl (by (try simp only [List.map_toArray, List.map_cons, List.map_nil]); first | done | rfl | (simp only [List.length_drop, List.length_take]; rfl)) ?_; (with_reducible refine (laws_szState.calls a0_0 a0_1 _ _ l0_2 1048576 t4003 _ ?side1 ?side2 A3.out).mono ?_); (case side1 => repeat (first | exact (Kd.C_below HR0_2.out HB.out) | (with_reducible refine Kd.C_alloc ?_ _) | (with_reducible refine Kd.C_drewN ?_ _) | (with_reducible refine Kd.C_drew ?_))); (case side2 => exact HC0_2.out); rintro e w104 ⟨rfl, hb⟩; refine ⟨_, rfl, ?_⟩; have n0_ := Aside0.mk (blk_below (g := gb4001) (o := .cells #[.string a0_0, .string a0_1, .slice A0_2 l0_2.length c0_2] 47 (0, 0)) (by (with_reducible repeat (first | refine blk_drewN ?_ _ | refine blk_drew ?_ | refine blk_alloc ?_ _)); exact BK4001.out) hb); have n1_ := Aside0.mk (blk_below (g := gb4002) (o := .cells #[.string a1_0, .string a1_1, .slice A1_2 l1_2.length c1_2] 47 (0, 0)) (by (with_reducible repeat (first | refine blk_drewN ?_ _ | refine blk_drew ?_ | refine blk_alloc ?_ _)); exact BK4002.out) hb); have n2_ := Aside0.mk (below_step (by repeat (first | (with_reducible first | exact HB.out | apply below_alloc | apply pw_below_drewN | apply below_drew1 | refine below_set ?_ GE4001.out | refine below_set ?_ GE4002.out) | exact HB.out)) hb); clear BK4001; clear BK4002; clear HB; have BK4001 := n0_; have BK4002 := n1_; have HB := n2_; clear n0_ n1_ n2_; (try clear hb); (try clear hb2); (try clear hk); (try clear hi); have hcz105_0 : w104.cell? ⟨gb4002, 0, none⟩ = some (.string a1_0) := (blk_cell BK4002.out 0).trans rfl; have hcz105_1 : w104.cell? ⟨gb4002, 1, none⟩ = some (.string a1_1) := (blk_cell BK4002.out 1).trans rfl; have hcz105_2 : w104.cell? ⟨gb4002, 2, none⟩ = some (.slice A1_2 l1_2.length c1_2) := (blk_cell BK4002.out 2).trans rfl; have hfz105_0 := blk_frozen BK4002.out 0; have hfz105_1 := blk_frozen BK4002.out 1; have hfz105_2 := blk_frozen BK4002.out 2) | ((with_reducible refine gate_callee (f := 28) rfl ?_); refine goesL_ (some 17) rfl rfl Try.func28 (by kernel_rfl) rfl #[.agg #[.string a1_0, .string a1_1, .slice A1_2 l1_2.length c1_2], .int .i64 t4003] rfl (by (try simp only [List.map_toArray, List.map_cons, List.map_nil]); first | done | rfl | (simp only [List.length_drop, List.length_take]; rfl)) ?_; (with_reducible refine (laws_szState.calls a1_0 a1_1 _ _ l1_2 t4003 t4004 _ ?side1 ?side2 A10.out).mono ?_); (case side1 => repeat (first | exact (Kd.C_below HR1_2.out HB.out) | (with_reducible refine Kd.C_alloc ?_ _) | (with_reducible refine Kd.C_drewN ?_ _) | (with_reducible refine Kd.C_drew ?_))); (case side2 => exact HC1_2.out); rintro e w106 ⟨rfl, hb⟩; refine ⟨_, rfl, ?_⟩; have n0_ := Aside0.mk (blk_below (g := gb4001) (o := .cells #[.string a0_0, .string a0_1, .slice A0_2 l0_2.length c0_2] 47 (0, 0)) (by (with_reducible repeat (first | refine blk_drewN ?_ _ | refine blk_drew ?_ | refine blk_alloc ?_ _)); exact BK4001.out) hb); have n1_ := Aside0.mk (blk_below (g := gb4002) (o := .cells #[.string a1_0, .string a1_1, .slice A1_2 l1_2.length c1_2] 47 (0, 0)) (by (with_reducible repeat (first | refine blk_drewN ?_ _ | refine blk_drew ?_ | refine blk_alloc ?_ _)); exact BK4002.out) hb); have n2_ := Aside0.mk (below_step (by repeat (first | (with_reducible first | exact HB.out | apply below_alloc | apply pw_below_drewN | apply below_drew1 | refine below_set ?_ GE4001.out | refine below_set ?_ GE4002.out) | exact HB.out)) hb); clear BK4001; clear BK4002; clear HB; have BK4001 := n0_; have BK4002 := n1_; have HB := n2_; clear n0_ n1_ n2_; (try clear hb); (try clear hb2); (try clear hk); (try clear hi)))
            have n0_ := Aside0.mk (blk_drew BK4001.out)
            have n1_ := Aside0.mk (blk_drew BK4002.out)
            have n2_ := Aside0.mk (below_drew1 HB.out)
            clear BK4001
            clear BK4002
            clear HB
            have BK4001 := n0_
            have BK4002 := n1_
            have HB := n2_
            clear n0_ n1_ n2_
            refine start_ (n := 6) (S := fun w' => w'.cell? ⟨gb4001, 0, none⟩ = some (.string a0_0) ∧ w'.cell? ⟨gb4001, 1, none⟩ = some (.string a0_1) ∧ w'.cell? ⟨gb4001, 2, none⟩ = some (.slice A0_2 l0_2.length c0_2) ∧ w'.cell? ⟨gb4002, 0, none⟩ = some (.string a1_0) ∧ w'.cell? ⟨gb4002, 1, none⟩ = some (.string a1_1) ∧ w'.cell? ⟨gb4002, 2, none⟩ = some (.slice A1_2 l1_2.length c1_2)) (ds := []) #[false, false, false, false, false, false] (by kernel_rfl) rfl rfl ⟨(blk_cell BK4001.out 0).trans rfl, (blk_cell BK4001.out 1).trans rfl, (blk_cell BK4001.out 2).trans rfl, (blk_cell BK4002.out 0).trans rfl, (blk_cell BK4002.out 1).trans rfl, (blk_cell BK4002.out 2).trans rfl⟩ (fun hHeld => ?_)
            generalize w106.drew = w107 at BK4001 BK4002 HB hHeld ⊢
            refine take_ (i := 0) (N := some 20) (v := ?_) (a' := ?_) #[true, false, false, false, false, false] rfl rfl (by kernel_rfl) (fun _ _ _ h => h) (Or.inl ⟨by rfl, ?_⟩) hHeld ?_ ?_
            rotate_left
            · rintro w' ⟨s0, s1, s2, s3, s4, s5⟩
              go_simp
              first | with_reducible rfl | (rw [if_neg (by omega)]; done)
            rotate_left
            · simp only [Act.put, List.setIfInBounds_toArray, List.set_cons_zero, List.set_cons_succ, i64_w, i32_w]
              rfl
            refine take_ (i := 2) (N := some 22) (v := ?_) (a' := ?_) #[true, false, true, false, false, false] rfl rfl (by kernel_rfl) (fun _ _ _ h => h) (Or.inl ⟨by rfl, ?_⟩) hHeld ?_ ?_
            rotate_left
            · rintro w' ⟨s0, s1, s2, s3, s4, s5⟩
              go_simp
              first | with_reducible rfl | (rw [if_neg (by omega)]; done)
            rotate_left
            · simp only [Act.put, List.setIfInBounds_toArray, List.set_cons_zero, List.set_cons_succ, i64_w, i32_w]
              rfl
            refine one_ (i := 1) (N := some 21) #[true, true, true, false, false, false] rfl rfl (by kernel_rfl) (by decide) (fun K hK => ?_)
            refine goes_ Try.func30 (by kernel_rfl) rfl #[.agg #[.string a0_0, .string a0_1, .slice A0_2 l0_2.length c0_2]] (by rfl) rfl rfl (by (try simp only [List.map_toArray, List.map_cons, List.map_nil]); first | done | rfl | (simp only [List.length_drop, List.length_take]; rfl)) ?_
            with_reducible refine (laws_toState.calls k a0_0 a0_1 _ _ l0_2 t4005 t4006 t4007 _ ?side1 ?side2 A19.out).mono ?_
            (case side1 => repeat (first | exact (Kd.C_below HR0_2.out HB.out) | (with_reducible refine Kd.C_alloc ?_ _) | (with_reducible refine Kd.C_drewN ?_ _) | (with_reducible refine Kd.C_drew ?_)))
            (case side2 => exact HC0_2.out)
            rintro e w108 ⟨v4008, rfl, ho0, hb⟩
            refine ⟨_, rfl, ?_⟩
            have n0_ := Aside0.mk (Kd.R_lower ho0 (below_size (by repeat (first | (with_reducible first | exact HB.out | apply below_alloc | apply pw_below_drewN | apply below_drew1 | refine below_set ?_ GE4001.out | refine below_set ?_ GE4002.out) | exact HB.out))))
            have n1_ := Aside0.mk (blk_below (g := gb4001) (o := .cells #[.string a0_0, .string a0_1, .slice A0_2 l0_2.length c0_2] 47 (0, 0)) (by (with_reducible repeat (first | refine blk_drewN ?_ _ | refine blk_drew ?_ | refine blk_alloc ?_ _)); exact BK4001.out) hb)
            have n2_ := Aside0.mk (blk_below (g := gb4002) (o := .cells #[.string a1_0, .string a1_1, .slice A1_2 l1_2.length c1_2] 47 (0, 0)) (by (with_reducible repeat (first | refine blk_drewN ?_ _ | refine blk_drew ?_ | refine blk_alloc ?_ _)); exact BK4002.out) hb)
            have n3_ := Aside0.mk (below_step (by repeat (first | (with_reducible first | exact HB.out | apply below_alloc | apply pw_below_drewN | apply below_drew1 | refine below_set ?_ GE4001.out | refine below_set ?_ GE4002.out) | exact HB.out)) hb)
            clear BK4001
            clear BK4002
            clear HB
            have HO4009 := n0_
            have BK4001 := n1_
            have BK4002 := n2_
            have HB := n3_
            clear n0_ n1_ n2_ n3_
            (try clear hb)
            (try clear hb2)
            (try clear hk)
            (try clear hi)
            (try clear ho0)
            refine hK.out _ _ ⟨(blk_cell BK4001.out 0).trans rfl, (blk_cell BK4001.out 1).trans rfl, (blk_cell BK4001.out 2).trans rfl, (blk_cell BK4002.out 0).trans rfl, (blk_cell BK4002.out 1).trans rfl, (blk_cell BK4002.out 2).trans rfl⟩ (fun hHeld => ?_)
            clear hK K
            refine norm_ (a' := ?_) ?_ ?_
            rotate_left
            · show Act.put _ (some 21) _ = _
              simp only [Act.put, List.setIfInBounds_toArray, List.set_cons_zero, List.set_cons_succ, i64_w, i32_w]
              rfl
            refine one_ (i := 3) (N := some 23) #[true, true, true, true, false, false] rfl rfl (by kernel_rfl) (by decide) (fun K hK => ?_)
            refine goes_ Try.func30 (by kernel_rfl) rfl #[.agg #[.string a1_0, .string a1_1, .slice A1_2 l1_2.length c1_2]] (by rfl) rfl rfl (by (try simp only [List.map_toArray, List.map_cons, List.map_nil]); first | done | rfl | (simp only [List.length_drop, List.length_take]; rfl)) ?_
            with_reducible refine (laws_toState.calls k a1_0 a1_1 _ _ l1_2 t4010 t4011 t4012 _ ?side1 ?side2 A20.out).mono ?_
            (case side1 => repeat (first | exact (Kd.C_below HR1_2.out HB.out) | (with_reducible refine Kd.C_alloc ?_ _) | (with_reducible refine Kd.C_drewN ?_ _) | (with_reducible refine Kd.C_drew ?_)))
            (case side2 => exact HC1_2.out)
            rintro e w109 ⟨v4013, rfl, ho0, hb⟩
            refine ⟨_, rfl, ?_⟩
            have n0_ := Aside0.mk (Kd.R_elder' (by (with_reducible repeat (first | apply Kd.R_alloc | apply Kd.R_drewN | apply Kd.R_drew)); exact HO4009.out) (Kd.R_base ho0) hb)
            have n1_ := Aside0.mk (Kd.R_lower (Kd.R_new' ho0 (Kd.R_lt (by (with_reducible repeat (first | apply Kd.R_alloc | apply Kd.R_drewN | apply Kd.R_drew)); exact HO4009.out))) (below_size (by repeat (first | (with_reducible first | exact HB.out | apply below_alloc | apply pw_below_drewN | apply below_drew1 | refine below_set ?_ GE4001.out | refine below_set ?_ GE4002.out) | exact HB.out))))
            have n2_ := Aside0.mk (blk_below (g := gb4001) (o := .cells #[.string a0_0, .string a0_1, .slice A0_2 l0_2.length c0_2] 47 (0, 0)) (by (with_reducible repeat (first | refine blk_drewN ?_ _ | refine blk_drew ?_ | refine blk_alloc ?_ _)); exact BK4001.out) hb)
            have n3_ := Aside0.mk (blk_below (g := gb4002) (o := .cells #[.string a1_0, .string a1_1, .slice A1_2 l1_2.length c1_2] 47 (0, 0)) (by (with_reducible repeat (first | refine blk_drewN ?_ _ | refine blk_drew ?_ | refine blk_alloc ?_ _)); exact BK4002.out) hb)
            have n4_ := Aside0.mk (below_step (by repeat (first | (with_reducible first | exact HB.out | apply below_alloc | apply pw_below_drewN | apply below_drew1 | refine below_set ?_ GE4001.out | refine below_set ?_ GE4002.out) | exact HB.out)) hb)
            clear HO4009
            clear BK4001
            clear BK4002
            clear HB
            have HO4009 := n0_
            have HO4014 := n1_
            have BK4001 := n2_
            have BK4002 := n3_
            have HB := n4_
            clear n0_ n1_ n2_ n3_ n4_
            (try clear hb)
            (try clear hb2)
            (try clear hk)
            (try clear hi)
            (try clear ho0)
            obtain ⟨Ao110, co110, eo110⟩ := Kd.R_slice HO4009.out
            (first | subst eo110 | (injection eo110 with f1_ f2_ f3_; have f4_ := f1_.symm; have f5_ := f3_.symm; clear f1_ f2_ f3_; subst f4_; subst f5_))
            obtain ⟨Ao111, co111, eo111⟩ := Kd.R_slice HO4014.out
            (first | subst eo111 | (injection eo111 with f1_ f2_ f3_; have f4_ := f1_.symm; have f5_ := f3_.symm; clear f1_ f2_ f3_; subst f4_; subst f5_))
            refine hK.out _ _ ⟨(blk_cell BK4001.out 0).trans rfl, (blk_cell BK4001.out 1).trans rfl, (blk_cell BK4001.out 2).trans rfl, (blk_cell BK4002.out 0).trans rfl, (blk_cell BK4002.out 1).trans rfl, (blk_cell BK4002.out 2).trans rfl⟩ (fun hHeld => ?_)
            clear hK K
            refine norm_ (a' := ?_) ?_ ?_
            rotate_left
            · show Act.put _ (some 23) _ = _
              simp only [Act.put, List.setIfInBounds_toArray, List.set_cons_zero, List.set_cons_succ, i64_w, i32_w]
              rfl
            refine one_ (i := 4) (N := some 24) #[true, true, true, true, true, false] rfl rfl (by kernel_rfl) (by decide) (fun K hK => ?_)
            refine goes_ Try.func29 (by kernel_rfl) rfl #[.agg #[.string t4005, .string t4006, .slice Ao110 t4007.length co110], .agg #[.string t4010, .string t4011, .slice Ao111 t4012.length co111]] (by rfl) rfl rfl (by (try simp only [List.map_toArray, List.map_cons, List.map_nil]); first | done | rfl | (simp only [List.length_drop, List.length_take]; rfl)) ?_
            with_reducible refine (spec_EqualState.calls k t4005 t4006 _ _ t4007 t4010 t4011 _ _ t4012 t4015 _ ?side1 ?side2 ?side3 ?side4 A21.out).mono ?_
            (case side1 => repeat (first | exact (Kd.R_reads' HO4009.out).2.2 | (with_reducible refine Kd.C_alloc ?_ _) | (with_reducible refine Kd.C_drewN ?_ _) | (with_reducible refine Kd.C_drew ?_)))
            (case side2 => exact (Kd.R_reads' HO4009.out).2.1)
            (case side3 => repeat (first | exact (Kd.R_reads' HO4014.out).2.2 | (with_reducible refine Kd.C_alloc ?_ _) | (with_reducible refine Kd.C_drewN ?_ _) | (with_reducible refine Kd.C_drew ?_)))
            (case side4 => exact (Kd.R_reads' HO4014.out).2.1)
            rintro e w112 ⟨rfl, hb⟩
            refine ⟨_, rfl, ?_⟩
            have n0_ := Aside0.mk (Kd.R_below (by (with_reducible repeat (first | apply Kd.R_alloc | apply Kd.R_drewN | apply Kd.R_drew)); exact HO4009.out) hb)
            have n1_ := Aside0.mk (Kd.R_below (by (with_reducible repeat (first | apply Kd.R_alloc | apply Kd.R_drewN | apply Kd.R_drew)); exact HO4014.out) hb)
            have n2_ := Aside0.mk (blk_below (g := gb4001) (o := .cells #[.string a0_0, .string a0_1, .slice A0_2 l0_2.length c0_2] 47 (0, 0)) (by (with_reducible repeat (first | refine blk_drewN ?_ _ | refine blk_drew ?_ | refine blk_alloc ?_ _)); exact BK4001.out) hb)
            have n3_ := Aside0.mk (blk_below (g := gb4002) (o := .cells #[.string a1_0, .string a1_1, .slice A1_2 l1_2.length c1_2] 47 (0, 0)) (by (with_reducible repeat (first | refine blk_drewN ?_ _ | refine blk_drew ?_ | refine blk_alloc ?_ _)); exact BK4002.out) hb)
            have n4_ := Aside0.mk (below_step (by repeat (first | (with_reducible first | exact HB.out | apply below_alloc | apply pw_below_drewN | apply below_drew1 | refine below_set ?_ GE4001.out | refine below_set ?_ GE4002.out) | exact HB.out)) hb)
            clear HO4009
            clear HO4014
            clear BK4001
            clear BK4002
            clear HB
            have HO4009 := n0_
            have HO4014 := n1_
            have BK4001 := n2_
            have BK4002 := n3_
            have HB := n4_
            clear n0_ n1_ n2_ n3_ n4_
            (try clear hb)
            (try clear hb2)
            (try clear hk)
            (try clear hi)
            refine hK.out _ _ ⟨(blk_cell BK4001.out 0).trans rfl, (blk_cell BK4001.out 1).trans rfl, (blk_cell BK4001.out 2).trans rfl, (blk_cell BK4002.out 0).trans rfl, (blk_cell BK4002.out 1).trans rfl, (blk_cell BK4002.out 2).trans rfl⟩ (fun hHeld => ?_)
            clear hK K
            refine norm_ (a' := ?_) ?_ ?_
            rotate_left
            · show Act.put _ (some 24) _ = _
              simp only [Act.put, List.setIfInBounds_toArray, List.set_cons_zero, List.set_cons_succ, i64_w, i32_w]
              rfl
            refine pure_ (i := 5) (N := some 6) (v := ?_) (a' := ?_) #[true, true, true, true, true, true] rfl rfl (by kernel_rfl) (fun _ _ _ h => h) (Or.inl ⟨by rfl, ?_⟩) ?_ ?_
            rotate_left
            · intro w'
              go_simp
              first | with_reducible rfl | (rw [if_neg (by omega)]; done)
            rotate_left
            · simp only [Act.put, List.setIfInBounds_toArray, List.set_cons_zero, List.set_cons_succ, i64_w, i32_w]
              rfl
            refine done_ (by kernel_rfl) ?_
            have hcz113_0 : w112.cell? ⟨gb4001, 0, none⟩ = some (.string a0_0) := (blk_cell BK4001.out 0).trans rfl
            have hcz113_1 : w112.cell? ⟨gb4001, 1, none⟩ = some (.string a0_1) := (blk_cell BK4001.out 1).trans rfl
            have hcz113_2 : w112.cell? ⟨gb4001, 2, none⟩ = some (.slice A0_2 l0_2.length c0_2) := (blk_cell BK4001.out 2).trans rfl
            have hfz113_0 := blk_frozen BK4001.out 0
            have hfz113_1 := blk_frozen BK4001.out 1
            have hfz113_2 := blk_frozen BK4001.out 2
            try go_wp2_with (first | ((with_reducible refine gate_callee (f := 30) rfl ?_); refine goesL_ (some 26) rfl rfl Try.func30 (by kernel_rfl) rfl #[.agg #[.string a0_0, .string a0_1, .slice A0_2 l0_2.length c0_2]] rfl (by (try simp only [List.map_toArray, List.map_cons, List.map_nil]); first | done | rfl | (simp only [List.length_drop, List.length_take]; rfl)) ?_; (with_reducible refine (laws_toState.calls k a0_0 a0_1 _ _ l0_2 t4016 t4017 t4018 _ ?side1 ?side2 A22.out).mono ?_); (case side1 => repeat (first | exact (Kd.C_below HR0_2.out HB.out) | (with_reducible refine Kd.C_alloc ?_ _) | (with_reducible refine Kd.C_drewN ?_ _) | (with_reducible refine Kd.C_drew ?_))); (case side2 => exact HC0_2.out); rintro e w114 ⟨v4019, rfl, ho0, hb⟩; refine ⟨_, rfl, ?_⟩; have n0_ := Aside0.mk (Kd.R_elder' (by (with_reducible repeat (first | apply Kd.R_alloc | apply Kd.R_drewN | apply Kd.R_drew)); exact HO4009.out) (Kd.R_base ho0) hb); have n1_ := Aside0.mk (Kd.R_elder' (by (with_reducible repeat (first | apply Kd.R_alloc | apply Kd.R_drewN | apply Kd.R_drew)); exact HO4014.out) (Kd.R_base ho0) hb); have n2_ := Aside0.mk (Kd.R_lower (Kd.R_new' (Kd.R_new' ho0 (Kd.R_lt (by (with_reducible repeat (first | apply Kd.R_alloc | apply Kd.R_drewN | apply Kd.R_drew)); exact HO4009.out))) (Kd.R_lt (by (with_reducible repeat (first | apply Kd.R_alloc | apply Kd.R_drewN | apply Kd.R_drew)); exact HO4014.out))) (below_size (by repeat (first | (with_reducible first | exact HB.out | apply below_alloc | apply pw_below_drewN | apply below_drew1 | refine below_set ?_ GE4001.out | refine below_set ?_ GE4002.out) | exact HB.out)))); have n3_ := Aside0.mk (blk_below (g := gb4001) (o := .cells #[.string a0_0, .string a0_1, .slice A0_2 l0_2.length c0_2] 47 (0, 0)) (by (with_reducible repeat (first | refine blk_drewN ?_ _ | refine blk_drew ?_ | refine blk_alloc ?_ _)); exact BK4001.out) hb); have n4_ := Aside0.mk (blk_below (g := gb4002) (o := .cells #[.string a1_0, .string a1_1, .slice A1_2 l1_2.length c1_2] 47 (0, 0)) (by (with_reducible repeat (first | refine blk_drewN ?_ _ | refine blk_drew ?_ | refine blk_alloc ?_ _)); exact BK4002.out) hb); have n5_ := Aside0.mk (below_step (by repeat (first | (with_reducible first | exact HB.out | apply below_alloc | apply pw_below_drewN | apply below_drew1 | refine below_set ?_ GE4001.out | refine below_set ?_ GE4002.out) | exact HB.out)) hb); clear HO4009; clear HO4014; clear BK4001; clear BK4002; clear HB; have HO4009 := n0_; have HO4014 := n1_; have HO4020 := n2_; have BK4001 := n3_; have BK4002 := n4_; have HB := n5_; clear n0_ n1_ n2_ n3_ n4_ n5_; (try clear hb); (try clear hb2); (try clear hk); (try clear hi); (try clear ho0)) | ((with_reducible refine gate_dst (N := 7) rfl ?_); refine box_event ?hg (N := 7) ?hd (cs := #[.string (⟨#[]⟩ : ByteArray), .string (⟨#[]⟩ : ByteArray), .slice none 0 0]) (t := 50) ?hr ?_; (case hd => rfl); (case hg => rfl); (case hr => first | (go_simp; done) | (go_simp; rfl)); intro gb4021 hg w115 hbox hb; have n0_ := Aside0.mk (Kd.R_below (by (with_reducible repeat (first | apply Kd.R_alloc | apply Kd.R_drewN | apply Kd.R_drew)); exact HO4009.out) hb); have n1_ := Aside0.mk (Kd.R_below (by (with_reducible repeat (first | apply Kd.R_alloc | apply Kd.R_drewN | apply Kd.R_drew)); exact HO4014.out) hb); have n2_ := Aside0.mk (Kd.R_below (by (with_reducible repeat (first | apply Kd.R_alloc | apply Kd.R_drewN | apply Kd.R_drew)); exact HO4020.out) hb); have n3_ := Aside0.mk (blk_below (g := gb4001) (o := .cells #[.string a0_0, .string a0_1, .slice A0_2 l0_2.length c0_2] 47 (0, 0)) (by (with_reducible repeat (first | refine blk_drewN ?_ _ | refine blk_drew ?_ | refine blk_alloc ?_ _)); exact BK4001.out) hb); have n4_ := Aside0.mk (blk_below (g := gb4002) (o := .cells #[.string a1_0, .string a1_1, .slice A1_2 l1_2.length c1_2] 47 (0, 0)) (by (with_reducible repeat (first | refine blk_drewN ?_ _ | refine blk_drew ?_ | refine blk_alloc ?_ _)); exact BK4002.out) hb); have n5_ := Aside0.mk (below_step (by repeat (first | (with_reducible first | exact HB.out | apply below_alloc | apply pw_below_drewN | apply below_drew1 | refine below_set ?_ GE4001.out | refine below_set ?_ GE4002.out) | exact HB.out)) hb); have n6_ := Aside0.mk (hbox); have n7_ := Aside0.mk ((by rw [hg]; exact (below_size (by repeat (first | (with_reducible first | exact HB.out | apply below_alloc | apply pw_below_drewN | apply below_drew1 | refine below_set ?_ GE4001.out | refine below_set ?_ GE4002.out) | exact HB.out))) : w.heap.size ≤ gb4021)); have n8_ := Aside0.mk ((by rw [hg]; exact (below_size (by repeat (first | (with_reducible first | exact HB.out | apply below_alloc | apply pw_below_drewN | apply below_drew1 | refine below_set ?_ GE4001.out | refine below_set ?_ GE4002.out) | exact HB.out))) : w.heap.size ≤ gb4021)); have n9_ := Aside0.mk ((by rw [hg]; exact Nat.ne_of_lt (blk_lt (g := gb4001) (o := .cells #[.string a0_0, .string a0_1, .slice A0_2 l0_2.length c0_2] 47 (0, 0)) (by (with_reducible repeat (first | refine blk_drewN ?_ _ | refine blk_drew ?_ | refine blk_alloc ?_ _)); exact BK4001.out)) : gb4001 ≠ gb4021)); have n10_ := Aside0.mk ((by rw [hg]; exact Nat.ne_of_gt (blk_lt (g := gb4001) (o := .cells #[.string a0_0, .string a0_1, .slice A0_2 l0_2.length c0_2] 47 (0, 0)) (by (with_reducible repeat (first | refine blk_drewN ?_ _ | refine blk_drew ?_ | refine blk_alloc ?_ _)); exact BK4001.out)) : gb4021 ≠ gb4001)); have n11_ := Aside0.mk ((by rw [hg]; exact Nat.ne_of_lt (blk_lt (g := gb4002) (o := .cells #[.string a1_0, .string a1_1, .slice A1_2 l1_2.length c1_2] 47 (0, 0)) (by (with_reducible repeat (first | refine blk_drewN ?_ _ | refine blk_drew ?_ | refine blk_alloc ?_ _)); exact BK4002.out)) : gb4002 ≠ gb4021)); have n12_ := Aside0.mk ((by rw [hg]; exact Nat.ne_of_gt (blk_lt (g := gb4002) (o := .cells #[.string a1_0, .string a1_1, .slice A1_2 l1_2.length c1_2] 47 (0, 0)) (by (with_reducible repeat (first | refine blk_drewN ?_ _ | refine blk_drew ?_ | refine blk_alloc ?_ _)); exact BK4002.out)) : gb4021 ≠ gb4002)); clear HO4009; clear HO4014; clear HO4020; clear BK4001; clear BK4002; clear HB; have HO4009 := n0_; have HO4014 := n1_; have HO4020 := n2_; have BK4001 := n3_; have BK4002 := n4_; have HB := n5_; have BK4021 := n6_; have GW4021 := n7_; have GE4021 := n8_; have NB4001_4021 := n9_; have NB4021_4001 := n10_; have NB4002_4021 := n11_; have NB4021_4002 := n12_; clear n0_ n1_ n2_ n3_ n4_ n5_ n6_ n7_ n8_ n9_ n10_ n11_ n12_; clear hb hbox hg; have hnb116 := NB4021_4001.out; have hnc116 := NB4001_4021.out; have hnb117 := NB4021_4002.out; have hnc117 := NB4002_4021.out; have hcz118_0 : w115.cell? ⟨gb4021, 0, none⟩ = some (.string (⟨#[]⟩ : ByteArray)) := (blk_cell BK4021.out 0).trans rfl; have hcz118_1 : w115.cell? ⟨gb4021, 1, none⟩ = some (.string (⟨#[]⟩ : ByteArray)) := (blk_cell BK4021.out 1).trans rfl; have hcz118_2 : w115.cell? ⟨gb4021, 2, none⟩ = some (.slice none 0 0) := (blk_cell BK4021.out 2).trans rfl; have hfz118_0 := blk_frozen BK4021.out 0; have hfz118_1 := blk_frozen BK4021.out 1; have hfz118_2 := blk_frozen BK4021.out 2; obtain ⟨Ao119, co119, eo119⟩ := Kd.R_slice HO4020.out; subst eo119; have hcz120_0 : w115.cell? ⟨gb4002, 0, none⟩ = some (.string a1_0) := (blk_cell BK4002.out 0).trans rfl; have hcz120_1 : w115.cell? ⟨gb4002, 1, none⟩ = some (.string a1_1) := (blk_cell BK4002.out 1).trans rfl; have hcz120_2 : w115.cell? ⟨gb4002, 2, none⟩ = some (.slice A1_2 l1_2.length c1_2) := (blk_cell BK4002.out 2).trans rfl; have hfz120_0 := blk_frozen BK4002.out 0; have hfz120_1 := blk_frozen BK4002.out 1; have hfz120_2 := blk_frozen BK4002.out 2) | ((with_reducible refine gate_callee (f := 30) rfl ?_); refine goesL_ (some 28) rfl rfl Try.func30 (by kernel_rfl) rfl #[.agg #[.string a1_0, .string a1_1, .slice A1_2 l1_2.length c1_2]] rfl (by (try simp only [List.map_toArray, List.map_cons, List.map_nil]); first | done | rfl | (simp only [List.length_drop, List.length_take]; rfl)) ?_; (with_reducible refine (laws_toState.calls k a1_0 a1_1 _ _ l1_2 t4022 t4023 t4024 _ ?side1 ?side2 A23.out).mono ?_); (case side1 => exact Kd.C_below HR1_2.out (by repeat (first | (with_reducible first | exact HB.out | apply below_alloc | apply pw_below_drewN | apply below_drew1 | refine below_set ?_ GE4001.out | refine below_set ?_ GE4002.out | refine below_set ?_ GE4021.out) | exact HB.out))); (case side2 => exact HC1_2.out); rintro e w121 ⟨v4025, rfl, ho0, hb⟩; refine ⟨_, rfl, ?_⟩; have n0_ := Aside0.mk (Kd.R_elder' (by (with_reducible repeat (first | apply Kd.R_alloc | apply Kd.R_drewN | apply Kd.R_drew)); exact (Kd.R_mono (Kd.R_far (p := ⟨gb4021, 2, none⟩) (Kd.R_far (p := ⟨gb4021, 1, none⟩) (Kd.R_far (p := ⟨gb4021, 0, none⟩) (Kd.R_types HO4009.out BK4021.out (by decide)) (fun _ hk => hk.2) (.string t4016)) (fun _ hk => hk.2) (.string t4017)) (fun _ hk => hk.2) (.slice Ao119 t4018.length co119)) (fun _ h_ => h_.1))) (Kd.R_base ho0) hb); have n1_ := Aside0.mk (Kd.R_elder' (by (with_reducible repeat (first | apply Kd.R_alloc | apply Kd.R_drewN | apply Kd.R_drew)); exact (Kd.R_mono (Kd.R_far (p := ⟨gb4021, 2, none⟩) (Kd.R_far (p := ⟨gb4021, 1, none⟩) (Kd.R_far (p := ⟨gb4021, 0, none⟩) (Kd.R_types HO4014.out BK4021.out (by decide)) (fun _ hk => hk.2) (.string t4016)) (fun _ hk => hk.2) (.string t4017)) (fun _ hk => hk.2) (.slice Ao119 t4018.length co119)) (fun _ h_ => h_.1))) (Kd.R_base ho0) hb); have n2_ := Aside0.mk (Kd.R_elder' (by (with_reducible repeat (first | apply Kd.R_alloc | apply Kd.R_drewN | apply Kd.R_drew)); exact (Kd.R_mono (Kd.R_far (p := ⟨gb4021, 2, none⟩) (Kd.R_far (p := ⟨gb4021, 1, none⟩) (Kd.R_far (p := ⟨gb4021, 0, none⟩) (Kd.R_types HO4020.out BK4021.out (by decide)) (fun _ hk => hk.2) (.string t4016)) (fun _ hk => hk.2) (.string t4017)) (fun _ hk => hk.2) (.slice Ao119 t4018.length co119)) (fun _ h_ => h_.1))) (Kd.R_base ho0) hb); have n3_ := Aside0.mk (Kd.R_lower (Kd.R_new' (Kd.R_new' (Kd.R_new' ho0 (Kd.R_lt (by (with_reducible repeat (first | apply Kd.R_alloc | apply Kd.R_drewN | apply Kd.R_drew)); exact (Kd.R_mono (Kd.R_far (p := ⟨gb4021, 2, none⟩) (Kd.R_far (p := ⟨gb4021, 1, none⟩) (Kd.R_far (p := ⟨gb4021, 0, none⟩) (Kd.R_types HO4009.out BK4021.out (by decide)) (fun _ hk => hk.2) (.string t4016)) (fun _ hk => hk.2) (.string t4017)) (fun _ hk => hk.2) (.slice Ao119 t4018.length co119)) (fun _ h_ => h_.1))))) (Kd.R_lt (by (with_reducible repeat (first | apply Kd.R_alloc | apply Kd.R_drewN | apply Kd.R_drew)); exact (Kd.R_mono (Kd.R_far (p := ⟨gb4021, 2, none⟩) (Kd.R_far (p := ⟨gb4021, 1, none⟩) (Kd.R_far (p := ⟨gb4021, 0, none⟩) (Kd.R_types HO4014.out BK4021.out (by decide)) (fun _ hk => hk.2) (.string t4016)) (fun _ hk => hk.2) (.string t4017)) (fun _ hk => hk.2) (.slice Ao119 t4018.length co119)) (fun _ h_ => h_.1))))) (Kd.R_lt (by (with_reducible repeat (first | apply Kd.R_alloc | apply Kd.R_drewN | apply Kd.R_drew)); exact (Kd.R_mono (Kd.R_far (p := ⟨gb4021, 2, none⟩) (Kd.R_far (p := ⟨gb4021, 1, none⟩) (Kd.R_far (p := ⟨gb4021, 0, none⟩) (Kd.R_types HO4020.out BK4021.out (by decide)) (fun _ hk => hk.2) (.string t4016)) (fun _ hk => hk.2) (.string t4017)) (fun _ hk => hk.2) (.slice Ao119 t4018.length co119)) (fun _ h_ => h_.1))))) (below_size (by repeat (first | (with_reducible first | exact HB.out | apply below_alloc | apply pw_below_drewN | apply below_drew1 | refine below_set ?_ GE4001.out | refine below_set ?_ GE4002.out | refine below_set ?_ GE4021.out) | exact HB.out)))); have n4_ := Aside0.mk (blk_below (g := gb4001) (o := .cells #[.string a0_0, .string a0_1, .slice A0_2 l0_2.length c0_2] 47 (0, 0)) (by (with_reducible repeat (first | refine blk_drewN ?_ _ | refine blk_drew ?_ | refine blk_alloc ?_ _)); refine blk_far ?_ NB4001_4021.out _; (with_reducible repeat (first | refine blk_drewN ?_ _ | refine blk_drew ?_ | refine blk_alloc ?_ _)); refine blk_far ?_ NB4001_4021.out _; (with_reducible repeat (first | refine blk_drewN ?_ _ | refine blk_drew ?_ | refine blk_alloc ?_ _)); refine blk_far ?_ NB4001_4021.out _; (with_reducible repeat (first | refine blk_drewN ?_ _ | refine blk_drew ?_ | refine blk_alloc ?_ _)); exact BK4001.out) hb); have n5_ := Aside0.mk (blk_below (g := gb4002) (o := .cells #[.string a1_0, .string a1_1, .slice A1_2 l1_2.length c1_2] 47 (0, 0)) (by (with_reducible repeat (first | refine blk_drewN ?_ _ | refine blk_drew ?_ | refine blk_alloc ?_ _)); refine blk_far ?_ NB4002_4021.out _; (with_reducible repeat (first | refine blk_drewN ?_ _ | refine blk_drew ?_ | refine blk_alloc ?_ _)); refine blk_far ?_ NB4002_4021.out _; (with_reducible repeat (first | refine blk_drewN ?_ _ | refine blk_drew ?_ | refine blk_alloc ?_ _)); refine blk_far ?_ NB4002_4021.out _; (with_reducible repeat (first | refine blk_drewN ?_ _ | refine blk_drew ?_ | refine blk_alloc ?_ _)); exact BK4002.out) hb); have n6_ := Aside0.mk (blk_below (g := gb4021) (o := .cells #[.string t4016, .string t4017, .slice Ao119 t4018.length co119] 50 (0, 0)) (by (with_reducible repeat (first | refine blk_drewN ?_ _ | refine blk_drew ?_ | refine blk_alloc ?_ _)); refine blk_put (cs := #[.string t4016, .string t4017, .slice none 0 0]) ?_ 2 _ rfl; (with_reducible repeat (first | refine blk_drewN ?_ _ | refine blk_drew ?_ | refine blk_alloc ?_ _)); refine blk_put (cs := #[.string t4016, .string (⟨#[]⟩ : ByteArray), .slice none 0 0]) ?_ 1 _ rfl; (with_reducible repeat (first | refine blk_drewN ?_ _ | refine blk_drew ?_ | refine blk_alloc ?_ _)); refine blk_put (cs := #[.string (⟨#[]⟩ : ByteArray), .string (⟨#[]⟩ : ByteArray), .slice none 0 0]) ?_ 0 _ rfl; (with_reducible repeat (first | refine blk_drewN ?_ _ | refine blk_drew ?_ | refine blk_alloc ?_ _)); exact BK4021.out) hb); have n7_ := Aside0.mk (below_step (by repeat (first | (with_reducible first | exact HB.out | apply below_alloc | apply pw_below_drewN | apply below_drew1 | refine below_set ?_ GE4001.out | refine below_set ?_ GE4002.out | refine below_set ?_ GE4021.out) | exact HB.out)) hb); clear HO4009; clear HO4014; clear HO4020; clear BK4001; clear BK4002; clear BK4021; clear HB; have HO4009 := n0_; have HO4014 := n1_; have HO4020 := n2_; have HO4026 := n3_; have BK4001 := n4_; have BK4002 := n5_; have BK4021 := n6_; have HB := n7_; clear n0_ n1_ n2_ n3_ n4_ n5_ n6_ n7_; (try clear hb); (try clear hb2); (try clear hk); (try clear hi); (try clear ho0)) | ((with_reducible refine gate_dst (N := 8) rfl ?_); refine box_event ?hg (N := 8) ?hd (cs := #[.string (⟨#[]⟩ : ByteArray), .string (⟨#[]⟩ : ByteArray), .slice none 0 0]) (t := 50) ?hr ?_; (case hd => rfl); (case hg => rfl); (case hr => first | (go_simp; done) | (go_simp; rfl)); intro gb4027 hg w122 hbox hb; have n0_ := Aside0.mk (Kd.R_below (by (with_reducible repeat (first | apply Kd.R_alloc | apply Kd.R_drewN | apply Kd.R_drew)); exact HO4009.out) hb); have n1_ := Aside0.mk (Kd.R_below (by (with_reducible repeat (first | apply Kd.R_alloc | apply Kd.R_drewN | apply Kd.R_drew)); exact HO4014.out) hb); have n2_ := Aside0.mk (Kd.R_below (by (with_reducible repeat (first | apply Kd.R_alloc | apply Kd.R_drewN | apply Kd.R_drew)); exact HO4020.out) hb); have n3_ := Aside0.mk (Kd.R_below (by (with_reducible repeat (first | apply Kd.R_alloc | apply Kd.R_drewN | apply Kd.R_drew)); exact HO4026.out) hb); have n4_ := Aside0.mk (blk_below (g := gb4001) (o := .cells #[.string a0_0, .string a0_1, .slice A0_2 l0_2.length c0_2] 47 (0, 0)) (by (with_reducible repeat (first | refine blk_drewN ?_ _ | refine blk_drew ?_ | refine blk_alloc ?_ _)); exact BK4001.out) hb); have n5_ := Aside0.mk (blk_below (g := gb4002) (o := .cells #[.string a1_0, .string a1_1, .slice A1_2 l1_2.length c1_2] 47 (0, 0)) (by (with_reducible repeat (first | refine blk_drewN ?_ _ | refine blk_drew ?_ | refine blk_alloc ?_ _)); exact BK4002.out) hb); have n6_ := Aside0.mk (blk_below (g := gb4021) (o := .cells #[.string t4016, .string t4017, .slice Ao119 t4018.length co119] 50 (0, 0)) (by (with_reducible repeat (first | refine blk_drewN ?_ _ | refine blk_drew ?_ | refine blk_alloc ?_ _)); exact BK4021.out) hb); have n7_ := Aside0.mk (below_step (by repeat (first | (with_reducible first | exact HB.out | apply below_alloc | apply pw_below_drewN | apply below_drew1 | refine below_set ?_ GE4001.out | refine below_set ?_ GE4002.out | refine below_set ?_ GE4021.out) | exact HB.out)) hb); have n8_ := Aside0.mk (hbox); have n9_ := Aside0.mk ((by rw [hg]; exact (below_size (by repeat (first | (with_reducible first | exact HB.out | apply below_alloc | apply pw_below_drewN | apply below_drew1 | refine below_set ?_ GE4001.out | refine below_set ?_ GE4002.out | refine below_set ?_ GE4021.out) | exact HB.out))) : w.heap.size ≤ gb4027)); have n10_ := Aside0.mk ((by rw [hg]; exact (below_size (by repeat (first | (with_reducible first | exact HB.out | apply below_alloc | apply pw_below_drewN | apply below_drew1 | refine below_set ?_ GE4001.out | refine below_set ?_ GE4002.out | refine below_set ?_ GE4021.out) | exact HB.out))) : w.heap.size ≤ gb4027)); have n11_ := Aside0.mk ((by rw [hg]; exact Nat.ne_of_lt (blk_lt (g := gb4001) (o := .cells #[.string a0_0, .string a0_1, .slice A0_2 l0_2.length c0_2] 47 (0, 0)) (by (with_reducible repeat (first | refine blk_drewN ?_ _ | refine blk_drew ?_ | refine blk_alloc ?_ _)); exact BK4001.out)) : gb4001 ≠ gb4027)); have n12_ := Aside0.mk ((by rw [hg]; exact Nat.ne_of_gt (blk_lt (g := gb4001) (o := .cells #[.string a0_0, .string a0_1, .slice A0_2 l0_2.length c0_2] 47 (0, 0)) (by (with_reducible repeat (first | refine blk_drewN ?_ _ | refine blk_drew ?_ | refine blk_alloc ?_ _)); exact BK4001.out)) : gb4027 ≠ gb4001)); have n13_ := Aside0.mk ((by rw [hg]; exact Nat.ne_of_lt (blk_lt (g := gb4002) (o := .cells #[.string a1_0, .string a1_1, .slice A1_2 l1_2.length c1_2] 47 (0, 0)) (by (with_reducible repeat (first | refine blk_drewN ?_ _ | refine blk_drew ?_ | refine blk_alloc ?_ _)); exact BK4002.out)) : gb4002 ≠ gb4027)); have n14_ := Aside0.mk ((by rw [hg]; exact Nat.ne_of_gt (blk_lt (g := gb4002) (o := .cells #[.string a1_0, .string a1_1, .slice A1_2 l1_2.length c1_2] 47 (0, 0)) (by (with_reducible repeat (first | refine blk_drewN ?_ _ | refine blk_drew ?_ | refine blk_alloc ?_ _)); exact BK4002.out)) : gb4027 ≠ gb4002)); have n15_ := Aside0.mk ((by rw [hg]; exact Nat.ne_of_lt (blk_lt (g := gb4021) (o := .cells #[.string t4016, .string t4017, .slice Ao119 t4018.length co119] 50 (0, 0)) (by (with_reducible repeat (first | refine blk_drewN ?_ _ | refine blk_drew ?_ | refine blk_alloc ?_ _)); exact BK4021.out)) : gb4021 ≠ gb4027)); have n16_ := Aside0.mk ((by rw [hg]; exact Nat.ne_of_gt (blk_lt (g := gb4021) (o := .cells #[.string t4016, .string t4017, .slice Ao119 t4018.length co119] 50 (0, 0)) (by (with_reducible repeat (first | refine blk_drewN ?_ _ | refine blk_drew ?_ | refine blk_alloc ?_ _)); exact BK4021.out)) : gb4027 ≠ gb4021)); clear HO4009; clear HO4014; clear HO4020; clear HO4026; clear BK4001; clear BK4002; clear BK4021; clear HB; have HO4009 := n0_; have HO4014 := n1_; have HO4020 := n2_; have HO4026 := n3_; have BK4001 := n4_; have BK4002 := n5_; have BK4021 := n6_; have HB := n7_; have BK4027 := n8_; have GW4027 := n9_; have GE4027 := n10_; have NB4001_4027 := n11_; have NB4027_4001 := n12_; have NB4002_4027 := n13_; have NB4027_4002 := n14_; have NB4021_4027 := n15_; have NB4027_4021 := n16_; clear n0_ n1_ n2_ n3_ n4_ n5_ n6_ n7_ n8_ n9_ n10_ n11_ n12_ n13_ n14_ n15_ n16_; clear hb hbox hg; have hnb123 := NB4027_4001.out; have hnc123 := NB4001_4027.out; have hnb124 := NB4027_4002.out; have hnc124 := NB4002_4027.out; have hnb125 := NB4027_4021.out; have hnc125 := NB4021_4027.out; have hcz126_0 : w122.cell? ⟨gb4027, 0, none⟩ = some (.string (⟨#[]⟩ : ByteArray)) := (blk_cell BK4027.out 0).trans rfl; have hcz126_1 : w122.cell? ⟨gb4027, 1, none⟩ = some (.string (⟨#[]⟩ : ByteArray)) := (blk_cell BK4027.out 1).trans rfl; have hcz126_2 : w122.cell? ⟨gb4027, 2, none⟩ = some (.slice none 0 0) := (blk_cell BK4027.out 2).trans rfl; have hfz126_0 := blk_frozen BK4027.out 0; have hfz126_1 := blk_frozen BK4027.out 1; have hfz126_2 := blk_frozen BK4027.out 2; obtain ⟨Ao127, co127, eo127⟩ := Kd.R_slice HO4026.out; subst eo127; have hcz128_0 : w122.cell? ⟨gb4021, 0, none⟩ = some (.string t4016) := (blk_cell BK4021.out 0).trans rfl; have hcz128_1 : w122.cell? ⟨gb4021, 1, none⟩ = some (.string t4017) := (blk_cell BK4021.out 1).trans rfl; have hcz128_2 : w122.cell? ⟨gb4021, 2, none⟩ = some (.slice Ao119 t4018.length co119) := (blk_cell BK4021.out 2).trans rfl; have hfz128_0 := blk_frozen BK4021.out 0; have hfz128_1 := blk_frozen BK4021.out 1; have hfz128_2 := blk_frozen BK4021.out 2) | ((with_reducible refine gate_callee (f := 31) rfl ?_); refine goesL_ (some 31) rfl rfl Try.func31 (by kernel_rfl) rfl #[.agg #[.string t4016, .string t4017, .slice Ao119 t4018.length co119], .agg #[.string t4022, .string t4023, .slice Ao127 t4024.length co127]] rfl (by (try simp only [List.map_toArray, List.map_cons, List.map_nil]); first | done | rfl | (simp only [List.length_drop, List.length_take]; rfl)) ?_; (with_reducible refine (impl_EqualState.calls k t4016 t4017 _ _ t4018 t4022 t4023 _ _ t4024 t4028 _ ?side1 ?side2 ?side3 ?side4 A24.out).mono ?_); (case side1 => refine (Kd.R_reads' (e := 3) (base := w.heap.size) (ok := fun k_ => (((True ∧ some k_ ≠ (.slice Ao110 t4007.length co110 : Value).ownBlock) ∧ some k_ ≠ (.slice Ao111 t4012.length co111 : Value).ownBlock) ∧ some k_ ≠ (.slice Ao127 t4024.length co127 : Value).ownBlock)) (n := t4018.length) (c := co119) ?_).2.2; exact (by (with_reducible repeat (first | apply Kd.R_alloc | apply Kd.R_drewN | apply Kd.R_drew)); exact (Kd.R_mono (Kd.R_far (p := ⟨gb4027, 2, none⟩) (Kd.R_far (p := ⟨gb4027, 1, none⟩) (Kd.R_far (p := ⟨gb4027, 0, none⟩) (Kd.R_types HO4020.out BK4027.out (by decide)) (fun _ hk => hk.2) (.string t4022)) (fun _ hk => hk.2) (.string t4023)) (fun _ hk => hk.2) (.slice Ao127 t4024.length co127)) (fun _ h_ => h_.1)))); (case side2 => exact (Kd.R_reads' HO4020.out).2.1); (case side3 => refine (Kd.R_reads' (e := 3) (base := w.heap.size) (ok := fun k_ => (((True ∧ some k_ ≠ (.slice Ao110 t4007.length co110 : Value).ownBlock) ∧ some k_ ≠ (.slice Ao111 t4012.length co111 : Value).ownBlock) ∧ some k_ ≠ (.slice Ao119 t4018.length co119 : Value).ownBlock)) (n := t4024.length) (c := co127) ?_).2.2; exact (by (with_reducible repeat (first | apply Kd.R_alloc | apply Kd.R_drewN | apply Kd.R_drew)); exact (Kd.R_mono (Kd.R_far (p := ⟨gb4027, 2, none⟩) (Kd.R_far (p := ⟨gb4027, 1, none⟩) (Kd.R_far (p := ⟨gb4027, 0, none⟩) (Kd.R_types HO4026.out BK4027.out (by decide)) (fun _ hk => hk.2) (.string t4022)) (fun _ hk => hk.2) (.string t4023)) (fun _ hk => hk.2) (.slice Ao127 t4024.length co127)) (fun _ h_ => h_.1)))); (case side4 => exact (Kd.R_reads' HO4026.out).2.1); rintro e w129 ⟨rfl, hb⟩; refine ⟨_, rfl, ?_⟩; have n0_ := Aside0.mk (Kd.R_below (by (with_reducible repeat (first | apply Kd.R_alloc | apply Kd.R_drewN | apply Kd.R_drew)); exact (Kd.R_mono (Kd.R_far (p := ⟨gb4027, 2, none⟩) (Kd.R_far (p := ⟨gb4027, 1, none⟩) (Kd.R_far (p := ⟨gb4027, 0, none⟩) (Kd.R_types HO4009.out BK4027.out (by decide)) (fun _ hk => hk.2) (.string t4022)) (fun _ hk => hk.2) (.string t4023)) (fun _ hk => hk.2) (.slice Ao127 t4024.length co127)) (fun _ h_ => h_.1))) hb); have n1_ := Aside0.mk (Kd.R_below (by (with_reducible repeat (first | apply Kd.R_alloc | apply Kd.R_drewN | apply Kd.R_drew)); exact (Kd.R_mono (Kd.R_far (p := ⟨gb4027, 2, none⟩) (Kd.R_far (p := ⟨gb4027, 1, none⟩) (Kd.R_far (p := ⟨gb4027, 0, none⟩) (Kd.R_types HO4014.out BK4027.out (by decide)) (fun _ hk => hk.2) (.string t4022)) (fun _ hk => hk.2) (.string t4023)) (fun _ hk => hk.2) (.slice Ao127 t4024.length co127)) (fun _ h_ => h_.1))) hb); have n2_ := Aside0.mk (Kd.R_below (by (with_reducible repeat (first | apply Kd.R_alloc | apply Kd.R_drewN | apply Kd.R_drew)); exact (Kd.R_mono (Kd.R_far (p := ⟨gb4027, 2, none⟩) (Kd.R_far (p := ⟨gb4027, 1, none⟩) (Kd.R_far (p := ⟨gb4027, 0, none⟩) (Kd.R_types HO4020.out BK4027.out (by decide)) (fun _ hk => hk.2) (.string t4022)) (fun _ hk => hk.2) (.string t4023)) (fun _ hk => hk.2) (.slice Ao127 t4024.length co127)) (fun _ h_ => h_.1))) hb); have n3_ := Aside0.mk (Kd.R_below (by (with_reducible repeat (first | apply Kd.R_alloc | apply Kd.R_drewN | apply Kd.R_drew)); exact (Kd.R_mono (Kd.R_far (p := ⟨gb4027, 2, none⟩) (Kd.R_far (p := ⟨gb4027, 1, none⟩) (Kd.R_far (p := ⟨gb4027, 0, none⟩) (Kd.R_types HO4026.out BK4027.out (by decide)) (fun _ hk => hk.2) (.string t4022)) (fun _ hk => hk.2) (.string t4023)) (fun _ hk => hk.2) (.slice Ao127 t4024.length co127)) (fun _ h_ => h_.1))) hb); have n4_ := Aside0.mk (blk_below (g := gb4001) (o := .cells #[.string a0_0, .string a0_1, .slice A0_2 l0_2.length c0_2] 47 (0, 0)) (by (with_reducible repeat (first | refine blk_drewN ?_ _ | refine blk_drew ?_ | refine blk_alloc ?_ _)); refine blk_far ?_ NB4001_4027.out _; (with_reducible repeat (first | refine blk_drewN ?_ _ | refine blk_drew ?_ | refine blk_alloc ?_ _)); refine blk_far ?_ NB4001_4027.out _; (with_reducible repeat (first | refine blk_drewN ?_ _ | refine blk_drew ?_ | refine blk_alloc ?_ _)); refine blk_far ?_ NB4001_4027.out _; (with_reducible repeat (first | refine blk_drewN ?_ _ | refine blk_drew ?_ | refine blk_alloc ?_ _)); exact BK4001.out) hb); have n5_ := Aside0.mk (blk_below (g := gb4002) (o := .cells #[.string a1_0, .string a1_1, .slice A1_2 l1_2.length c1_2] 47 (0, 0)) (by (with_reducible repeat (first | refine blk_drewN ?_ _ | refine blk_drew ?_ | refine blk_alloc ?_ _)); refine blk_far ?_ NB4002_4027.out _; (with_reducible repeat (first | refine blk_drewN ?_ _ | refine blk_drew ?_ | refine blk_alloc ?_ _)); refine blk_far ?_ NB4002_4027.out _; (with_reducible repeat (first | refine blk_drewN ?_ _ | refine blk_drew ?_ | refine blk_alloc ?_ _)); refine blk_far ?_ NB4002_4027.out _; (with_reducible repeat (first | refine blk_drewN ?_ _ | refine blk_drew ?_ | refine blk_alloc ?_ _)); exact BK4002.out) hb); have n6_ := Aside0.mk (blk_below (g := gb4021) (o := .cells #[.string t4016, .string t4017, .slice Ao119 t4018.length co119] 50 (0, 0)) (by (with_reducible repeat (first | refine blk_drewN ?_ _ | refine blk_drew ?_ | refine blk_alloc ?_ _)); refine blk_far ?_ NB4021_4027.out _; (with_reducible repeat (first | refine blk_drewN ?_ _ | refine blk_drew ?_ | refine blk_alloc ?_ _)); refine blk_far ?_ NB4021_4027.out _; (with_reducible repeat (first | refine blk_drewN ?_ _ | refine blk_drew ?_ | refine blk_alloc ?_ _)); refine blk_far ?_ NB4021_4027.out _; (with_reducible repeat (first | refine blk_drewN ?_ _ | refine blk_drew ?_ | refine blk_alloc ?_ _)); exact BK4021.out) hb); have n7_ := Aside0.mk (blk_below (g := gb4027) (o := .cells #[.string t4022, .string t4023, .slice Ao127 t4024.length co127] 50 (0, 0)) (by (with_reducible repeat (first | refine blk_drewN ?_ _ | refine blk_drew ?_ | refine blk_alloc ?_ _)); refine blk_put (cs := #[.string t4022, .string t4023, .slice none 0 0]) ?_ 2 _ rfl; (with_reducible repeat (first | refine blk_drewN ?_ _ | refine blk_drew ?_ | refine blk_alloc ?_ _)); refine blk_put (cs := #[.string t4022, .string (⟨#[]⟩ : ByteArray), .slice none 0 0]) ?_ 1 _ rfl; (with_reducible repeat (first | refine blk_drewN ?_ _ | refine blk_drew ?_ | refine blk_alloc ?_ _)); refine blk_put (cs := #[.string (⟨#[]⟩ : ByteArray), .string (⟨#[]⟩ : ByteArray), .slice none 0 0]) ?_ 0 _ rfl; (with_reducible repeat (first | refine blk_drewN ?_ _ | refine blk_drew ?_ | refine blk_alloc ?_ _)); exact BK4027.out) hb); have n8_ := Aside0.mk (below_step (by repeat (first | (with_reducible first | exact HB.out | apply below_alloc | apply pw_below_drewN | apply below_drew1 | refine below_set ?_ GE4001.out | refine below_set ?_ GE4002.out | refine below_set ?_ GE4021.out | refine below_set ?_ GE4027.out) | exact HB.out)) hb); clear HO4009; clear HO4014; clear HO4020; clear HO4026; clear BK4001; clear BK4002; clear BK4021; clear BK4027; clear HB; have HO4009 := n0_; have HO4014 := n1_; have HO4020 := n2_; have HO4026 := n3_; have BK4001 := n4_; have BK4002 := n5_; have BK4021 := n6_; have BK4027 := n7_; have HB := n8_; clear n0_ n1_ n2_ n3_ n4_ n5_ n6_ n7_ n8_; (try clear hb); (try clear hb2); (try clear hk); (try clear hi)))
            have n0_ := Aside0.mk (Kd.R_drew HO4009.out)
            have n1_ := Aside0.mk (Kd.R_drew HO4014.out)
            have n2_ := Aside0.mk (Kd.R_drew HO4020.out)
            have n3_ := Aside0.mk (Kd.R_drew HO4026.out)
            have n4_ := Aside0.mk (blk_drew BK4001.out)
            have n5_ := Aside0.mk (blk_drew BK4002.out)
            have n6_ := Aside0.mk (blk_drew BK4021.out)
            have n7_ := Aside0.mk (blk_drew BK4027.out)
            have n8_ := Aside0.mk (below_drew1 HB.out)
            clear HO4009
            clear HO4014
            clear HO4020
            clear HO4026
            clear BK4001
            clear BK4002
            clear BK4021
            clear BK4027
            clear HB
            have HO4009 := n0_
            have HO4014 := n1_
            have HO4020 := n2_
            have HO4026 := n3_
            have BK4001 := n4_
            have BK4002 := n5_
            have BK4021 := n6_
            have BK4027 := n7_
            have HB := n8_
            clear n0_ n1_ n2_ n3_ n4_ n5_ n6_ n7_ n8_
            refine start_ (n := 5) (S := fun w' => w'.cell? ⟨gb4021, 0, none⟩ = some (.string t4016) ∧ w'.cell? ⟨gb4021, 1, none⟩ = some (.string t4017) ∧ w'.cell? ⟨gb4021, 2, none⟩ = some (.slice Ao119 t4018.length co119) ∧ w'.cell? ⟨gb4001, 0, none⟩ = some (.string a0_0) ∧ w'.cell? ⟨gb4001, 1, none⟩ = some (.string a0_1) ∧ w'.cell? ⟨gb4001, 2, none⟩ = some (.slice A0_2 l0_2.length c0_2)) (ds := []) #[false, false, false, false, false] (by kernel_rfl) rfl rfl ⟨(blk_cell BK4021.out 0).trans rfl, (blk_cell BK4021.out 1).trans rfl, (blk_cell BK4021.out 2).trans rfl, (blk_cell BK4001.out 0).trans rfl, (blk_cell BK4001.out 1).trans rfl, (blk_cell BK4001.out 2).trans rfl⟩ (fun hHeld => ?_)
            generalize w129.drew = w130 at HO4009 HO4014 HO4020 HO4026 BK4001 BK4002 BK4021 BK4027 HB hHeld ⊢
            refine take_ (i := 0) (N := some 35) (v := ?_) (a' := ?_) #[true, false, false, false, false] rfl rfl (by kernel_rfl) (fun _ _ _ h => h) (Or.inl ⟨by rfl, ?_⟩) hHeld ?_ ?_
            rotate_left
            · rintro w' ⟨s0, s1, s2, s3, s4, s5⟩
              go_simp
              first | with_reducible rfl | (rw [if_neg (by omega)]; done)
            rotate_left
            · simp only [Act.put, List.setIfInBounds_toArray, List.set_cons_zero, List.set_cons_succ, i64_w, i32_w]
              rfl
            refine take_ (i := 1) (N := some 36) (v := ?_) (a' := ?_) #[true, true, false, false, false] rfl rfl (by kernel_rfl) (fun _ _ _ h => h) (Or.inl ⟨by rfl, ?_⟩) hHeld ?_ ?_
            rotate_left
            · rintro w' ⟨s0, s1, s2, s3, s4, s5⟩
              go_simp
              first | with_reducible rfl | (rw [if_neg (by omega)]; done)
            rotate_left
            · simp only [Act.put, List.setIfInBounds_toArray, List.set_cons_zero, List.set_cons_succ, i64_w, i32_w]
              rfl
            refine one_ (i := 2) (N := some 37) #[true, true, true, false, false] rfl rfl (by kernel_rfl) (by decide) (fun K hK => ?_)
            refine goes_ Try.func30 (by kernel_rfl) rfl #[.agg #[.string a0_0, .string a0_1, .slice A0_2 l0_2.length c0_2]] (by rfl) rfl rfl (by (try simp only [List.map_toArray, List.map_cons, List.map_nil]); first | done | rfl | (simp only [List.length_drop, List.length_take]; rfl)) ?_
            with_reducible refine (laws_toState.calls k a0_0 a0_1 _ _ l0_2 t4029 t4030 t4031 _ ?side1 ?side2 A56.out).mono ?_
            (case side1 => repeat (first | exact (Kd.C_below HR0_2.out HB.out) | (with_reducible refine Kd.C_alloc ?_ _) | (with_reducible refine Kd.C_drewN ?_ _) | (with_reducible refine Kd.C_drew ?_)))
            (case side2 => exact HC0_2.out)
            rintro e w131 ⟨v4032, rfl, ho0, hb⟩
            refine ⟨_, rfl, ?_⟩
            have n0_ := Aside0.mk (Kd.R_elder' (by (with_reducible repeat (first | apply Kd.R_alloc | apply Kd.R_drewN | apply Kd.R_drew)); exact HO4009.out) (Kd.R_base ho0) hb)
            have n1_ := Aside0.mk (Kd.R_elder' (by (with_reducible repeat (first | apply Kd.R_alloc | apply Kd.R_drewN | apply Kd.R_drew)); exact HO4014.out) (Kd.R_base ho0) hb)
            have n2_ := Aside0.mk (Kd.R_elder' (by (with_reducible repeat (first | apply Kd.R_alloc | apply Kd.R_drewN | apply Kd.R_drew)); exact HO4020.out) (Kd.R_base ho0) hb)
            have n3_ := Aside0.mk (Kd.R_elder' (by (with_reducible repeat (first | apply Kd.R_alloc | apply Kd.R_drewN | apply Kd.R_drew)); exact HO4026.out) (Kd.R_base ho0) hb)
            have n4_ := Aside0.mk (Kd.R_lower (Kd.R_new' (Kd.R_new' (Kd.R_new' (Kd.R_new' ho0 (Kd.R_lt (by (with_reducible repeat (first | apply Kd.R_alloc | apply Kd.R_drewN | apply Kd.R_drew)); exact HO4009.out))) (Kd.R_lt (by (with_reducible repeat (first | apply Kd.R_alloc | apply Kd.R_drewN | apply Kd.R_drew)); exact HO4014.out))) (Kd.R_lt (by (with_reducible repeat (first | apply Kd.R_alloc | apply Kd.R_drewN | apply Kd.R_drew)); exact HO4020.out))) (Kd.R_lt (by (with_reducible repeat (first | apply Kd.R_alloc | apply Kd.R_drewN | apply Kd.R_drew)); exact HO4026.out))) (below_size (by repeat (first | (with_reducible first | exact HB.out | apply below_alloc | apply pw_below_drewN | apply below_drew1 | refine below_set ?_ GE4001.out | refine below_set ?_ GE4002.out | refine below_set ?_ GE4021.out | refine below_set ?_ GE4027.out) | exact HB.out))))
            have n5_ := Aside0.mk (blk_below (g := gb4001) (o := .cells #[.string a0_0, .string a0_1, .slice A0_2 l0_2.length c0_2] 47 (0, 0)) (by (with_reducible repeat (first | refine blk_drewN ?_ _ | refine blk_drew ?_ | refine blk_alloc ?_ _)); exact BK4001.out) hb)
            have n6_ := Aside0.mk (blk_below (g := gb4002) (o := .cells #[.string a1_0, .string a1_1, .slice A1_2 l1_2.length c1_2] 47 (0, 0)) (by (with_reducible repeat (first | refine blk_drewN ?_ _ | refine blk_drew ?_ | refine blk_alloc ?_ _)); exact BK4002.out) hb)
            have n7_ := Aside0.mk (blk_below (g := gb4021) (o := .cells #[.string t4016, .string t4017, .slice Ao119 t4018.length co119] 50 (0, 0)) (by (with_reducible repeat (first | refine blk_drewN ?_ _ | refine blk_drew ?_ | refine blk_alloc ?_ _)); exact BK4021.out) hb)
            have n8_ := Aside0.mk (blk_below (g := gb4027) (o := .cells #[.string t4022, .string t4023, .slice Ao127 t4024.length co127] 50 (0, 0)) (by (with_reducible repeat (first | refine blk_drewN ?_ _ | refine blk_drew ?_ | refine blk_alloc ?_ _)); exact BK4027.out) hb)
            have n9_ := Aside0.mk (below_step (by repeat (first | (with_reducible first | exact HB.out | apply below_alloc | apply pw_below_drewN | apply below_drew1 | refine below_set ?_ GE4001.out | refine below_set ?_ GE4002.out | refine below_set ?_ GE4021.out | refine below_set ?_ GE4027.out) | exact HB.out)) hb)
            clear HO4009
            clear HO4014
            clear HO4020
            clear HO4026
            clear BK4001
            clear BK4002
            clear BK4021
            clear BK4027
            clear HB
            have HO4009 := n0_
            have HO4014 := n1_
            have HO4020 := n2_
            have HO4026 := n3_
            have HO4033 := n4_
            have BK4001 := n5_
            have BK4002 := n6_
            have BK4021 := n7_
            have BK4027 := n8_
            have HB := n9_
            clear n0_ n1_ n2_ n3_ n4_ n5_ n6_ n7_ n8_ n9_
            (try clear hb)
            (try clear hb2)
            (try clear hk)
            (try clear hi)
            (try clear ho0)
            obtain ⟨Ao132, co132, eo132⟩ := Kd.R_slice HO4033.out
            (first | subst eo132 | (injection eo132 with f1_ f2_ f3_; have f4_ := f1_.symm; have f5_ := f3_.symm; clear f1_ f2_ f3_; subst f4_; subst f5_))
            refine hK.out _ _ ⟨(blk_cell BK4021.out 0).trans rfl, (blk_cell BK4021.out 1).trans rfl, (blk_cell BK4021.out 2).trans rfl, (blk_cell BK4001.out 0).trans rfl, (blk_cell BK4001.out 1).trans rfl, (blk_cell BK4001.out 2).trans rfl⟩ (fun hHeld => ?_)
            clear hK K
            refine norm_ (a' := ?_) ?_ ?_
            rotate_left
            · show Act.put _ (some 37) _ = _
              simp only [Act.put, List.setIfInBounds_toArray, List.set_cons_zero, List.set_cons_succ, i64_w, i32_w]
              rfl
            refine one_ (i := 3) (N := some 38) #[true, true, true, true, false] rfl rfl (by kernel_rfl) (by decide) (fun K hK => ?_)
            refine goes_ Try.func32 (by kernel_rfl) rfl #[.agg #[.string t4016, .string t4017, .slice Ao119 t4018.length co119], .agg #[.string t4029, .string t4030, .slice Ao132 t4031.length co132]] (by rfl) rfl rfl (by (try simp only [List.map_toArray, List.map_cons, List.map_nil]); first | done | rfl | (simp only [List.length_drop, List.length_take]; rfl)) ?_
            with_reducible refine (laws_eqState.calls k t4016 t4017 _ _ t4018 t4029 t4030 _ _ t4031 true _ ?side1 ?side2 ?side3 ?side4 A57.out).mono ?_
            (case side1 => repeat (first | exact (Kd.R_reads' HO4020.out).2.2 | (with_reducible refine Kd.C_alloc ?_ _) | (with_reducible refine Kd.C_drewN ?_ _) | (with_reducible refine Kd.C_drew ?_)))
            (case side2 => exact (Kd.R_reads' HO4020.out).2.1)
            (case side3 => repeat (first | exact (Kd.R_reads' HO4033.out).2.2 | (with_reducible refine Kd.C_alloc ?_ _) | (with_reducible refine Kd.C_drewN ?_ _) | (with_reducible refine Kd.C_drew ?_)))
            (case side4 => exact (Kd.R_reads' HO4033.out).2.1)
            rintro e w133 ⟨rfl, hb⟩
            refine ⟨_, rfl, ?_⟩
            have n0_ := Aside0.mk (Kd.R_below (by (with_reducible repeat (first | apply Kd.R_alloc | apply Kd.R_drewN | apply Kd.R_drew)); exact HO4009.out) hb)
            have n1_ := Aside0.mk (Kd.R_below (by (with_reducible repeat (first | apply Kd.R_alloc | apply Kd.R_drewN | apply Kd.R_drew)); exact HO4014.out) hb)
            have n2_ := Aside0.mk (Kd.R_below (by (with_reducible repeat (first | apply Kd.R_alloc | apply Kd.R_drewN | apply Kd.R_drew)); exact HO4020.out) hb)
            have n3_ := Aside0.mk (Kd.R_below (by (with_reducible repeat (first | apply Kd.R_alloc | apply Kd.R_drewN | apply Kd.R_drew)); exact HO4026.out) hb)
            have n4_ := Aside0.mk (Kd.R_below (by (with_reducible repeat (first | apply Kd.R_alloc | apply Kd.R_drewN | apply Kd.R_drew)); exact HO4033.out) hb)
            have n5_ := Aside0.mk (blk_below (g := gb4001) (o := .cells #[.string a0_0, .string a0_1, .slice A0_2 l0_2.length c0_2] 47 (0, 0)) (by (with_reducible repeat (first | refine blk_drewN ?_ _ | refine blk_drew ?_ | refine blk_alloc ?_ _)); exact BK4001.out) hb)
            have n6_ := Aside0.mk (blk_below (g := gb4002) (o := .cells #[.string a1_0, .string a1_1, .slice A1_2 l1_2.length c1_2] 47 (0, 0)) (by (with_reducible repeat (first | refine blk_drewN ?_ _ | refine blk_drew ?_ | refine blk_alloc ?_ _)); exact BK4002.out) hb)
            have n7_ := Aside0.mk (blk_below (g := gb4021) (o := .cells #[.string t4016, .string t4017, .slice Ao119 t4018.length co119] 50 (0, 0)) (by (with_reducible repeat (first | refine blk_drewN ?_ _ | refine blk_drew ?_ | refine blk_alloc ?_ _)); exact BK4021.out) hb)
            have n8_ := Aside0.mk (blk_below (g := gb4027) (o := .cells #[.string t4022, .string t4023, .slice Ao127 t4024.length co127] 50 (0, 0)) (by (with_reducible repeat (first | refine blk_drewN ?_ _ | refine blk_drew ?_ | refine blk_alloc ?_ _)); exact BK4027.out) hb)
            have n9_ := Aside0.mk (below_step (by repeat (first | (with_reducible first | exact HB.out | apply below_alloc | apply pw_below_drewN | apply below_drew1 | refine below_set ?_ GE4001.out | refine below_set ?_ GE4002.out | refine below_set ?_ GE4021.out | refine below_set ?_ GE4027.out) | exact HB.out)) hb)
            clear HO4009
            clear HO4014
            clear HO4020
            clear HO4026
            clear HO4033
            clear BK4001
            clear BK4002
            clear BK4021
            clear BK4027
            clear HB
            have HO4009 := n0_
            have HO4014 := n1_
            have HO4020 := n2_
            have HO4026 := n3_
            have HO4033 := n4_
            have BK4001 := n5_
            have BK4002 := n6_
            have BK4021 := n7_
            have BK4027 := n8_
            have HB := n9_
            clear n0_ n1_ n2_ n3_ n4_ n5_ n6_ n7_ n8_ n9_
            (try clear hb)
            (try clear hb2)
            (try clear hk)
            (try clear hi)
            refine hK.out _ _ ⟨(blk_cell BK4021.out 0).trans rfl, (blk_cell BK4021.out 1).trans rfl, (blk_cell BK4021.out 2).trans rfl, (blk_cell BK4001.out 0).trans rfl, (blk_cell BK4001.out 1).trans rfl, (blk_cell BK4001.out 2).trans rfl⟩ (fun hHeld => ?_)
            clear hK K
            refine norm_ (a' := ?_) ?_ ?_
            rotate_left
            · show Act.put _ (some 38) _ = _
              simp only [Act.put, List.setIfInBounds_toArray, List.set_cons_zero, List.set_cons_succ, i64_w, i32_w]
              rfl
            refine pure_ (i := 4) (N := some 39) (v := ?_) (a' := ?_) #[true, true, true, true, true] rfl rfl (by kernel_rfl) (fun _ _ _ h => h) (Or.inl ⟨by rfl, ?_⟩) ?_ ?_
            rotate_left
            · intro w'
              go_simp
              first | with_reducible rfl | (rw [if_neg (by omega)]; done)
            rotate_left
            · simp only [Act.put, List.setIfInBounds_toArray, List.set_cons_zero, List.set_cons_succ, i64_w, i32_w]
              rfl
            refine done_ (by kernel_rfl) ?_
            try go_wp2
            have n0_ := Aside0.mk (Kd.R_drew HO4009.out)
            have n1_ := Aside0.mk (Kd.R_drew HO4014.out)
            have n2_ := Aside0.mk (Kd.R_drew HO4020.out)
            have n3_ := Aside0.mk (Kd.R_drew HO4026.out)
            have n4_ := Aside0.mk (Kd.R_drew HO4033.out)
            have n5_ := Aside0.mk (blk_drew BK4001.out)
            have n6_ := Aside0.mk (blk_drew BK4002.out)
            have n7_ := Aside0.mk (blk_drew BK4021.out)
            have n8_ := Aside0.mk (blk_drew BK4027.out)
            have n9_ := Aside0.mk (below_drew1 HB.out)
            clear HO4009
            clear HO4014
            clear HO4020
            clear HO4026
            clear HO4033
            clear BK4001
            clear BK4002
            clear BK4021
            clear BK4027
            clear HB
            have HO4009 := n0_
            have HO4014 := n1_
            have HO4020 := n2_
            have HO4026 := n3_
            have HO4033 := n4_
            have BK4001 := n5_
            have BK4002 := n6_
            have BK4021 := n7_
            have BK4027 := n8_
            have HB := n9_
            clear n0_ n1_ n2_ n3_ n4_ n5_ n6_ n7_ n8_ n9_
            refine start_ (n := 5) (S := fun w' => w'.cell? ⟨gb4027, 0, none⟩ = some (.string t4022) ∧ w'.cell? ⟨gb4027, 1, none⟩ = some (.string t4023) ∧ w'.cell? ⟨gb4027, 2, none⟩ = some (.slice Ao127 t4024.length co127) ∧ w'.cell? ⟨gb4002, 0, none⟩ = some (.string a1_0) ∧ w'.cell? ⟨gb4002, 1, none⟩ = some (.string a1_1) ∧ w'.cell? ⟨gb4002, 2, none⟩ = some (.slice A1_2 l1_2.length c1_2)) (ds := []) #[false, false, false, false, false] (by kernel_rfl) rfl rfl ⟨(blk_cell BK4027.out 0).trans rfl, (blk_cell BK4027.out 1).trans rfl, (blk_cell BK4027.out 2).trans rfl, (blk_cell BK4002.out 0).trans rfl, (blk_cell BK4002.out 1).trans rfl, (blk_cell BK4002.out 2).trans rfl⟩ (fun hHeld => ?_)
            generalize w133.drew = w134 at HO4009 HO4014 HO4020 HO4026 HO4033 BK4001 BK4002 BK4021 BK4027 HB hHeld ⊢
            refine take_ (i := 0) (N := some 40) (v := ?_) (a' := ?_) #[true, false, false, false, false] rfl rfl (by kernel_rfl) (fun _ _ _ h => h) (Or.inl ⟨by rfl, ?_⟩) hHeld ?_ ?_
            rotate_left
            · rintro w' ⟨s0, s1, s2, s3, s4, s5⟩
              go_simp
              first | with_reducible rfl | (rw [if_neg (by omega)]; done)
            rotate_left
            · simp only [Act.put, List.setIfInBounds_toArray, List.set_cons_zero, List.set_cons_succ, i64_w, i32_w]
              rfl
            refine take_ (i := 1) (N := some 41) (v := ?_) (a' := ?_) #[true, true, false, false, false] rfl rfl (by kernel_rfl) (fun _ _ _ h => h) (Or.inl ⟨by rfl, ?_⟩) hHeld ?_ ?_
            rotate_left
            · rintro w' ⟨s0, s1, s2, s3, s4, s5⟩
              go_simp
              first | with_reducible rfl | (rw [if_neg (by omega)]; done)
            rotate_left
            · simp only [Act.put, List.setIfInBounds_toArray, List.set_cons_zero, List.set_cons_succ, i64_w, i32_w]
              rfl
            refine one_ (i := 2) (N := some 42) #[true, true, true, false, false] rfl rfl (by kernel_rfl) (by decide) (fun K hK => ?_)
            refine goes_ Try.func30 (by kernel_rfl) rfl #[.agg #[.string a1_0, .string a1_1, .slice A1_2 l1_2.length c1_2]] (by rfl) rfl rfl (by (try simp only [List.map_toArray, List.map_cons, List.map_nil]); first | done | rfl | (simp only [List.length_drop, List.length_take]; rfl)) ?_
            with_reducible refine (laws_toState.calls k a1_0 a1_1 _ _ l1_2 t4035 t4036 t4037 _ ?side1 ?side2 A59.out).mono ?_
            (case side1 => repeat (first | exact (Kd.C_below HR1_2.out HB.out) | (with_reducible refine Kd.C_alloc ?_ _) | (with_reducible refine Kd.C_drewN ?_ _) | (with_reducible refine Kd.C_drew ?_)))
            (case side2 => exact HC1_2.out)
            rintro e w135 ⟨v4038, rfl, ho0, hb⟩
            refine ⟨_, rfl, ?_⟩
            have n0_ := Aside0.mk (Kd.R_elder' (by (with_reducible repeat (first | apply Kd.R_alloc | apply Kd.R_drewN | apply Kd.R_drew)); exact HO4009.out) (Kd.R_base ho0) hb)
            have n1_ := Aside0.mk (Kd.R_elder' (by (with_reducible repeat (first | apply Kd.R_alloc | apply Kd.R_drewN | apply Kd.R_drew)); exact HO4014.out) (Kd.R_base ho0) hb)
            have n2_ := Aside0.mk (Kd.R_elder' (by (with_reducible repeat (first | apply Kd.R_alloc | apply Kd.R_drewN | apply Kd.R_drew)); exact HO4020.out) (Kd.R_base ho0) hb)
            have n3_ := Aside0.mk (Kd.R_elder' (by (with_reducible repeat (first | apply Kd.R_alloc | apply Kd.R_drewN | apply Kd.R_drew)); exact HO4026.out) (Kd.R_base ho0) hb)
            have n4_ := Aside0.mk (Kd.R_elder' (by (with_reducible repeat (first | apply Kd.R_alloc | apply Kd.R_drewN | apply Kd.R_drew)); exact HO4033.out) (Kd.R_base ho0) hb)
            have n5_ := Aside0.mk (Kd.R_lower (Kd.R_new' (Kd.R_new' (Kd.R_new' (Kd.R_new' (Kd.R_new' ho0 (Kd.R_lt (by (with_reducible repeat (first | apply Kd.R_alloc | apply Kd.R_drewN | apply Kd.R_drew)); exact HO4009.out))) (Kd.R_lt (by (with_reducible repeat (first | apply Kd.R_alloc | apply Kd.R_drewN | apply Kd.R_drew)); exact HO4014.out))) (Kd.R_lt (by (with_reducible repeat (first | apply Kd.R_alloc | apply Kd.R_drewN | apply Kd.R_drew)); exact HO4020.out))) (Kd.R_lt (by (with_reducible repeat (first | apply Kd.R_alloc | apply Kd.R_drewN | apply Kd.R_drew)); exact HO4026.out))) (Kd.R_lt (by (with_reducible repeat (first | apply Kd.R_alloc | apply Kd.R_drewN | apply Kd.R_drew)); exact HO4033.out))) (below_size (by repeat (first | (with_reducible first | exact HB.out | apply below_alloc | apply pw_below_drewN | apply below_drew1 | refine below_set ?_ GE4001.out | refine below_set ?_ GE4002.out | refine below_set ?_ GE4021.out | refine below_set ?_ GE4027.out) | exact HB.out))))
            have n6_ := Aside0.mk (blk_below (g := gb4001) (o := .cells #[.string a0_0, .string a0_1, .slice A0_2 l0_2.length c0_2] 47 (0, 0)) (by (with_reducible repeat (first | refine blk_drewN ?_ _ | refine blk_drew ?_ | refine blk_alloc ?_ _)); exact BK4001.out) hb)
            have n7_ := Aside0.mk (blk_below (g := gb4002) (o := .cells #[.string a1_0, .string a1_1, .slice A1_2 l1_2.length c1_2] 47 (0, 0)) (by (with_reducible repeat (first | refine blk_drewN ?_ _ | refine blk_drew ?_ | refine blk_alloc ?_ _)); exact BK4002.out) hb)
            have n8_ := Aside0.mk (blk_below (g := gb4021) (o := .cells #[.string t4016, .string t4017, .slice Ao119 t4018.length co119] 50 (0, 0)) (by (with_reducible repeat (first | refine blk_drewN ?_ _ | refine blk_drew ?_ | refine blk_alloc ?_ _)); exact BK4021.out) hb)
            have n9_ := Aside0.mk (blk_below (g := gb4027) (o := .cells #[.string t4022, .string t4023, .slice Ao127 t4024.length co127] 50 (0, 0)) (by (with_reducible repeat (first | refine blk_drewN ?_ _ | refine blk_drew ?_ | refine blk_alloc ?_ _)); exact BK4027.out) hb)
            have n10_ := Aside0.mk (below_step (by repeat (first | (with_reducible first | exact HB.out | apply below_alloc | apply pw_below_drewN | apply below_drew1 | refine below_set ?_ GE4001.out | refine below_set ?_ GE4002.out | refine below_set ?_ GE4021.out | refine below_set ?_ GE4027.out) | exact HB.out)) hb)
            clear HO4009
            clear HO4014
            clear HO4020
            clear HO4026
            clear HO4033
            clear BK4001
            clear BK4002
            clear BK4021
            clear BK4027
            clear HB
            have HO4009 := n0_
            have HO4014 := n1_
            have HO4020 := n2_
            have HO4026 := n3_
            have HO4033 := n4_
            have HO4039 := n5_
            have BK4001 := n6_
            have BK4002 := n7_
            have BK4021 := n8_
            have BK4027 := n9_
            have HB := n10_
            clear n0_ n1_ n2_ n3_ n4_ n5_ n6_ n7_ n8_ n9_ n10_
            (try clear hb)
            (try clear hb2)
            (try clear hk)
            (try clear hi)
            (try clear ho0)
            obtain ⟨Ao136, co136, eo136⟩ := Kd.R_slice HO4039.out
            (first | subst eo136 | (injection eo136 with f1_ f2_ f3_; have f4_ := f1_.symm; have f5_ := f3_.symm; clear f1_ f2_ f3_; subst f4_; subst f5_))
            refine hK.out _ _ ⟨(blk_cell BK4027.out 0).trans rfl, (blk_cell BK4027.out 1).trans rfl, (blk_cell BK4027.out 2).trans rfl, (blk_cell BK4002.out 0).trans rfl, (blk_cell BK4002.out 1).trans rfl, (blk_cell BK4002.out 2).trans rfl⟩ (fun hHeld => ?_)
            clear hK K
            refine norm_ (a' := ?_) ?_ ?_
            rotate_left
            · show Act.put _ (some 42) _ = _
              simp only [Act.put, List.setIfInBounds_toArray, List.set_cons_zero, List.set_cons_succ, i64_w, i32_w]
              rfl
            refine one_ (i := 3) (N := some 43) #[true, true, true, true, false] rfl rfl (by kernel_rfl) (by decide) (fun K hK => ?_)
            refine goes_ Try.func32 (by kernel_rfl) rfl #[.agg #[.string t4022, .string t4023, .slice Ao127 t4024.length co127], .agg #[.string t4035, .string t4036, .slice Ao136 t4037.length co136]] (by rfl) rfl rfl (by (try simp only [List.map_toArray, List.map_cons, List.map_nil]); first | done | rfl | (simp only [List.length_drop, List.length_take]; rfl)) ?_
            with_reducible refine (laws_eqState.calls k t4022 t4023 _ _ t4024 t4035 t4036 _ _ t4037 false _ ?side1 ?side2 ?side3 ?side4 A60.out).mono ?_
            (case side1 => repeat (first | exact (Kd.R_reads' HO4026.out).2.2 | (with_reducible refine Kd.C_alloc ?_ _) | (with_reducible refine Kd.C_drewN ?_ _) | (with_reducible refine Kd.C_drew ?_)))
            (case side2 => exact (Kd.R_reads' HO4026.out).2.1)
            (case side3 => repeat (first | exact (Kd.R_reads' HO4039.out).2.2 | (with_reducible refine Kd.C_alloc ?_ _) | (with_reducible refine Kd.C_drewN ?_ _) | (with_reducible refine Kd.C_drew ?_)))
            (case side4 => exact (Kd.R_reads' HO4039.out).2.1)
            rintro e w137 ⟨rfl, hb⟩
            refine ⟨_, rfl, ?_⟩
            have n0_ := Aside0.mk (Kd.R_below (by (with_reducible repeat (first | apply Kd.R_alloc | apply Kd.R_drewN | apply Kd.R_drew)); exact HO4009.out) hb)
            have n1_ := Aside0.mk (Kd.R_below (by (with_reducible repeat (first | apply Kd.R_alloc | apply Kd.R_drewN | apply Kd.R_drew)); exact HO4014.out) hb)
            have n2_ := Aside0.mk (Kd.R_below (by (with_reducible repeat (first | apply Kd.R_alloc | apply Kd.R_drewN | apply Kd.R_drew)); exact HO4020.out) hb)
            have n3_ := Aside0.mk (Kd.R_below (by (with_reducible repeat (first | apply Kd.R_alloc | apply Kd.R_drewN | apply Kd.R_drew)); exact HO4026.out) hb)
            have n4_ := Aside0.mk (Kd.R_below (by (with_reducible repeat (first | apply Kd.R_alloc | apply Kd.R_drewN | apply Kd.R_drew)); exact HO4033.out) hb)
            have n5_ := Aside0.mk (Kd.R_below (by (with_reducible repeat (first | apply Kd.R_alloc | apply Kd.R_drewN | apply Kd.R_drew)); exact HO4039.out) hb)
            have n6_ := Aside0.mk (blk_below (g := gb4001) (o := .cells #[.string a0_0, .string a0_1, .slice A0_2 l0_2.length c0_2] 47 (0, 0)) (by (with_reducible repeat (first | refine blk_drewN ?_ _ | refine blk_drew ?_ | refine blk_alloc ?_ _)); exact BK4001.out) hb)
            have n7_ := Aside0.mk (blk_below (g := gb4002) (o := .cells #[.string a1_0, .string a1_1, .slice A1_2 l1_2.length c1_2] 47 (0, 0)) (by (with_reducible repeat (first | refine blk_drewN ?_ _ | refine blk_drew ?_ | refine blk_alloc ?_ _)); exact BK4002.out) hb)
            have n8_ := Aside0.mk (blk_below (g := gb4021) (o := .cells #[.string t4016, .string t4017, .slice Ao119 t4018.length co119] 50 (0, 0)) (by (with_reducible repeat (first | refine blk_drewN ?_ _ | refine blk_drew ?_ | refine blk_alloc ?_ _)); exact BK4021.out) hb)
            have n9_ := Aside0.mk (blk_below (g := gb4027) (o := .cells #[.string t4022, .string t4023, .slice Ao127 t4024.length co127] 50 (0, 0)) (by (with_reducible repeat (first | refine blk_drewN ?_ _ | refine blk_drew ?_ | refine blk_alloc ?_ _)); exact BK4027.out) hb)
            have n10_ := Aside0.mk (below_step (by repeat (first | (with_reducible first | exact HB.out | apply below_alloc | apply pw_below_drewN | apply below_drew1 | refine below_set ?_ GE4001.out | refine below_set ?_ GE4002.out | refine below_set ?_ GE4021.out | refine below_set ?_ GE4027.out) | exact HB.out)) hb)
            clear HO4009
            clear HO4014
            clear HO4020
            clear HO4026
            clear HO4033
            clear HO4039
            clear BK4001
            clear BK4002
            clear BK4021
            clear BK4027
            clear HB
            have HO4009 := n0_
            have HO4014 := n1_
            have HO4020 := n2_
            have HO4026 := n3_
            have HO4033 := n4_
            have HO4039 := n5_
            have BK4001 := n6_
            have BK4002 := n7_
            have BK4021 := n8_
            have BK4027 := n9_
            have HB := n10_
            clear n0_ n1_ n2_ n3_ n4_ n5_ n6_ n7_ n8_ n9_ n10_
            (try clear hb)
            (try clear hb2)
            (try clear hk)
            (try clear hi)
            refine hK.out _ _ ⟨(blk_cell BK4027.out 0).trans rfl, (blk_cell BK4027.out 1).trans rfl, (blk_cell BK4027.out 2).trans rfl, (blk_cell BK4002.out 0).trans rfl, (blk_cell BK4002.out 1).trans rfl, (blk_cell BK4002.out 2).trans rfl⟩ (fun hHeld => ?_)
            clear hK K
            refine norm_ (a' := ?_) ?_ ?_
            rotate_left
            · show Act.put _ (some 43) _ = _
              simp only [Act.put, List.setIfInBounds_toArray, List.set_cons_zero, List.set_cons_succ, i64_w, i32_w]
              rfl
            refine pure_ (i := 4) (N := some 44) (v := ?_) (a' := ?_) #[true, true, true, true, true] rfl rfl (by kernel_rfl) (fun _ _ _ h => h) (Or.inl ⟨by rfl, ?_⟩) ?_ ?_
            rotate_left
            · intro w'
              go_simp
              first | with_reducible rfl | (rw [if_neg (by omega)]; done)
            rotate_left
            · simp only [Act.put, List.setIfInBounds_toArray, List.set_cons_zero, List.set_cons_succ, i64_w, i32_w]
              rfl
            refine done_ (by kernel_rfl) ?_
            try go_wp2
            go_ret
            exact ⟨by first | rfl | (simp [errW_none, errW_some] <;> rfl) | (simp [*, errW_none, errW_some] <;> rfl), by repeat (first | (with_reducible first | exact HB.out | apply below_alloc | apply pw_below_drewN | apply below_drew1 | refine below_set ?_ GE4001.out | refine below_set ?_ GE4002.out | refine below_set ?_ GE4021.out | refine below_set ?_ GE4027.out) | exact HB.out)⟩
        · replace c58 := Bool.eq_false_iff.mpr c58
          subst c58
          have H1 : (some false) = some r := by rw [if_neg (show ¬ (false = true) by decide)] at H; exact H
          clear H
          have H := H1
          clear H1
          obtain rfl := Option.some.inj H
          go_enter Try.func4, Try.ntmps4
          try go_wp2_with (first | ((with_reducible refine gate_dst (N := 2) rfl ?_); refine box_event ?hg (N := 2) ?hd (cs := #[.string a0_0, .string a0_1, .slice A0_2 l0_2.length c0_2]) (t := 47) ?hr ?_; (case hd => rfl); (case hg => rfl); (case hr => first | (go_simp; done) | (go_simp; rfl)); intro gb4001 hg w138 hbox hb; have n0_ := Aside0.mk (below_step (by repeat (first | (with_reducible first | exact HB.out | apply below_alloc | apply pw_below_drewN | apply below_drew1) | exact HB.out)) hb); have n1_ := Aside0.mk (hbox); have n2_ := Aside0.mk ((by rw [hg]; exact (below_size (by repeat (first | (with_reducible first | exact HB.out | apply below_alloc | apply pw_below_drewN | apply below_drew1) | exact HB.out))) : w.heap.size ≤ gb4001)); have n3_ := Aside0.mk ((by rw [hg]; exact (below_size (by repeat (first | (with_reducible first | exact HB.out | apply below_alloc | apply pw_below_drewN | apply below_drew1) | exact HB.out))) : w.heap.size ≤ gb4001)); clear HB; have HB := n0_; have BK4001 := n1_; have GW4001 := n2_; have GE4001 := n3_; clear n0_ n1_ n2_ n3_; clear hb hbox hg) | ((with_reducible refine gate_dst (N := 3) rfl ?_); refine box_event ?hg (N := 3) ?hd (cs := #[.string a1_0, .string a1_1, .slice A1_2 l1_2.length c1_2]) (t := 47) ?hr ?_; (case hd => rfl); (case hg => rfl); (case hr => first | (go_simp; done) | (go_simp; rfl)); intro gb4002 hg w139 hbox hb; have n0_ := Aside0.mk (blk_below (g := gb4001) (o := .cells #[.string a0_0, .string a0_1, .slice A0_2 l0_2.length c0_2] 47 (0, 0)) (by (with_reducible repeat (first | refine blk_drewN ?_ _ | refine blk_drew ?_ | refine blk_alloc ?_ _)); exact BK4001.out) hb); have n1_ := Aside0.mk (below_step (by repeat (first | (with_reducible first | exact HB.out | apply below_alloc | apply pw_below_drewN | apply below_drew1 | refine below_set ?_ GE4001.out) | exact HB.out)) hb); have n2_ := Aside0.mk (hbox); have n3_ := Aside0.mk ((by rw [hg]; exact (below_size (by repeat (first | (with_reducible first | exact HB.out | apply below_alloc | apply pw_below_drewN | apply below_drew1 | refine below_set ?_ GE4001.out) | exact HB.out))) : w.heap.size ≤ gb4002)); have n4_ := Aside0.mk ((by rw [hg]; exact (below_size (by repeat (first | (with_reducible first | exact HB.out | apply below_alloc | apply pw_below_drewN | apply below_drew1 | refine below_set ?_ GE4001.out) | exact HB.out))) : w.heap.size ≤ gb4002)); have n5_ := Aside0.mk ((by rw [hg]; exact Nat.ne_of_lt (blk_lt (g := gb4001) (o := .cells #[.string a0_0, .string a0_1, .slice A0_2 l0_2.length c0_2] 47 (0, 0)) (by (with_reducible repeat (first | refine blk_drewN ?_ _ | refine blk_drew ?_ | refine blk_alloc ?_ _)); exact BK4001.out)) : gb4001 ≠ gb4002)); have n6_ := Aside0.mk ((by rw [hg]; exact Nat.ne_of_gt (blk_lt (g := gb4001) (o := .cells #[.string a0_0, .string a0_1, .slice A0_2 l0_2.length c0_2] 47 (0, 0)) (by (with_reducible repeat (first | refine blk_drewN ?_ _ | refine blk_drew ?_ | refine blk_alloc ?_ _)); exact BK4001.out)) : gb4002 ≠ gb4001)); clear BK4001; clear HB; have BK4001 := n0_; have HB := n1_; have BK4002 := n2_; have GW4002 := n3_; have GE4002 := n4_; have NB4001_4002 := n5_; have NB4002_4001 := n6_; clear n0_ n1_ n2_ n3_ n4_ n5_ n6_; clear hb hbox hg; have hnb140 := NB4001_4002.out; have hnc140 := NB4002_4001.out; have hcz141_0 : w139.cell? ⟨gb4001, 0, none⟩ = some (.string a0_0) := (blk_cell BK4001.out 0).trans rfl; have hcz141_1 : w139.cell? ⟨gb4001, 1, none⟩ = some (.string a0_1) := (blk_cell BK4001.out 1).trans rfl; have hcz141_2 : w139.cell? ⟨gb4001, 2, none⟩ = some (.slice A0_2 l0_2.length c0_2) := (blk_cell BK4001.out 2).trans rfl; have hfz141_0 := blk_frozen BK4001.out 0; have hfz141_1 := blk_frozen BK4001.out 1; have hfz141_2 := blk_frozen BK4001.out 2) | ((with_reducible refine gate_callee (f := 28) rfl ?_); refine goesL_ (some 12) rfl rfl Try.func28 (by kernel_rfl) rfl #[.agg #[.string a0_0, .string a0_1, .slice A0_2 l0_2.length c0_2], .int .i64 1048576] rfl (by (try simp only [List.map_toArray, List.map_cons, List.map_nil]); first | done | rfl | (simp only [List.length_drop, List.length_take]; rfl)) ?_; (with_reducible refine (laws_szState.calls a0_0 a0_1 _ _ l0_2 1048576 t4003 _ ?side1 ?side2 A3.out).mono ?_); (case side1 => repeat (first | exact (Kd.C_below HR0_2.out HB.out) | (with_reducible refine Kd.C_alloc ?_ _) | (with_reducible refine Kd.C_drewN ?_ _) | (with_reducible refine Kd.C_drew ?_))); (case side2 => exact HC0_2.out); rintro e w142 ⟨rfl, hb⟩; refine ⟨_, rfl, ?_⟩; have n0_ := Aside0.mk (blk_below (g := gb4001) (o := .cells #[.string a0_0, .string a0_1, .slice A0_2 l0_2.length c0_2] 47 (0, 0)) (by (with_reducible repeat (first | refine blk_drewN ?_ _ | refine blk_drew ?_ | refine blk_alloc ?_ _)); exact BK4001.out) hb); have n1_ := Aside0.mk (blk_below (g := gb4002) (o := .cells #[.string a1_0, .string a1_1, .slice A1_2 l1_2.length c1_2] 47 (0, 0)) (by (with_reducible repeat (first | refine blk_drewN ?_ _ | refine blk_drew ?_ | refine blk_alloc ?_ _)); exact BK4002.out) hb); have n2_ := Aside0.mk (below_step (by repeat (first | (with_reducible first | exact HB.out | apply below_alloc | apply pw_below_drewN | apply below_drew1 | refine below_set ?_ GE4001.out | refine below_set ?_ GE4002.out) | exact HB.out)) hb); clear BK4001; clear BK4002; clear HB; have BK4001 := n0_; have BK4002 := n1_; have HB := n2_; clear n0_ n1_ n2_; (try clear hb); (try clear hb2); (try clear hk); (try clear hi); have hcz143_0 : w142.cell? ⟨gb4002, 0, none⟩ = some (.string a1_0) := (blk_cell BK4002.out 0).trans rfl; have hcz143_1 : w142.cell? ⟨gb4002, 1, none⟩ = some (.string a1_1) := (blk_cell BK4002.out 1).trans rfl; have hcz143_2 : w142.cell? ⟨gb4002, 2, none⟩ = some (.slice A1_2 l1_2.length c1_2) := (blk_cell BK4002.out 2).trans rfl; have hfz143_0 := blk_frozen BK4002.out 0; have hfz143_1 := blk_frozen BK4002.out 1; have hfz143_2 := blk_frozen BK4002.out 2) | ((with_reducible refine gate_callee (f := 28) rfl ?_); refine goesL_ (some 17) rfl rfl Try.func28 (by kernel_rfl) rfl #[.agg #[.string a1_0, .string a1_1, .slice A1_2 l1_2.length c1_2], .int .i64 t4003] rfl (by (try simp only [List.map_toArray, List.map_cons, List.map_nil]); first | done | rfl | (simp only [List.length_drop, List.length_take]; rfl)) ?_; (with_reducible refine (laws_szState.calls a1_0 a1_1 _ _ l1_2 t4003 t4004 _ ?side1 ?side2 A10.out).mono ?_); (case side1 => repeat (first | exact (Kd.C_below HR1_2.out HB.out) | (with_reducible refine Kd.C_alloc ?_ _) | (with_reducible refine Kd.C_drewN ?_ _) | (with_reducible refine Kd.C_drew ?_))); (case side2 => exact HC1_2.out); rintro e w144 ⟨rfl, hb⟩; refine ⟨_, rfl, ?_⟩; have n0_ := Aside0.mk (blk_below (g := gb4001) (o := .cells #[.string a0_0, .string a0_1, .slice A0_2 l0_2.length c0_2] 47 (0, 0)) (by (with_reducible repeat (first | refine blk_drewN ?_ _ | refine blk_drew ?_ | refine blk_alloc ?_ _)); exact BK4001.out) hb); have n1_ := Aside0.mk (blk_below (g := gb4002) (o := .cells #[.string a1_0, .string a1_1, .slice A1_2 l1_2.length c1_2] 47 (0, 0)) (by (with_reducible repeat (first | refine blk_drewN ?_ _ | refine blk_drew ?_ | refine blk_alloc ?_ _)); exact BK4002.out) hb); have n2_ := Aside0.mk (below_step (by repeat (first | (with_reducible first | exact HB.out | apply below_alloc | apply pw_below_drewN | apply below_drew1 | refine below_set ?_ GE4001.out | refine below_set ?_ GE4002.out) | exact HB.out)) hb); clear BK4001; clear BK4002; clear HB; have BK4001 := n0_; have BK4002 := n1_; have HB := n2_; clear n0_ n1_ n2_; (try clear hb); (try clear hb2); (try clear hk); (try clear hi)))
          have n0_ := Aside0.mk (blk_drew BK4001.out)
          have n1_ := Aside0.mk (blk_drew BK4002.out)
          have n2_ := Aside0.mk (below_drew1 HB.out)
          clear BK4001
          clear BK4002
          clear HB
          have BK4001 := n0_
          have BK4002 := n1_
          have HB := n2_
          clear n0_ n1_ n2_
          refine start_ (n := 6) (S := fun w' => w'.cell? ⟨gb4001, 0, none⟩ = some (.string a0_0) ∧ w'.cell? ⟨gb4001, 1, none⟩ = some (.string a0_1) ∧ w'.cell? ⟨gb4001, 2, none⟩ = some (.slice A0_2 l0_2.length c0_2) ∧ w'.cell? ⟨gb4002, 0, none⟩ = some (.string a1_0) ∧ w'.cell? ⟨gb4002, 1, none⟩ = some (.string a1_1) ∧ w'.cell? ⟨gb4002, 2, none⟩ = some (.slice A1_2 l1_2.length c1_2)) (ds := []) #[false, false, false, false, false, false] (by kernel_rfl) rfl rfl ⟨(blk_cell BK4001.out 0).trans rfl, (blk_cell BK4001.out 1).trans rfl, (blk_cell BK4001.out 2).trans rfl, (blk_cell BK4002.out 0).trans rfl, (blk_cell BK4002.out 1).trans rfl, (blk_cell BK4002.out 2).trans rfl⟩ (fun hHeld => ?_)
          generalize w144.drew = w145 at BK4001 BK4002 HB hHeld ⊢
          refine take_ (i := 0) (N := some 20) (v := ?_) (a' := ?_) #[true, false, false, false, false, false] rfl rfl (by kernel_rfl) (fun _ _ _ h => h) (Or.inl ⟨by rfl, ?_⟩) hHeld ?_ ?_
          rotate_left
          · rintro w' ⟨s0, s1, s2, s3, s4, s5⟩
            go_simp
            first | with_reducible rfl | (rw [if_neg (by omega)]; done)
          rotate_left
          · simp only [Act.put, List.setIfInBounds_toArray, List.set_cons_zero, List.set_cons_succ, i64_w, i32_w]
            rfl
          refine take_ (i := 2) (N := some 22) (v := ?_) (a' := ?_) #[true, false, true, false, false, false] rfl rfl (by kernel_rfl) (fun _ _ _ h => h) (Or.inl ⟨by rfl, ?_⟩) hHeld ?_ ?_
          rotate_left
          · rintro w' ⟨s0, s1, s2, s3, s4, s5⟩
            go_simp
            first | with_reducible rfl | (rw [if_neg (by omega)]; done)
          rotate_left
          · simp only [Act.put, List.setIfInBounds_toArray, List.set_cons_zero, List.set_cons_succ, i64_w, i32_w]
            rfl
          refine one_ (i := 1) (N := some 21) #[true, true, true, false, false, false] rfl rfl (by kernel_rfl) (by decide) (fun K hK => ?_)
          refine goes_ Try.func30 (by kernel_rfl) rfl #[.agg #[.string a0_0, .string a0_1, .slice A0_2 l0_2.length c0_2]] (by rfl) rfl rfl (by (try simp only [List.map_toArray, List.map_cons, List.map_nil]); first | done | rfl | (simp only [List.length_drop, List.length_take]; rfl)) ?_
          with_reducible refine (laws_toState.calls k a0_0 a0_1 _ _ l0_2 t4005 t4006 t4007 _ ?side1 ?side2 A19.out).mono ?_
          (case side1 => repeat (first | exact (Kd.C_below HR0_2.out HB.out) | (with_reducible refine Kd.C_alloc ?_ _) | (with_reducible refine Kd.C_drewN ?_ _) | (with_reducible refine Kd.C_drew ?_)))
          (case side2 => exact HC0_2.out)
          rintro e w146 ⟨v4008, rfl, ho0, hb⟩
          refine ⟨_, rfl, ?_⟩
          have n0_ := Aside0.mk (Kd.R_lower ho0 (below_size (by repeat (first | (with_reducible first | exact HB.out | apply below_alloc | apply pw_below_drewN | apply below_drew1 | refine below_set ?_ GE4001.out | refine below_set ?_ GE4002.out) | exact HB.out))))
          have n1_ := Aside0.mk (blk_below (g := gb4001) (o := .cells #[.string a0_0, .string a0_1, .slice A0_2 l0_2.length c0_2] 47 (0, 0)) (by (with_reducible repeat (first | refine blk_drewN ?_ _ | refine blk_drew ?_ | refine blk_alloc ?_ _)); exact BK4001.out) hb)
          have n2_ := Aside0.mk (blk_below (g := gb4002) (o := .cells #[.string a1_0, .string a1_1, .slice A1_2 l1_2.length c1_2] 47 (0, 0)) (by (with_reducible repeat (first | refine blk_drewN ?_ _ | refine blk_drew ?_ | refine blk_alloc ?_ _)); exact BK4002.out) hb)
          have n3_ := Aside0.mk (below_step (by repeat (first | (with_reducible first | exact HB.out | apply below_alloc | apply pw_below_drewN | apply below_drew1 | refine below_set ?_ GE4001.out | refine below_set ?_ GE4002.out) | exact HB.out)) hb)
          clear BK4001
          clear BK4002
          clear HB
          have HO4009 := n0_
          have BK4001 := n1_
          have BK4002 := n2_
          have HB := n3_
          clear n0_ n1_ n2_ n3_
          (try clear hb)
          (try clear hb2)
          (try clear hk)
          (try clear hi)
          (try clear ho0)
          refine hK.out _ _ ⟨(blk_cell BK4001.out 0).trans rfl, (blk_cell BK4001.out 1).trans rfl, (blk_cell BK4001.out 2).trans rfl, (blk_cell BK4002.out 0).trans rfl, (blk_cell BK4002.out 1).trans rfl, (blk_cell BK4002.out 2).trans rfl⟩ (fun hHeld => ?_)
          clear hK K
          refine norm_ (a' := ?_) ?_ ?_
          rotate_left
          · show Act.put _ (some 21) _ = _
            simp only [Act.put, List.setIfInBounds_toArray, List.set_cons_zero, List.set_cons_succ, i64_w, i32_w]
            rfl
          refine one_ (i := 3) (N := some 23) #[true, true, true, true, false, false] rfl rfl (by kernel_rfl) (by decide) (fun K hK => ?_)
          refine goes_ Try.func30 (by kernel_rfl) rfl #[.agg #[.string a1_0, .string a1_1, .slice A1_2 l1_2.length c1_2]] (by rfl) rfl rfl (by (try simp only [List.map_toArray, List.map_cons, List.map_nil]); first | done | rfl | (simp only [List.length_drop, List.length_take]; rfl)) ?_
          with_reducible refine (laws_toState.calls k a1_0 a1_1 _ _ l1_2 t4010 t4011 t4012 _ ?side1 ?side2 A20.out).mono ?_
          (case side1 => repeat (first | exact (Kd.C_below HR1_2.out HB.out) | (with_reducible refine Kd.C_alloc ?_ _) | (with_reducible refine Kd.C_drewN ?_ _) | (with_reducible refine Kd.C_drew ?_)))
          (case side2 => exact HC1_2.out)
          rintro e w147 ⟨v4013, rfl, ho0, hb⟩
          refine ⟨_, rfl, ?_⟩
          have n0_ := Aside0.mk (Kd.R_elder' (by (with_reducible repeat (first | apply Kd.R_alloc | apply Kd.R_drewN | apply Kd.R_drew)); exact HO4009.out) (Kd.R_base ho0) hb)
          have n1_ := Aside0.mk (Kd.R_lower (Kd.R_new' ho0 (Kd.R_lt (by (with_reducible repeat (first | apply Kd.R_alloc | apply Kd.R_drewN | apply Kd.R_drew)); exact HO4009.out))) (below_size (by repeat (first | (with_reducible first | exact HB.out | apply below_alloc | apply pw_below_drewN | apply below_drew1 | refine below_set ?_ GE4001.out | refine below_set ?_ GE4002.out) | exact HB.out))))
          have n2_ := Aside0.mk (blk_below (g := gb4001) (o := .cells #[.string a0_0, .string a0_1, .slice A0_2 l0_2.length c0_2] 47 (0, 0)) (by (with_reducible repeat (first | refine blk_drewN ?_ _ | refine blk_drew ?_ | refine blk_alloc ?_ _)); exact BK4001.out) hb)
          have n3_ := Aside0.mk (blk_below (g := gb4002) (o := .cells #[.string a1_0, .string a1_1, .slice A1_2 l1_2.length c1_2] 47 (0, 0)) (by (with_reducible repeat (first | refine blk_drewN ?_ _ | refine blk_drew ?_ | refine blk_alloc ?_ _)); exact BK4002.out) hb)
          have n4_ := Aside0.mk (below_step (by repeat (first | (with_reducible first | exact HB.out | apply below_alloc | apply pw_below_drewN | apply below_drew1 | refine below_set ?_ GE4001.out | refine below_set ?_ GE4002.out) | exact HB.out)) hb)
          clear HO4009
          clear BK4001
          clear BK4002
          clear HB
          have HO4009 := n0_
          have HO4014 := n1_
          have BK4001 := n2_
          have BK4002 := n3_
          have HB := n4_
          clear n0_ n1_ n2_ n3_ n4_
          (try clear hb)
          (try clear hb2)
          (try clear hk)
          (try clear hi)
          (try clear ho0)
          obtain ⟨Ao148, co148, eo148⟩ := Kd.R_slice HO4009.out
          (first | subst eo148 | (injection eo148 with f1_ f2_ f3_; have f4_ := f1_.symm; have f5_ := f3_.symm; clear f1_ f2_ f3_; subst f4_; subst f5_))
          obtain ⟨Ao149, co149, eo149⟩ := Kd.R_slice HO4014.out
          (first | subst eo149 | (injection eo149 with f1_ f2_ f3_; have f4_ := f1_.symm; have f5_ := f3_.symm; clear f1_ f2_ f3_; subst f4_; subst f5_))
          refine hK.out _ _ ⟨(blk_cell BK4001.out 0).trans rfl, (blk_cell BK4001.out 1).trans rfl, (blk_cell BK4001.out 2).trans rfl, (blk_cell BK4002.out 0).trans rfl, (blk_cell BK4002.out 1).trans rfl, (blk_cell BK4002.out 2).trans rfl⟩ (fun hHeld => ?_)
          clear hK K
          refine norm_ (a' := ?_) ?_ ?_
          rotate_left
          · show Act.put _ (some 23) _ = _
            simp only [Act.put, List.setIfInBounds_toArray, List.set_cons_zero, List.set_cons_succ, i64_w, i32_w]
            rfl
          refine one_ (i := 4) (N := some 24) #[true, true, true, true, true, false] rfl rfl (by kernel_rfl) (by decide) (fun K hK => ?_)
          refine goes_ Try.func29 (by kernel_rfl) rfl #[.agg #[.string t4005, .string t4006, .slice Ao148 t4007.length co148], .agg #[.string t4010, .string t4011, .slice Ao149 t4012.length co149]] (by rfl) rfl rfl (by (try simp only [List.map_toArray, List.map_cons, List.map_nil]); first | done | rfl | (simp only [List.length_drop, List.length_take]; rfl)) ?_
          with_reducible refine (spec_EqualState.calls k t4005 t4006 _ _ t4007 t4010 t4011 _ _ t4012 t4015 _ ?side1 ?side2 ?side3 ?side4 A21.out).mono ?_
          (case side1 => repeat (first | exact (Kd.R_reads' HO4009.out).2.2 | (with_reducible refine Kd.C_alloc ?_ _) | (with_reducible refine Kd.C_drewN ?_ _) | (with_reducible refine Kd.C_drew ?_)))
          (case side2 => exact (Kd.R_reads' HO4009.out).2.1)
          (case side3 => repeat (first | exact (Kd.R_reads' HO4014.out).2.2 | (with_reducible refine Kd.C_alloc ?_ _) | (with_reducible refine Kd.C_drewN ?_ _) | (with_reducible refine Kd.C_drew ?_)))
          (case side4 => exact (Kd.R_reads' HO4014.out).2.1)
          rintro e w150 ⟨rfl, hb⟩
          refine ⟨_, rfl, ?_⟩
          have n0_ := Aside0.mk (Kd.R_below (by (with_reducible repeat (first | apply Kd.R_alloc | apply Kd.R_drewN | apply Kd.R_drew)); exact HO4009.out) hb)
          have n1_ := Aside0.mk (Kd.R_below (by (with_reducible repeat (first | apply Kd.R_alloc | apply Kd.R_drewN | apply Kd.R_drew)); exact HO4014.out) hb)
          have n2_ := Aside0.mk (blk_below (g := gb4001) (o := .cells #[.string a0_0, .string a0_1, .slice A0_2 l0_2.length c0_2] 47 (0, 0)) (by (with_reducible repeat (first | refine blk_drewN ?_ _ | refine blk_drew ?_ | refine blk_alloc ?_ _)); exact BK4001.out) hb)
          have n3_ := Aside0.mk (blk_below (g := gb4002) (o := .cells #[.string a1_0, .string a1_1, .slice A1_2 l1_2.length c1_2] 47 (0, 0)) (by (with_reducible repeat (first | refine blk_drewN ?_ _ | refine blk_drew ?_ | refine blk_alloc ?_ _)); exact BK4002.out) hb)
          have n4_ := Aside0.mk (below_step (by repeat (first | (with_reducible first | exact HB.out | apply below_alloc | apply pw_below_drewN | apply below_drew1 | refine below_set ?_ GE4001.out | refine below_set ?_ GE4002.out) | exact HB.out)) hb)
          clear HO4009
          clear HO4014
          clear BK4001
          clear BK4002
          clear HB
          have HO4009 := n0_
          have HO4014 := n1_
          have BK4001 := n2_
          have BK4002 := n3_
          have HB := n4_
          clear n0_ n1_ n2_ n3_ n4_
          (try clear hb)
          (try clear hb2)
          (try clear hk)
          (try clear hi)
          refine hK.out _ _ ⟨(blk_cell BK4001.out 0).trans rfl, (blk_cell BK4001.out 1).trans rfl, (blk_cell BK4001.out 2).trans rfl, (blk_cell BK4002.out 0).trans rfl, (blk_cell BK4002.out 1).trans rfl, (blk_cell BK4002.out 2).trans rfl⟩ (fun hHeld => ?_)
          clear hK K
          refine norm_ (a' := ?_) ?_ ?_
          rotate_left
          · show Act.put _ (some 24) _ = _
            simp only [Act.put, List.setIfInBounds_toArray, List.set_cons_zero, List.set_cons_succ, i64_w, i32_w]
            rfl
          refine pure_ (i := 5) (N := some 6) (v := ?_) (a' := ?_) #[true, true, true, true, true, true] rfl rfl (by kernel_rfl) (fun _ _ _ h => h) (Or.inl ⟨by rfl, ?_⟩) ?_ ?_
          rotate_left
          · intro w'
            go_simp
            first | with_reducible rfl | (rw [if_neg (by omega)]; done)
          rotate_left
          · simp only [Act.put, List.setIfInBounds_toArray, List.set_cons_zero, List.set_cons_succ, i64_w, i32_w]
            rfl
          refine done_ (by kernel_rfl) ?_
          have hcz151_0 : w150.cell? ⟨gb4001, 0, none⟩ = some (.string a0_0) := (blk_cell BK4001.out 0).trans rfl
          have hcz151_1 : w150.cell? ⟨gb4001, 1, none⟩ = some (.string a0_1) := (blk_cell BK4001.out 1).trans rfl
          have hcz151_2 : w150.cell? ⟨gb4001, 2, none⟩ = some (.slice A0_2 l0_2.length c0_2) := (blk_cell BK4001.out 2).trans rfl
          have hfz151_0 := blk_frozen BK4001.out 0
          have hfz151_1 := blk_frozen BK4001.out 1
          have hfz151_2 := blk_frozen BK4001.out 2
          try go_wp2_with (first | ((with_reducible refine gate_callee (f := 30) rfl ?_); refine goesL_ (some 26) rfl rfl Try.func30 (by kernel_rfl) rfl #[.agg #[.string a0_0, .string a0_1, .slice A0_2 l0_2.length c0_2]] rfl (by (try simp only [List.map_toArray, List.map_cons, List.map_nil]); first | done | rfl | (simp only [List.length_drop, List.length_take]; rfl)) ?_; (with_reducible refine (laws_toState.calls k a0_0 a0_1 _ _ l0_2 t4016 t4017 t4018 _ ?side1 ?side2 A22.out).mono ?_); (case side1 => repeat (first | exact (Kd.C_below HR0_2.out HB.out) | (with_reducible refine Kd.C_alloc ?_ _) | (with_reducible refine Kd.C_drewN ?_ _) | (with_reducible refine Kd.C_drew ?_))); (case side2 => exact HC0_2.out); rintro e w152 ⟨v4019, rfl, ho0, hb⟩; refine ⟨_, rfl, ?_⟩; have n0_ := Aside0.mk (Kd.R_elder' (by (with_reducible repeat (first | apply Kd.R_alloc | apply Kd.R_drewN | apply Kd.R_drew)); exact HO4009.out) (Kd.R_base ho0) hb); have n1_ := Aside0.mk (Kd.R_elder' (by (with_reducible repeat (first | apply Kd.R_alloc | apply Kd.R_drewN | apply Kd.R_drew)); exact HO4014.out) (Kd.R_base ho0) hb); have n2_ := Aside0.mk (Kd.R_lower (Kd.R_new' (Kd.R_new' ho0 (Kd.R_lt (by (with_reducible repeat (first | apply Kd.R_alloc | apply Kd.R_drewN | apply Kd.R_drew)); exact HO4009.out))) (Kd.R_lt (by (with_reducible repeat (first | apply Kd.R_alloc | apply Kd.R_drewN | apply Kd.R_drew)); exact HO4014.out))) (below_size (by repeat (first | (with_reducible first | exact HB.out | apply below_alloc | apply pw_below_drewN | apply below_drew1 | refine below_set ?_ GE4001.out | refine below_set ?_ GE4002.out) | exact HB.out)))); have n3_ := Aside0.mk (blk_below (g := gb4001) (o := .cells #[.string a0_0, .string a0_1, .slice A0_2 l0_2.length c0_2] 47 (0, 0)) (by (with_reducible repeat (first | refine blk_drewN ?_ _ | refine blk_drew ?_ | refine blk_alloc ?_ _)); exact BK4001.out) hb); have n4_ := Aside0.mk (blk_below (g := gb4002) (o := .cells #[.string a1_0, .string a1_1, .slice A1_2 l1_2.length c1_2] 47 (0, 0)) (by (with_reducible repeat (first | refine blk_drewN ?_ _ | refine blk_drew ?_ | refine blk_alloc ?_ _)); exact BK4002.out) hb); have n5_ := Aside0.mk (below_step (by repeat (first | (with_reducible first | exact HB.out | apply below_alloc | apply pw_below_drewN | apply below_drew1 | refine below_set ?_ GE4001.out | refine below_set ?_ GE4002.out) | exact HB.out)) hb); clear HO4009; clear HO4014; clear BK4001; clear BK4002; clear HB; have HO4009 := n0_; have HO4014 := n1_; have HO4020 := n2_; have BK4001 := n3_; have BK4002 := n4_; have HB := n5_; clear n0_ n1_ n2_ n3_ n4_ n5_; (try clear hb); (try clear hb2); (try clear hk); (try clear hi); (try clear ho0)) | ((with_reducible refine gate_dst (N := 7) rfl ?_); refine box_event ?hg (N := 7) ?hd (cs := #[.string (⟨#[]⟩ : ByteArray), .string (⟨#[]⟩ : ByteArray), .slice none 0 0]) (t := 50) ?hr ?_; (case hd => rfl); (case hg => rfl); (case hr => first | (go_simp; done) | (go_simp; rfl)); intro gb4021 hg w153 hbox hb; have n0_ := Aside0.mk (Kd.R_below (by (with_reducible repeat (first | apply Kd.R_alloc | apply Kd.R_drewN | apply Kd.R_drew)); exact HO4009.out) hb); have n1_ := Aside0.mk (Kd.R_below (by (with_reducible repeat (first | apply Kd.R_alloc | apply Kd.R_drewN | apply Kd.R_drew)); exact HO4014.out) hb); have n2_ := Aside0.mk (Kd.R_below (by (with_reducible repeat (first | apply Kd.R_alloc | apply Kd.R_drewN | apply Kd.R_drew)); exact HO4020.out) hb); have n3_ := Aside0.mk (blk_below (g := gb4001) (o := .cells #[.string a0_0, .string a0_1, .slice A0_2 l0_2.length c0_2] 47 (0, 0)) (by (with_reducible repeat (first | refine blk_drewN ?_ _ | refine blk_drew ?_ | refine blk_alloc ?_ _)); exact BK4001.out) hb); have n4_ := Aside0.mk (blk_below (g := gb4002) (o := .cells #[.string a1_0, .string a1_1, .slice A1_2 l1_2.length c1_2] 47 (0, 0)) (by (with_reducible repeat (first | refine blk_drewN ?_ _ | refine blk_drew ?_ | refine blk_alloc ?_ _)); exact BK4002.out) hb); have n5_ := Aside0.mk (below_step (by repeat (first | (with_reducible first | exact HB.out | apply below_alloc | apply pw_below_drewN | apply below_drew1 | refine below_set ?_ GE4001.out | refine below_set ?_ GE4002.out) | exact HB.out)) hb); have n6_ := Aside0.mk (hbox); have n7_ := Aside0.mk ((by rw [hg]; exact (below_size (by repeat (first | (with_reducible first | exact HB.out | apply below_alloc | apply pw_below_drewN | apply below_drew1 | refine below_set ?_ GE4001.out | refine below_set ?_ GE4002.out) | exact HB.out))) : w.heap.size ≤ gb4021)); have n8_ := Aside0.mk ((by rw [hg]; exact (below_size (by repeat (first | (with_reducible first | exact HB.out | apply below_alloc | apply pw_below_drewN | apply below_drew1 | refine below_set ?_ GE4001.out | refine below_set ?_ GE4002.out) | exact HB.out))) : w.heap.size ≤ gb4021)); have n9_ := Aside0.mk ((by rw [hg]; exact Nat.ne_of_lt (blk_lt (g := gb4001) (o := .cells #[.string a0_0, .string a0_1, .slice A0_2 l0_2.length c0_2] 47 (0, 0)) (by (with_reducible repeat (first | refine blk_drewN ?_ _ | refine blk_drew ?_ | refine blk_alloc ?_ _)); exact BK4001.out)) : gb4001 ≠ gb4021)); have n10_ := Aside0.mk ((by rw [hg]; exact Nat.ne_of_gt (blk_lt (g := gb4001) (o := .cells #[.string a0_0, .string a0_1, .slice A0_2 l0_2.length c0_2] 47 (0, 0)) (by (with_reducible repeat (first | refine blk_drewN ?_ _ | refine blk_drew ?_ | refine blk_alloc ?_ _)); exact BK4001.out)) : gb4021 ≠ gb4001)); have n11_ := Aside0.mk ((by rw [hg]; exact Nat.ne_of_lt (blk_lt (g := gb4002) (o := .cells #[.string a1_0, .string a1_1, .slice A1_2 l1_2.length c1_2] 47 (0, 0)) (by (with_reducible repeat (first | refine blk_drewN ?_ _ | refine blk_drew ?_ | refine blk_alloc ?_ _)); exact BK4002.out)) : gb4002 ≠ gb4021)); have n12_ := Aside0.mk ((by rw [hg]; exact Nat.ne_of_gt (blk_lt (g := gb4002) (o := .cells #[.string a1_0, .string a1_1, .slice A1_2 l1_2.length c1_2] 47 (0, 0)) (by (with_reducible repeat (first | refine blk_drewN ?_ _ | refine blk_drew ?_ | refine blk_alloc ?_ _)); exact BK4002.out)) : gb4021 ≠ gb4002)); clear HO4009; clear HO4014; clear HO4020; clear BK4001; clear BK4002; clear HB; have HO4009 := n0_; have HO4014 := n1_; have HO4020 := n2_; have BK4001 := n3_; have BK4002 := n4_; have HB := n5_; have BK4021 := n6_; have GW4021 := n7_; have GE4021 := n8_; have NB4001_4021 := n9_; have NB4021_4001 := n10_; have NB4002_4021 := n11_; have NB4021_4002 := n12_; clear n0_ n1_ n2_ n3_ n4_ n5_ n6_ n7_ n8_ n9_ n10_ n11_ n12_; clear hb hbox hg; have hnb154 := NB4021_4001.out; have hnc154 := NB4001_4021.out; have hnb155 := NB4021_4002.out; have hnc155 := NB4002_4021.out; have hcz156_0 : w153.cell? ⟨gb4021, 0, none⟩ = some (.string (⟨#[]⟩ : ByteArray)) := (blk_cell BK4021.out 0).trans rfl; have hcz156_1 : w153.cell? ⟨gb4021, 1, none⟩ = some (.string (⟨#[]⟩ : ByteArray)) := (blk_cell BK4021.out 1).trans rfl; have hcz156_2 : w153.cell? ⟨gb4021, 2, none⟩ = some (.slice none 0 0) := (blk_cell BK4021.out 2).trans rfl; have hfz156_0 := blk_frozen BK4021.out 0; have hfz156_1 := blk_frozen BK4021.out 1; have hfz156_2 := blk_frozen BK4021.out 2; obtain ⟨Ao157, co157, eo157⟩ := Kd.R_slice HO4020.out; subst eo157; have hcz158_0 : w153.cell? ⟨gb4002, 0, none⟩ = some (.string a1_0) := (blk_cell BK4002.out 0).trans rfl; have hcz158_1 : w153.cell? ⟨gb4002, 1, none⟩ = some (.string a1_1) := (blk_cell BK4002.out 1).trans rfl; have hcz158_2 : w153.cell? ⟨gb4002, 2, none⟩ = some (.slice A1_2 l1_2.length c1_2) := (blk_cell BK4002.out 2).trans rfl; have hfz158_0 := blk_frozen BK4002.out 0; have hfz158_1 := blk_frozen BK4002.out 1; have hfz158_2 := blk_frozen BK4002.out 2) | ((with_reducible refine gate_callee (f := 30) rfl ?_); refine goesL_ (some 28) rfl rfl Try.func30 (by kernel_rfl) rfl #[.agg #[.string a1_0, .string a1_1, .slice A1_2 l1_2.length c1_2]] rfl (by (try simp only [List.map_toArray, List.map_cons, List.map_nil]); first | done | rfl | (simp only [List.length_drop, List.length_take]; rfl)) ?_; (with_reducible refine (laws_toState.calls k a1_0 a1_1 _ _ l1_2 t4022 t4023 t4024 _ ?side1 ?side2 A23.out).mono ?_); (case side1 => exact Kd.C_below HR1_2.out (by repeat (first | (with_reducible first | exact HB.out | apply below_alloc | apply pw_below_drewN | apply below_drew1 | refine below_set ?_ GE4001.out | refine below_set ?_ GE4002.out | refine below_set ?_ GE4021.out) | exact HB.out))); (case side2 => exact HC1_2.out); rintro e w159 ⟨v4025, rfl, ho0, hb⟩; refine ⟨_, rfl, ?_⟩; have n0_ := Aside0.mk (Kd.R_elder' (by (with_reducible repeat (first | apply Kd.R_alloc | apply Kd.R_drewN | apply Kd.R_drew)); exact (Kd.R_mono (Kd.R_far (p := ⟨gb4021, 2, none⟩) (Kd.R_far (p := ⟨gb4021, 1, none⟩) (Kd.R_far (p := ⟨gb4021, 0, none⟩) (Kd.R_types HO4009.out BK4021.out (by decide)) (fun _ hk => hk.2) (.string t4016)) (fun _ hk => hk.2) (.string t4017)) (fun _ hk => hk.2) (.slice Ao157 t4018.length co157)) (fun _ h_ => h_.1))) (Kd.R_base ho0) hb); have n1_ := Aside0.mk (Kd.R_elder' (by (with_reducible repeat (first | apply Kd.R_alloc | apply Kd.R_drewN | apply Kd.R_drew)); exact (Kd.R_mono (Kd.R_far (p := ⟨gb4021, 2, none⟩) (Kd.R_far (p := ⟨gb4021, 1, none⟩) (Kd.R_far (p := ⟨gb4021, 0, none⟩) (Kd.R_types HO4014.out BK4021.out (by decide)) (fun _ hk => hk.2) (.string t4016)) (fun _ hk => hk.2) (.string t4017)) (fun _ hk => hk.2) (.slice Ao157 t4018.length co157)) (fun _ h_ => h_.1))) (Kd.R_base ho0) hb); have n2_ := Aside0.mk (Kd.R_elder' (by (with_reducible repeat (first | apply Kd.R_alloc | apply Kd.R_drewN | apply Kd.R_drew)); exact (Kd.R_mono (Kd.R_far (p := ⟨gb4021, 2, none⟩) (Kd.R_far (p := ⟨gb4021, 1, none⟩) (Kd.R_far (p := ⟨gb4021, 0, none⟩) (Kd.R_types HO4020.out BK4021.out (by decide)) (fun _ hk => hk.2) (.string t4016)) (fun _ hk => hk.2) (.string t4017)) (fun _ hk => hk.2) (.slice Ao157 t4018.length co157)) (fun _ h_ => h_.1))) (Kd.R_base ho0) hb); have n3_ := Aside0.mk (Kd.R_lower (Kd.R_new' (Kd.R_new' (Kd.R_new' ho0 (Kd.R_lt (by (with_reducible repeat (first | apply Kd.R_alloc | apply Kd.R_drewN | apply Kd.R_drew)); exact (Kd.R_mono (Kd.R_far (p := ⟨gb4021, 2, none⟩) (Kd.R_far (p := ⟨gb4021, 1, none⟩) (Kd.R_far (p := ⟨gb4021, 0, none⟩) (Kd.R_types HO4009.out BK4021.out (by decide)) (fun _ hk => hk.2) (.string t4016)) (fun _ hk => hk.2) (.string t4017)) (fun _ hk => hk.2) (.slice Ao157 t4018.length co157)) (fun _ h_ => h_.1))))) (Kd.R_lt (by (with_reducible repeat (first | apply Kd.R_alloc | apply Kd.R_drewN | apply Kd.R_drew)); exact (Kd.R_mono (Kd.R_far (p := ⟨gb4021, 2, none⟩) (Kd.R_far (p := ⟨gb4021, 1, none⟩) (Kd.R_far (p := ⟨gb4021, 0, none⟩) (Kd.R_types HO4014.out BK4021.out (by decide)) (fun _ hk => hk.2) (.string t4016)) (fun _ hk => hk.2) (.string t4017)) (fun _ hk => hk.2) (.slice Ao157 t4018.length co157)) (fun _ h_ => h_.1))))) (Kd.R_lt (by (with_reducible repeat (first | apply Kd.R_alloc | apply Kd.R_drewN | apply Kd.R_drew)); exact (Kd.R_mono (Kd.R_far (p := ⟨gb4021, 2, none⟩) (Kd.R_far (p := ⟨gb4021, 1, none⟩) (Kd.R_far (p := ⟨gb4021, 0, none⟩) (Kd.R_types HO4020.out BK4021.out (by decide)) (fun _ hk => hk.2) (.string t4016)) (fun _ hk => hk.2) (.string t4017)) (fun _ hk => hk.2) (.slice Ao157 t4018.length co157)) (fun _ h_ => h_.1))))) (below_size (by repeat (first | (with_reducible first | exact HB.out | apply below_alloc | apply pw_below_drewN | apply below_drew1 | refine below_set ?_ GE4001.out | refine below_set ?_ GE4002.out | refine below_set ?_ GE4021.out) | exact HB.out)))); have n4_ := Aside0.mk (blk_below (g := gb4001) (o := .cells #[.string a0_0, .string a0_1, .slice A0_2 l0_2.length c0_2] 47 (0, 0)) (by (with_reducible repeat (first | refine blk_drewN ?_ _ | refine blk_drew ?_ | refine blk_alloc ?_ _)); refine blk_far ?_ NB4001_4021.out _; (with_reducible repeat (first | refine blk_drewN ?_ _ | refine blk_drew ?_ | refine blk_alloc ?_ _)); refine blk_far ?_ NB4001_4021.out _; (with_reducible repeat (first | refine blk_drewN ?_ _ | refine blk_drew ?_ | refine blk_alloc ?_ _)); refine blk_far ?_ NB4001_4021.out _; (with_reducible repeat (first | refine blk_drewN ?_ _ | refine blk_drew ?_ | refine blk_alloc ?_ _)); exact BK4001.out) hb); have n5_ := Aside0.mk (blk_below (g := gb4002) (o := .cells #[.string a1_0, .string a1_1, .slice A1_2 l1_2.length c1_2] 47 (0, 0)) (by (with_reducible repeat (first | refine blk_drewN ?_ _ | refine blk_drew ?_ | refine blk_alloc ?_ _)); refine blk_far ?_ NB4002_4021.out _; (with_reducible repeat (first | refine blk_drewN ?_ _ | refine blk_drew ?_ | refine blk_alloc ?_ _)); refine blk_far ?_ NB4002_4021.out _; (with_reducible repeat (first | refine blk_drewN ?_ _ | refine blk_drew ?_ | refine blk_alloc ?_ _)); refine blk_far ?_ NB4002_4021.out _; (with_reducible repeat (first | refine blk_drewN ?_ _ | refine blk_drew ?_ | refine blk_alloc ?_ _)); exact BK4002.out) hb); have n6_ := Aside0.mk (blk_below (g := gb4021) (o := .cells #[.string t4016, .string t4017, .slice Ao157 t4018.length co157] 50 (0, 0)) (by (with_reducible repeat (first | refine blk_drewN ?_ _ | refine blk_drew ?_ | refine blk_alloc ?_ _)); refine blk_put (cs := #[.string t4016, .string t4017, .slice none 0 0]) ?_ 2 _ rfl; (with_reducible repeat (first | refine blk_drewN ?_ _ | refine blk_drew ?_ | refine blk_alloc ?_ _)); refine blk_put (cs := #[.string t4016, .string (⟨#[]⟩ : ByteArray), .slice none 0 0]) ?_ 1 _ rfl; (with_reducible repeat (first | refine blk_drewN ?_ _ | refine blk_drew ?_ | refine blk_alloc ?_ _)); refine blk_put (cs := #[.string (⟨#[]⟩ : ByteArray), .string (⟨#[]⟩ : ByteArray), .slice none 0 0]) ?_ 0 _ rfl; (with_reducible repeat (first | refine blk_drewN ?_ _ | refine blk_drew ?_ | refine blk_alloc ?_ _)); exact BK4021.out) hb); have n7_ := Aside0.mk (below_step (by repeat (first | (with_reducible first | exact HB.out | apply below_alloc | apply pw_below_drewN | apply below_drew1 | refine below_set ?_ GE4001.out | refine below_set ?_ GE4002.out | refine below_set ?_ GE4021.out) | exact HB.out)) hb); clear HO4009; clear HO4014; clear HO4020; clear BK4001; clear BK4002; clear BK4021; clear HB; have HO4009 := n0_; have HO4014 := n1_; have HO4020 := n2_; have HO4026 := n3_; have BK4001 := n4_; have BK4002 := n5_; have BK4021 := n6_; have HB := n7_; clear n0_ n1_ n2_ n3_ n4_ n5_ n6_ n7_; (try clear hb); (try clear hb2); (try clear hk); (try clear hi); (try clear ho0)) | ((with_reducible refine gate_dst (N := 8) rfl ?_); refine box_event ?hg (N := 8) ?hd (cs := #[.string (⟨#[]⟩ : ByteArray), .string (⟨#[]⟩ : ByteArray), .slice none 0 0]) (t := 50) ?hr ?_; (case hd => rfl); (case hg => rfl); (case hr => first | (go_simp; done) | (go_simp; rfl)); intro gb4027 hg w160 hbox hb; have n0_ := Aside0.mk (Kd.R_below (by (with_reducible repeat (first | apply Kd.R_alloc | apply Kd.R_drewN | apply Kd.R_drew)); exact HO4009.out) hb); have n1_ := Aside0.mk (Kd.R_below (by (with_reducible repeat (first | apply Kd.R_alloc | apply Kd.R_drewN | apply Kd.R_drew)); exact HO4014.out) hb); have n2_ := Aside0.mk (Kd.R_below (by (with_reducible repeat (first | apply Kd.R_alloc | apply Kd.R_drewN | apply Kd.R_drew)); exact HO4020.out) hb); have n3_ := Aside0.mk (Kd.R_below (by (with_reducible repeat (first | apply Kd.R_alloc | apply Kd.R_drewN | apply Kd.R_drew)); exact HO4026.out) hb); have n4_ := Aside0.mk (blk_below (g := gb4001) (o := .cells #[.string a0_0, .string a0_1, .slice A0_2 l0_2.length c0_2] 47 (0, 0)) (by (with_reducible repeat (first | refine blk_drewN ?_ _ | refine blk_drew ?_ | refine blk_alloc ?_ _)); exact BK4001.out) hb); have n5_ := Aside0.mk (blk_below (g := gb4002) (o := .cells #[.string a1_0, .string a1_1, .slice A1_2 l1_2.length c1_2] 47 (0, 0)) (by (with_reducible repeat (first | refine blk_drewN ?_ _ | refine blk_drew ?_ | refine blk_alloc ?_ _)); exact BK4002.out) hb); have n6_ := Aside0.mk (blk_below (g := gb4021) (o := .cells #[.string t4016, .string t4017, .slice Ao157 t4018.length co157] 50 (0, 0)) (by (with_reducible repeat (first | refine blk_drewN ?_ _ | refine blk_drew ?_ | refine blk_alloc ?_ _)); exact BK4021.out) hb); have n7_ := Aside0.mk (below_step (by repeat (first | (with_reducible first | exact HB.out | apply below_alloc | apply pw_below_drewN | apply below_drew1 | refine below_set ?_ GE4001.out | refine below_set ?_ GE4002.out | refine below_set ?_ GE4021.out) | exact HB.out)) hb); have n8_ := Aside0.mk (hbox); have n9_ := Aside0.mk ((by rw [hg]; exact (below_size (by repeat (first | (with_reducible first | exact HB.out | apply below_alloc | apply pw_below_drewN | apply below_drew1 | refine below_set ?_ GE4001.out | refine below_set ?_ GE4002.out | refine below_set ?_ GE4021.out) | exact HB.out))) : w.heap.size ≤ gb4027)); have n10_ := Aside0.mk ((by rw [hg]; exact (below_size (by repeat (first | (with_reducible first | exact HB.out | apply below_alloc | apply pw_below_drewN | apply below_drew1 | refine below_set ?_ GE4001.out | refine below_set ?_ GE4002.out | refine below_set ?_ GE4021.out) | exact HB.out))) : w.heap.size ≤ gb4027)); have n11_ := Aside0.mk ((by rw [hg]; exact Nat.ne_of_lt (blk_lt (g := gb4001) (o := .cells #[.string a0_0, .string a0_1, .slice A0_2 l0_2.length c0_2] 47 (0, 0)) (by (with_reducible repeat (first | refine blk_drewN ?_ _ | refine blk_drew ?_ | refine blk_alloc ?_ _)); exact BK4001.out)) : gb4001 ≠ gb4027)); have n12_ := Aside0.mk ((by rw [hg]; exact Nat.ne_of_gt (blk_lt (g := gb4001) (o := .cells #[.string a0_0, .string a0_1, .slice A0_2 l0_2.length c0_2] 47 (0, 0)) (by (with_reducible repeat (first | refine blk_drewN ?_ _ | refine blk_drew ?_ | refine blk_alloc ?_ _)); exact BK4001.out)) : gb4027 ≠ gb4001)); have n13_ := Aside0.mk ((by rw [hg]; exact Nat.ne_of_lt (blk_lt (g := gb4002) (o := .cells #[.string a1_0, .string a1_1, .slice A1_2 l1_2.length c1_2] 47 (0, 0)) (by (with_reducible repeat (first | refine blk_drewN ?_ _ | refine blk_drew ?_ | refine blk_alloc ?_ _)); exact BK4002.out)) : gb4002 ≠ gb4027)); have n14_ := Aside0.mk ((by rw [hg]; exact Nat.ne_of_gt (blk_lt (g := gb4002) (o := .cells #[.string a1_0, .string a1_1, .slice A1_2 l1_2.length c1_2] 47 (0, 0)) (by (with_reducible repeat (first | refine blk_drewN ?_ _ | refine blk_drew ?_ | refine blk_alloc ?_ _)); exact BK4002.out)) : gb4027 ≠ gb4002)); have n15_ := Aside0.mk ((by rw [hg]; exact Nat.ne_of_lt (blk_lt (g := gb4021) (o := .cells #[.string t4016, .string t4017, .slice Ao157 t4018.length co157] 50 (0, 0)) (by (with_reducible repeat (first | refine blk_drewN ?_ _ | refine blk_drew ?_ | refine blk_alloc ?_ _)); exact BK4021.out)) : gb4021 ≠ gb4027)); have n16_ := Aside0.mk ((by rw [hg]; exact Nat.ne_of_gt (blk_lt (g := gb4021) (o := .cells #[.string t4016, .string t4017, .slice Ao157 t4018.length co157] 50 (0, 0)) (by (with_reducible repeat (first | refine blk_drewN ?_ _ | refine blk_drew ?_ | refine blk_alloc ?_ _)); exact BK4021.out)) : gb4027 ≠ gb4021)); clear HO4009; clear HO4014; clear HO4020; clear HO4026; clear BK4001; clear BK4002; clear BK4021; clear HB; have HO4009 := n0_; have HO4014 := n1_; have HO4020 := n2_; have HO4026 := n3_; have BK4001 := n4_; have BK4002 := n5_; have BK4021 := n6_; have HB := n7_; have BK4027 := n8_; have GW4027 := n9_; have GE4027 := n10_; have NB4001_4027 := n11_; have NB4027_4001 := n12_; have NB4002_4027 := n13_; have NB4027_4002 := n14_; have NB4021_4027 := n15_; have NB4027_4021 := n16_; clear n0_ n1_ n2_ n3_ n4_ n5_ n6_ n7_ n8_ n9_ n10_ n11_ n12_ n13_ n14_ n15_ n16_; clear hb hbox hg; have hnb161 := NB4027_4001.out; have hnc161 := NB4001_4027.out; have hnb162 := NB4027_4002.out; have hnc162 := NB4002_4027.out; have hnb163 := NB4027_4021.out; have hnc163 := NB4021_4027.out; have hcz164_0 : w160.cell? ⟨gb4027, 0, none⟩ = some (.string (⟨#[]⟩ : ByteArray)) := (blk_cell BK4027.out 0).trans rfl; have hcz164_1 : w160.cell? ⟨gb4027, 1, none⟩ = some (.string (⟨#[]⟩ : ByteArray)) := (blk_cell BK4027.out 1).trans rfl; have hcz164_2 : w160.cell? ⟨gb4027, 2, none⟩ = some (.slice none 0 0) := (blk_cell BK4027.out 2).trans rfl; have hfz164_0 := blk_frozen BK4027.out 0; have hfz164_1 := blk_frozen BK4027.out 1; have hfz164_2 := blk_frozen BK4027.out 2; obtain ⟨Ao165, co165, eo165⟩ := Kd.R_slice HO4026.out; subst eo165; have hcz166_0 : w160.cell? ⟨gb4021, 0, none⟩ = some (.string t4016) := (blk_cell BK4021.out 0).trans rfl; have hcz166_1 : w160.cell? ⟨gb4021, 1, none⟩ = some (.string t4017) := (blk_cell BK4021.out 1).trans rfl; have hcz166_2 : w160.cell? ⟨gb4021, 2, none⟩ = some (.slice Ao157 t4018.length co157) := (blk_cell BK4021.out 2).trans rfl; have hfz166_0 := blk_frozen BK4021.out 0; have hfz166_1 := blk_frozen BK4021.out 1; have hfz166_2 := blk_frozen BK4021.out 2) | ((with_reducible refine gate_callee (f := 31) rfl ?_); refine goesL_ (some 31) rfl rfl Try.func31 (by kernel_rfl) rfl #[.agg #[.string t4016, .string t4017, .slice Ao157 t4018.length co157], .agg #[.string t4022, .string t4023, .slice Ao165 t4024.length co165]] rfl (by (try simp only [List.map_toArray, List.map_cons, List.map_nil]); first | done | rfl | (simp only [List.length_drop, List.length_take]; rfl)) ?_; (with_reducible refine (impl_EqualState.calls k t4016 t4017 _ _ t4018 t4022 t4023 _ _ t4024 t4028 _ ?side1 ?side2 ?side3 ?side4 A24.out).mono ?_); (case side1 => refine (Kd.R_reads' (e := 3) (base := w.heap.size) (ok := fun k_ => (((True ∧ some k_ ≠ (.slice Ao148 t4007.length co148 : Value).ownBlock) ∧ some k_ ≠ (.slice Ao149 t4012.length co149 : Value).ownBlock) ∧ some k_ ≠ (.slice Ao165 t4024.length co165 : Value).ownBlock)) (n := t4018.length) (c := co157) ?_).2.2; exact (by (with_reducible repeat (first | apply Kd.R_alloc | apply Kd.R_drewN | apply Kd.R_drew)); exact (Kd.R_mono (Kd.R_far (p := ⟨gb4027, 2, none⟩) (Kd.R_far (p := ⟨gb4027, 1, none⟩) (Kd.R_far (p := ⟨gb4027, 0, none⟩) (Kd.R_types HO4020.out BK4027.out (by decide)) (fun _ hk => hk.2) (.string t4022)) (fun _ hk => hk.2) (.string t4023)) (fun _ hk => hk.2) (.slice Ao165 t4024.length co165)) (fun _ h_ => h_.1)))); (case side2 => exact (Kd.R_reads' HO4020.out).2.1); (case side3 => refine (Kd.R_reads' (e := 3) (base := w.heap.size) (ok := fun k_ => (((True ∧ some k_ ≠ (.slice Ao148 t4007.length co148 : Value).ownBlock) ∧ some k_ ≠ (.slice Ao149 t4012.length co149 : Value).ownBlock) ∧ some k_ ≠ (.slice Ao157 t4018.length co157 : Value).ownBlock)) (n := t4024.length) (c := co165) ?_).2.2; exact (by (with_reducible repeat (first | apply Kd.R_alloc | apply Kd.R_drewN | apply Kd.R_drew)); exact (Kd.R_mono (Kd.R_far (p := ⟨gb4027, 2, none⟩) (Kd.R_far (p := ⟨gb4027, 1, none⟩) (Kd.R_far (p := ⟨gb4027, 0, none⟩) (Kd.R_types HO4026.out BK4027.out (by decide)) (fun _ hk => hk.2) (.string t4022)) (fun _ hk => hk.2) (.string t4023)) (fun _ hk => hk.2) (.slice Ao165 t4024.length co165)) (fun _ h_ => h_.1)))); (case side4 => exact (Kd.R_reads' HO4026.out).2.1); rintro e w167 ⟨rfl, hb⟩; refine ⟨_, rfl, ?_⟩; have n0_ := Aside0.mk (Kd.R_below (by (with_reducible repeat (first | apply Kd.R_alloc | apply Kd.R_drewN | apply Kd.R_drew)); exact (Kd.R_mono (Kd.R_far (p := ⟨gb4027, 2, none⟩) (Kd.R_far (p := ⟨gb4027, 1, none⟩) (Kd.R_far (p := ⟨gb4027, 0, none⟩) (Kd.R_types HO4009.out BK4027.out (by decide)) (fun _ hk => hk.2) (.string t4022)) (fun _ hk => hk.2) (.string t4023)) (fun _ hk => hk.2) (.slice Ao165 t4024.length co165)) (fun _ h_ => h_.1))) hb); have n1_ := Aside0.mk (Kd.R_below (by (with_reducible repeat (first | apply Kd.R_alloc | apply Kd.R_drewN | apply Kd.R_drew)); exact (Kd.R_mono (Kd.R_far (p := ⟨gb4027, 2, none⟩) (Kd.R_far (p := ⟨gb4027, 1, none⟩) (Kd.R_far (p := ⟨gb4027, 0, none⟩) (Kd.R_types HO4014.out BK4027.out (by decide)) (fun _ hk => hk.2) (.string t4022)) (fun _ hk => hk.2) (.string t4023)) (fun _ hk => hk.2) (.slice Ao165 t4024.length co165)) (fun _ h_ => h_.1))) hb); have n2_ := Aside0.mk (Kd.R_below (by (with_reducible repeat (first | apply Kd.R_alloc | apply Kd.R_drewN | apply Kd.R_drew)); exact (Kd.R_mono (Kd.R_far (p := ⟨gb4027, 2, none⟩) (Kd.R_far (p := ⟨gb4027, 1, none⟩) (Kd.R_far (p := ⟨gb4027, 0, none⟩) (Kd.R_types HO4020.out BK4027.out (by decide)) (fun _ hk => hk.2) (.string t4022)) (fun _ hk => hk.2) (.string t4023)) (fun _ hk => hk.2) (.slice Ao165 t4024.length co165)) (fun _ h_ => h_.1))) hb); have n3_ := Aside0.mk (Kd.R_below (by (with_reducible repeat (first | apply Kd.R_alloc | apply Kd.R_drewN | apply Kd.R_drew)); exact (Kd.R_mono (Kd.R_far (p := ⟨gb4027, 2, none⟩) (Kd.R_far (p := ⟨gb4027, 1, none⟩) (Kd.R_far (p := ⟨gb4027, 0, none⟩) (Kd.R_types HO4026.out BK4027.out (by decide)) (fun _ hk => hk.2) (.string t4022)) (fun _ hk => hk.2) (.string t4023)) (fun _ hk => hk.2) (.slice Ao165 t4024.length co165)) (fun _ h_ => h_.1))) hb); have n4_ := Aside0.mk (blk_below (g := gb4001) (o := .cells #[.string a0_0, .string a0_1, .slice A0_2 l0_2.length c0_2] 47 (0, 0)) (by (with_reducible repeat (first | refine blk_drewN ?_ _ | refine blk_drew ?_ | refine blk_alloc ?_ _)); refine blk_far ?_ NB4001_4027.out _; (with_reducible repeat (first | refine blk_drewN ?_ _ | refine blk_drew ?_ | refine blk_alloc ?_ _)); refine blk_far ?_ NB4001_4027.out _; (with_reducible repeat (first | refine blk_drewN ?_ _ | refine blk_drew ?_ | refine blk_alloc ?_ _)); refine blk_far ?_ NB4001_4027.out _; (with_reducible repeat (first | refine blk_drewN ?_ _ | refine blk_drew ?_ | refine blk_alloc ?_ _)); exact BK4001.out) hb); have n5_ := Aside0.mk (blk_below (g := gb4002) (o := .cells #[.string a1_0, .string a1_1, .slice A1_2 l1_2.length c1_2] 47 (0, 0)) (by (with_reducible repeat (first | refine blk_drewN ?_ _ | refine blk_drew ?_ | refine blk_alloc ?_ _)); refine blk_far ?_ NB4002_4027.out _; (with_reducible repeat (first | refine blk_drewN ?_ _ | refine blk_drew ?_ | refine blk_alloc ?_ _)); refine blk_far ?_ NB4002_4027.out _; (with_reducible repeat (first | refine blk_drewN ?_ _ | refine blk_drew ?_ | refine blk_alloc ?_ _)); refine blk_far ?_ NB4002_4027.out _; (with_reducible repeat (first | refine blk_drewN ?_ _ | refine blk_drew ?_ | refine blk_alloc ?_ _)); exact BK4002.out) hb); have n6_ := Aside0.mk (blk_below (g := gb4021) (o := .cells #[.string t4016, .string t4017, .slice Ao157 t4018.length co157] 50 (0, 0)) (by (with_reducible repeat (first | refine blk_drewN ?_ _ | refine blk_drew ?_ | refine blk_alloc ?_ _)); refine blk_far ?_ NB4021_4027.out _; (with_reducible repeat (first | refine blk_drewN ?_ _ | refine blk_drew ?_ | refine blk_alloc ?_ _)); refine blk_far ?_ NB4021_4027.out _; (with_reducible repeat (first | refine blk_drewN ?_ _ | refine blk_drew ?_ | refine blk_alloc ?_ _)); refine blk_far ?_ NB4021_4027.out _; (with_reducible repeat (first | refine blk_drewN ?_ _ | refine blk_drew ?_ | refine blk_alloc ?_ _)); exact BK4021.out) hb); have n7_ := Aside0.mk (blk_below (g := gb4027) (o := .cells #[.string t4022, .string t4023, .slice Ao165 t4024.length co165] 50 (0, 0)) (by (with_reducible repeat (first | refine blk_drewN ?_ _ | refine blk_drew ?_ | refine blk_alloc ?_ _)); refine blk_put (cs := #[.string t4022, .string t4023, .slice none 0 0]) ?_ 2 _ rfl; (with_reducible repeat (first | refine blk_drewN ?_ _ | refine blk_drew ?_ | refine blk_alloc ?_ _)); refine blk_put (cs := #[.string t4022, .string (⟨#[]⟩ : ByteArray), .slice none 0 0]) ?_ 1 _ rfl; (with_reducible repeat (first | refine blk_drewN ?_ _ | refine blk_drew ?_ | refine blk_alloc ?_ _)); refine blk_put (cs := #[.string (⟨#[]⟩ : ByteArray), .string (⟨#[]⟩ : ByteArray), .slice none 0 0]) ?_ 0 _ rfl; (with_reducible repeat (first | refine blk_drewN ?_ _ | refine blk_drew ?_ | refine blk_alloc ?_ _)); exact BK4027.out) hb); have n8_ := Aside0.mk (below_step (by repeat (first | (with_reducible first | exact HB.out | apply below_alloc | apply pw_below_drewN | apply below_drew1 | refine below_set ?_ GE4001.out | refine below_set ?_ GE4002.out | refine below_set ?_ GE4021.out | refine below_set ?_ GE4027.out) | exact HB.out)) hb); clear HO4009; clear HO4014; clear HO4020; clear HO4026; clear BK4001; clear BK4002; clear BK4021; clear BK4027; clear HB; have HO4009 := n0_; have HO4014 := n1_; have HO4020 := n2_; have HO4026 := n3_; have BK4001 := n4_; have BK4002 := n5_; have BK4021 := n6_; have BK4027 := n7_; have HB := n8_; clear n0_ n1_ n2_ n3_ n4_ n5_ n6_ n7_ n8_; (try clear hb); (try clear hb2); (try clear hk); (try clear hi)))
          have n0_ := Aside0.mk (Kd.R_drew HO4009.out)
          have n1_ := Aside0.mk (Kd.R_drew HO4014.out)
          have n2_ := Aside0.mk (Kd.R_drew HO4020.out)
          have n3_ := Aside0.mk (Kd.R_drew HO4026.out)
          have n4_ := Aside0.mk (blk_drew BK4001.out)
          have n5_ := Aside0.mk (blk_drew BK4002.out)
          have n6_ := Aside0.mk (blk_drew BK4021.out)
          have n7_ := Aside0.mk (blk_drew BK4027.out)
          have n8_ := Aside0.mk (below_drew1 HB.out)
          clear HO4009
          clear HO4014
          clear HO4020
          clear HO4026
          clear BK4001
          clear BK4002
          clear BK4021
          clear BK4027
          clear HB
          have HO4009 := n0_
          have HO4014 := n1_
          have HO4020 := n2_
          have HO4026 := n3_
          have BK4001 := n4_
          have BK4002 := n5_
          have BK4021 := n6_
          have BK4027 := n7_
          have HB := n8_
          clear n0_ n1_ n2_ n3_ n4_ n5_ n6_ n7_ n8_
          refine start_ (n := 5) (S := fun w' => w'.cell? ⟨gb4021, 0, none⟩ = some (.string t4016) ∧ w'.cell? ⟨gb4021, 1, none⟩ = some (.string t4017) ∧ w'.cell? ⟨gb4021, 2, none⟩ = some (.slice Ao157 t4018.length co157) ∧ w'.cell? ⟨gb4001, 0, none⟩ = some (.string a0_0) ∧ w'.cell? ⟨gb4001, 1, none⟩ = some (.string a0_1) ∧ w'.cell? ⟨gb4001, 2, none⟩ = some (.slice A0_2 l0_2.length c0_2)) (ds := []) #[false, false, false, false, false] (by kernel_rfl) rfl rfl ⟨(blk_cell BK4021.out 0).trans rfl, (blk_cell BK4021.out 1).trans rfl, (blk_cell BK4021.out 2).trans rfl, (blk_cell BK4001.out 0).trans rfl, (blk_cell BK4001.out 1).trans rfl, (blk_cell BK4001.out 2).trans rfl⟩ (fun hHeld => ?_)
          generalize w167.drew = w168 at HO4009 HO4014 HO4020 HO4026 BK4001 BK4002 BK4021 BK4027 HB hHeld ⊢
          refine take_ (i := 0) (N := some 35) (v := ?_) (a' := ?_) #[true, false, false, false, false] rfl rfl (by kernel_rfl) (fun _ _ _ h => h) (Or.inl ⟨by rfl, ?_⟩) hHeld ?_ ?_
          rotate_left
          · rintro w' ⟨s0, s1, s2, s3, s4, s5⟩
            go_simp
            first | with_reducible rfl | (rw [if_neg (by omega)]; done)
          rotate_left
          · simp only [Act.put, List.setIfInBounds_toArray, List.set_cons_zero, List.set_cons_succ, i64_w, i32_w]
            rfl
          refine take_ (i := 1) (N := some 36) (v := ?_) (a' := ?_) #[true, true, false, false, false] rfl rfl (by kernel_rfl) (fun _ _ _ h => h) (Or.inl ⟨by rfl, ?_⟩) hHeld ?_ ?_
          rotate_left
          · rintro w' ⟨s0, s1, s2, s3, s4, s5⟩
            go_simp
            first | with_reducible rfl | (rw [if_neg (by omega)]; done)
          rotate_left
          · simp only [Act.put, List.setIfInBounds_toArray, List.set_cons_zero, List.set_cons_succ, i64_w, i32_w]
            rfl
          refine one_ (i := 2) (N := some 37) #[true, true, true, false, false] rfl rfl (by kernel_rfl) (by decide) (fun K hK => ?_)
          refine goes_ Try.func30 (by kernel_rfl) rfl #[.agg #[.string a0_0, .string a0_1, .slice A0_2 l0_2.length c0_2]] (by rfl) rfl rfl (by (try simp only [List.map_toArray, List.map_cons, List.map_nil]); first | done | rfl | (simp only [List.length_drop, List.length_take]; rfl)) ?_
          with_reducible refine (laws_toState.calls k a0_0 a0_1 _ _ l0_2 t4029 t4030 t4031 _ ?side1 ?side2 A56.out).mono ?_
          (case side1 => repeat (first | exact (Kd.C_below HR0_2.out HB.out) | (with_reducible refine Kd.C_alloc ?_ _) | (with_reducible refine Kd.C_drewN ?_ _) | (with_reducible refine Kd.C_drew ?_)))
          (case side2 => exact HC0_2.out)
          rintro e w169 ⟨v4032, rfl, ho0, hb⟩
          refine ⟨_, rfl, ?_⟩
          have n0_ := Aside0.mk (Kd.R_elder' (by (with_reducible repeat (first | apply Kd.R_alloc | apply Kd.R_drewN | apply Kd.R_drew)); exact HO4009.out) (Kd.R_base ho0) hb)
          have n1_ := Aside0.mk (Kd.R_elder' (by (with_reducible repeat (first | apply Kd.R_alloc | apply Kd.R_drewN | apply Kd.R_drew)); exact HO4014.out) (Kd.R_base ho0) hb)
          have n2_ := Aside0.mk (Kd.R_elder' (by (with_reducible repeat (first | apply Kd.R_alloc | apply Kd.R_drewN | apply Kd.R_drew)); exact HO4020.out) (Kd.R_base ho0) hb)
          have n3_ := Aside0.mk (Kd.R_elder' (by (with_reducible repeat (first | apply Kd.R_alloc | apply Kd.R_drewN | apply Kd.R_drew)); exact HO4026.out) (Kd.R_base ho0) hb)
          have n4_ := Aside0.mk (Kd.R_lower (Kd.R_new' (Kd.R_new' (Kd.R_new' (Kd.R_new' ho0 (Kd.R_lt (by (with_reducible repeat (first | apply Kd.R_alloc | apply Kd.R_drewN | apply Kd.R_drew)); exact HO4009.out))) (Kd.R_lt (by (with_reducible repeat (first | apply Kd.R_alloc | apply Kd.R_drewN | apply Kd.R_drew)); exact HO4014.out))) (Kd.R_lt (by (with_reducible repeat (first | apply Kd.R_alloc | apply Kd.R_drewN | apply Kd.R_drew)); exact HO4020.out))) (Kd.R_lt (by (with_reducible repeat (first | apply Kd.R_alloc | apply Kd.R_drewN | apply Kd.R_drew)); exact HO4026.out))) (below_size (by repeat (first | (with_reducible first | exact HB.out | apply below_alloc | apply pw_below_drewN | apply below_drew1 | refine below_set ?_ GE4001.out | refine below_set ?_ GE4002.out | refine below_set ?_ GE4021.out | refine below_set ?_ GE4027.out) | exact HB.out))))
          have n5_ := Aside0.mk (blk_below (g := gb4001) (o := .cells #[.string a0_0, .string a0_1, .slice A0_2 l0_2.length c0_2] 47 (0, 0)) (by (with_reducible repeat (first | refine blk_drewN ?_ _ | refine blk_drew ?_ | refine blk_alloc ?_ _)); exact BK4001.out) hb)
          have n6_ := Aside0.mk (blk_below (g := gb4002) (o := .cells #[.string a1_0, .string a1_1, .slice A1_2 l1_2.length c1_2] 47 (0, 0)) (by (with_reducible repeat (first | refine blk_drewN ?_ _ | refine blk_drew ?_ | refine blk_alloc ?_ _)); exact BK4002.out) hb)
          have n7_ := Aside0.mk (blk_below (g := gb4021) (o := .cells #[.string t4016, .string t4017, .slice Ao157 t4018.length co157] 50 (0, 0)) (by (with_reducible repeat (first | refine blk_drewN ?_ _ | refine blk_drew ?_ | refine blk_alloc ?_ _)); exact BK4021.out) hb)
          have n8_ := Aside0.mk (blk_below (g := gb4027) (o := .cells #[.string t4022, .string t4023, .slice Ao165 t4024.length co165] 50 (0, 0)) (by (with_reducible repeat (first | refine blk_drewN ?_ _ | refine blk_drew ?_ | refine blk_alloc ?_ _)); exact BK4027.out) hb)
          have n9_ := Aside0.mk (below_step (by repeat (first | (with_reducible first | exact HB.out | apply below_alloc | apply pw_below_drewN | apply below_drew1 | refine below_set ?_ GE4001.out | refine below_set ?_ GE4002.out | refine below_set ?_ GE4021.out | refine below_set ?_ GE4027.out) | exact HB.out)) hb)
          clear HO4009
          clear HO4014
          clear HO4020
          clear HO4026
          clear BK4001
          clear BK4002
          clear BK4021
          clear BK4027
          clear HB
          have HO4009 := n0_
          have HO4014 := n1_
          have HO4020 := n2_
          have HO4026 := n3_
          have HO4033 := n4_
          have BK4001 := n5_
          have BK4002 := n6_
          have BK4021 := n7_
          have BK4027 := n8_
          have HB := n9_
          clear n0_ n1_ n2_ n3_ n4_ n5_ n6_ n7_ n8_ n9_
          (try clear hb)
          (try clear hb2)
          (try clear hk)
          (try clear hi)
          (try clear ho0)
          obtain ⟨Ao170, co170, eo170⟩ := Kd.R_slice HO4033.out
          (first | subst eo170 | (injection eo170 with f1_ f2_ f3_; have f4_ := f1_.symm; have f5_ := f3_.symm; clear f1_ f2_ f3_; subst f4_; subst f5_))
          refine hK.out _ _ ⟨(blk_cell BK4021.out 0).trans rfl, (blk_cell BK4021.out 1).trans rfl, (blk_cell BK4021.out 2).trans rfl, (blk_cell BK4001.out 0).trans rfl, (blk_cell BK4001.out 1).trans rfl, (blk_cell BK4001.out 2).trans rfl⟩ (fun hHeld => ?_)
          clear hK K
          refine norm_ (a' := ?_) ?_ ?_
          rotate_left
          · show Act.put _ (some 37) _ = _
            simp only [Act.put, List.setIfInBounds_toArray, List.set_cons_zero, List.set_cons_succ, i64_w, i32_w]
            rfl
          refine one_ (i := 3) (N := some 38) #[true, true, true, true, false] rfl rfl (by kernel_rfl) (by decide) (fun K hK => ?_)
          refine goes_ Try.func32 (by kernel_rfl) rfl #[.agg #[.string t4016, .string t4017, .slice Ao157 t4018.length co157], .agg #[.string t4029, .string t4030, .slice Ao170 t4031.length co170]] (by rfl) rfl rfl (by (try simp only [List.map_toArray, List.map_cons, List.map_nil]); first | done | rfl | (simp only [List.length_drop, List.length_take]; rfl)) ?_
          with_reducible refine (laws_eqState.calls k t4016 t4017 _ _ t4018 t4029 t4030 _ _ t4031 false _ ?side1 ?side2 ?side3 ?side4 A57.out).mono ?_
          (case side1 => repeat (first | exact (Kd.R_reads' HO4020.out).2.2 | (with_reducible refine Kd.C_alloc ?_ _) | (with_reducible refine Kd.C_drewN ?_ _) | (with_reducible refine Kd.C_drew ?_)))
          (case side2 => exact (Kd.R_reads' HO4020.out).2.1)
          (case side3 => repeat (first | exact (Kd.R_reads' HO4033.out).2.2 | (with_reducible refine Kd.C_alloc ?_ _) | (with_reducible refine Kd.C_drewN ?_ _) | (with_reducible refine Kd.C_drew ?_)))
          (case side4 => exact (Kd.R_reads' HO4033.out).2.1)
          rintro e w171 ⟨rfl, hb⟩
          refine ⟨_, rfl, ?_⟩
          have n0_ := Aside0.mk (Kd.R_below (by (with_reducible repeat (first | apply Kd.R_alloc | apply Kd.R_drewN | apply Kd.R_drew)); exact HO4009.out) hb)
          have n1_ := Aside0.mk (Kd.R_below (by (with_reducible repeat (first | apply Kd.R_alloc | apply Kd.R_drewN | apply Kd.R_drew)); exact HO4014.out) hb)
          have n2_ := Aside0.mk (Kd.R_below (by (with_reducible repeat (first | apply Kd.R_alloc | apply Kd.R_drewN | apply Kd.R_drew)); exact HO4020.out) hb)
          have n3_ := Aside0.mk (Kd.R_below (by (with_reducible repeat (first | apply Kd.R_alloc | apply Kd.R_drewN | apply Kd.R_drew)); exact HO4026.out) hb)
          have n4_ := Aside0.mk (Kd.R_below (by (with_reducible repeat (first | apply Kd.R_alloc | apply Kd.R_drewN | apply Kd.R_drew)); exact HO4033.out) hb)
          have n5_ := Aside0.mk (blk_below (g := gb4001) (o := .cells #[.string a0_0, .string a0_1, .slice A0_2 l0_2.length c0_2] 47 (0, 0)) (by (with_reducible repeat (first | refine blk_drewN ?_ _ | refine blk_drew ?_ | refine blk_alloc ?_ _)); exact BK4001.out) hb)
          have n6_ := Aside0.mk (blk_below (g := gb4002) (o := .cells #[.string a1_0, .string a1_1, .slice A1_2 l1_2.length c1_2] 47 (0, 0)) (by (with_reducible repeat (first | refine blk_drewN ?_ _ | refine blk_drew ?_ | refine blk_alloc ?_ _)); exact BK4002.out) hb)
          have n7_ := Aside0.mk (blk_below (g := gb4021) (o := .cells #[.string t4016, .string t4017, .slice Ao157 t4018.length co157] 50 (0, 0)) (by (with_reducible repeat (first | refine blk_drewN ?_ _ | refine blk_drew ?_ | refine blk_alloc ?_ _)); exact BK4021.out) hb)
          have n8_ := Aside0.mk (blk_below (g := gb4027) (o := .cells #[.string t4022, .string t4023, .slice Ao165 t4024.length co165] 50 (0, 0)) (by (with_reducible repeat (first | refine blk_drewN ?_ _ | refine blk_drew ?_ | refine blk_alloc ?_ _)); exact BK4027.out) hb)
          have n9_ := Aside0.mk (below_step (by repeat (first | (with_reducible first | exact HB.out | apply below_alloc | apply pw_below_drewN | apply below_drew1 | refine below_set ?_ GE4001.out | refine below_set ?_ GE4002.out | refine below_set ?_ GE4021.out | refine below_set ?_ GE4027.out) | exact HB.out)) hb)
          clear HO4009
          clear HO4014
          clear HO4020
          clear HO4026
          clear HO4033
          clear BK4001
          clear BK4002
          clear BK4021
          clear BK4027
          clear HB
          have HO4009 := n0_
          have HO4014 := n1_
          have HO4020 := n2_
          have HO4026 := n3_
          have HO4033 := n4_
          have BK4001 := n5_
          have BK4002 := n6_
          have BK4021 := n7_
          have BK4027 := n8_
          have HB := n9_
          clear n0_ n1_ n2_ n3_ n4_ n5_ n6_ n7_ n8_ n9_
          (try clear hb)
          (try clear hb2)
          (try clear hk)
          (try clear hi)
          refine hK.out _ _ ⟨(blk_cell BK4021.out 0).trans rfl, (blk_cell BK4021.out 1).trans rfl, (blk_cell BK4021.out 2).trans rfl, (blk_cell BK4001.out 0).trans rfl, (blk_cell BK4001.out 1).trans rfl, (blk_cell BK4001.out 2).trans rfl⟩ (fun hHeld => ?_)
          clear hK K
          refine norm_ (a' := ?_) ?_ ?_
          rotate_left
          · show Act.put _ (some 38) _ = _
            simp only [Act.put, List.setIfInBounds_toArray, List.set_cons_zero, List.set_cons_succ, i64_w, i32_w]
            rfl
          refine pure_ (i := 4) (N := some 39) (v := ?_) (a' := ?_) #[true, true, true, true, true] rfl rfl (by kernel_rfl) (fun _ _ _ h => h) (Or.inl ⟨by rfl, ?_⟩) ?_ ?_
          rotate_left
          · intro w'
            go_simp
            first | with_reducible rfl | (rw [if_neg (by omega)]; done)
          rotate_left
          · simp only [Act.put, List.setIfInBounds_toArray, List.set_cons_zero, List.set_cons_succ, i64_w, i32_w]
            rfl
          refine done_ (by kernel_rfl) ?_
          try go_wp2
          go_ret
          exact ⟨by first | rfl | (simp [errW_none, errW_some] <;> rfl) | (simp [*, errW_none, errW_some] <;> rfl), by repeat (first | (with_reducible first | exact HB.out | apply below_alloc | apply pw_below_drewN | apply below_drew1 | refine below_set ?_ GE4001.out | refine below_set ?_ GE4002.out | refine below_set ?_ GE4021.out | refine below_set ?_ GE4027.out) | exact HB.out)⟩


end Go.Proofs.Ytkefiajemifklaa.A

