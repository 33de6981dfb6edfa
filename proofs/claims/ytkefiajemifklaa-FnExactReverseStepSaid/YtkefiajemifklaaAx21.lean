/- Lean functions for the Go functions named below, and that each call comes to just what its function answers, at every argument at which it answers. Written by this session's program wip/xp.py. -/
import Derived.Test.YtkefiajemifklaaAx0
import Derived.Test.YtkefiajemifklaaAx9
import Derived.Test.YtkefiajemifklaaAx18
import Derived.Test.YtkefiajemifklaaAx19
import Derived.Test.YtkefiajemifklaaAx20
namespace Go.Proofs.Ytkefiajemifklaa.A
open Go.RowKit Go.Proofs.Ytkefiajemifklaa.Ext Go.Proofs.YtkefiajemifklaaW.PrintWords Go.Proofs.YtkefiajemifklaaW.PrintLast Go.Proofs.YtkefiajemifklaaW.PrintMore
attribute [local go_sem] max2_int min2_int max_two min_two max_three min_three max_four min_four   -- for this text's walks alone
set_option linter.unusedVariables false
set_option linter.unusedSimpArgs false

/-! ### laws_FnExactReverseStep: function 7 -/
def laws_FnExactReverseStep.f (a0_0 : ByteArray) (a0_1 : ByteArray) (a0_2 : ByteArray) (a1_0 : Int) (a1_1 : ByteArray) : Option (Bool) := (laws_szValues.f a0_0 a0_1 a0_2 1048576).bind fun t7003 => (if t7003 < 0 then (some true) else ((laws_szMove.f a1_0 a1_1 t7003).bind fun t7004 => (if t7004 < 0 then (some true) else ((laws_toValues.f a0_0 a0_1 a0_2).bind fun bt7005 => ((laws_toMove.f a1_0 a1_1).bind fun bt7008 => ((spec_ReverseStep.f bt7005.1 bt7005.2.1 bt7005.2.2 bt7008.1 bt7008.2).bind fun bt7010 => ((laws_toValues.f a0_0 a0_1 a0_2).bind fun bt7014 => ((laws_toMove.f a1_0 a1_1).bind fun bt7017 => ((impl_ReverseStep.f bt7014.1 bt7014.2.1 bt7014.2.2 bt7017.1 bt7017.2).bind fun bt7019 => ((laws_eqValues.f bt7019.1 bt7019.2.1 bt7019.2.2 bt7010.1 bt7010.2.1 bt7010.2.2).bind fun t7023 => (if t7023 = true then (some true) else (some false))))))))))))
set_option maxHeartbeats 8000000 in
set_option maxRecDepth 100000 in
theorem laws_FnExactReverseStep.calls (a0_0 : ByteArray) (a0_1 : ByteArray) (a0_2 : ByteArray) (a1_0 : Int) (a1_1 : ByteArray) (r : Bool) (w : World) (h : laws_FnExactReverseStep.f a0_0 a0_1 a0_2 a1_0 a1_1 = some r) :
    Calls Try.prog 7 #[.agg #[.string a0_0, .string a0_1, .string a0_2], .agg #[.int .u8 a1_0, .string a1_1]] w fun e w' => e = .returned (.bool r) ∧ Below w.heap.size w w' := by
  have hu69 := Try.underlying69
  have hu56 := Try.underlying56
  have hu71 := Try.underlying71
  have HB := Aside0.mk (Below.refl w.heap.size w)
  have H : ((laws_szValues.f a0_0 a0_1 a0_2 1048576).bind fun t7003 => (if t7003 < 0 then (some true) else ((laws_szMove.f a1_0 a1_1 t7003).bind fun t7004 => (if t7004 < 0 then (some true) else ((laws_toValues.f a0_0 a0_1 a0_2).bind fun bt7005 => ((laws_toMove.f a1_0 a1_1).bind fun bt7008 => ((spec_ReverseStep.f bt7005.1 bt7005.2.1 bt7005.2.2 bt7008.1 bt7008.2).bind fun bt7010 => ((laws_toValues.f a0_0 a0_1 a0_2).bind fun bt7014 => ((laws_toMove.f a1_0 a1_1).bind fun bt7017 => ((impl_ReverseStep.f bt7014.1 bt7014.2.1 bt7014.2.2 bt7017.1 bt7017.2).bind fun bt7019 => ((laws_eqValues.f bt7019.1 bt7019.2.1 bt7019.2.2 bt7010.1 bt7010.2.1 bt7010.2.2).bind fun t7023 => (if t7023 = true then (some true) else (some false))))))))))))) = some r := h
  clear h
  replace H := Option.bind_eq_some_iff.mp H
  obtain ⟨t7003, A30, H⟩ := H
  replace H : (if t7003 < 0 then (some true) else ((laws_szMove.f a1_0 a1_1 t7003).bind fun t7004 => (if t7004 < 0 then (some true) else ((laws_toValues.f a0_0 a0_1 a0_2).bind fun bt7005 => ((laws_toMove.f a1_0 a1_1).bind fun bt7008 => ((spec_ReverseStep.f bt7005.1 bt7005.2.1 bt7005.2.2 bt7008.1 bt7008.2).bind fun bt7010 => ((laws_toValues.f a0_0 a0_1 a0_2).bind fun bt7014 => ((laws_toMove.f a1_0 a1_1).bind fun bt7017 => ((impl_ReverseStep.f bt7014.1 bt7014.2.1 bt7014.2.2 bt7017.1 bt7017.2).bind fun bt7019 => ((laws_eqValues.f bt7019.1 bt7019.2.1 bt7019.2.2 bt7010.1 bt7010.2.1 bt7010.2.2).bind fun t7023 => (if t7023 = true then (some true) else (some false)))))))))))) = some r := H
  have A3 := Aside0.mk A30
  clear A30
  by_cases c4 : t7003 < 0
  · rw [if_pos c4] at H
    have c4b0 : decide (t7003 < 0) = true := decide_eq_true c4
    clear c4
    obtain rfl := Option.some.inj H
    go_enter Try.func7, Try.ntmps7
    go_wp2_with (first | ((with_reducible refine gate_dst (N := 2) rfl ?_); refine box_event ?hg (N := 2) ?hd (cs := #[.string a0_0, .string a0_1, .string a0_2]) (t := 69) ?hr ?_; (case hd => rfl); (case hg => rfl); (case hr => first | (go_simp; done) | (go_simp; rfl)); intro gb7001 hg w5 hbox hb; have n0_ := Aside0.mk (below_step (by repeat (first | (with_reducible first | exact HB.out | apply below_alloc | apply pw_below_drewN | apply below_drew1) | exact HB.out)) hb); have n1_ := Aside0.mk (hbox); have n2_ := Aside0.mk ((by rw [hg]; exact (below_size (by repeat (first | (with_reducible first | exact HB.out | apply below_alloc | apply pw_below_drewN | apply below_drew1) | exact HB.out))) : w.heap.size ≤ gb7001)); have n3_ := Aside0.mk ((by rw [hg]; exact (below_size (by repeat (first | (with_reducible first | exact HB.out | apply below_alloc | apply pw_below_drewN | apply below_drew1) | exact HB.out))) : w.heap.size ≤ gb7001)); clear HB; have HB := n0_; have BK7001 := n1_; have GW7001 := n2_; have GE7001 := n3_; clear n0_ n1_ n2_ n3_; clear hb hbox hg) | ((with_reducible refine gate_dst (N := 3) rfl ?_); refine box_event ?hg (N := 3) ?hd (cs := #[.int .u8 a1_0, .string a1_1]) (t := 56) ?hr ?_; (case hd => rfl); (case hg => rfl); (case hr => first | (go_simp; done) | (go_simp; rfl)); intro gb7002 hg w6 hbox hb; have n0_ := Aside0.mk (blk_below (g := gb7001) (o := .cells #[.string a0_0, .string a0_1, .string a0_2] 69 (0, 0)) (by (with_reducible repeat (first | refine blk_drewN ?_ _ | refine blk_drew ?_ | refine blk_alloc ?_ _)); exact BK7001.out) hb); have n1_ := Aside0.mk (below_step (by repeat (first | (with_reducible first | exact HB.out | apply below_alloc | apply pw_below_drewN | apply below_drew1 | refine below_set ?_ GE7001.out) | exact HB.out)) hb); have n2_ := Aside0.mk (hbox); have n3_ := Aside0.mk ((by rw [hg]; exact (below_size (by repeat (first | (with_reducible first | exact HB.out | apply below_alloc | apply pw_below_drewN | apply below_drew1 | refine below_set ?_ GE7001.out) | exact HB.out))) : w.heap.size ≤ gb7002)); have n4_ := Aside0.mk ((by rw [hg]; exact (below_size (by repeat (first | (with_reducible first | exact HB.out | apply below_alloc | apply pw_below_drewN | apply below_drew1 | refine below_set ?_ GE7001.out) | exact HB.out))) : w.heap.size ≤ gb7002)); have n5_ := Aside0.mk ((by rw [hg]; exact Nat.ne_of_lt (blk_lt (g := gb7001) (o := .cells #[.string a0_0, .string a0_1, .string a0_2] 69 (0, 0)) (by (with_reducible repeat (first | refine blk_drewN ?_ _ | refine blk_drew ?_ | refine blk_alloc ?_ _)); exact BK7001.out)) : gb7001 ≠ gb7002)); have n6_ := Aside0.mk ((by rw [hg]; exact Nat.ne_of_gt (blk_lt (g := gb7001) (o := .cells #[.string a0_0, .string a0_1, .string a0_2] 69 (0, 0)) (by (with_reducible repeat (first | refine blk_drewN ?_ _ | refine blk_drew ?_ | refine blk_alloc ?_ _)); exact BK7001.out)) : gb7002 ≠ gb7001)); clear BK7001; clear HB; have BK7001 := n0_; have HB := n1_; have BK7002 := n2_; have GW7002 := n3_; have GE7002 := n4_; have NB7001_7002 := n5_; have NB7002_7001 := n6_; clear n0_ n1_ n2_ n3_ n4_ n5_ n6_; clear hb hbox hg; have hnb7 := NB7001_7002.out; have hnc7 := NB7002_7001.out; have hcz8_0 : w6.cell? ⟨gb7001, 0, none⟩ = some (.string a0_0) := (blk_cell BK7001.out 0).trans rfl; have hcz8_1 : w6.cell? ⟨gb7001, 1, none⟩ = some (.string a0_1) := (blk_cell BK7001.out 1).trans rfl; have hcz8_2 : w6.cell? ⟨gb7001, 2, none⟩ = some (.string a0_2) := (blk_cell BK7001.out 2).trans rfl; have hfz8_0 := blk_frozen BK7001.out 0; have hfz8_1 := blk_frozen BK7001.out 1; have hfz8_2 := blk_frozen BK7001.out 2) | ((with_reducible refine gate_callee (f := 42) rfl ?_); refine goesL_ (some 10) rfl rfl Try.func42 (by kernel_rfl) rfl #[.agg #[.string a0_0, .string a0_1, .string a0_2], .int .i64 1048576] rfl (by (try simp only [List.map_toArray, List.map_cons, List.map_nil]); first | done | rfl | (simp only [List.length_drop, List.length_take]; rfl)) ?_; (with_reducible refine (laws_szValues.calls a0_0 a0_1 a0_2 1048576 t7003 _ A3.out).mono ?_); rintro e w9 ⟨rfl, hb⟩; refine ⟨_, rfl, ?_⟩; have n0_ := Aside0.mk (blk_below (g := gb7001) (o := .cells #[.string a0_0, .string a0_1, .string a0_2] 69 (0, 0)) (by (with_reducible repeat (first | refine blk_drewN ?_ _ | refine blk_drew ?_ | refine blk_alloc ?_ _)); exact BK7001.out) hb); have n1_ := Aside0.mk (blk_below (g := gb7002) (o := .cells #[.int .u8 a1_0, .string a1_1] 56 (0, 0)) (by (with_reducible repeat (first | refine blk_drewN ?_ _ | refine blk_drew ?_ | refine blk_alloc ?_ _)); exact BK7002.out) hb); have n2_ := Aside0.mk (below_step (by repeat (first | (with_reducible first | exact HB.out | apply below_alloc | apply pw_below_drewN | apply below_drew1 | refine below_set ?_ GE7001.out | refine below_set ?_ GE7002.out) | exact HB.out)) hb); clear BK7001; clear BK7002; clear HB; have BK7001 := n0_; have BK7002 := n1_; have HB := n2_; clear n0_ n1_ n2_; (try clear hb); (try clear hb2); (try clear hk); (try clear hi)))
    go_ret
    exact ⟨by first | rfl | (simp [errW_none, errW_some] <;> rfl) | (simp [*, errW_none, errW_some] <;> rfl), by repeat (first | (with_reducible first | exact HB.out | apply below_alloc | apply pw_below_drewN | apply below_drew1 | refine below_set ?_ GE7001.out | refine below_set ?_ GE7002.out) | exact HB.out)⟩
  · rw [if_neg c4] at H
    have c4b0 : decide (t7003 < 0) = false := decide_eq_false c4
    clear c4
    replace H := Option.bind_eq_some_iff.mp H
    obtain ⟨t7004, A100, H⟩ := H
    replace H : (if t7004 < 0 then (some true) else ((laws_toValues.f a0_0 a0_1 a0_2).bind fun bt7005 => ((laws_toMove.f a1_0 a1_1).bind fun bt7008 => ((spec_ReverseStep.f bt7005.1 bt7005.2.1 bt7005.2.2 bt7008.1 bt7008.2).bind fun bt7010 => ((laws_toValues.f a0_0 a0_1 a0_2).bind fun bt7014 => ((laws_toMove.f a1_0 a1_1).bind fun bt7017 => ((impl_ReverseStep.f bt7014.1 bt7014.2.1 bt7014.2.2 bt7017.1 bt7017.2).bind fun bt7019 => ((laws_eqValues.f bt7019.1 bt7019.2.1 bt7019.2.2 bt7010.1 bt7010.2.1 bt7010.2.2).bind fun t7023 => (if t7023 = true then (some true) else (some false)))))))))) = some r := H
    have A10 := Aside0.mk A100
    clear A100
    by_cases c11 : t7004 < 0
    · rw [if_pos c11] at H
      have c11b0 : decide (t7004 < 0) = true := decide_eq_true c11
      clear c11
      obtain rfl := Option.some.inj H
      go_enter Try.func7, Try.ntmps7
      go_wp2_with (first | ((with_reducible refine gate_dst (N := 2) rfl ?_); refine box_event ?hg (N := 2) ?hd (cs := #[.string a0_0, .string a0_1, .string a0_2]) (t := 69) ?hr ?_; (case hd => rfl); (case hg => rfl); (case hr => first | (go_simp; done) | (go_simp; rfl)); intro gb7001 hg w12 hbox hb; have n0_ := Aside0.mk (below_step (by repeat (first | (with_reducible first | exact HB.out | apply below_alloc | apply pw_below_drewN | apply below_drew1) | exact HB.out)) hb); have n1_ := Aside0.mk (hbox); have n2_ := Aside0.mk ((by rw [hg]; exact (below_size (by repeat (first | (with_reducible first | exact HB.out | apply below_alloc | apply pw_below_drewN | apply below_drew1) | exact HB.out))) : w.heap.size ≤ gb7001)); have n3_ := Aside0.mk ((by rw [hg]; exact (below_size (by repeat (first | (with_reducible first | exact HB.out | apply below_alloc | apply pw_below_drewN | apply below_drew1) | exact HB.out))) : w.heap.size ≤ gb7001)); clear HB; have HB := n0_; have BK7001 := n1_; have GW7001 := n2_; have GE7001 := n3_; clear n0_ n1_ n2_ n3_; clear hb hbox hg) | ((with_reducible refine gate_dst (N := 3) rfl ?_); refine box_event ?hg (N := 3) ?hd (cs := #[.int .u8 a1_0, .string a1_1]) (t := 56) ?hr ?_; (case hd => rfl); (case hg => rfl); (case hr => first | (go_simp; done) | (go_simp; rfl)); intro gb7002 hg w13 hbox hb; have n0_ := Aside0.mk (blk_below (g := gb7001) (o := .cells #[.string a0_0, .string a0_1, .string a0_2] 69 (0, 0)) (by (with_reducible repeat (first | refine blk_drewN ?_ _ | refine blk_drew ?_ | refine blk_alloc ?_ _)); exact BK7001.out) hb); have n1_ := Aside0.mk (below_step (by repeat (first | (with_reducible first | exact HB.out | apply below_alloc | apply pw_below_drewN | apply below_drew1 | refine below_set ?_ GE7001.out) | exact HB.out)) hb); have n2_ := Aside0.mk (hbox); have n3_ := Aside0.mk ((by rw [hg]; exact (below_size (by repeat (first | (with_reducible first | exact HB.out | apply below_alloc | apply pw_below_drewN | apply below_drew1 | refine below_set ?_ GE7001.out) | exact HB.out))) : w.heap.size ≤ gb7002)); have n4_ := Aside0.mk ((by rw [hg]; exact (below_size (by repeat (first | (with_reducible first | exact HB.out | apply below_alloc | apply pw_below_drewN | apply below_drew1 | refine below_set ?_ GE7001.out) | exact HB.out))) : w.heap.size ≤ gb7002)); have n5_ := Aside0.mk ((by rw [hg]; exact Nat.ne_of_lt (blk_lt (g := gb7001) (o := .cells #[.string a0_0, .string a0_1, .string a0_2] 69 (0, 0)) (by (with_reducible repeat (first | refine blk_drewN ?_ _ | refine blk_drew ?_ | refine blk_alloc ?_ _)); exact BK7001.out)) : gb7001 ≠ gb7002)); have n6_ := Aside0.mk ((by rw [hg]; exact Nat.ne_of_gt (blk_lt (g := gb7001) (o := .cells #[.string a0_0, .string a0_1, .string a0_2] 69 (0, 0)) (by (with_reducible repeat (first | refine blk_drewN ?_ _ | refine blk_drew ?_ | refine blk_alloc ?_ _)); exact BK7001.out)) : gb7002 ≠ gb7001)); clear BK7001; clear HB; have BK7001 := n0_; have HB := n1_; have BK7002 := n2_; have GW7002 := n3_; have GE7002 := n4_; have NB7001_7002 := n5_; have NB7002_7001 := n6_; clear n0_ n1_ n2_ n3_ n4_ n5_ n6_; clear hb hbox hg; have hnb14 := NB7001_7002.out; have hnc14 := NB7002_7001.out; have hcz15_0 : w13.cell? ⟨gb7001, 0, none⟩ = some (.string a0_0) := (blk_cell BK7001.out 0).trans rfl; have hcz15_1 : w13.cell? ⟨gb7001, 1, none⟩ = some (.string a0_1) := (blk_cell BK7001.out 1).trans rfl; have hcz15_2 : w13.cell? ⟨gb7001, 2, none⟩ = some (.string a0_2) := (blk_cell BK7001.out 2).trans rfl; have hfz15_0 := blk_frozen BK7001.out 0; have hfz15_1 := blk_frozen BK7001.out 1; have hfz15_2 := blk_frozen BK7001.out 2) | ((with_reducible refine gate_callee (f := 42) rfl ?_); refine goesL_ (some 10) rfl rfl Try.func42 (by kernel_rfl) rfl #[.agg #[.string a0_0, .string a0_1, .string a0_2], .int .i64 1048576] rfl (by (try simp only [List.map_toArray, List.map_cons, List.map_nil]); first | done | rfl | (simp only [List.length_drop, List.length_take]; rfl)) ?_; (with_reducible refine (laws_szValues.calls a0_0 a0_1 a0_2 1048576 t7003 _ A3.out).mono ?_); rintro e w16 ⟨rfl, hb⟩; refine ⟨_, rfl, ?_⟩; have n0_ := Aside0.mk (blk_below (g := gb7001) (o := .cells #[.string a0_0, .string a0_1, .string a0_2] 69 (0, 0)) (by (with_reducible repeat (first | refine blk_drewN ?_ _ | refine blk_drew ?_ | refine blk_alloc ?_ _)); exact BK7001.out) hb); have n1_ := Aside0.mk (blk_below (g := gb7002) (o := .cells #[.int .u8 a1_0, .string a1_1] 56 (0, 0)) (by (with_reducible repeat (first | refine blk_drewN ?_ _ | refine blk_drew ?_ | refine blk_alloc ?_ _)); exact BK7002.out) hb); have n2_ := Aside0.mk (below_step (by repeat (first | (with_reducible first | exact HB.out | apply below_alloc | apply pw_below_drewN | apply below_drew1 | refine below_set ?_ GE7001.out | refine below_set ?_ GE7002.out) | exact HB.out)) hb); clear BK7001; clear BK7002; clear HB; have BK7001 := n0_; have BK7002 := n1_; have HB := n2_; clear n0_ n1_ n2_; (try clear hb); (try clear hb2); (try clear hk); (try clear hi); have hcz17_0 : w16.cell? ⟨gb7002, 0, none⟩ = some (.int .u8 a1_0) := (blk_cell BK7002.out 0).trans rfl; have hcz17_1 : w16.cell? ⟨gb7002, 1, none⟩ = some (.string a1_1) := (blk_cell BK7002.out 1).trans rfl; have hfz17_0 := blk_frozen BK7002.out 0; have hfz17_1 := blk_frozen BK7002.out 1) | ((with_reducible refine gate_callee (f := 34) rfl ?_); refine goesL_ (some 15) rfl rfl Try.func34 (by kernel_rfl) rfl #[.agg #[.int .u8 a1_0, .string a1_1], .int .i64 t7003] rfl (by (try simp only [List.map_toArray, List.map_cons, List.map_nil]); first | done | rfl | (simp only [List.length_drop, List.length_take]; rfl)) ?_; (with_reducible refine (laws_szMove.calls a1_0 a1_1 t7003 t7004 _ A10.out).mono ?_); rintro e w18 ⟨rfl, hb⟩; refine ⟨_, rfl, ?_⟩; have n0_ := Aside0.mk (blk_below (g := gb7001) (o := .cells #[.string a0_0, .string a0_1, .string a0_2] 69 (0, 0)) (by (with_reducible repeat (first | refine blk_drewN ?_ _ | refine blk_drew ?_ | refine blk_alloc ?_ _)); exact BK7001.out) hb); have n1_ := Aside0.mk (blk_below (g := gb7002) (o := .cells #[.int .u8 a1_0, .string a1_1] 56 (0, 0)) (by (with_reducible repeat (first | refine blk_drewN ?_ _ | refine blk_drew ?_ | refine blk_alloc ?_ _)); exact BK7002.out) hb); have n2_ := Aside0.mk (below_step (by repeat (first | (with_reducible first | exact HB.out | apply below_alloc | apply pw_below_drewN | apply below_drew1 | refine below_set ?_ GE7001.out | refine below_set ?_ GE7002.out) | exact HB.out)) hb); clear BK7001; clear BK7002; clear HB; have BK7001 := n0_; have BK7002 := n1_; have HB := n2_; clear n0_ n1_ n2_; (try clear hb); (try clear hb2); (try clear hk); (try clear hi)))
      go_ret
      exact ⟨by first | rfl | (simp [errW_none, errW_some] <;> rfl) | (simp [*, errW_none, errW_some] <;> rfl), by repeat (first | (with_reducible first | exact HB.out | apply below_alloc | apply pw_below_drewN | apply below_drew1 | refine below_set ?_ GE7001.out | refine below_set ?_ GE7002.out) | exact HB.out)⟩
    · rw [if_neg c11] at H
      have c11b0 : decide (t7004 < 0) = false := decide_eq_false c11
      clear c11
      replace H := Option.bind_eq_some_iff.mp H
      obtain ⟨⟨t7005, t7006, t7007⟩, A190, H⟩ := H
      replace H : ((laws_toMove.f a1_0 a1_1).bind fun bt7008 => ((spec_ReverseStep.f t7005 t7006 t7007 bt7008.1 bt7008.2).bind fun bt7010 => ((laws_toValues.f a0_0 a0_1 a0_2).bind fun bt7014 => ((laws_toMove.f a1_0 a1_1).bind fun bt7017 => ((impl_ReverseStep.f bt7014.1 bt7014.2.1 bt7014.2.2 bt7017.1 bt7017.2).bind fun bt7019 => ((laws_eqValues.f bt7019.1 bt7019.2.1 bt7019.2.2 bt7010.1 bt7010.2.1 bt7010.2.2).bind fun t7023 => (if t7023 = true then (some true) else (some false)))))))) = some r := H
      have A19 := Aside0.mk A190
      clear A190
      replace H := Option.bind_eq_some_iff.mp H
      obtain ⟨⟨t7008, t7009⟩, A200, H⟩ := H
      replace H : ((spec_ReverseStep.f t7005 t7006 t7007 t7008 t7009).bind fun bt7010 => ((laws_toValues.f a0_0 a0_1 a0_2).bind fun bt7014 => ((laws_toMove.f a1_0 a1_1).bind fun bt7017 => ((impl_ReverseStep.f bt7014.1 bt7014.2.1 bt7014.2.2 bt7017.1 bt7017.2).bind fun bt7019 => ((laws_eqValues.f bt7019.1 bt7019.2.1 bt7019.2.2 bt7010.1 bt7010.2.1 bt7010.2.2).bind fun t7023 => (if t7023 = true then (some true) else (some false))))))) = some r := H
      have A20 := Aside0.mk A200
      clear A200
      replace H := Option.bind_eq_some_iff.mp H
      obtain ⟨⟨t7010, t7011, t7012⟩, A210, H⟩ := H
      replace H : ((laws_toValues.f a0_0 a0_1 a0_2).bind fun bt7014 => ((laws_toMove.f a1_0 a1_1).bind fun bt7017 => ((impl_ReverseStep.f bt7014.1 bt7014.2.1 bt7014.2.2 bt7017.1 bt7017.2).bind fun bt7019 => ((laws_eqValues.f bt7019.1 bt7019.2.1 bt7019.2.2 t7010 t7011 t7012).bind fun t7023 => (if t7023 = true then (some true) else (some false)))))) = some r := H
      have A21 := Aside0.mk A210
      clear A210
      replace H := Option.bind_eq_some_iff.mp H
      obtain ⟨⟨t7014, t7015, t7016⟩, A220, H⟩ := H
      replace H : ((laws_toMove.f a1_0 a1_1).bind fun bt7017 => ((impl_ReverseStep.f t7014 t7015 t7016 bt7017.1 bt7017.2).bind fun bt7019 => ((laws_eqValues.f bt7019.1 bt7019.2.1 bt7019.2.2 t7010 t7011 t7012).bind fun t7023 => (if t7023 = true then (some true) else (some false))))) = some r := H
      have A22 := Aside0.mk A220
      clear A220
      replace H := Option.bind_eq_some_iff.mp H
      obtain ⟨⟨t7017, t7018⟩, A230, H⟩ := H
      replace H : ((impl_ReverseStep.f t7014 t7015 t7016 t7017 t7018).bind fun bt7019 => ((laws_eqValues.f bt7019.1 bt7019.2.1 bt7019.2.2 t7010 t7011 t7012).bind fun t7023 => (if t7023 = true then (some true) else (some false)))) = some r := H
      have A23 := Aside0.mk A230
      clear A230
      replace H := Option.bind_eq_some_iff.mp H
      obtain ⟨⟨t7019, t7020, t7021⟩, A240, H⟩ := H
      replace H : ((laws_eqValues.f t7019 t7020 t7021 t7010 t7011 t7012).bind fun t7023 => (if t7023 = true then (some true) else (some false))) = some r := H
      have A24 := Aside0.mk A240
      clear A240
      replace H := Option.bind_eq_some_iff.mp H
      obtain ⟨t7023, A250, H⟩ := H
      replace H : (if t7023 = true then (some true) else (some false)) = some r := H
      have A25 := Aside0.mk A250
      clear A250
      by_cases c26 : t7023 = true
      · subst c26
        have H1 : (some true) = some r := by rw [if_pos rfl] at H; exact H
        clear H
        have H := H1
        clear H1
        obtain rfl := Option.some.inj H
        go_enter Try.func7, Try.ntmps7
        try go_wp2_with (first | ((with_reducible refine gate_dst (N := 2) rfl ?_); refine box_event ?hg (N := 2) ?hd (cs := #[.string a0_0, .string a0_1, .string a0_2]) (t := 69) ?hr ?_; (case hd => rfl); (case hg => rfl); (case hr => first | (go_simp; done) | (go_simp; rfl)); intro gb7001 hg w27 hbox hb; have n0_ := Aside0.mk (below_step (by repeat (first | (with_reducible first | exact HB.out | apply below_alloc | apply pw_below_drewN | apply below_drew1) | exact HB.out)) hb); have n1_ := Aside0.mk (hbox); have n2_ := Aside0.mk ((by rw [hg]; exact (below_size (by repeat (first | (with_reducible first | exact HB.out | apply below_alloc | apply pw_below_drewN | apply below_drew1) | exact HB.out))) : w.heap.size ≤ gb7001)); have n3_ := Aside0.mk ((by rw [hg]; exact (below_size (by repeat (first | (with_reducible first | exact HB.out | apply below_alloc | apply pw_below_drewN | apply below_drew1) | exact HB.out))) : w.heap.size ≤ gb7001)); clear HB; have HB := n0_; have BK7001 := n1_; have GW7001 := n2_; have GE7001 := n3_; clear n0_ n1_ n2_ n3_; clear hb hbox hg) | ((with_reducible refine gate_dst (N := 3) rfl ?_); refine box_event ?hg (N := 3) ?hd (cs := #[.int .u8 a1_0, .string a1_1]) (t := 56) ?hr ?_; (case hd => rfl); (case hg => rfl); (case hr => first | (go_simp; done) | (go_simp; rfl)); intro gb7002 hg w28 hbox hb; have n0_ := Aside0.mk (blk_below (g := gb7001) (o := .cells #[.string a0_0, .string a0_1, .string a0_2] 69 (0, 0)) (by (with_reducible repeat (first | refine blk_drewN ?_ _ | refine blk_drew ?_ | refine blk_alloc ?_ _)); exact BK7001.out) hb); have n1_ := Aside0.mk (below_step (by repeat (first | (with_reducible first | exact HB.out | apply below_alloc | apply pw_below_drewN | apply below_drew1 | refine below_set ?_ GE7001.out) | exact HB.out)) hb); have n2_ := Aside0.mk (hbox); have n3_ := Aside0.mk ((by rw [hg]; exact (below_size (by repeat (first | (with_reducible first | exact HB.out | apply below_alloc | apply pw_below_drewN | apply below_drew1 | refine below_set ?_ GE7001.out) | exact HB.out))) : w.heap.size ≤ gb7002)); have n4_ := Aside0.mk ((by rw [hg]; exact (below_size (by repeat (first | (with_reducible first | exact HB.out | apply below_alloc | apply pw_below_drewN | apply below_drew1 | refine below_set ?_ GE7001.out) | exact HB.out))) : w.heap.size ≤ gb7002)); have n5_ := Aside0.mk ((by rw [hg]; exact Nat.ne_of_lt (blk_lt (g := gb7001) (o := .cells #[.string a0_0, .string a0_1, .string a0_2] 69 (0, 0)) (by (with_reducible repeat (first | refine blk_drewN ?_ _ | refine blk_drew ?_ | refine blk_alloc ?_ _)); exact BK7001.out)) : gb7001 ≠ gb7002)); have n6_ := Aside0.mk ((by rw [hg]; exact Nat.ne_of_gt (blk_lt (g := gb7001) (o := .cells #[.string a0_0, .string a0_1, .string a0_2] 69 (0, 0)) (by (with_reducible repeat (first | refine blk_drewN ?_ _ | refine blk_drew ?_ | refine blk_alloc ?_ _)); exact BK7001.out)) : gb7002 ≠ gb7001)); clear BK7001; clear HB; have BK7001 := n0_; have HB := n1_; have BK7002 := n2_; have GW7002 := n3_; have GE7002 := n4_; have NB7001_7002 := n5_; have NB7002_7001 := n6_; clear n0_ n1_ n2_ n3_ n4_ n5_ n6_; clear hb hbox hg; have hnb29 := NB7001_7002.out; have hnc29 := NB7002_7001.out; have hcz30_0 : w28.cell? ⟨gb7001, 0, none⟩ = some (.string a0_0) := (blk_cell BK7001.out 0).trans rfl; have hcz30_1 : w28.cell? ⟨gb7001, 1, none⟩ = some (.string a0_1) := (blk_cell BK7001.out 1).trans rfl; have hcz30_2 : w28.cell? ⟨gb7001, 2, none⟩ = some (.string a0_2) := (blk_cell BK7001.out 2).trans rfl; have hfz30_0 := blk_frozen BK7001.out 0; have hfz30_1 := blk_frozen BK7001.out 1; have hfz30_2 := blk_frozen BK7001.out 2) | ((with_reducible refine gate_callee (f := 42) rfl ?_); refine goesL_ (some 10) rfl rfl Try.func42 (by kernel_rfl) rfl #[.agg #[.string a0_0, .string a0_1, .string a0_2], .int .i64 1048576] rfl (by (try simp only [List.map_toArray, List.map_cons, List.map_nil]); first | done | rfl | (simp only [List.length_drop, List.length_take]; rfl)) ?_; (with_reducible refine (laws_szValues.calls a0_0 a0_1 a0_2 1048576 t7003 _ A3.out).mono ?_); rintro e w31 ⟨rfl, hb⟩; refine ⟨_, rfl, ?_⟩; have n0_ := Aside0.mk (blk_below (g := gb7001) (o := .cells #[.string a0_0, .string a0_1, .string a0_2] 69 (0, 0)) (by (with_reducible repeat (first | refine blk_drewN ?_ _ | refine blk_drew ?_ | refine blk_alloc ?_ _)); exact BK7001.out) hb); have n1_ := Aside0.mk (blk_below (g := gb7002) (o := .cells #[.int .u8 a1_0, .string a1_1] 56 (0, 0)) (by (with_reducible repeat (first | refine blk_drewN ?_ _ | refine blk_drew ?_ | refine blk_alloc ?_ _)); exact BK7002.out) hb); have n2_ := Aside0.mk (below_step (by repeat (first | (with_reducible first | exact HB.out | apply below_alloc | apply pw_below_drewN | apply below_drew1 | refine below_set ?_ GE7001.out | refine below_set ?_ GE7002.out) | exact HB.out)) hb); clear BK7001; clear BK7002; clear HB; have BK7001 := n0_; have BK7002 := n1_; have HB := n2_; clear n0_ n1_ n2_; (try clear hb); (try clear hb2); (try clear hk); (try clear hi); have hcz32_0 : w31.cell? ⟨gb7002, 0, none⟩ = some (.int .u8 a1_0) := (blk_cell BK7002.out 0).trans rfl; have hcz32_1 : w31.cell? ⟨gb7002, 1, none⟩ = some (.string a1_1) := (blk_cell BK7002.out 1).trans rfl; have hfz32_0 := blk_frozen BK7002.out 0; have hfz32_1 := blk_frozen BK7002.out 1) | ((with_reducible refine gate_callee (f := 34) rfl ?_); refine goesL_ (some 15) rfl rfl Try.func34 (by kernel_rfl) rfl #[.agg #[.int .u8 a1_0, .string a1_1], .int .i64 t7003] rfl (by (try simp only [List.map_toArray, List.map_cons, List.map_nil]); first | done | rfl | (simp only [List.length_drop, List.length_take]; rfl)) ?_; (with_reducible refine (laws_szMove.calls a1_0 a1_1 t7003 t7004 _ A10.out).mono ?_); rintro e w33 ⟨rfl, hb⟩; refine ⟨_, rfl, ?_⟩; have n0_ := Aside0.mk (blk_below (g := gb7001) (o := .cells #[.string a0_0, .string a0_1, .string a0_2] 69 (0, 0)) (by (with_reducible repeat (first | refine blk_drewN ?_ _ | refine blk_drew ?_ | refine blk_alloc ?_ _)); exact BK7001.out) hb); have n1_ := Aside0.mk (blk_below (g := gb7002) (o := .cells #[.int .u8 a1_0, .string a1_1] 56 (0, 0)) (by (with_reducible repeat (first | refine blk_drewN ?_ _ | refine blk_drew ?_ | refine blk_alloc ?_ _)); exact BK7002.out) hb); have n2_ := Aside0.mk (below_step (by repeat (first | (with_reducible first | exact HB.out | apply below_alloc | apply pw_below_drewN | apply below_drew1 | refine below_set ?_ GE7001.out | refine below_set ?_ GE7002.out) | exact HB.out)) hb); clear BK7001; clear BK7002; clear HB; have BK7001 := n0_; have BK7002 := n1_; have HB := n2_; clear n0_ n1_ n2_; (try clear hb); (try clear hb2); (try clear hk); (try clear hi)))
        have n0_ := Aside0.mk (blk_drew BK7001.out)
        have n1_ := Aside0.mk (blk_drew BK7002.out)
        have n2_ := Aside0.mk (below_drew1 HB.out)
        clear BK7001
        clear BK7002
        clear HB
        have BK7001 := n0_
        have BK7002 := n1_
        have HB := n2_
        clear n0_ n1_ n2_
        refine start_ (n := 7) (S := fun w' => w'.cell? ⟨gb7001, 0, none⟩ = some (.string a0_0) ∧ w'.cell? ⟨gb7001, 1, none⟩ = some (.string a0_1) ∧ w'.cell? ⟨gb7001, 2, none⟩ = some (.string a0_2) ∧ w'.cell? ⟨gb7002, 0, none⟩ = some (.int .u8 a1_0) ∧ w'.cell? ⟨gb7002, 1, none⟩ = some (.string a1_1)) (ds := []) #[false, false, false, false, false, false, false] (by kernel_rfl) rfl rfl ⟨(blk_cell BK7001.out 0).trans rfl, (blk_cell BK7001.out 1).trans rfl, (blk_cell BK7001.out 2).trans rfl, (blk_cell BK7002.out 0).trans rfl, (blk_cell BK7002.out 1).trans rfl⟩ (fun hHeld => ?_)
        generalize w33.drew = w34 at BK7001 BK7002 HB hHeld ⊢
        refine take_ (i := 0) (N := some 18) (v := ?_) (a' := ?_) #[true, false, false, false, false, false, false] rfl rfl (by kernel_rfl) (fun _ _ _ h => h) (Or.inl ⟨by rfl, ?_⟩) hHeld ?_ ?_
        rotate_left
        · rintro w' ⟨s0, s1, s2, s3, s4⟩
          go_simp
          first | with_reducible rfl | (rw [if_neg (by omega)]; done)
        rotate_left
        · simp only [Act.put, List.setIfInBounds_toArray, List.set_cons_zero, List.set_cons_succ, i64_w, i32_w]
          rfl
        refine take_ (i := 2) (N := some 20) (v := ?_) (a' := ?_) #[true, false, true, false, false, false, false] rfl rfl (by kernel_rfl) (fun _ _ _ h => h) (Or.inl ⟨by rfl, ?_⟩) hHeld ?_ ?_
        rotate_left
        · rintro w' ⟨s0, s1, s2, s3, s4⟩
          go_simp
          first | with_reducible rfl | (rw [if_neg (by omega)]; done)
        rotate_left
        · simp only [Act.put, List.setIfInBounds_toArray, List.set_cons_zero, List.set_cons_succ, i64_w, i32_w]
          rfl
        refine join_ (σ := Nat) 1 #[true, true, true, true, true, true, false] (fun s_ => [(19, .agg #[.string t7005, .string t7006, .string t7007]), (21, .agg #[.int .u8 t7008, .string t7009]), (22, .agg #[.string t7010, .string t7011, .string t7012]), (6, .pointer (some ⟨s_, 0, none⟩))]) (fun s_ w' => (w'.cell? ⟨gb7001, 0, none⟩ = some (.string a0_0) ∧ w'.cell? ⟨gb7001, 1, none⟩ = some (.string a0_1) ∧ w'.cell? ⟨gb7001, 2, none⟩ = some (.string a0_2) ∧ w'.cell? ⟨gb7002, 0, none⟩ = some (.int .u8 a1_0) ∧ w'.cell? ⟨gb7002, 1, none⟩ = some (.string a1_1)) ∧ (w'.heap[gb7001]? = some (.cells #[.string a0_0, .string a0_1, .string a0_2] 69 (0, 0))) ∧ (w'.heap[gb7002]? = some (.cells #[.int .u8 a1_0, .string a1_1] 56 (0, 0))) ∧ (w'.heap[s_]? = some (.cells #[.string (⟨#[]⟩ : ByteArray), .string (⟨#[]⟩ : ByteArray), .string (⟨#[]⟩ : ByteArray)] 71 (0, 0))) ∧ (w.heap.size ≤ s_) ∧ (w.heap.size ≤ s_) ∧ (gb7001 ≠ s_) ∧ (s_ ≠ gb7001) ∧ (gb7002 ≠ s_) ∧ (s_ ≠ gb7002) ∧ (Below w.heap.size w w')) ?_ ?_
        rotate_left
        · intro hCont
          refine two_ (i := 1) (j := 5) (Ni := some 19) (Nj := some 6) #[true, true, true, false, false, false, false] #[true, false, true, false, false, true, false] rfl rfl rfl rfl (by kernel_rfl) (by decide) (by decide) (fun K hK => ?_) (fun K hK => ?_)
          · skip
            refine goes_ Try.func44 (by kernel_rfl) rfl #[.agg #[.string a0_0, .string a0_1, .string a0_2]] (by rfl) rfl rfl (by (try simp only [List.map_toArray, List.map_cons, List.map_nil]); first | done | rfl | (simp only [List.length_drop, List.length_take]; rfl)) ?_
            with_reducible refine (laws_toValues.calls a0_0 a0_1 a0_2 t7005 t7006 t7007 _ A19.out).mono ?_
            rintro e w35 ⟨rfl, hb⟩
            refine ⟨_, rfl, ?_⟩
            have n0_ := Aside0.mk (blk_below (g := gb7001) (o := .cells #[.string a0_0, .string a0_1, .string a0_2] 69 (0, 0)) (by (with_reducible repeat (first | refine blk_drewN ?_ _ | refine blk_drew ?_ | refine blk_alloc ?_ _)); exact BK7001.out) hb)
            have n1_ := Aside0.mk (blk_below (g := gb7002) (o := .cells #[.int .u8 a1_0, .string a1_1] 56 (0, 0)) (by (with_reducible repeat (first | refine blk_drewN ?_ _ | refine blk_drew ?_ | refine blk_alloc ?_ _)); exact BK7002.out) hb)
            have n2_ := Aside0.mk (below_step (by repeat (first | (with_reducible first | exact HB.out | apply below_alloc | apply pw_below_drewN | apply below_drew1 | refine below_set ?_ GE7001.out | refine below_set ?_ GE7002.out) | exact HB.out)) hb)
            clear BK7001
            clear BK7002
            clear HB
            have BK7001 := n0_
            have BK7002 := n1_
            have HB := n2_
            clear n0_ n1_ n2_
            (try clear hb)
            (try clear hb2)
            (try clear hk)
            (try clear hi)
            refine hK.out _ _ ⟨(blk_cell BK7001.out 0).trans rfl, (blk_cell BK7001.out 1).trans rfl, (blk_cell BK7001.out 2).trans rfl, (blk_cell BK7002.out 0).trans rfl, (blk_cell BK7002.out 1).trans rfl⟩ (fun hHeld => ?_)
            clear hK K
            refine norm_ (a' := ?_) ?_ ?_
            rotate_left
            · show Act.put _ (some 19) _ = _
              simp only [Act.put, List.setIfInBounds_toArray, List.set_cons_zero, List.set_cons_succ, i64_w, i32_w]
              rfl
            refine two_ (i := 3) (j := 5) (Ni := some 21) (Nj := some 6) #[true, true, true, true, false, false, false] #[true, true, true, false, false, true, false] rfl rfl rfl rfl (by kernel_rfl) (by decide) (by decide) (fun K hK => ?_) (fun K hK => ?_)
            · skip
              refine goes_ Try.func37 (by kernel_rfl) rfl #[.agg #[.int .u8 a1_0, .string a1_1]] (by rfl) rfl rfl (by (try simp only [List.map_toArray, List.map_cons, List.map_nil]); first | done | rfl | (simp only [List.length_drop, List.length_take]; rfl)) ?_
              with_reducible refine (laws_toMove.calls a1_0 a1_1 t7008 t7009 _ A20.out).mono ?_
              rintro e w36 ⟨rfl, hb⟩
              refine ⟨_, rfl, ?_⟩
              have n0_ := Aside0.mk (blk_below (g := gb7001) (o := .cells #[.string a0_0, .string a0_1, .string a0_2] 69 (0, 0)) (by (with_reducible repeat (first | refine blk_drewN ?_ _ | refine blk_drew ?_ | refine blk_alloc ?_ _)); exact BK7001.out) hb)
              have n1_ := Aside0.mk (blk_below (g := gb7002) (o := .cells #[.int .u8 a1_0, .string a1_1] 56 (0, 0)) (by (with_reducible repeat (first | refine blk_drewN ?_ _ | refine blk_drew ?_ | refine blk_alloc ?_ _)); exact BK7002.out) hb)
              have n2_ := Aside0.mk (below_step (by repeat (first | (with_reducible first | exact HB.out | apply below_alloc | apply pw_below_drewN | apply below_drew1 | refine below_set ?_ GE7001.out | refine below_set ?_ GE7002.out) | exact HB.out)) hb)
              clear BK7001
              clear BK7002
              clear HB
              have BK7001 := n0_
              have BK7002 := n1_
              have HB := n2_
              clear n0_ n1_ n2_
              (try clear hb)
              (try clear hb2)
              (try clear hk)
              (try clear hi)
              refine hK.out _ _ ⟨(blk_cell BK7001.out 0).trans rfl, (blk_cell BK7001.out 1).trans rfl, (blk_cell BK7001.out 2).trans rfl, (blk_cell BK7002.out 0).trans rfl, (blk_cell BK7002.out 1).trans rfl⟩ (fun hHeld => ?_)
              clear hK K
              refine norm_ (a' := ?_) ?_ ?_
              rotate_left
              · show Act.put _ (some 21) _ = _
                simp only [Act.put, List.setIfInBounds_toArray, List.set_cons_zero, List.set_cons_succ, i64_w, i32_w]
                rfl
              refine two_ (i := 4) (j := 5) (Ni := some 22) (Nj := some 6) #[true, true, true, true, true, false, false] #[true, true, true, true, false, true, false] rfl rfl rfl rfl (by kernel_rfl) (by decide) (by decide) (fun K hK => ?_) (fun K hK => ?_)
              · skip
                refine goes_ Try.func43 (by kernel_rfl) rfl #[.agg #[.string t7005, .string t7006, .string t7007], .agg #[.int .u8 t7008, .string t7009]] (by rfl) rfl rfl (by (try simp only [List.map_toArray, List.map_cons, List.map_nil]); first | done | rfl | (simp only [List.length_drop, List.length_take]; rfl)) ?_
                with_reducible refine (spec_ReverseStep.calls t7005 t7006 t7007 t7008 t7009 t7010 t7011 t7012 _ A21.out).mono ?_
                rintro e w37 ⟨rfl, hb⟩
                refine ⟨_, rfl, ?_⟩
                have n0_ := Aside0.mk (blk_below (g := gb7001) (o := .cells #[.string a0_0, .string a0_1, .string a0_2] 69 (0, 0)) (by (with_reducible repeat (first | refine blk_drewN ?_ _ | refine blk_drew ?_ | refine blk_alloc ?_ _)); exact BK7001.out) hb)
                have n1_ := Aside0.mk (blk_below (g := gb7002) (o := .cells #[.int .u8 a1_0, .string a1_1] 56 (0, 0)) (by (with_reducible repeat (first | refine blk_drewN ?_ _ | refine blk_drew ?_ | refine blk_alloc ?_ _)); exact BK7002.out) hb)
                have n2_ := Aside0.mk (below_step (by repeat (first | (with_reducible first | exact HB.out | apply below_alloc | apply pw_below_drewN | apply below_drew1 | refine below_set ?_ GE7001.out | refine below_set ?_ GE7002.out) | exact HB.out)) hb)
                clear BK7001
                clear BK7002
                clear HB
                have BK7001 := n0_
                have BK7002 := n1_
                have HB := n2_
                clear n0_ n1_ n2_
                (try clear hb)
                (try clear hb2)
                (try clear hk)
                (try clear hi)
                refine hK.out _ _ ⟨(blk_cell BK7001.out 0).trans rfl, (blk_cell BK7001.out 1).trans rfl, (blk_cell BK7001.out 2).trans rfl, (blk_cell BK7002.out 0).trans rfl, (blk_cell BK7002.out 1).trans rfl⟩ (fun hHeld => ?_)
                clear hK K
                refine norm_ (a' := ?_) ?_ ?_
                rotate_left
                · show Act.put _ (some 22) _ = _
                  simp only [Act.put, List.setIfInBounds_toArray, List.set_cons_zero, List.set_cons_succ, i64_w, i32_w]
                  rfl
                refine one_ (i := 5) (N := some 6) #[true, true, true, true, true, true, false] rfl rfl (by kernel_rfl) (by decide) (fun K hK => ?_)
                refine box_step ?hg (N := 6) ?hd (cs := #[.string (⟨#[]⟩ : ByteArray), .string (⟨#[]⟩ : ByteArray), .string (⟨#[]⟩ : ByteArray)]) (t := 71) ?hr ?_; (case hd => rfl); (case hg => rfl); (case hr => first | (go_simp; done) | (go_simp; rfl))
                intro gb7013 hg w38 hbox hb
                have n0_ := Aside0.mk (blk_below (g := gb7001) (o := .cells #[.string a0_0, .string a0_1, .string a0_2] 69 (0, 0)) (by (with_reducible repeat (first | refine blk_drewN ?_ _ | refine blk_drew ?_ | refine blk_alloc ?_ _)); exact BK7001.out) hb)
                have n1_ := Aside0.mk (blk_below (g := gb7002) (o := .cells #[.int .u8 a1_0, .string a1_1] 56 (0, 0)) (by (with_reducible repeat (first | refine blk_drewN ?_ _ | refine blk_drew ?_ | refine blk_alloc ?_ _)); exact BK7002.out) hb)
                have n2_ := Aside0.mk (below_step (by repeat (first | (with_reducible first | exact HB.out | apply below_alloc | apply pw_below_drewN | apply below_drew1 | refine below_set ?_ GE7001.out | refine below_set ?_ GE7002.out) | exact HB.out)) hb)
                have n3_ := Aside0.mk (hbox)
                have n4_ := Aside0.mk ((by rw [hg]; exact (below_size (by repeat (first | (with_reducible first | exact HB.out | apply below_alloc | apply pw_below_drewN | apply below_drew1 | refine below_set ?_ GE7001.out | refine below_set ?_ GE7002.out) | exact HB.out))) : w.heap.size ≤ gb7013))
                have n5_ := Aside0.mk ((by rw [hg]; exact (below_size (by repeat (first | (with_reducible first | exact HB.out | apply below_alloc | apply pw_below_drewN | apply below_drew1 | refine below_set ?_ GE7001.out | refine below_set ?_ GE7002.out) | exact HB.out))) : w.heap.size ≤ gb7013))
                have n6_ := Aside0.mk ((by rw [hg]; exact Nat.ne_of_lt (blk_lt (g := gb7001) (o := .cells #[.string a0_0, .string a0_1, .string a0_2] 69 (0, 0)) (by (with_reducible repeat (first | refine blk_drewN ?_ _ | refine blk_drew ?_ | refine blk_alloc ?_ _)); exact BK7001.out)) : gb7001 ≠ gb7013))
                have n7_ := Aside0.mk ((by rw [hg]; exact Nat.ne_of_gt (blk_lt (g := gb7001) (o := .cells #[.string a0_0, .string a0_1, .string a0_2] 69 (0, 0)) (by (with_reducible repeat (first | refine blk_drewN ?_ _ | refine blk_drew ?_ | refine blk_alloc ?_ _)); exact BK7001.out)) : gb7013 ≠ gb7001))
                have n8_ := Aside0.mk ((by rw [hg]; exact Nat.ne_of_lt (blk_lt (g := gb7002) (o := .cells #[.int .u8 a1_0, .string a1_1] 56 (0, 0)) (by (with_reducible repeat (first | refine blk_drewN ?_ _ | refine blk_drew ?_ | refine blk_alloc ?_ _)); exact BK7002.out)) : gb7002 ≠ gb7013))
                have n9_ := Aside0.mk ((by rw [hg]; exact Nat.ne_of_gt (blk_lt (g := gb7002) (o := .cells #[.int .u8 a1_0, .string a1_1] 56 (0, 0)) (by (with_reducible repeat (first | refine blk_drewN ?_ _ | refine blk_drew ?_ | refine blk_alloc ?_ _)); exact BK7002.out)) : gb7013 ≠ gb7002))
                clear BK7001
                clear BK7002
                clear HB
                have BK7001 := n0_
                have BK7002 := n1_
                have HB := n2_
                have BK7013 := n3_
                have GW7013 := n4_
                have GE7013 := n5_
                have NB7001_7013 := n6_
                have NB7013_7001 := n7_
                have NB7002_7013 := n8_
                have NB7013_7002 := n9_
                clear n0_ n1_ n2_ n3_ n4_ n5_ n6_ n7_ n8_ n9_
                clear hb hbox hg
                refine hK.out _ _ ⟨(blk_cell BK7001.out 0).trans rfl, (blk_cell BK7001.out 1).trans rfl, (blk_cell BK7001.out 2).trans rfl, (blk_cell BK7002.out 0).trans rfl, (blk_cell BK7002.out 1).trans rfl⟩ (fun hHeld => ?_)
                clear hK K
                refine norm_ (a' := ?_) ?_ ?_
                rotate_left
                · show Act.put _ (some 6) _ = _
                  simp only [Act.put, List.setIfInBounds_toArray, List.set_cons_zero, List.set_cons_succ, i64_w, i32_w]
                  rfl
                exact norm_ (by simp only [putAll, Act.put, List.setIfInBounds_toArray, List.set_cons_zero, List.set_cons_succ]) (hCont (gb7013) _ ⟨hHeld, (by (with_reducible repeat (first | refine blk_drewN ?_ _ | refine blk_drew ?_ | refine blk_alloc ?_ _)); exact BK7001.out), (by (with_reducible repeat (first | refine blk_drewN ?_ _ | refine blk_drew ?_ | refine blk_alloc ?_ _)); exact BK7002.out), (by (with_reducible repeat (first | refine blk_drewN ?_ _ | refine blk_drew ?_ | refine blk_alloc ?_ _)); exact BK7013.out), GW7013.out, GE7013.out, NB7001_7013.out, NB7013_7001.out, NB7002_7013.out, NB7013_7002.out, (by repeat (first | (with_reducible first | exact HB.out | apply below_alloc | apply pw_below_drewN | apply below_drew1 | refine below_set ?_ GE7001.out | refine below_set ?_ GE7002.out | refine below_set ?_ GE7013.out) | exact HB.out))⟩)
              · skip
                refine box_step ?hg (N := 6) ?hd (cs := #[.string (⟨#[]⟩ : ByteArray), .string (⟨#[]⟩ : ByteArray), .string (⟨#[]⟩ : ByteArray)]) (t := 71) ?hr ?_; (case hd => rfl); (case hg => rfl); (case hr => first | (go_simp; done) | (go_simp; rfl))
                intro gb7013 hg w37 hbox hb
                have n0_ := Aside0.mk (blk_below (g := gb7001) (o := .cells #[.string a0_0, .string a0_1, .string a0_2] 69 (0, 0)) (by (with_reducible repeat (first | refine blk_drewN ?_ _ | refine blk_drew ?_ | refine blk_alloc ?_ _)); exact BK7001.out) hb)
                have n1_ := Aside0.mk (blk_below (g := gb7002) (o := .cells #[.int .u8 a1_0, .string a1_1] 56 (0, 0)) (by (with_reducible repeat (first | refine blk_drewN ?_ _ | refine blk_drew ?_ | refine blk_alloc ?_ _)); exact BK7002.out) hb)
                have n2_ := Aside0.mk (below_step (by repeat (first | (with_reducible first | exact HB.out | apply below_alloc | apply pw_below_drewN | apply below_drew1 | refine below_set ?_ GE7001.out | refine below_set ?_ GE7002.out) | exact HB.out)) hb)
                have n3_ := Aside0.mk (hbox)
                have n4_ := Aside0.mk ((by rw [hg]; exact (below_size (by repeat (first | (with_reducible first | exact HB.out | apply below_alloc | apply pw_below_drewN | apply below_drew1 | refine below_set ?_ GE7001.out | refine below_set ?_ GE7002.out) | exact HB.out))) : w.heap.size ≤ gb7013))
                have n5_ := Aside0.mk ((by rw [hg]; exact (below_size (by repeat (first | (with_reducible first | exact HB.out | apply below_alloc | apply pw_below_drewN | apply below_drew1 | refine below_set ?_ GE7001.out | refine below_set ?_ GE7002.out) | exact HB.out))) : w.heap.size ≤ gb7013))
                have n6_ := Aside0.mk ((by rw [hg]; exact Nat.ne_of_lt (blk_lt (g := gb7001) (o := .cells #[.string a0_0, .string a0_1, .string a0_2] 69 (0, 0)) (by (with_reducible repeat (first | refine blk_drewN ?_ _ | refine blk_drew ?_ | refine blk_alloc ?_ _)); exact BK7001.out)) : gb7001 ≠ gb7013))
                have n7_ := Aside0.mk ((by rw [hg]; exact Nat.ne_of_gt (blk_lt (g := gb7001) (o := .cells #[.string a0_0, .string a0_1, .string a0_2] 69 (0, 0)) (by (with_reducible repeat (first | refine blk_drewN ?_ _ | refine blk_drew ?_ | refine blk_alloc ?_ _)); exact BK7001.out)) : gb7013 ≠ gb7001))
                have n8_ := Aside0.mk ((by rw [hg]; exact Nat.ne_of_lt (blk_lt (g := gb7002) (o := .cells #[.int .u8 a1_0, .string a1_1] 56 (0, 0)) (by (with_reducible repeat (first | refine blk_drewN ?_ _ | refine blk_drew ?_ | refine blk_alloc ?_ _)); exact BK7002.out)) : gb7002 ≠ gb7013))
                have n9_ := Aside0.mk ((by rw [hg]; exact Nat.ne_of_gt (blk_lt (g := gb7002) (o := .cells #[.int .u8 a1_0, .string a1_1] 56 (0, 0)) (by (with_reducible repeat (first | refine blk_drewN ?_ _ | refine blk_drew ?_ | refine blk_alloc ?_ _)); exact BK7002.out)) : gb7013 ≠ gb7002))
                clear BK7001
                clear BK7002
                clear HB
                have BK7001 := n0_
                have BK7002 := n1_
                have HB := n2_
                have BK7013 := n3_
                have GW7013 := n4_
                have GE7013 := n5_
                have NB7001_7013 := n6_
                have NB7013_7001 := n7_
                have NB7002_7013 := n8_
                have NB7013_7002 := n9_
                clear n0_ n1_ n2_ n3_ n4_ n5_ n6_ n7_ n8_ n9_
                clear hb hbox hg
                refine hK.out _ _ ⟨(blk_cell BK7001.out 0).trans rfl, (blk_cell BK7001.out 1).trans rfl, (blk_cell BK7001.out 2).trans rfl, (blk_cell BK7002.out 0).trans rfl, (blk_cell BK7002.out 1).trans rfl⟩ (fun hHeld => ?_)
                clear hK K
                refine norm_ (a' := ?_) ?_ ?_
                rotate_left
                · show Act.put _ (some 6) _ = _
                  simp only [Act.put, List.setIfInBounds_toArray, List.set_cons_zero, List.set_cons_succ, i64_w, i32_w]
                  rfl
                refine one_ (i := 4) (N := some 22) #[true, true, true, true, true, true, false] rfl rfl (by kernel_rfl) (by decide) (fun K hK => ?_)
                refine goes_ Try.func43 (by kernel_rfl) rfl #[.agg #[.string t7005, .string t7006, .string t7007], .agg #[.int .u8 t7008, .string t7009]] (by rfl) rfl rfl (by (try simp only [List.map_toArray, List.map_cons, List.map_nil]); first | done | rfl | (simp only [List.length_drop, List.length_take]; rfl)) ?_
                with_reducible refine (spec_ReverseStep.calls t7005 t7006 t7007 t7008 t7009 t7010 t7011 t7012 _ A21.out).mono ?_
                rintro e w38 ⟨rfl, hb⟩
                refine ⟨_, rfl, ?_⟩
                have n0_ := Aside0.mk (blk_below (g := gb7001) (o := .cells #[.string a0_0, .string a0_1, .string a0_2] 69 (0, 0)) (by (with_reducible repeat (first | refine blk_drewN ?_ _ | refine blk_drew ?_ | refine blk_alloc ?_ _)); exact BK7001.out) hb)
                have n1_ := Aside0.mk (blk_below (g := gb7002) (o := .cells #[.int .u8 a1_0, .string a1_1] 56 (0, 0)) (by (with_reducible repeat (first | refine blk_drewN ?_ _ | refine blk_drew ?_ | refine blk_alloc ?_ _)); exact BK7002.out) hb)
                have n2_ := Aside0.mk (blk_below (g := gb7013) (o := .cells #[.string (⟨#[]⟩ : ByteArray), .string (⟨#[]⟩ : ByteArray), .string (⟨#[]⟩ : ByteArray)] 71 (0, 0)) (by (with_reducible repeat (first | refine blk_drewN ?_ _ | refine blk_drew ?_ | refine blk_alloc ?_ _)); exact BK7013.out) hb)
                have n3_ := Aside0.mk (below_step (by repeat (first | (with_reducible first | exact HB.out | apply below_alloc | apply pw_below_drewN | apply below_drew1 | refine below_set ?_ GE7001.out | refine below_set ?_ GE7002.out | refine below_set ?_ GE7013.out) | exact HB.out)) hb)
                clear BK7001
                clear BK7002
                clear BK7013
                clear HB
                have BK7001 := n0_
                have BK7002 := n1_
                have BK7013 := n2_
                have HB := n3_
                clear n0_ n1_ n2_ n3_
                (try clear hb)
                (try clear hb2)
                (try clear hk)
                (try clear hi)
                refine hK.out _ _ ⟨(blk_cell BK7001.out 0).trans rfl, (blk_cell BK7001.out 1).trans rfl, (blk_cell BK7001.out 2).trans rfl, (blk_cell BK7002.out 0).trans rfl, (blk_cell BK7002.out 1).trans rfl⟩ (fun hHeld => ?_)
                clear hK K
                refine norm_ (a' := ?_) ?_ ?_
                rotate_left
                · show Act.put _ (some 22) _ = _
                  simp only [Act.put, List.setIfInBounds_toArray, List.set_cons_zero, List.set_cons_succ, i64_w, i32_w]
                  rfl
                exact norm_ (by simp only [putAll, Act.put, List.setIfInBounds_toArray, List.set_cons_zero, List.set_cons_succ]) (hCont (gb7013) _ ⟨hHeld, (by (with_reducible repeat (first | refine blk_drewN ?_ _ | refine blk_drew ?_ | refine blk_alloc ?_ _)); exact BK7001.out), (by (with_reducible repeat (first | refine blk_drewN ?_ _ | refine blk_drew ?_ | refine blk_alloc ?_ _)); exact BK7002.out), (by (with_reducible repeat (first | refine blk_drewN ?_ _ | refine blk_drew ?_ | refine blk_alloc ?_ _)); exact BK7013.out), GW7013.out, GE7013.out, NB7001_7013.out, NB7013_7001.out, NB7002_7013.out, NB7013_7002.out, (by repeat (first | (with_reducible first | exact HB.out | apply below_alloc | apply pw_below_drewN | apply below_drew1 | refine below_set ?_ GE7001.out | refine below_set ?_ GE7002.out | refine below_set ?_ GE7013.out) | exact HB.out))⟩)
            · skip
              refine box_step ?hg (N := 6) ?hd (cs := #[.string (⟨#[]⟩ : ByteArray), .string (⟨#[]⟩ : ByteArray), .string (⟨#[]⟩ : ByteArray)]) (t := 71) ?hr ?_; (case hd => rfl); (case hg => rfl); (case hr => first | (go_simp; done) | (go_simp; rfl))
              intro gb7013 hg w36 hbox hb
              have n0_ := Aside0.mk (blk_below (g := gb7001) (o := .cells #[.string a0_0, .string a0_1, .string a0_2] 69 (0, 0)) (by (with_reducible repeat (first | refine blk_drewN ?_ _ | refine blk_drew ?_ | refine blk_alloc ?_ _)); exact BK7001.out) hb)
              have n1_ := Aside0.mk (blk_below (g := gb7002) (o := .cells #[.int .u8 a1_0, .string a1_1] 56 (0, 0)) (by (with_reducible repeat (first | refine blk_drewN ?_ _ | refine blk_drew ?_ | refine blk_alloc ?_ _)); exact BK7002.out) hb)
              have n2_ := Aside0.mk (below_step (by repeat (first | (with_reducible first | exact HB.out | apply below_alloc | apply pw_below_drewN | apply below_drew1 | refine below_set ?_ GE7001.out | refine below_set ?_ GE7002.out) | exact HB.out)) hb)
              have n3_ := Aside0.mk (hbox)
              have n4_ := Aside0.mk ((by rw [hg]; exact (below_size (by repeat (first | (with_reducible first | exact HB.out | apply below_alloc | apply pw_below_drewN | apply below_drew1 | refine below_set ?_ GE7001.out | refine below_set ?_ GE7002.out) | exact HB.out))) : w.heap.size ≤ gb7013))
              have n5_ := Aside0.mk ((by rw [hg]; exact (below_size (by repeat (first | (with_reducible first | exact HB.out | apply below_alloc | apply pw_below_drewN | apply below_drew1 | refine below_set ?_ GE7001.out | refine below_set ?_ GE7002.out) | exact HB.out))) : w.heap.size ≤ gb7013))
              have n6_ := Aside0.mk ((by rw [hg]; exact Nat.ne_of_lt (blk_lt (g := gb7001) (o := .cells #[.string a0_0, .string a0_1, .string a0_2] 69 (0, 0)) (by (with_reducible repeat (first | refine blk_drewN ?_ _ | refine blk_drew ?_ | refine blk_alloc ?_ _)); exact BK7001.out)) : gb7001 ≠ gb7013))
              have n7_ := Aside0.mk ((by rw [hg]; exact Nat.ne_of_gt (blk_lt (g := gb7001) (o := .cells #[.string a0_0, .string a0_1, .string a0_2] 69 (0, 0)) (by (with_reducible repeat (first | refine blk_drewN ?_ _ | refine blk_drew ?_ | refine blk_alloc ?_ _)); exact BK7001.out)) : gb7013 ≠ gb7001))
              have n8_ := Aside0.mk ((by rw [hg]; exact Nat.ne_of_lt (blk_lt (g := gb7002) (o := .cells #[.int .u8 a1_0, .string a1_1] 56 (0, 0)) (by (with_reducible repeat (first | refine blk_drewN ?_ _ | refine blk_drew ?_ | refine blk_alloc ?_ _)); exact BK7002.out)) : gb7002 ≠ gb7013))
              have n9_ := Aside0.mk ((by rw [hg]; exact Nat.ne_of_gt (blk_lt (g := gb7002) (o := .cells #[.int .u8 a1_0, .string a1_1] 56 (0, 0)) (by (with_reducible repeat (first | refine blk_drewN ?_ _ | refine blk_drew ?_ | refine blk_alloc ?_ _)); exact BK7002.out)) : gb7013 ≠ gb7002))
              clear BK7001
              clear BK7002
              clear HB
              have BK7001 := n0_
              have BK7002 := n1_
              have HB := n2_
              have BK7013 := n3_
              have GW7013 := n4_
              have GE7013 := n5_
              have NB7001_7013 := n6_
              have NB7013_7001 := n7_
              have NB7002_7013 := n8_
              have NB7013_7002 := n9_
              clear n0_ n1_ n2_ n3_ n4_ n5_ n6_ n7_ n8_ n9_
              clear hb hbox hg
              refine hK.out _ _ ⟨(blk_cell BK7001.out 0).trans rfl, (blk_cell BK7001.out 1).trans rfl, (blk_cell BK7001.out 2).trans rfl, (blk_cell BK7002.out 0).trans rfl, (blk_cell BK7002.out 1).trans rfl⟩ (fun hHeld => ?_)
              clear hK K
              refine norm_ (a' := ?_) ?_ ?_
              rotate_left
              · show Act.put _ (some 6) _ = _
                simp only [Act.put, List.setIfInBounds_toArray, List.set_cons_zero, List.set_cons_succ, i64_w, i32_w]
                rfl
              refine one_ (i := 3) (N := some 21) #[true, true, true, true, false, true, false] rfl rfl (by kernel_rfl) (by decide) (fun K hK => ?_)
              refine goes_ Try.func37 (by kernel_rfl) rfl #[.agg #[.int .u8 a1_0, .string a1_1]] (by rfl) rfl rfl (by (try simp only [List.map_toArray, List.map_cons, List.map_nil]); first | done | rfl | (simp only [List.length_drop, List.length_take]; rfl)) ?_
              with_reducible refine (laws_toMove.calls a1_0 a1_1 t7008 t7009 _ A20.out).mono ?_
              rintro e w37 ⟨rfl, hb⟩
              refine ⟨_, rfl, ?_⟩
              have n0_ := Aside0.mk (blk_below (g := gb7001) (o := .cells #[.string a0_0, .string a0_1, .string a0_2] 69 (0, 0)) (by (with_reducible repeat (first | refine blk_drewN ?_ _ | refine blk_drew ?_ | refine blk_alloc ?_ _)); exact BK7001.out) hb)
              have n1_ := Aside0.mk (blk_below (g := gb7002) (o := .cells #[.int .u8 a1_0, .string a1_1] 56 (0, 0)) (by (with_reducible repeat (first | refine blk_drewN ?_ _ | refine blk_drew ?_ | refine blk_alloc ?_ _)); exact BK7002.out) hb)
              have n2_ := Aside0.mk (blk_below (g := gb7013) (o := .cells #[.string (⟨#[]⟩ : ByteArray), .string (⟨#[]⟩ : ByteArray), .string (⟨#[]⟩ : ByteArray)] 71 (0, 0)) (by (with_reducible repeat (first | refine blk_drewN ?_ _ | refine blk_drew ?_ | refine blk_alloc ?_ _)); exact BK7013.out) hb)
              have n3_ := Aside0.mk (below_step (by repeat (first | (with_reducible first | exact HB.out | apply below_alloc | apply pw_below_drewN | apply below_drew1 | refine below_set ?_ GE7001.out | refine below_set ?_ GE7002.out | refine below_set ?_ GE7013.out) | exact HB.out)) hb)
              clear BK7001
              clear BK7002
              clear BK7013
              clear HB
              have BK7001 := n0_
              have BK7002 := n1_
              have BK7013 := n2_
              have HB := n3_
              clear n0_ n1_ n2_ n3_
              (try clear hb)
              (try clear hb2)
              (try clear hk)
              (try clear hi)
              refine hK.out _ _ ⟨(blk_cell BK7001.out 0).trans rfl, (blk_cell BK7001.out 1).trans rfl, (blk_cell BK7001.out 2).trans rfl, (blk_cell BK7002.out 0).trans rfl, (blk_cell BK7002.out 1).trans rfl⟩ (fun hHeld => ?_)
              clear hK K
              refine norm_ (a' := ?_) ?_ ?_
              rotate_left
              · show Act.put _ (some 21) _ = _
                simp only [Act.put, List.setIfInBounds_toArray, List.set_cons_zero, List.set_cons_succ, i64_w, i32_w]
                rfl
              refine one_ (i := 4) (N := some 22) #[true, true, true, true, true, true, false] rfl rfl (by kernel_rfl) (by decide) (fun K hK => ?_)
              refine goes_ Try.func43 (by kernel_rfl) rfl #[.agg #[.string t7005, .string t7006, .string t7007], .agg #[.int .u8 t7008, .string t7009]] (by rfl) rfl rfl (by (try simp only [List.map_toArray, List.map_cons, List.map_nil]); first | done | rfl | (simp only [List.length_drop, List.length_take]; rfl)) ?_
              with_reducible refine (spec_ReverseStep.calls t7005 t7006 t7007 t7008 t7009 t7010 t7011 t7012 _ A21.out).mono ?_
              rintro e w38 ⟨rfl, hb⟩
              refine ⟨_, rfl, ?_⟩
              have n0_ := Aside0.mk (blk_below (g := gb7001) (o := .cells #[.string a0_0, .string a0_1, .string a0_2] 69 (0, 0)) (by (with_reducible repeat (first | refine blk_drewN ?_ _ | refine blk_drew ?_ | refine blk_alloc ?_ _)); exact BK7001.out) hb)
              have n1_ := Aside0.mk (blk_below (g := gb7002) (o := .cells #[.int .u8 a1_0, .string a1_1] 56 (0, 0)) (by (with_reducible repeat (first | refine blk_drewN ?_ _ | refine blk_drew ?_ | refine blk_alloc ?_ _)); exact BK7002.out) hb)
              have n2_ := Aside0.mk (blk_below (g := gb7013) (o := .cells #[.string (⟨#[]⟩ : ByteArray), .string (⟨#[]⟩ : ByteArray), .string (⟨#[]⟩ : ByteArray)] 71 (0, 0)) (by (with_reducible repeat (first | refine blk_drewN ?_ _ | refine blk_drew ?_ | refine blk_alloc ?_ _)); exact BK7013.out) hb)
              have n3_ := Aside0.mk (below_step (by repeat (first | (with_reducible first | exact HB.out | apply below_alloc | apply pw_below_drewN | apply below_drew1 | refine below_set ?_ GE7001.out | refine below_set ?_ GE7002.out | refine below_set ?_ GE7013.out) | exact HB.out)) hb)
              clear BK7001
              clear BK7002
              clear BK7013
              clear HB
              have BK7001 := n0_
              have BK7002 := n1_
              have BK7013 := n2_
              have HB := n3_
              clear n0_ n1_ n2_ n3_
              (try clear hb)
              (try clear hb2)
              (try clear hk)
              (try clear hi)
              refine hK.out _ _ ⟨(blk_cell BK7001.out 0).trans rfl, (blk_cell BK7001.out 1).trans rfl, (blk_cell BK7001.out 2).trans rfl, (blk_cell BK7002.out 0).trans rfl, (blk_cell BK7002.out 1).trans rfl⟩ (fun hHeld => ?_)
              clear hK K
              refine norm_ (a' := ?_) ?_ ?_
              rotate_left
              · show Act.put _ (some 22) _ = _
                simp only [Act.put, List.setIfInBounds_toArray, List.set_cons_zero, List.set_cons_succ, i64_w, i32_w]
                rfl
              exact norm_ (by simp only [putAll, Act.put, List.setIfInBounds_toArray, List.set_cons_zero, List.set_cons_succ]) (hCont (gb7013) _ ⟨hHeld, (by (with_reducible repeat (first | refine blk_drewN ?_ _ | refine blk_drew ?_ | refine blk_alloc ?_ _)); exact BK7001.out), (by (with_reducible repeat (first | refine blk_drewN ?_ _ | refine blk_drew ?_ | refine blk_alloc ?_ _)); exact BK7002.out), (by (with_reducible repeat (first | refine blk_drewN ?_ _ | refine blk_drew ?_ | refine blk_alloc ?_ _)); exact BK7013.out), GW7013.out, GE7013.out, NB7001_7013.out, NB7013_7001.out, NB7002_7013.out, NB7013_7002.out, (by repeat (first | (with_reducible first | exact HB.out | apply below_alloc | apply pw_below_drewN | apply below_drew1 | refine below_set ?_ GE7001.out | refine below_set ?_ GE7002.out | refine below_set ?_ GE7013.out) | exact HB.out))⟩)
          · skip
            refine box_step ?hg (N := 6) ?hd (cs := #[.string (⟨#[]⟩ : ByteArray), .string (⟨#[]⟩ : ByteArray), .string (⟨#[]⟩ : ByteArray)]) (t := 71) ?hr ?_; (case hd => rfl); (case hg => rfl); (case hr => first | (go_simp; done) | (go_simp; rfl))
            intro gb7013 hg w35 hbox hb
            have n0_ := Aside0.mk (blk_below (g := gb7001) (o := .cells #[.string a0_0, .string a0_1, .string a0_2] 69 (0, 0)) (by (with_reducible repeat (first | refine blk_drewN ?_ _ | refine blk_drew ?_ | refine blk_alloc ?_ _)); exact BK7001.out) hb)
            have n1_ := Aside0.mk (blk_below (g := gb7002) (o := .cells #[.int .u8 a1_0, .string a1_1] 56 (0, 0)) (by (with_reducible repeat (first | refine blk_drewN ?_ _ | refine blk_drew ?_ | refine blk_alloc ?_ _)); exact BK7002.out) hb)
            have n2_ := Aside0.mk (below_step (by repeat (first | (with_reducible first | exact HB.out | apply below_alloc | apply pw_below_drewN | apply below_drew1 | refine below_set ?_ GE7001.out | refine below_set ?_ GE7002.out) | exact HB.out)) hb)
            have n3_ := Aside0.mk (hbox)
            have n4_ := Aside0.mk ((by rw [hg]; exact (below_size (by repeat (first | (with_reducible first | exact HB.out | apply below_alloc | apply pw_below_drewN | apply below_drew1 | refine below_set ?_ GE7001.out | refine below_set ?_ GE7002.out) | exact HB.out))) : w.heap.size ≤ gb7013))
            have n5_ := Aside0.mk ((by rw [hg]; exact (below_size (by repeat (first | (with_reducible first | exact HB.out | apply below_alloc | apply pw_below_drewN | apply below_drew1 | refine below_set ?_ GE7001.out | refine below_set ?_ GE7002.out) | exact HB.out))) : w.heap.size ≤ gb7013))
            have n6_ := Aside0.mk ((by rw [hg]; exact Nat.ne_of_lt (blk_lt (g := gb7001) (o := .cells #[.string a0_0, .string a0_1, .string a0_2] 69 (0, 0)) (by (with_reducible repeat (first | refine blk_drewN ?_ _ | refine blk_drew ?_ | refine blk_alloc ?_ _)); exact BK7001.out)) : gb7001 ≠ gb7013))
            have n7_ := Aside0.mk ((by rw [hg]; exact Nat.ne_of_gt (blk_lt (g := gb7001) (o := .cells #[.string a0_0, .string a0_1, .string a0_2] 69 (0, 0)) (by (with_reducible repeat (first | refine blk_drewN ?_ _ | refine blk_drew ?_ | refine blk_alloc ?_ _)); exact BK7001.out)) : gb7013 ≠ gb7001))
            have n8_ := Aside0.mk ((by rw [hg]; exact Nat.ne_of_lt (blk_lt (g := gb7002) (o := .cells #[.int .u8 a1_0, .string a1_1] 56 (0, 0)) (by (with_reducible repeat (first | refine blk_drewN ?_ _ | refine blk_drew ?_ | refine blk_alloc ?_ _)); exact BK7002.out)) : gb7002 ≠ gb7013))
            have n9_ := Aside0.mk ((by rw [hg]; exact Nat.ne_of_gt (blk_lt (g := gb7002) (o := .cells #[.int .u8 a1_0, .string a1_1] 56 (0, 0)) (by (with_reducible repeat (first | refine blk_drewN ?_ _ | refine blk_drew ?_ | refine blk_alloc ?_ _)); exact BK7002.out)) : gb7013 ≠ gb7002))
            clear BK7001
            clear BK7002
            clear HB
            have BK7001 := n0_
            have BK7002 := n1_
            have HB := n2_
            have BK7013 := n3_
            have GW7013 := n4_
            have GE7013 := n5_
            have NB7001_7013 := n6_
            have NB7013_7001 := n7_
            have NB7002_7013 := n8_
            have NB7013_7002 := n9_
            clear n0_ n1_ n2_ n3_ n4_ n5_ n6_ n7_ n8_ n9_
            clear hb hbox hg
            refine hK.out _ _ ⟨(blk_cell BK7001.out 0).trans rfl, (blk_cell BK7001.out 1).trans rfl, (blk_cell BK7001.out 2).trans rfl, (blk_cell BK7002.out 0).trans rfl, (blk_cell BK7002.out 1).trans rfl⟩ (fun hHeld => ?_)
            clear hK K
            refine norm_ (a' := ?_) ?_ ?_
            rotate_left
            · show Act.put _ (some 6) _ = _
              simp only [Act.put, List.setIfInBounds_toArray, List.set_cons_zero, List.set_cons_succ, i64_w, i32_w]
              rfl
            refine one_ (i := 1) (N := some 19) #[true, true, true, false, false, true, false] rfl rfl (by kernel_rfl) (by decide) (fun K hK => ?_)
            refine goes_ Try.func44 (by kernel_rfl) rfl #[.agg #[.string a0_0, .string a0_1, .string a0_2]] (by rfl) rfl rfl (by (try simp only [List.map_toArray, List.map_cons, List.map_nil]); first | done | rfl | (simp only [List.length_drop, List.length_take]; rfl)) ?_
            with_reducible refine (laws_toValues.calls a0_0 a0_1 a0_2 t7005 t7006 t7007 _ A19.out).mono ?_
            rintro e w36 ⟨rfl, hb⟩
            refine ⟨_, rfl, ?_⟩
            have n0_ := Aside0.mk (blk_below (g := gb7001) (o := .cells #[.string a0_0, .string a0_1, .string a0_2] 69 (0, 0)) (by (with_reducible repeat (first | refine blk_drewN ?_ _ | refine blk_drew ?_ | refine blk_alloc ?_ _)); exact BK7001.out) hb)
            have n1_ := Aside0.mk (blk_below (g := gb7002) (o := .cells #[.int .u8 a1_0, .string a1_1] 56 (0, 0)) (by (with_reducible repeat (first | refine blk_drewN ?_ _ | refine blk_drew ?_ | refine blk_alloc ?_ _)); exact BK7002.out) hb)
            have n2_ := Aside0.mk (blk_below (g := gb7013) (o := .cells #[.string (⟨#[]⟩ : ByteArray), .string (⟨#[]⟩ : ByteArray), .string (⟨#[]⟩ : ByteArray)] 71 (0, 0)) (by (with_reducible repeat (first | refine blk_drewN ?_ _ | refine blk_drew ?_ | refine blk_alloc ?_ _)); exact BK7013.out) hb)
            have n3_ := Aside0.mk (below_step (by repeat (first | (with_reducible first | exact HB.out | apply below_alloc | apply pw_below_drewN | apply below_drew1 | refine below_set ?_ GE7001.out | refine below_set ?_ GE7002.out | refine below_set ?_ GE7013.out) | exact HB.out)) hb)
            clear BK7001
            clear BK7002
            clear BK7013
            clear HB
            have BK7001 := n0_
            have BK7002 := n1_
            have BK7013 := n2_
            have HB := n3_
            clear n0_ n1_ n2_ n3_
            (try clear hb)
            (try clear hb2)
            (try clear hk)
            (try clear hi)
            refine hK.out _ _ ⟨(blk_cell BK7001.out 0).trans rfl, (blk_cell BK7001.out 1).trans rfl, (blk_cell BK7001.out 2).trans rfl, (blk_cell BK7002.out 0).trans rfl, (blk_cell BK7002.out 1).trans rfl⟩ (fun hHeld => ?_)
            clear hK K
            refine norm_ (a' := ?_) ?_ ?_
            rotate_left
            · show Act.put _ (some 19) _ = _
              simp only [Act.put, List.setIfInBounds_toArray, List.set_cons_zero, List.set_cons_succ, i64_w, i32_w]
              rfl
            refine one_ (i := 3) (N := some 21) #[true, true, true, true, false, true, false] rfl rfl (by kernel_rfl) (by decide) (fun K hK => ?_)
            refine goes_ Try.func37 (by kernel_rfl) rfl #[.agg #[.int .u8 a1_0, .string a1_1]] (by rfl) rfl rfl (by (try simp only [List.map_toArray, List.map_cons, List.map_nil]); first | done | rfl | (simp only [List.length_drop, List.length_take]; rfl)) ?_
            with_reducible refine (laws_toMove.calls a1_0 a1_1 t7008 t7009 _ A20.out).mono ?_
            rintro e w37 ⟨rfl, hb⟩
            refine ⟨_, rfl, ?_⟩
            have n0_ := Aside0.mk (blk_below (g := gb7001) (o := .cells #[.string a0_0, .string a0_1, .string a0_2] 69 (0, 0)) (by (with_reducible repeat (first | refine blk_drewN ?_ _ | refine blk_drew ?_ | refine blk_alloc ?_ _)); exact BK7001.out) hb)
            have n1_ := Aside0.mk (blk_below (g := gb7002) (o := .cells #[.int .u8 a1_0, .string a1_1] 56 (0, 0)) (by (with_reducible repeat (first | refine blk_drewN ?_ _ | refine blk_drew ?_ | refine blk_alloc ?_ _)); exact BK7002.out) hb)
            have n2_ := Aside0.mk (blk_below (g := gb7013) (o := .cells #[.string (⟨#[]⟩ : ByteArray), .string (⟨#[]⟩ : ByteArray), .string (⟨#[]⟩ : ByteArray)] 71 (0, 0)) (by (with_reducible repeat (first | refine blk_drewN ?_ _ | refine blk_drew ?_ | refine blk_alloc ?_ _)); exact BK7013.out) hb)
            have n3_ := Aside0.mk (below_step (by repeat (first | (with_reducible first | exact HB.out | apply below_alloc | apply pw_below_drewN | apply below_drew1 | refine below_set ?_ GE7001.out | refine below_set ?_ GE7002.out | refine below_set ?_ GE7013.out) | exact HB.out)) hb)
            clear BK7001
            clear BK7002
            clear BK7013
            clear HB
            have BK7001 := n0_
            have BK7002 := n1_
            have BK7013 := n2_
            have HB := n3_
            clear n0_ n1_ n2_ n3_
            (try clear hb)
            (try clear hb2)
            (try clear hk)
            (try clear hi)
            refine hK.out _ _ ⟨(blk_cell BK7001.out 0).trans rfl, (blk_cell BK7001.out 1).trans rfl, (blk_cell BK7001.out 2).trans rfl, (blk_cell BK7002.out 0).trans rfl, (blk_cell BK7002.out 1).trans rfl⟩ (fun hHeld => ?_)
            clear hK K
            refine norm_ (a' := ?_) ?_ ?_
            rotate_left
            · show Act.put _ (some 21) _ = _
              simp only [Act.put, List.setIfInBounds_toArray, List.set_cons_zero, List.set_cons_succ, i64_w, i32_w]
              rfl
            refine one_ (i := 4) (N := some 22) #[true, true, true, true, true, true, false] rfl rfl (by kernel_rfl) (by decide) (fun K hK => ?_)
            refine goes_ Try.func43 (by kernel_rfl) rfl #[.agg #[.string t7005, .string t7006, .string t7007], .agg #[.int .u8 t7008, .string t7009]] (by rfl) rfl rfl (by (try simp only [List.map_toArray, List.map_cons, List.map_nil]); first | done | rfl | (simp only [List.length_drop, List.length_take]; rfl)) ?_
            with_reducible refine (spec_ReverseStep.calls t7005 t7006 t7007 t7008 t7009 t7010 t7011 t7012 _ A21.out).mono ?_
            rintro e w38 ⟨rfl, hb⟩
            refine ⟨_, rfl, ?_⟩
            have n0_ := Aside0.mk (blk_below (g := gb7001) (o := .cells #[.string a0_0, .string a0_1, .string a0_2] 69 (0, 0)) (by (with_reducible repeat (first | refine blk_drewN ?_ _ | refine blk_drew ?_ | refine blk_alloc ?_ _)); exact BK7001.out) hb)
            have n1_ := Aside0.mk (blk_below (g := gb7002) (o := .cells #[.int .u8 a1_0, .string a1_1] 56 (0, 0)) (by (with_reducible repeat (first | refine blk_drewN ?_ _ | refine blk_drew ?_ | refine blk_alloc ?_ _)); exact BK7002.out) hb)
            have n2_ := Aside0.mk (blk_below (g := gb7013) (o := .cells #[.string (⟨#[]⟩ : ByteArray), .string (⟨#[]⟩ : ByteArray), .string (⟨#[]⟩ : ByteArray)] 71 (0, 0)) (by (with_reducible repeat (first | refine blk_drewN ?_ _ | refine blk_drew ?_ | refine blk_alloc ?_ _)); exact BK7013.out) hb)
            have n3_ := Aside0.mk (below_step (by repeat (first | (with_reducible first | exact HB.out | apply below_alloc | apply pw_below_drewN | apply below_drew1 | refine below_set ?_ GE7001.out | refine below_set ?_ GE7002.out | refine below_set ?_ GE7013.out) | exact HB.out)) hb)
            clear BK7001
            clear BK7002
            clear BK7013
            clear HB
            have BK7001 := n0_
            have BK7002 := n1_
            have BK7013 := n2_
            have HB := n3_
            clear n0_ n1_ n2_ n3_
            (try clear hb)
            (try clear hb2)
            (try clear hk)
            (try clear hi)
            refine hK.out _ _ ⟨(blk_cell BK7001.out 0).trans rfl, (blk_cell BK7001.out 1).trans rfl, (blk_cell BK7001.out 2).trans rfl, (blk_cell BK7002.out 0).trans rfl, (blk_cell BK7002.out 1).trans rfl⟩ (fun hHeld => ?_)
            clear hK K
            refine norm_ (a' := ?_) ?_ ?_
            rotate_left
            · show Act.put _ (some 22) _ = _
              simp only [Act.put, List.setIfInBounds_toArray, List.set_cons_zero, List.set_cons_succ, i64_w, i32_w]
              rfl
            exact norm_ (by simp only [putAll, Act.put, List.setIfInBounds_toArray, List.set_cons_zero, List.set_cons_succ]) (hCont (gb7013) _ ⟨hHeld, (by (with_reducible repeat (first | refine blk_drewN ?_ _ | refine blk_drew ?_ | refine blk_alloc ?_ _)); exact BK7001.out), (by (with_reducible repeat (first | refine blk_drewN ?_ _ | refine blk_drew ?_ | refine blk_alloc ?_ _)); exact BK7002.out), (by (with_reducible repeat (first | refine blk_drewN ?_ _ | refine blk_drew ?_ | refine blk_alloc ?_ _)); exact BK7013.out), GW7013.out, GE7013.out, NB7001_7013.out, NB7013_7001.out, NB7002_7013.out, NB7013_7002.out, (by repeat (first | (with_reducible first | exact HB.out | apply below_alloc | apply pw_below_drewN | apply below_drew1 | refine below_set ?_ GE7001.out | refine below_set ?_ GE7002.out | refine below_set ?_ GE7013.out) | exact HB.out))⟩)
        rintro gb7013 w39 ⟨hS_, h0_, h1_, h2_, h3_, h4_, h5_, h6_, h7_, h8_, h9_⟩
        have n0_ : Aside0 (w39.heap[gb7001]? = some (.cells #[.string a0_0, .string a0_1, .string a0_2] 69 (0, 0))) := ⟨h0_⟩
        have n1_ : Aside0 (w39.heap[gb7002]? = some (.cells #[.int .u8 a1_0, .string a1_1] 56 (0, 0))) := ⟨h1_⟩
        have n2_ : Aside0 (w39.heap[gb7013]? = some (.cells #[.string (⟨#[]⟩ : ByteArray), .string (⟨#[]⟩ : ByteArray), .string (⟨#[]⟩ : ByteArray)] 71 (0, 0))) := ⟨h2_⟩
        have n3_ : Aside0 (w.heap.size ≤ gb7013) := ⟨h3_⟩
        have n4_ : Aside0 (w.heap.size ≤ gb7013) := ⟨h4_⟩
        have n5_ : Aside0 (gb7001 ≠ gb7013) := ⟨h5_⟩
        have n6_ : Aside0 (gb7013 ≠ gb7001) := ⟨h6_⟩
        have n7_ : Aside0 (gb7002 ≠ gb7013) := ⟨h7_⟩
        have n8_ : Aside0 (gb7013 ≠ gb7002) := ⟨h8_⟩
        have n9_ : Aside0 (Below w.heap.size w w39) := ⟨h9_⟩
        clear BK7001
        clear BK7002
        clear HB
        clear h0_ h1_ h2_ h3_ h4_ h5_ h6_ h7_ h8_ h9_
        have BK7001 := n0_
        have BK7002 := n1_
        have BK7013 := n2_
        have GW7013 := n3_
        have GE7013 := n4_
        have NB7001_7013 := n5_
        have NB7013_7001 := n6_
        have NB7002_7013 := n7_
        have NB7013_7002 := n8_
        have HB := n9_
        clear n0_ n1_ n2_ n3_ n4_ n5_ n6_ n7_ n8_ n9_
        have hHeld : w39.cell? ⟨gb7001, 0, none⟩ = some (.string a0_0) ∧ w39.cell? ⟨gb7001, 1, none⟩ = some (.string a0_1) ∧ w39.cell? ⟨gb7001, 2, none⟩ = some (.string a0_2) ∧ w39.cell? ⟨gb7002, 0, none⟩ = some (.int .u8 a1_0) ∧ w39.cell? ⟨gb7002, 1, none⟩ = some (.string a1_1) := hS_
        refine norm_ (a' := ?_) ?_ ?_
        rotate_left
        · simp only [putAll, Act.put, List.setIfInBounds_toArray, List.set_cons_zero, List.set_cons_succ]
          rfl
        refine one_ (i := 6) (N := none) #[true, true, true, true, true, true, true] rfl rfl (by kernel_rfl) (by decide) (fun K hK => ?_)
        have hs40 : w39.cell? ⟨gb7013, 0, none⟩ = some (.string (⟨#[]⟩ : ByteArray)) := (blk_cell BK7013.out 0).trans rfl
        have hfs40 := blk_frozen BK7013.out 0
        have hns40_0 := NB7001_7013.out
        have hns40_1 := NB7002_7013.out
        have hms40_0 := NB7013_7001.out
        have hms40_1 := NB7013_7002.out
        have hs41 : w39.cell? ⟨gb7013, 1, none⟩ = some (.string (⟨#[]⟩ : ByteArray)) := (blk_cell BK7013.out 1).trans rfl
        have hfs41 := blk_frozen BK7013.out 1
        have hns41_0 := NB7001_7013.out
        have hns41_1 := NB7002_7013.out
        have hms41_0 := NB7013_7001.out
        have hms41_1 := NB7013_7002.out
        have hs42 : w39.cell? ⟨gb7013, 2, none⟩ = some (.string (⟨#[]⟩ : ByteArray)) := (blk_cell BK7013.out 2).trans rfl
        have hfs42 := blk_frozen BK7013.out 2
        have hns42_0 := NB7001_7013.out
        have hns42_1 := NB7002_7013.out
        have hms42_0 := NB7013_7001.out
        have hms42_1 := NB7013_7002.out
        refine skip_ (w1 := ?_) (by rfl) rfl ?_ ?_
        rotate_left
        · go_simp
          rfl
        refine hK.out _ _ ⟨((cell_far (p := ⟨gb7013, _, none⟩) NB7001_7013.out _).trans (((cell_far (p := ⟨gb7013, _, none⟩) NB7001_7013.out _).trans (((cell_far (p := ⟨gb7013, _, none⟩) NB7001_7013.out _).trans (hHeld.1)))))), ((cell_far (p := ⟨gb7013, _, none⟩) NB7001_7013.out _).trans (((cell_far (p := ⟨gb7013, _, none⟩) NB7001_7013.out _).trans (((cell_far (p := ⟨gb7013, _, none⟩) NB7001_7013.out _).trans (hHeld.2.1)))))), ((cell_far (p := ⟨gb7013, _, none⟩) NB7001_7013.out _).trans (((cell_far (p := ⟨gb7013, _, none⟩) NB7001_7013.out _).trans (((cell_far (p := ⟨gb7013, _, none⟩) NB7001_7013.out _).trans (hHeld.2.2.1)))))), ((cell_far (p := ⟨gb7013, _, none⟩) NB7002_7013.out _).trans (((cell_far (p := ⟨gb7013, _, none⟩) NB7002_7013.out _).trans (((cell_far (p := ⟨gb7013, _, none⟩) NB7002_7013.out _).trans (hHeld.2.2.2.1)))))), ((cell_far (p := ⟨gb7013, _, none⟩) NB7002_7013.out _).trans (((cell_far (p := ⟨gb7013, _, none⟩) NB7002_7013.out _).trans (((cell_far (p := ⟨gb7013, _, none⟩) NB7002_7013.out _).trans (hHeld.2.2.2.2))))))⟩ (fun hHeld => ?_)
        clear hK K
        refine done_ (by kernel_rfl) ?_
        try go_wp2
        have n0_ : Aside0 ((((w39.setCell ⟨gb7013, 0, none⟩ (.string t7010)).setCell ⟨gb7013, 1, none⟩ (.string t7011)).setCell ⟨gb7013, 2, none⟩ (.string t7012)).heap[gb7001]? = some (.cells #[.string a0_0, .string a0_1, .string a0_2] 69 (0, 0))) := ⟨by (with_reducible repeat (first | refine blk_drewN ?_ _ | refine blk_drew ?_ | refine blk_alloc ?_ _)); refine blk_far ?_ NB7001_7013.out _; (with_reducible repeat (first | refine blk_drewN ?_ _ | refine blk_drew ?_ | refine blk_alloc ?_ _)); refine blk_far ?_ NB7001_7013.out _; (with_reducible repeat (first | refine blk_drewN ?_ _ | refine blk_drew ?_ | refine blk_alloc ?_ _)); refine blk_far ?_ NB7001_7013.out _; (with_reducible repeat (first | refine blk_drewN ?_ _ | refine blk_drew ?_ | refine blk_alloc ?_ _)); exact BK7001.out⟩
        have n1_ : Aside0 ((((w39.setCell ⟨gb7013, 0, none⟩ (.string t7010)).setCell ⟨gb7013, 1, none⟩ (.string t7011)).setCell ⟨gb7013, 2, none⟩ (.string t7012)).heap[gb7002]? = some (.cells #[.int .u8 a1_0, .string a1_1] 56 (0, 0))) := ⟨by (with_reducible repeat (first | refine blk_drewN ?_ _ | refine blk_drew ?_ | refine blk_alloc ?_ _)); refine blk_far ?_ NB7002_7013.out _; (with_reducible repeat (first | refine blk_drewN ?_ _ | refine blk_drew ?_ | refine blk_alloc ?_ _)); refine blk_far ?_ NB7002_7013.out _; (with_reducible repeat (first | refine blk_drewN ?_ _ | refine blk_drew ?_ | refine blk_alloc ?_ _)); refine blk_far ?_ NB7002_7013.out _; (with_reducible repeat (first | refine blk_drewN ?_ _ | refine blk_drew ?_ | refine blk_alloc ?_ _)); exact BK7002.out⟩
        have n2_ : Aside0 ((((w39.setCell ⟨gb7013, 0, none⟩ (.string t7010)).setCell ⟨gb7013, 1, none⟩ (.string t7011)).setCell ⟨gb7013, 2, none⟩ (.string t7012)).heap[gb7013]? = some (.cells #[.string t7010, .string t7011, .string t7012] 71 (0, 0))) := ⟨by (with_reducible repeat (first | refine blk_drewN ?_ _ | refine blk_drew ?_ | refine blk_alloc ?_ _)); refine blk_put (cs := #[.string t7010, .string t7011, .string (⟨#[]⟩ : ByteArray)]) ?_ 2 _ rfl; (with_reducible repeat (first | refine blk_drewN ?_ _ | refine blk_drew ?_ | refine blk_alloc ?_ _)); refine blk_put (cs := #[.string t7010, .string (⟨#[]⟩ : ByteArray), .string (⟨#[]⟩ : ByteArray)]) ?_ 1 _ rfl; (with_reducible repeat (first | refine blk_drewN ?_ _ | refine blk_drew ?_ | refine blk_alloc ?_ _)); refine blk_put (cs := #[.string (⟨#[]⟩ : ByteArray), .string (⟨#[]⟩ : ByteArray), .string (⟨#[]⟩ : ByteArray)]) ?_ 0 _ rfl; (with_reducible repeat (first | refine blk_drewN ?_ _ | refine blk_drew ?_ | refine blk_alloc ?_ _)); exact BK7013.out⟩
        have n3_ : Aside0 (Below w.heap.size w (((w39.setCell ⟨gb7013, 0, none⟩ (.string t7010)).setCell ⟨gb7013, 1, none⟩ (.string t7011)).setCell ⟨gb7013, 2, none⟩ (.string t7012))) := ⟨by repeat (first | (with_reducible first | exact HB.out | apply below_alloc | apply pw_below_drewN | apply below_drew1 | refine below_set ?_ GE7001.out | refine below_set ?_ GE7002.out | refine below_set ?_ GE7013.out) | exact HB.out)⟩
        (try clear BK7001)
        (try clear BK7002)
        (try clear BK7013)
        (try clear HB)
        generalize (((w39.setCell ⟨gb7013, 0, none⟩ (.string t7010)).setCell ⟨gb7013, 1, none⟩ (.string t7011)).setCell ⟨gb7013, 2, none⟩ (.string t7012)) = w43 at n0_ n1_ n2_ n3_ ⊢
        have BK7001 := n0_
        have BK7002 := n1_
        have BK7013 := n2_
        have HB := n3_
        clear n0_ n1_ n2_ n3_
        have n0_ := Aside0.mk (blk_drew BK7001.out)
        have n1_ := Aside0.mk (blk_drew BK7002.out)
        have n2_ := Aside0.mk (blk_drew BK7013.out)
        have n3_ := Aside0.mk (below_drew1 HB.out)
        clear BK7001
        clear BK7002
        clear BK7013
        clear HB
        have BK7001 := n0_
        have BK7002 := n1_
        have BK7013 := n2_
        have HB := n3_
        clear n0_ n1_ n2_ n3_
        refine start_ (n := 7) (S := fun w' => w'.cell? ⟨gb7001, 0, none⟩ = some (.string a0_0) ∧ w'.cell? ⟨gb7001, 1, none⟩ = some (.string a0_1) ∧ w'.cell? ⟨gb7001, 2, none⟩ = some (.string a0_2) ∧ w'.cell? ⟨gb7002, 0, none⟩ = some (.int .u8 a1_0) ∧ w'.cell? ⟨gb7002, 1, none⟩ = some (.string a1_1)) (ds := []) #[false, false, false, false, false, false, false] (by kernel_rfl) rfl rfl ⟨(blk_cell BK7001.out 0).trans rfl, (blk_cell BK7001.out 1).trans rfl, (blk_cell BK7001.out 2).trans rfl, (blk_cell BK7002.out 0).trans rfl, (blk_cell BK7002.out 1).trans rfl⟩ (fun hHeld => ?_)
        generalize w43.drew = w44 at BK7001 BK7002 BK7013 HB hHeld ⊢
        refine take_ (i := 0) (N := some 23) (v := ?_) (a' := ?_) #[true, false, false, false, false, false, false] rfl rfl (by kernel_rfl) (fun _ _ _ h => h) (Or.inl ⟨by rfl, ?_⟩) hHeld ?_ ?_
        rotate_left
        · rintro w' ⟨s0, s1, s2, s3, s4⟩
          go_simp
          first | with_reducible rfl | (rw [if_neg (by omega)]; done)
        rotate_left
        · simp only [Act.put, List.setIfInBounds_toArray, List.set_cons_zero, List.set_cons_succ, i64_w, i32_w]
          rfl
        refine take_ (i := 2) (N := some 25) (v := ?_) (a' := ?_) #[true, false, true, false, false, false, false] rfl rfl (by kernel_rfl) (fun _ _ _ h => h) (Or.inl ⟨by rfl, ?_⟩) hHeld ?_ ?_
        rotate_left
        · rintro w' ⟨s0, s1, s2, s3, s4⟩
          go_simp
          first | with_reducible rfl | (rw [if_neg (by omega)]; done)
        rotate_left
        · simp only [Act.put, List.setIfInBounds_toArray, List.set_cons_zero, List.set_cons_succ, i64_w, i32_w]
          rfl
        refine join_ (σ := Nat) 1 #[true, true, true, true, true, true, false] (fun s_ => [(24, .agg #[.string t7014, .string t7015, .string t7016]), (26, .agg #[.int .u8 t7017, .string t7018]), (27, .agg #[.string t7019, .string t7020, .string t7021]), (7, .pointer (some ⟨s_, 0, none⟩))]) (fun s_ w' => (w'.cell? ⟨gb7001, 0, none⟩ = some (.string a0_0) ∧ w'.cell? ⟨gb7001, 1, none⟩ = some (.string a0_1) ∧ w'.cell? ⟨gb7001, 2, none⟩ = some (.string a0_2) ∧ w'.cell? ⟨gb7002, 0, none⟩ = some (.int .u8 a1_0) ∧ w'.cell? ⟨gb7002, 1, none⟩ = some (.string a1_1)) ∧ (w'.heap[gb7001]? = some (.cells #[.string a0_0, .string a0_1, .string a0_2] 69 (0, 0))) ∧ (w'.heap[gb7002]? = some (.cells #[.int .u8 a1_0, .string a1_1] 56 (0, 0))) ∧ (w'.heap[gb7013]? = some (.cells #[.string t7010, .string t7011, .string t7012] 71 (0, 0))) ∧ (w'.heap[s_]? = some (.cells #[.string (⟨#[]⟩ : ByteArray), .string (⟨#[]⟩ : ByteArray), .string (⟨#[]⟩ : ByteArray)] 71 (0, 0))) ∧ (w.heap.size ≤ s_) ∧ (w.heap.size ≤ s_) ∧ (gb7001 ≠ s_) ∧ (s_ ≠ gb7001) ∧ (gb7002 ≠ s_) ∧ (s_ ≠ gb7002) ∧ (gb7013 ≠ s_) ∧ (s_ ≠ gb7013) ∧ (Below w.heap.size w w')) ?_ ?_
        rotate_left
        · intro hCont
          refine two_ (i := 1) (j := 5) (Ni := some 24) (Nj := some 7) #[true, true, true, false, false, false, false] #[true, false, true, false, false, true, false] rfl rfl rfl rfl (by kernel_rfl) (by decide) (by decide) (fun K hK => ?_) (fun K hK => ?_)
          · skip
            refine goes_ Try.func44 (by kernel_rfl) rfl #[.agg #[.string a0_0, .string a0_1, .string a0_2]] (by rfl) rfl rfl (by (try simp only [List.map_toArray, List.map_cons, List.map_nil]); first | done | rfl | (simp only [List.length_drop, List.length_take]; rfl)) ?_
            with_reducible refine (laws_toValues.calls a0_0 a0_1 a0_2 t7014 t7015 t7016 _ A22.out).mono ?_
            rintro e w45 ⟨rfl, hb⟩
            refine ⟨_, rfl, ?_⟩
            have n0_ := Aside0.mk (blk_below (g := gb7001) (o := .cells #[.string a0_0, .string a0_1, .string a0_2] 69 (0, 0)) (by (with_reducible repeat (first | refine blk_drewN ?_ _ | refine blk_drew ?_ | refine blk_alloc ?_ _)); exact BK7001.out) hb)
            have n1_ := Aside0.mk (blk_below (g := gb7002) (o := .cells #[.int .u8 a1_0, .string a1_1] 56 (0, 0)) (by (with_reducible repeat (first | refine blk_drewN ?_ _ | refine blk_drew ?_ | refine blk_alloc ?_ _)); exact BK7002.out) hb)
            have n2_ := Aside0.mk (blk_below (g := gb7013) (o := .cells #[.string t7010, .string t7011, .string t7012] 71 (0, 0)) (by (with_reducible repeat (first | refine blk_drewN ?_ _ | refine blk_drew ?_ | refine blk_alloc ?_ _)); exact BK7013.out) hb)
            have n3_ := Aside0.mk (below_step (by repeat (first | (with_reducible first | exact HB.out | apply below_alloc | apply pw_below_drewN | apply below_drew1 | refine below_set ?_ GE7001.out | refine below_set ?_ GE7002.out | refine below_set ?_ GE7013.out) | exact HB.out)) hb)
            clear BK7001
            clear BK7002
            clear BK7013
            clear HB
            have BK7001 := n0_
            have BK7002 := n1_
            have BK7013 := n2_
            have HB := n3_
            clear n0_ n1_ n2_ n3_
            (try clear hb)
            (try clear hb2)
            (try clear hk)
            (try clear hi)
            refine hK.out _ _ ⟨(blk_cell BK7001.out 0).trans rfl, (blk_cell BK7001.out 1).trans rfl, (blk_cell BK7001.out 2).trans rfl, (blk_cell BK7002.out 0).trans rfl, (blk_cell BK7002.out 1).trans rfl⟩ (fun hHeld => ?_)
            clear hK K
            refine norm_ (a' := ?_) ?_ ?_
            rotate_left
            · show Act.put _ (some 24) _ = _
              simp only [Act.put, List.setIfInBounds_toArray, List.set_cons_zero, List.set_cons_succ, i64_w, i32_w]
              rfl
            refine two_ (i := 3) (j := 5) (Ni := some 26) (Nj := some 7) #[true, true, true, true, false, false, false] #[true, true, true, false, false, true, false] rfl rfl rfl rfl (by kernel_rfl) (by decide) (by decide) (fun K hK => ?_) (fun K hK => ?_)
            · skip
              refine goes_ Try.func37 (by kernel_rfl) rfl #[.agg #[.int .u8 a1_0, .string a1_1]] (by rfl) rfl rfl (by (try simp only [List.map_toArray, List.map_cons, List.map_nil]); first | done | rfl | (simp only [List.length_drop, List.length_take]; rfl)) ?_
              with_reducible refine (laws_toMove.calls a1_0 a1_1 t7017 t7018 _ A23.out).mono ?_
              rintro e w46 ⟨rfl, hb⟩
              refine ⟨_, rfl, ?_⟩
              have n0_ := Aside0.mk (blk_below (g := gb7001) (o := .cells #[.string a0_0, .string a0_1, .string a0_2] 69 (0, 0)) (by (with_reducible repeat (first | refine blk_drewN ?_ _ | refine blk_drew ?_ | refine blk_alloc ?_ _)); exact BK7001.out) hb)
              have n1_ := Aside0.mk (blk_below (g := gb7002) (o := .cells #[.int .u8 a1_0, .string a1_1] 56 (0, 0)) (by (with_reducible repeat (first | refine blk_drewN ?_ _ | refine blk_drew ?_ | refine blk_alloc ?_ _)); exact BK7002.out) hb)
              have n2_ := Aside0.mk (blk_below (g := gb7013) (o := .cells #[.string t7010, .string t7011, .string t7012] 71 (0, 0)) (by (with_reducible repeat (first | refine blk_drewN ?_ _ | refine blk_drew ?_ | refine blk_alloc ?_ _)); exact BK7013.out) hb)
              have n3_ := Aside0.mk (below_step (by repeat (first | (with_reducible first | exact HB.out | apply below_alloc | apply pw_below_drewN | apply below_drew1 | refine below_set ?_ GE7001.out | refine below_set ?_ GE7002.out | refine below_set ?_ GE7013.out) | exact HB.out)) hb)
              clear BK7001
              clear BK7002
              clear BK7013
              clear HB
              have BK7001 := n0_
              have BK7002 := n1_
              have BK7013 := n2_
              have HB := n3_
              clear n0_ n1_ n2_ n3_
              (try clear hb)
              (try clear hb2)
              (try clear hk)
              (try clear hi)
              refine hK.out _ _ ⟨(blk_cell BK7001.out 0).trans rfl, (blk_cell BK7001.out 1).trans rfl, (blk_cell BK7001.out 2).trans rfl, (blk_cell BK7002.out 0).trans rfl, (blk_cell BK7002.out 1).trans rfl⟩ (fun hHeld => ?_)
              clear hK K
              refine norm_ (a' := ?_) ?_ ?_
              rotate_left
              · show Act.put _ (some 26) _ = _
                simp only [Act.put, List.setIfInBounds_toArray, List.set_cons_zero, List.set_cons_succ, i64_w, i32_w]
                rfl
              refine two_ (i := 4) (j := 5) (Ni := some 27) (Nj := some 7) #[true, true, true, true, true, false, false] #[true, true, true, true, false, true, false] rfl rfl rfl rfl (by kernel_rfl) (by decide) (by decide) (fun K hK => ?_) (fun K hK => ?_)
              · skip
                refine goes_ Try.func45 (by kernel_rfl) rfl #[.agg #[.string t7014, .string t7015, .string t7016], .agg #[.int .u8 t7017, .string t7018]] (by rfl) rfl rfl (by (try simp only [List.map_toArray, List.map_cons, List.map_nil]); first | done | rfl | (simp only [List.length_drop, List.length_take]; rfl)) ?_
                with_reducible refine (impl_ReverseStep.calls t7014 t7015 t7016 t7017 t7018 t7019 t7020 t7021 _ A24.out).mono ?_
                rintro e w47 ⟨rfl, hb⟩
                refine ⟨_, rfl, ?_⟩
                have n0_ := Aside0.mk (blk_below (g := gb7001) (o := .cells #[.string a0_0, .string a0_1, .string a0_2] 69 (0, 0)) (by (with_reducible repeat (first | refine blk_drewN ?_ _ | refine blk_drew ?_ | refine blk_alloc ?_ _)); exact BK7001.out) hb)
                have n1_ := Aside0.mk (blk_below (g := gb7002) (o := .cells #[.int .u8 a1_0, .string a1_1] 56 (0, 0)) (by (with_reducible repeat (first | refine blk_drewN ?_ _ | refine blk_drew ?_ | refine blk_alloc ?_ _)); exact BK7002.out) hb)
                have n2_ := Aside0.mk (blk_below (g := gb7013) (o := .cells #[.string t7010, .string t7011, .string t7012] 71 (0, 0)) (by (with_reducible repeat (first | refine blk_drewN ?_ _ | refine blk_drew ?_ | refine blk_alloc ?_ _)); exact BK7013.out) hb)
                have n3_ := Aside0.mk (below_step (by repeat (first | (with_reducible first | exact HB.out | apply below_alloc | apply pw_below_drewN | apply below_drew1 | refine below_set ?_ GE7001.out | refine below_set ?_ GE7002.out | refine below_set ?_ GE7013.out) | exact HB.out)) hb)
                clear BK7001
                clear BK7002
                clear BK7013
                clear HB
                have BK7001 := n0_
                have BK7002 := n1_
                have BK7013 := n2_
                have HB := n3_
                clear n0_ n1_ n2_ n3_
                (try clear hb)
                (try clear hb2)
                (try clear hk)
                (try clear hi)
                refine hK.out _ _ ⟨(blk_cell BK7001.out 0).trans rfl, (blk_cell BK7001.out 1).trans rfl, (blk_cell BK7001.out 2).trans rfl, (blk_cell BK7002.out 0).trans rfl, (blk_cell BK7002.out 1).trans rfl⟩ (fun hHeld => ?_)
                clear hK K
                refine norm_ (a' := ?_) ?_ ?_
                rotate_left
                · show Act.put _ (some 27) _ = _
                  simp only [Act.put, List.setIfInBounds_toArray, List.set_cons_zero, List.set_cons_succ, i64_w, i32_w]
                  rfl
                refine one_ (i := 5) (N := some 7) #[true, true, true, true, true, true, false] rfl rfl (by kernel_rfl) (by decide) (fun K hK => ?_)
                refine box_step ?hg (N := 7) ?hd (cs := #[.string (⟨#[]⟩ : ByteArray), .string (⟨#[]⟩ : ByteArray), .string (⟨#[]⟩ : ByteArray)]) (t := 71) ?hr ?_; (case hd => rfl); (case hg => rfl); (case hr => first | (go_simp; done) | (go_simp; rfl))
                intro gb7022 hg w48 hbox hb
                have n0_ := Aside0.mk (blk_below (g := gb7001) (o := .cells #[.string a0_0, .string a0_1, .string a0_2] 69 (0, 0)) (by (with_reducible repeat (first | refine blk_drewN ?_ _ | refine blk_drew ?_ | refine blk_alloc ?_ _)); exact BK7001.out) hb)
                have n1_ := Aside0.mk (blk_below (g := gb7002) (o := .cells #[.int .u8 a1_0, .string a1_1] 56 (0, 0)) (by (with_reducible repeat (first | refine blk_drewN ?_ _ | refine blk_drew ?_ | refine blk_alloc ?_ _)); exact BK7002.out) hb)
                have n2_ := Aside0.mk (blk_below (g := gb7013) (o := .cells #[.string t7010, .string t7011, .string t7012] 71 (0, 0)) (by (with_reducible repeat (first | refine blk_drewN ?_ _ | refine blk_drew ?_ | refine blk_alloc ?_ _)); exact BK7013.out) hb)
                have n3_ := Aside0.mk (below_step (by repeat (first | (with_reducible first | exact HB.out | apply below_alloc | apply pw_below_drewN | apply below_drew1 | refine below_set ?_ GE7001.out | refine below_set ?_ GE7002.out | refine below_set ?_ GE7013.out) | exact HB.out)) hb)
                have n4_ := Aside0.mk (hbox)
                have n5_ := Aside0.mk ((by rw [hg]; exact (below_size (by repeat (first | (with_reducible first | exact HB.out | apply below_alloc | apply pw_below_drewN | apply below_drew1 | refine below_set ?_ GE7001.out | refine below_set ?_ GE7002.out | refine below_set ?_ GE7013.out) | exact HB.out))) : w.heap.size ≤ gb7022))
                have n6_ := Aside0.mk ((by rw [hg]; exact (below_size (by repeat (first | (with_reducible first | exact HB.out | apply below_alloc | apply pw_below_drewN | apply below_drew1 | refine below_set ?_ GE7001.out | refine below_set ?_ GE7002.out | refine below_set ?_ GE7013.out) | exact HB.out))) : w.heap.size ≤ gb7022))
                have n7_ := Aside0.mk ((by rw [hg]; exact Nat.ne_of_lt (blk_lt (g := gb7001) (o := .cells #[.string a0_0, .string a0_1, .string a0_2] 69 (0, 0)) (by (with_reducible repeat (first | refine blk_drewN ?_ _ | refine blk_drew ?_ | refine blk_alloc ?_ _)); exact BK7001.out)) : gb7001 ≠ gb7022))
                have n8_ := Aside0.mk ((by rw [hg]; exact Nat.ne_of_gt (blk_lt (g := gb7001) (o := .cells #[.string a0_0, .string a0_1, .string a0_2] 69 (0, 0)) (by (with_reducible repeat (first | refine blk_drewN ?_ _ | refine blk_drew ?_ | refine blk_alloc ?_ _)); exact BK7001.out)) : gb7022 ≠ gb7001))
                have n9_ := Aside0.mk ((by rw [hg]; exact Nat.ne_of_lt (blk_lt (g := gb7002) (o := .cells #[.int .u8 a1_0, .string a1_1] 56 (0, 0)) (by (with_reducible repeat (first | refine blk_drewN ?_ _ | refine blk_drew ?_ | refine blk_alloc ?_ _)); exact BK7002.out)) : gb7002 ≠ gb7022))
                have n10_ := Aside0.mk ((by rw [hg]; exact Nat.ne_of_gt (blk_lt (g := gb7002) (o := .cells #[.int .u8 a1_0, .string a1_1] 56 (0, 0)) (by (with_reducible repeat (first | refine blk_drewN ?_ _ | refine blk_drew ?_ | refine blk_alloc ?_ _)); exact BK7002.out)) : gb7022 ≠ gb7002))
                have n11_ := Aside0.mk ((by rw [hg]; exact Nat.ne_of_lt (blk_lt (g := gb7013) (o := .cells #[.string t7010, .string t7011, .string t7012] 71 (0, 0)) (by (with_reducible repeat (first | refine blk_drewN ?_ _ | refine blk_drew ?_ | refine blk_alloc ?_ _)); exact BK7013.out)) : gb7013 ≠ gb7022))
                have n12_ := Aside0.mk ((by rw [hg]; exact Nat.ne_of_gt (blk_lt (g := gb7013) (o := .cells #[.string t7010, .string t7011, .string t7012] 71 (0, 0)) (by (with_reducible repeat (first | refine blk_drewN ?_ _ | refine blk_drew ?_ | refine blk_alloc ?_ _)); exact BK7013.out)) : gb7022 ≠ gb7013))
                clear BK7001
                clear BK7002
                clear BK7013
                clear HB
                have BK7001 := n0_
                have BK7002 := n1_
                have BK7013 := n2_
                have HB := n3_
                have BK7022 := n4_
                have GW7022 := n5_
                have GE7022 := n6_
                have NB7001_7022 := n7_
                have NB7022_7001 := n8_
                have NB7002_7022 := n9_
                have NB7022_7002 := n10_
                have NB7013_7022 := n11_
                have NB7022_7013 := n12_
                clear n0_ n1_ n2_ n3_ n4_ n5_ n6_ n7_ n8_ n9_ n10_ n11_ n12_
                clear hb hbox hg
                refine hK.out _ _ ⟨(blk_cell BK7001.out 0).trans rfl, (blk_cell BK7001.out 1).trans rfl, (blk_cell BK7001.out 2).trans rfl, (blk_cell BK7002.out 0).trans rfl, (blk_cell BK7002.out 1).trans rfl⟩ (fun hHeld => ?_)
                clear hK K
                refine norm_ (a' := ?_) ?_ ?_
                rotate_left
                · show Act.put _ (some 7) _ = _
                  simp only [Act.put, List.setIfInBounds_toArray, List.set_cons_zero, List.set_cons_succ, i64_w, i32_w]
                  rfl
                exact norm_ (by simp only [putAll, Act.put, List.setIfInBounds_toArray, List.set_cons_zero, List.set_cons_succ]) (hCont (gb7022) _ ⟨hHeld, (by (with_reducible repeat (first | refine blk_drewN ?_ _ | refine blk_drew ?_ | refine blk_alloc ?_ _)); exact BK7001.out), (by (with_reducible repeat (first | refine blk_drewN ?_ _ | refine blk_drew ?_ | refine blk_alloc ?_ _)); exact BK7002.out), (by (with_reducible repeat (first | refine blk_drewN ?_ _ | refine blk_drew ?_ | refine blk_alloc ?_ _)); exact BK7013.out), (by (with_reducible repeat (first | refine blk_drewN ?_ _ | refine blk_drew ?_ | refine blk_alloc ?_ _)); exact BK7022.out), GW7022.out, GE7022.out, NB7001_7022.out, NB7022_7001.out, NB7002_7022.out, NB7022_7002.out, NB7013_7022.out, NB7022_7013.out, (by repeat (first | (with_reducible first | exact HB.out | apply below_alloc | apply pw_below_drewN | apply below_drew1 | refine below_set ?_ GE7001.out | refine below_set ?_ GE7002.out | refine below_set ?_ GE7013.out | refine below_set ?_ GE7022.out) | exact HB.out))⟩)
              · skip
                refine box_step ?hg (N := 7) ?hd (cs := #[.string (⟨#[]⟩ : ByteArray), .string (⟨#[]⟩ : ByteArray), .string (⟨#[]⟩ : ByteArray)]) (t := 71) ?hr ?_; (case hd => rfl); (case hg => rfl); (case hr => first | (go_simp; done) | (go_simp; rfl))
                intro gb7022 hg w47 hbox hb
                have n0_ := Aside0.mk (blk_below (g := gb7001) (o := .cells #[.string a0_0, .string a0_1, .string a0_2] 69 (0, 0)) (by (with_reducible repeat (first | refine blk_drewN ?_ _ | refine blk_drew ?_ | refine blk_alloc ?_ _)); exact BK7001.out) hb)
                have n1_ := Aside0.mk (blk_below (g := gb7002) (o := .cells #[.int .u8 a1_0, .string a1_1] 56 (0, 0)) (by (with_reducible repeat (first | refine blk_drewN ?_ _ | refine blk_drew ?_ | refine blk_alloc ?_ _)); exact BK7002.out) hb)
                have n2_ := Aside0.mk (blk_below (g := gb7013) (o := .cells #[.string t7010, .string t7011, .string t7012] 71 (0, 0)) (by (with_reducible repeat (first | refine blk_drewN ?_ _ | refine blk_drew ?_ | refine blk_alloc ?_ _)); exact BK7013.out) hb)
                have n3_ := Aside0.mk (below_step (by repeat (first | (with_reducible first | exact HB.out | apply below_alloc | apply pw_below_drewN | apply below_drew1 | refine below_set ?_ GE7001.out | refine below_set ?_ GE7002.out | refine below_set ?_ GE7013.out) | exact HB.out)) hb)
                have n4_ := Aside0.mk (hbox)
                have n5_ := Aside0.mk ((by rw [hg]; exact (below_size (by repeat (first | (with_reducible first | exact HB.out | apply below_alloc | apply pw_below_drewN | apply below_drew1 | refine below_set ?_ GE7001.out | refine below_set ?_ GE7002.out | refine below_set ?_ GE7013.out) | exact HB.out))) : w.heap.size ≤ gb7022))
                have n6_ := Aside0.mk ((by rw [hg]; exact (below_size (by repeat (first | (with_reducible first | exact HB.out | apply below_alloc | apply pw_below_drewN | apply below_drew1 | refine below_set ?_ GE7001.out | refine below_set ?_ GE7002.out | refine below_set ?_ GE7013.out) | exact HB.out))) : w.heap.size ≤ gb7022))
                have n7_ := Aside0.mk ((by rw [hg]; exact Nat.ne_of_lt (blk_lt (g := gb7001) (o := .cells #[.string a0_0, .string a0_1, .string a0_2] 69 (0, 0)) (by (with_reducible repeat (first | refine blk_drewN ?_ _ | refine blk_drew ?_ | refine blk_alloc ?_ _)); exact BK7001.out)) : gb7001 ≠ gb7022))
                have n8_ := Aside0.mk ((by rw [hg]; exact Nat.ne_of_gt (blk_lt (g := gb7001) (o := .cells #[.string a0_0, .string a0_1, .string a0_2] 69 (0, 0)) (by (with_reducible repeat (first | refine blk_drewN ?_ _ | refine blk_drew ?_ | refine blk_alloc ?_ _)); exact BK7001.out)) : gb7022 ≠ gb7001))
                have n9_ := Aside0.mk ((by rw [hg]; exact Nat.ne_of_lt (blk_lt (g := gb7002) (o := .cells #[.int .u8 a1_0, .string a1_1] 56 (0, 0)) (by (with_reducible repeat (first | refine blk_drewN ?_ _ | refine blk_drew ?_ | refine blk_alloc ?_ _)); exact BK7002.out)) : gb7002 ≠ gb7022))
                have n10_ := Aside0.mk ((by rw [hg]; exact Nat.ne_of_gt (blk_lt (g := gb7002) (o := .cells #[.int .u8 a1_0, .string a1_1] 56 (0, 0)) (by (with_reducible repeat (first | refine blk_drewN ?_ _ | refine blk_drew ?_ | refine blk_alloc ?_ _)); exact BK7002.out)) : gb7022 ≠ gb7002))
                have n11_ := Aside0.mk ((by rw [hg]; exact Nat.ne_of_lt (blk_lt (g := gb7013) (o := .cells #[.string t7010, .string t7011, .string t7012] 71 (0, 0)) (by (with_reducible repeat (first | refine blk_drewN ?_ _ | refine blk_drew ?_ | refine blk_alloc ?_ _)); exact BK7013.out)) : gb7013 ≠ gb7022))
                have n12_ := Aside0.mk ((by rw [hg]; exact Nat.ne_of_gt (blk_lt (g := gb7013) (o := .cells #[.string t7010, .string t7011, .string t7012] 71 (0, 0)) (by (with_reducible repeat (first | refine blk_drewN ?_ _ | refine blk_drew ?_ | refine blk_alloc ?_ _)); exact BK7013.out)) : gb7022 ≠ gb7013))
                clear BK7001
                clear BK7002
                clear BK7013
                clear HB
                have BK7001 := n0_
                have BK7002 := n1_
                have BK7013 := n2_
                have HB := n3_
                have BK7022 := n4_
                have GW7022 := n5_
                have GE7022 := n6_
                have NB7001_7022 := n7_
                have NB7022_7001 := n8_
                have NB7002_7022 := n9_
                have NB7022_7002 := n10_
                have NB7013_7022 := n11_
                have NB7022_7013 := n12_
                clear n0_ n1_ n2_ n3_ n4_ n5_ n6_ n7_ n8_ n9_ n10_ n11_ n12_
                clear hb hbox hg
                refine hK.out _ _ ⟨(blk_cell BK7001.out 0).trans rfl, (blk_cell BK7001.out 1).trans rfl, (blk_cell BK7001.out 2).trans rfl, (blk_cell BK7002.out 0).trans rfl, (blk_cell BK7002.out 1).trans rfl⟩ (fun hHeld => ?_)
                clear hK K
                refine norm_ (a' := ?_) ?_ ?_
                rotate_left
                · show Act.put _ (some 7) _ = _
                  simp only [Act.put, List.setIfInBounds_toArray, List.set_cons_zero, List.set_cons_succ, i64_w, i32_w]
                  rfl
                refine one_ (i := 4) (N := some 27) #[true, true, true, true, true, true, false] rfl rfl (by kernel_rfl) (by decide) (fun K hK => ?_)
                refine goes_ Try.func45 (by kernel_rfl) rfl #[.agg #[.string t7014, .string t7015, .string t7016], .agg #[.int .u8 t7017, .string t7018]] (by rfl) rfl rfl (by (try simp only [List.map_toArray, List.map_cons, List.map_nil]); first | done | rfl | (simp only [List.length_drop, List.length_take]; rfl)) ?_
                with_reducible refine (impl_ReverseStep.calls t7014 t7015 t7016 t7017 t7018 t7019 t7020 t7021 _ A24.out).mono ?_
                rintro e w48 ⟨rfl, hb⟩
                refine ⟨_, rfl, ?_⟩
                have n0_ := Aside0.mk (blk_below (g := gb7001) (o := .cells #[.string a0_0, .string a0_1, .string a0_2] 69 (0, 0)) (by (with_reducible repeat (first | refine blk_drewN ?_ _ | refine blk_drew ?_ | refine blk_alloc ?_ _)); exact BK7001.out) hb)
                have n1_ := Aside0.mk (blk_below (g := gb7002) (o := .cells #[.int .u8 a1_0, .string a1_1] 56 (0, 0)) (by (with_reducible repeat (first | refine blk_drewN ?_ _ | refine blk_drew ?_ | refine blk_alloc ?_ _)); exact BK7002.out) hb)
                have n2_ := Aside0.mk (blk_below (g := gb7013) (o := .cells #[.string t7010, .string t7011, .string t7012] 71 (0, 0)) (by (with_reducible repeat (first | refine blk_drewN ?_ _ | refine blk_drew ?_ | refine blk_alloc ?_ _)); exact BK7013.out) hb)
                have n3_ := Aside0.mk (blk_below (g := gb7022) (o := .cells #[.string (⟨#[]⟩ : ByteArray), .string (⟨#[]⟩ : ByteArray), .string (⟨#[]⟩ : ByteArray)] 71 (0, 0)) (by (with_reducible repeat (first | refine blk_drewN ?_ _ | refine blk_drew ?_ | refine blk_alloc ?_ _)); exact BK7022.out) hb)
                have n4_ := Aside0.mk (below_step (by repeat (first | (with_reducible first | exact HB.out | apply below_alloc | apply pw_below_drewN | apply below_drew1 | refine below_set ?_ GE7001.out | refine below_set ?_ GE7002.out | refine below_set ?_ GE7013.out | refine below_set ?_ GE7022.out) | exact HB.out)) hb)
                clear BK7001
                clear BK7002
                clear BK7013
                clear BK7022
                clear HB
                have BK7001 := n0_
                have BK7002 := n1_
                have BK7013 := n2_
                have BK7022 := n3_
                have HB := n4_
                clear n0_ n1_ n2_ n3_ n4_
                (try clear hb)
                (try clear hb2)
                (try clear hk)
                (try clear hi)
                refine hK.out _ _ ⟨(blk_cell BK7001.out 0).trans rfl, (blk_cell BK7001.out 1).trans rfl, (blk_cell BK7001.out 2).trans rfl, (blk_cell BK7002.out 0).trans rfl, (blk_cell BK7002.out 1).trans rfl⟩ (fun hHeld => ?_)
                clear hK K
                refine norm_ (a' := ?_) ?_ ?_
                rotate_left
                · show Act.put _ (some 27) _ = _
                  simp only [Act.put, List.setIfInBounds_toArray, List.set_cons_zero, List.set_cons_succ, i64_w, i32_w]
                  rfl
                exact norm_ (by simp only [putAll, Act.put, List.setIfInBounds_toArray, List.set_cons_zero, List.set_cons_succ]) (hCont (gb7022) _ ⟨hHeld, (by (with_reducible repeat (first | refine blk_drewN ?_ _ | refine blk_drew ?_ | refine blk_alloc ?_ _)); exact BK7001.out), (by (with_reducible repeat (first | refine blk_drewN ?_ _ | refine blk_drew ?_ | refine blk_alloc ?_ _)); exact BK7002.out), (by (with_reducible repeat (first | refine blk_drewN ?_ _ | refine blk_drew ?_ | refine blk_alloc ?_ _)); exact BK7013.out), (by (with_reducible repeat (first | refine blk_drewN ?_ _ | refine blk_drew ?_ | refine blk_alloc ?_ _)); exact BK7022.out), GW7022.out, GE7022.out, NB7001_7022.out, NB7022_7001.out, NB7002_7022.out, NB7022_7002.out, NB7013_7022.out, NB7022_7013.out, (by repeat (first | (with_reducible first | exact HB.out | apply below_alloc | apply pw_below_drewN | apply below_drew1 | refine below_set ?_ GE7001.out | refine below_set ?_ GE7002.out | refine below_set ?_ GE7013.out | refine below_set ?_ GE7022.out) | exact HB.out))⟩)
            · skip
              refine box_step ?hg (N := 7) ?hd (cs := #[.string (⟨#[]⟩ : ByteArray), .string (⟨#[]⟩ : ByteArray), .string (⟨#[]⟩ : ByteArray)]) (t := 71) ?hr ?_; (case hd => rfl); (case hg => rfl); (case hr => first | (go_simp; done) | (go_simp; rfl))
              intro gb7022 hg w46 hbox hb
              have n0_ := Aside0.mk (blk_below (g := gb7001) (o := .cells #[.string a0_0, .string a0_1, .string a0_2] 69 (0, 0)) (by (with_reducible repeat (first | refine blk_drewN ?_ _ | refine blk_drew ?_ | refine blk_alloc ?_ _)); exact BK7001.out) hb)
              have n1_ := Aside0.mk (blk_below (g := gb7002) (o := .cells #[.int .u8 a1_0, .string a1_1] 56 (0, 0)) (by (with_reducible repeat (first | refine blk_drewN ?_ _ | refine blk_drew ?_ | refine blk_alloc ?_ _)); exact BK7002.out) hb)
              have n2_ := Aside0.mk (blk_below (g := gb7013) (o := .cells #[.string t7010, .string t7011, .string t7012] 71 (0, 0)) (by (with_reducible repeat (first | refine blk_drewN ?_ _ | refine blk_drew ?_ | refine blk_alloc ?_ _)); exact BK7013.out) hb)
              have n3_ := Aside0.mk (below_step (by repeat (first | (with_reducible first | exact HB.out | apply below_alloc | apply pw_below_drewN | apply below_drew1 | refine below_set ?_ GE7001.out | refine below_set ?_ GE7002.out | refine below_set ?_ GE7013.out) | exact HB.out)) hb)
              have n4_ := Aside0.mk (hbox)
              have n5_ := Aside0.mk ((by rw [hg]; exact (below_size (by repeat (first | (with_reducible first | exact HB.out | apply below_alloc | apply pw_below_drewN | apply below_drew1 | refine below_set ?_ GE7001.out | refine below_set ?_ GE7002.out | refine below_set ?_ GE7013.out) | exact HB.out))) : w.heap.size ≤ gb7022))
              have n6_ := Aside0.mk ((by rw [hg]; exact (below_size (by repeat (first | (with_reducible first | exact HB.out | apply below_alloc | apply pw_below_drewN | apply below_drew1 | refine below_set ?_ GE7001.out | refine below_set ?_ GE7002.out | refine below_set ?_ GE7013.out) | exact HB.out))) : w.heap.size ≤ gb7022))
              have n7_ := Aside0.mk ((by rw [hg]; exact Nat.ne_of_lt (blk_lt (g := gb7001) (o := .cells #[.string a0_0, .string a0_1, .string a0_2] 69 (0, 0)) (by (with_reducible repeat (first | refine blk_drewN ?_ _ | refine blk_drew ?_ | refine blk_alloc ?_ _)); exact BK7001.out)) : gb7001 ≠ gb7022))
              have n8_ := Aside0.mk ((by rw [hg]; exact Nat.ne_of_gt (blk_lt (g := gb7001) (o := .cells #[.string a0_0, .string a0_1, .string a0_2] 69 (0, 0)) (by (with_reducible repeat (first | refine blk_drewN ?_ _ | refine blk_drew ?_ | refine blk_alloc ?_ _)); exact BK7001.out)) : gb7022 ≠ gb7001))
              have n9_ := Aside0.mk ((by rw [hg]; exact Nat.ne_of_lt (blk_lt (g := gb7002) (o := .cells #[.int .u8 a1_0, .string a1_1] 56 (0, 0)) (by (with_reducible repeat (first | refine blk_drewN ?_ _ | refine blk_drew ?_ | refine blk_alloc ?_ _)); exact BK7002.out)) : gb7002 ≠ gb7022))
              have n10_ := Aside0.mk ((by rw [hg]; exact Nat.ne_of_gt (blk_lt (g := gb7002) (o := .cells #[.int .u8 a1_0, .string a1_1] 56 (0, 0)) (by (with_reducible repeat (first | refine blk_drewN ?_ _ | refine blk_drew ?_ | refine blk_alloc ?_ _)); exact BK7002.out)) : gb7022 ≠ gb7002))
              have n11_ := Aside0.mk ((by rw [hg]; exact Nat.ne_of_lt (blk_lt (g := gb7013) (o := .cells #[.string t7010, .string t7011, .string t7012] 71 (0, 0)) (by (with_reducible repeat (first | refine blk_drewN ?_ _ | refine blk_drew ?_ | refine blk_alloc ?_ _)); exact BK7013.out)) : gb7013 ≠ gb7022))
              have n12_ := Aside0.mk ((by rw [hg]; exact Nat.ne_of_gt (blk_lt (g := gb7013) (o := .cells #[.string t7010, .string t7011, .string t7012] 71 (0, 0)) (by (with_reducible repeat (first | refine blk_drewN ?_ _ | refine blk_drew ?_ | refine blk_alloc ?_ _)); exact BK7013.out)) : gb7022 ≠ gb7013))
              clear BK7001
              clear BK7002
              clear BK7013
              clear HB
              have BK7001 := n0_
              have BK7002 := n1_
              have BK7013 := n2_
              have HB := n3_
              have BK7022 := n4_
              have GW7022 := n5_
              have GE7022 := n6_
              have NB7001_7022 := n7_
              have NB7022_7001 := n8_
              have NB7002_7022 := n9_
              have NB7022_7002 := n10_
              have NB7013_7022 := n11_
              have NB7022_7013 := n12_
              clear n0_ n1_ n2_ n3_ n4_ n5_ n6_ n7_ n8_ n9_ n10_ n11_ n12_
              clear hb hbox hg
              refine hK.out _ _ ⟨(blk_cell BK7001.out 0).trans rfl, (blk_cell BK7001.out 1).trans rfl, (blk_cell BK7001.out 2).trans rfl, (blk_cell BK7002.out 0).trans rfl, (blk_cell BK7002.out 1).trans rfl⟩ (fun hHeld => ?_)
              clear hK K
              refine norm_ (a' := ?_) ?_ ?_
              rotate_left
              · show Act.put _ (some 7) _ = _
                simp only [Act.put, List.setIfInBounds_toArray, List.set_cons_zero, List.set_cons_succ, i64_w, i32_w]
                rfl
              refine one_ (i := 3) (N := some 26) #[true, true, true, true, false, true, false] rfl rfl (by kernel_rfl) (by decide) (fun K hK => ?_)
              refine goes_ Try.func37 (by kernel_rfl) rfl #[.agg #[.int .u8 a1_0, .string a1_1]] (by rfl) rfl rfl (by (try simp only [List.map_toArray, List.map_cons, List.map_nil]); first | done | rfl | (simp only [List.length_drop, List.length_take]; rfl)) ?_
              with_reducible refine (laws_toMove.calls a1_0 a1_1 t7017 t7018 _ A23.out).mono ?_
              rintro e w47 ⟨rfl, hb⟩
              refine ⟨_, rfl, ?_⟩
              have n0_ := Aside0.mk (blk_below (g := gb7001) (o := .cells #[.string a0_0, .string a0_1, .string a0_2] 69 (0, 0)) (by (with_reducible repeat (first | refine blk_drewN ?_ _ | refine blk_drew ?_ | refine blk_alloc ?_ _)); exact BK7001.out) hb)
              have n1_ := Aside0.mk (blk_below (g := gb7002) (o := .cells #[.int .u8 a1_0, .string a1_1] 56 (0, 0)) (by (with_reducible repeat (first | refine blk_drewN ?_ _ | refine blk_drew ?_ | refine blk_alloc ?_ _)); exact BK7002.out) hb)
              have n2_ := Aside0.mk (blk_below (g := gb7013) (o := .cells #[.string t7010, .string t7011, .string t7012] 71 (0, 0)) (by (with_reducible repeat (first | refine blk_drewN ?_ _ | refine blk_drew ?_ | refine blk_alloc ?_ _)); exact BK7013.out) hb)
              have n3_ := Aside0.mk (blk_below (g := gb7022) (o := .cells #[.string (⟨#[]⟩ : ByteArray), .string (⟨#[]⟩ : ByteArray), .string (⟨#[]⟩ : ByteArray)] 71 (0, 0)) (by (with_reducible repeat (first | refine blk_drewN ?_ _ | refine blk_drew ?_ | refine blk_alloc ?_ _)); exact BK7022.out) hb)
              have n4_ := Aside0.mk (below_step (by repeat (first | (with_reducible first | exact HB.out | apply below_alloc | apply pw_below_drewN | apply below_drew1 | refine below_set ?_ GE7001.out | refine below_set ?_ GE7002.out | refine below_set ?_ GE7013.out | refine below_set ?_ GE7022.out) | exact HB.out)) hb)
              clear BK7001
              clear BK7002
              clear BK7013
              clear BK7022
              clear HB
              have BK7001 := n0_
              have BK7002 := n1_
              have BK7013 := n2_
              have BK7022 := n3_
              have HB := n4_
              clear n0_ n1_ n2_ n3_ n4_
              (try clear hb)
              (try clear hb2)
              (try clear hk)
              (try clear hi)
              refine hK.out _ _ ⟨(blk_cell BK7001.out 0).trans rfl, (blk_cell BK7001.out 1).trans rfl, (blk_cell BK7001.out 2).trans rfl, (blk_cell BK7002.out 0).trans rfl, (blk_cell BK7002.out 1).trans rfl⟩ (fun hHeld => ?_)
              clear hK K
              refine norm_ (a' := ?_) ?_ ?_
              rotate_left
              · show Act.put _ (some 26) _ = _
                simp only [Act.put, List.setIfInBounds_toArray, List.set_cons_zero, List.set_cons_succ, i64_w, i32_w]
                rfl
              refine one_ (i := 4) (N := some 27) #[true, true, true, true, true, true, false] rfl rfl (by kernel_rfl) (by decide) (fun K hK => ?_)
              refine goes_ Try.func45 (by kernel_rfl) rfl #[.agg #[.string t7014, .string t7015, .string t7016], .agg #[.int .u8 t7017, .string t7018]] (by rfl) rfl rfl (by (try simp only [List.map_toArray, List.map_cons, List.map_nil]); first | done | rfl | (simp only [List.length_drop, List.length_take]; rfl)) ?_
              with_reducible refine (impl_ReverseStep.calls t7014 t7015 t7016 t7017 t7018 t7019 t7020 t7021 _ A24.out).mono ?_
              rintro e w48 ⟨rfl, hb⟩
              refine ⟨_, rfl, ?_⟩
              have n0_ := Aside0.mk (blk_below (g := gb7001) (o := .cells #[.string a0_0, .string a0_1, .string a0_2] 69 (0, 0)) (by (with_reducible repeat (first | refine blk_drewN ?_ _ | refine blk_drew ?_ | refine blk_alloc ?_ _)); exact BK7001.out) hb)
              have n1_ := Aside0.mk (blk_below (g := gb7002) (o := .cells #[.int .u8 a1_0, .string a1_1] 56 (0, 0)) (by (with_reducible repeat (first | refine blk_drewN ?_ _ | refine blk_drew ?_ | refine blk_alloc ?_ _)); exact BK7002.out) hb)
              have n2_ := Aside0.mk (blk_below (g := gb7013) (o := .cells #[.string t7010, .string t7011, .string t7012] 71 (0, 0)) (by (with_reducible repeat (first | refine blk_drewN ?_ _ | refine blk_drew ?_ | refine blk_alloc ?_ _)); exact BK7013.out) hb)
              have n3_ := Aside0.mk (blk_below (g := gb7022) (o := .cells #[.string (⟨#[]⟩ : ByteArray), .string (⟨#[]⟩ : ByteArray), .string (⟨#[]⟩ : ByteArray)] 71 (0, 0)) (by (with_reducible repeat (first | refine blk_drewN ?_ _ | refine blk_drew ?_ | refine blk_alloc ?_ _)); exact BK7022.out) hb)
              have n4_ := Aside0.mk (below_step (by repeat (first | (with_reducible first | exact HB.out | apply below_alloc | apply pw_below_drewN | apply below_drew1 | refine below_set ?_ GE7001.out | refine below_set ?_ GE7002.out | refine below_set ?_ GE7013.out | refine below_set ?_ GE7022.out) | exact HB.out)) hb)
              clear BK7001
              clear BK7002
              clear BK7013
              clear BK7022
              clear HB
              have BK7001 := n0_
              have BK7002 := n1_
              have BK7013 := n2_
              have BK7022 := n3_
              have HB := n4_
              clear n0_ n1_ n2_ n3_ n4_
              (try clear hb)
              (try clear hb2)
              (try clear hk)
              (try clear hi)
              refine hK.out _ _ ⟨(blk_cell BK7001.out 0).trans rfl, (blk_cell BK7001.out 1).trans rfl, (blk_cell BK7001.out 2).trans rfl, (blk_cell BK7002.out 0).trans rfl, (blk_cell BK7002.out 1).trans rfl⟩ (fun hHeld => ?_)
              clear hK K
              refine norm_ (a' := ?_) ?_ ?_
              rotate_left
              · show Act.put _ (some 27) _ = _
                simp only [Act.put, List.setIfInBounds_toArray, List.set_cons_zero, List.set_cons_succ, i64_w, i32_w]
                rfl
              exact norm_ (by simp only [putAll, Act.put, List.setIfInBounds_toArray, List.set_cons_zero, List.set_cons_succ]) (hCont (gb7022) _ ⟨hHeld, (by (with_reducible repeat (first | refine blk_drewN ?_ _ | refine blk_drew ?_ | refine blk_alloc ?_ _)); exact BK7001.out), (by (with_reducible repeat (first | refine blk_drewN ?_ _ | refine blk_drew ?_ | refine blk_alloc ?_ _)); exact BK7002.out), (by (with_reducible repeat (first | refine blk_drewN ?_ _ | refine blk_drew ?_ | refine blk_alloc ?_ _)); exact BK7013.out), (by (with_reducible repeat (first | refine blk_drewN ?_ _ | refine blk_drew ?_ | refine blk_alloc ?_ _)); exact BK7022.out), GW7022.out, GE7022.out, NB7001_7022.out, NB7022_7001.out, NB7002_7022.out, NB7022_7002.out, NB7013_7022.out, NB7022_7013.out, (by repeat (first | (with_reducible first | exact HB.out | apply below_alloc | apply pw_below_drewN | apply below_drew1 | refine below_set ?_ GE7001.out | refine below_set ?_ GE7002.out | refine below_set ?_ GE7013.out | refine below_set ?_ GE7022.out) | exact HB.out))⟩)
          · skip
            refine box_step ?hg (N := 7) ?hd (cs := #[.string (⟨#[]⟩ : ByteArray), .string (⟨#[]⟩ : ByteArray), .string (⟨#[]⟩ : ByteArray)]) (t := 71) ?hr ?_; (case hd => rfl); (case hg => rfl); (case hr => first | (go_simp; done) | (go_simp; rfl))
            intro gb7022 hg w45 hbox hb
            have n0_ := Aside0.mk (blk_below (g := gb7001) (o := .cells #[.string a0_0, .string a0_1, .string a0_2] 69 (0, 0)) (by (with_reducible repeat (first | refine blk_drewN ?_ _ | refine blk_drew ?_ | refine blk_alloc ?_ _)); exact BK7001.out) hb)
            have n1_ := Aside0.mk (blk_below (g := gb7002) (o := .cells #[.int .u8 a1_0, .string a1_1] 56 (0, 0)) (by (with_reducible repeat (first | refine blk_drewN ?_ _ | refine blk_drew ?_ | refine blk_alloc ?_ _)); exact BK7002.out) hb)
            have n2_ := Aside0.mk (blk_below (g := gb7013) (o := .cells #[.string t7010, .string t7011, .string t7012] 71 (0, 0)) (by (with_reducible repeat (first | refine blk_drewN ?_ _ | refine blk_drew ?_ | refine blk_alloc ?_ _)); exact BK7013.out) hb)
            have n3_ := Aside0.mk (below_step (by repeat (first | (with_reducible first | exact HB.out | apply below_alloc | apply pw_below_drewN | apply below_drew1 | refine below_set ?_ GE7001.out | refine below_set ?_ GE7002.out | refine below_set ?_ GE7013.out) | exact HB.out)) hb)
            have n4_ := Aside0.mk (hbox)
            have n5_ := Aside0.mk ((by rw [hg]; exact (below_size (by repeat (first | (with_reducible first | exact HB.out | apply below_alloc | apply pw_below_drewN | apply below_drew1 | refine below_set ?_ GE7001.out | refine below_set ?_ GE7002.out | refine below_set ?_ GE7013.out) | exact HB.out))) : w.heap.size ≤ gb7022))
            have n6_ := Aside0.mk ((by rw [hg]; exact (below_size (by repeat (first | (with_reducible first | exact HB.out | apply below_alloc | apply pw_below_drewN | apply below_drew1 | refine below_set ?_ GE7001.out | refine below_set ?_ GE7002.out | refine below_set ?_ GE7013.out) | exact HB.out))) : w.heap.size ≤ gb7022))
            have n7_ := Aside0.mk ((by rw [hg]; exact Nat.ne_of_lt (blk_lt (g := gb7001) (o := .cells #[.string a0_0, .string a0_1, .string a0_2] 69 (0, 0)) (by (with_reducible repeat (first | refine blk_drewN ?_ _ | refine blk_drew ?_ | refine blk_alloc ?_ _)); exact BK7001.out)) : gb7001 ≠ gb7022))
            have n8_ := Aside0.mk ((by rw [hg]; exact Nat.ne_of_gt (blk_lt (g := gb7001) (o := .cells #[.string a0_0, .string a0_1, .string a0_2] 69 (0, 0)) (by (with_reducible repeat (first | refine blk_drewN ?_ _ | refine blk_drew ?_ | refine blk_alloc ?_ _)); exact BK7001.out)) : gb7022 ≠ gb7001))
            have n9_ := Aside0.mk ((by rw [hg]; exact Nat.ne_of_lt (blk_lt (g := gb7002) (o := .cells #[.int .u8 a1_0, .string a1_1] 56 (0, 0)) (by (with_reducible repeat (first | refine blk_drewN ?_ _ | refine blk_drew ?_ | refine blk_alloc ?_ _)); exact BK7002.out)) : gb7002 ≠ gb7022))
            have n10_ := Aside0.mk ((by rw [hg]; exact Nat.ne_of_gt (blk_lt (g := gb7002) (o := .cells #[.int .u8 a1_0, .string a1_1] 56 (0, 0)) (by (with_reducible repeat (first | refine blk_drewN ?_ _ | refine blk_drew ?_ | refine blk_alloc ?_ _)); exact BK7002.out)) : gb7022 ≠ gb7002))
            have n11_ := Aside0.mk ((by rw [hg]; exact Nat.ne_of_lt (blk_lt (g := gb7013) (o := .cells #[.string t7010, .string t7011, .string t7012] 71 (0, 0)) (by (with_reducible repeat (first | refine blk_drewN ?_ _ | refine blk_drew ?_ | refine blk_alloc ?_ _)); exact BK7013.out)) : gb7013 ≠ gb7022))
            have n12_ := Aside0.mk ((by rw [hg]; exact Nat.ne_of_gt (blk_lt (g := gb7013) (o := .cells #[.string t7010, .string t7011, .string t7012] 71 (0, 0)) (by (with_reducible repeat (first | refine blk_drewN ?_ _ | refine blk_drew ?_ | refine blk_alloc ?_ _)); exact BK7013.out)) : gb7022 ≠ gb7013))
            clear BK7001
            clear BK7002
            clear BK7013
            clear HB
            have BK7001 := n0_
            have BK7002 := n1_
            have BK7013 := n2_
            have HB := n3_
            have BK7022 := n4_
            have GW7022 := n5_
            have GE7022 := n6_
            have NB7001_7022 := n7_
            have NB7022_7001 := n8_
            have NB7002_7022 := n9_
            have NB7022_7002 := n10_
            have NB7013_7022 := n11_
            have NB7022_7013 := n12_
            clear n0_ n1_ n2_ n3_ n4_ n5_ n6_ n7_ n8_ n9_ n10_ n11_ n12_
            clear hb hbox hg
            refine hK.out _ _ ⟨(blk_cell BK7001.out 0).trans rfl, (blk_cell BK7001.out 1).trans rfl, (blk_cell BK7001.out 2).trans rfl, (blk_cell BK7002.out 0).trans rfl, (blk_cell BK7002.out 1).trans rfl⟩ (fun hHeld => ?_)
            clear hK K
            refine norm_ (a' := ?_) ?_ ?_
            rotate_left
            · show Act.put _ (some 7) _ = _
              simp only [Act.put, List.setIfInBounds_toArray, List.set_cons_zero, List.set_cons_succ, i64_w, i32_w]
              rfl
            refine one_ (i := 1) (N := some 24) #[true, true, true, false, false, true, false] rfl rfl (by kernel_rfl) (by decide) (fun K hK => ?_)
            refine goes_ Try.func44 (by kernel_rfl) rfl #[.agg #[.string a0_0, .string a0_1, .string a0_2]] (by rfl) rfl rfl (by (try simp only [List.map_toArray, List.map_cons, List.map_nil]); first | done | rfl | (simp only [List.length_drop, List.length_take]; rfl)) ?_
            with_reducible refine (laws_toValues.calls a0_0 a0_1 a0_2 t7014 t7015 t7016 _ A22.out).mono ?_
            rintro e w46 ⟨rfl, hb⟩
            refine ⟨_, rfl, ?_⟩
            have n0_ := Aside0.mk (blk_below (g := gb7001) (o := .cells #[.string a0_0, .string a0_1, .string a0_2] 69 (0, 0)) (by (with_reducible repeat (first | refine blk_drewN ?_ _ | refine blk_drew ?_ | refine blk_alloc ?_ _)); exact BK7001.out) hb)
            have n1_ := Aside0.mk (blk_below (g := gb7002) (o := .cells #[.int .u8 a1_0, .string a1_1] 56 (0, 0)) (by (with_reducible repeat (first | refine blk_drewN ?_ _ | refine blk_drew ?_ | refine blk_alloc ?_ _)); exact BK7002.out) hb)
            have n2_ := Aside0.mk (blk_below (g := gb7013) (o := .cells #[.string t7010, .string t7011, .string t7012] 71 (0, 0)) (by (with_reducible repeat (first | refine blk_drewN ?_ _ | refine blk_drew ?_ | refine blk_alloc ?_ _)); exact BK7013.out) hb)
            have n3_ := Aside0.mk (blk_below (g := gb7022) (o := .cells #[.string (⟨#[]⟩ : ByteArray), .string (⟨#[]⟩ : ByteArray), .string (⟨#[]⟩ : ByteArray)] 71 (0, 0)) (by (with_reducible repeat (first | refine blk_drewN ?_ _ | refine blk_drew ?_ | refine blk_alloc ?_ _)); exact BK7022.out) hb)
            have n4_ := Aside0.mk (below_step (by repeat (first | (with_reducible first | exact HB.out | apply below_alloc | apply pw_below_drewN | apply below_drew1 | refine below_set ?_ GE7001.out | refine below_set ?_ GE7002.out | refine below_set ?_ GE7013.out | refine below_set ?_ GE7022.out) | exact HB.out)) hb)
            clear BK7001
            clear BK7002
            clear BK7013
            clear BK7022
            clear HB
            have BK7001 := n0_
            have BK7002 := n1_
            have BK7013 := n2_
            have BK7022 := n3_
            have HB := n4_
            clear n0_ n1_ n2_ n3_ n4_
            (try clear hb)
            (try clear hb2)
            (try clear hk)
            (try clear hi)
            refine hK.out _ _ ⟨(blk_cell BK7001.out 0).trans rfl, (blk_cell BK7001.out 1).trans rfl, (blk_cell BK7001.out 2).trans rfl, (blk_cell BK7002.out 0).trans rfl, (blk_cell BK7002.out 1).trans rfl⟩ (fun hHeld => ?_)
            clear hK K
            refine norm_ (a' := ?_) ?_ ?_
            rotate_left
            · show Act.put _ (some 24) _ = _
              simp only [Act.put, List.setIfInBounds_toArray, List.set_cons_zero, List.set_cons_succ, i64_w, i32_w]
              rfl
            refine one_ (i := 3) (N := some 26) #[true, true, true, true, false, true, false] rfl rfl (by kernel_rfl) (by decide) (fun K hK => ?_)
            refine goes_ Try.func37 (by kernel_rfl) rfl #[.agg #[.int .u8 a1_0, .string a1_1]] (by rfl) rfl rfl (by (try simp only [List.map_toArray, List.map_cons, List.map_nil]); first | done | rfl | (simp only [List.length_drop, List.length_take]; rfl)) ?_
            with_reducible refine (laws_toMove.calls a1_0 a1_1 t7017 t7018 _ A23.out).mono ?_
            rintro e w47 ⟨rfl, hb⟩
            refine ⟨_, rfl, ?_⟩
            have n0_ := Aside0.mk (blk_below (g := gb7001) (o := .cells #[.string a0_0, .string a0_1, .string a0_2] 69 (0, 0)) (by (with_reducible repeat (first | refine blk_drewN ?_ _ | refine blk_drew ?_ | refine blk_alloc ?_ _)); exact BK7001.out) hb)
            have n1_ := Aside0.mk (blk_below (g := gb7002) (o := .cells #[.int .u8 a1_0, .string a1_1] 56 (0, 0)) (by (with_reducible repeat (first | refine blk_drewN ?_ _ | refine blk_drew ?_ | refine blk_alloc ?_ _)); exact BK7002.out) hb)
            have n2_ := Aside0.mk (blk_below (g := gb7013) (o := .cells #[.string t7010, .string t7011, .string t7012] 71 (0, 0)) (by (with_reducible repeat (first | refine blk_drewN ?_ _ | refine blk_drew ?_ | refine blk_alloc ?_ _)); exact BK7013.out) hb)
            have n3_ := Aside0.mk (blk_below (g := gb7022) (o := .cells #[.string (⟨#[]⟩ : ByteArray), .string (⟨#[]⟩ : ByteArray), .string (⟨#[]⟩ : ByteArray)] 71 (0, 0)) (by (with_reducible repeat (first | refine blk_drewN ?_ _ | refine blk_drew ?_ | refine blk_alloc ?_ _)); exact BK7022.out) hb)
            have n4_ := Aside0.mk (below_step (by repeat (first | (with_reducible first | exact HB.out | apply below_alloc | apply pw_below_drewN | apply below_drew1 | refine below_set ?_ GE7001.out | refine below_set ?_ GE7002.out | refine below_set ?_ GE7013.out | refine below_set ?_ GE7022.out) | exact HB.out)) hb)
            clear BK7001
            clear BK7002
            clear BK7013
            clear BK7022
            clear HB
            have BK7001 := n0_
            have BK7002 := n1_
            have BK7013 := n2_
            have BK7022 := n3_
            have HB := n4_
            clear n0_ n1_ n2_ n3_ n4_
            (try clear hb)
            (try clear hb2)
            (try clear hk)
            (try clear hi)
            refine hK.out _ _ ⟨(blk_cell BK7001.out 0).trans rfl, (blk_cell BK7001.out 1).trans rfl, (blk_cell BK7001.out 2).trans rfl, (blk_cell BK7002.out 0).trans rfl, (blk_cell BK7002.out 1).trans rfl⟩ (fun hHeld => ?_)
            clear hK K
            refine norm_ (a' := ?_) ?_ ?_
            rotate_left
            · show Act.put _ (some 26) _ = _
              simp only [Act.put, List.setIfInBounds_toArray, List.set_cons_zero, List.set_cons_succ, i64_w, i32_w]
              rfl
            refine one_ (i := 4) (N := some 27) #[true, true, true, true, true, true, false] rfl rfl (by kernel_rfl) (by decide) (fun K hK => ?_)
            refine goes_ Try.func45 (by kernel_rfl) rfl #[.agg #[.string t7014, .string t7015, .string t7016], .agg #[.int .u8 t7017, .string t7018]] (by rfl) rfl rfl (by (try simp only [List.map_toArray, List.map_cons, List.map_nil]); first | done | rfl | (simp only [List.length_drop, List.length_take]; rfl)) ?_
            with_reducible refine (impl_ReverseStep.calls t7014 t7015 t7016 t7017 t7018 t7019 t7020 t7021 _ A24.out).mono ?_
            rintro e w48 ⟨rfl, hb⟩
            refine ⟨_, rfl, ?_⟩
            have n0_ := Aside0.mk (blk_below (g := gb7001) (o := .cells #[.string a0_0, .string a0_1, .string a0_2] 69 (0, 0)) (by (with_reducible repeat (first | refine blk_drewN ?_ _ | refine blk_drew ?_ | refine blk_alloc ?_ _)); exact BK7001.out) hb)
            have n1_ := Aside0.mk (blk_below (g := gb7002) (o := .cells #[.int .u8 a1_0, .string a1_1] 56 (0, 0)) (by (with_reducible repeat (first | refine blk_drewN ?_ _ | refine blk_drew ?_ | refine blk_alloc ?_ _)); exact BK7002.out) hb)
            have n2_ := Aside0.mk (blk_below (g := gb7013) (o := .cells #[.string t7010, .string t7011, .string t7012] 71 (0, 0)) (by (with_reducible repeat (first | refine blk_drewN ?_ _ | refine blk_drew ?_ | refine blk_alloc ?_ _)); exact BK7013.out) hb)
            have n3_ := Aside0.mk (blk_below (g := gb7022) (o := .cells #[.string (⟨#[]⟩ : ByteArray), .string (⟨#[]⟩ : ByteArray), .string (⟨#[]⟩ : ByteArray)] 71 (0, 0)) (by (with_reducible repeat (first | refine blk_drewN ?_ _ | refine blk_drew ?_ | refine blk_alloc ?_ _)); exact BK7022.out) hb)
            have n4_ := Aside0.mk (below_step (by repeat (first | (with_reducible first | exact HB.out | apply below_alloc | apply pw_below_drewN | apply below_drew1 | refine below_set ?_ GE7001.out | refine below_set ?_ GE7002.out | refine below_set ?_ GE7013.out | refine below_set ?_ GE7022.out) | exact HB.out)) hb)
            clear BK7001
            clear BK7002
            clear BK7013
            clear BK7022
            clear HB
            have BK7001 := n0_
            have BK7002 := n1_
            have BK7013 := n2_
            have BK7022 := n3_
            have HB := n4_
            clear n0_ n1_ n2_ n3_ n4_
            (try clear hb)
            (try clear hb2)
            (try clear hk)
            (try clear hi)
            refine hK.out _ _ ⟨(blk_cell BK7001.out 0).trans rfl, (blk_cell BK7001.out 1).trans rfl, (blk_cell BK7001.out 2).trans rfl, (blk_cell BK7002.out 0).trans rfl, (blk_cell BK7002.out 1).trans rfl⟩ (fun hHeld => ?_)
            clear hK K
            refine norm_ (a' := ?_) ?_ ?_
            rotate_left
            · show Act.put _ (some 27) _ = _
              simp only [Act.put, List.setIfInBounds_toArray, List.set_cons_zero, List.set_cons_succ, i64_w, i32_w]
              rfl
            exact norm_ (by simp only [putAll, Act.put, List.setIfInBounds_toArray, List.set_cons_zero, List.set_cons_succ]) (hCont (gb7022) _ ⟨hHeld, (by (with_reducible repeat (first | refine blk_drewN ?_ _ | refine blk_drew ?_ | refine blk_alloc ?_ _)); exact BK7001.out), (by (with_reducible repeat (first | refine blk_drewN ?_ _ | refine blk_drew ?_ | refine blk_alloc ?_ _)); exact BK7002.out), (by (with_reducible repeat (first | refine blk_drewN ?_ _ | refine blk_drew ?_ | refine blk_alloc ?_ _)); exact BK7013.out), (by (with_reducible repeat (first | refine blk_drewN ?_ _ | refine blk_drew ?_ | refine blk_alloc ?_ _)); exact BK7022.out), GW7022.out, GE7022.out, NB7001_7022.out, NB7022_7001.out, NB7002_7022.out, NB7022_7002.out, NB7013_7022.out, NB7022_7013.out, (by repeat (first | (with_reducible first | exact HB.out | apply below_alloc | apply pw_below_drewN | apply below_drew1 | refine below_set ?_ GE7001.out | refine below_set ?_ GE7002.out | refine below_set ?_ GE7013.out | refine below_set ?_ GE7022.out) | exact HB.out))⟩)
        rintro gb7022 w49 ⟨hS_, h0_, h1_, h2_, h3_, h4_, h5_, h6_, h7_, h8_, h9_, h10_, h11_, h12_⟩
        have n0_ : Aside0 (w49.heap[gb7001]? = some (.cells #[.string a0_0, .string a0_1, .string a0_2] 69 (0, 0))) := ⟨h0_⟩
        have n1_ : Aside0 (w49.heap[gb7002]? = some (.cells #[.int .u8 a1_0, .string a1_1] 56 (0, 0))) := ⟨h1_⟩
        have n2_ : Aside0 (w49.heap[gb7013]? = some (.cells #[.string t7010, .string t7011, .string t7012] 71 (0, 0))) := ⟨h2_⟩
        have n3_ : Aside0 (w49.heap[gb7022]? = some (.cells #[.string (⟨#[]⟩ : ByteArray), .string (⟨#[]⟩ : ByteArray), .string (⟨#[]⟩ : ByteArray)] 71 (0, 0))) := ⟨h3_⟩
        have n4_ : Aside0 (w.heap.size ≤ gb7022) := ⟨h4_⟩
        have n5_ : Aside0 (w.heap.size ≤ gb7022) := ⟨h5_⟩
        have n6_ : Aside0 (gb7001 ≠ gb7022) := ⟨h6_⟩
        have n7_ : Aside0 (gb7022 ≠ gb7001) := ⟨h7_⟩
        have n8_ : Aside0 (gb7002 ≠ gb7022) := ⟨h8_⟩
        have n9_ : Aside0 (gb7022 ≠ gb7002) := ⟨h9_⟩
        have n10_ : Aside0 (gb7013 ≠ gb7022) := ⟨h10_⟩
        have n11_ : Aside0 (gb7022 ≠ gb7013) := ⟨h11_⟩
        have n12_ : Aside0 (Below w.heap.size w w49) := ⟨h12_⟩
        clear BK7001
        clear BK7002
        clear BK7013
        clear HB
        clear h0_ h1_ h2_ h3_ h4_ h5_ h6_ h7_ h8_ h9_ h10_ h11_ h12_
        have BK7001 := n0_
        have BK7002 := n1_
        have BK7013 := n2_
        have BK7022 := n3_
        have GW7022 := n4_
        have GE7022 := n5_
        have NB7001_7022 := n6_
        have NB7022_7001 := n7_
        have NB7002_7022 := n8_
        have NB7022_7002 := n9_
        have NB7013_7022 := n10_
        have NB7022_7013 := n11_
        have HB := n12_
        clear n0_ n1_ n2_ n3_ n4_ n5_ n6_ n7_ n8_ n9_ n10_ n11_ n12_
        have hHeld : w49.cell? ⟨gb7001, 0, none⟩ = some (.string a0_0) ∧ w49.cell? ⟨gb7001, 1, none⟩ = some (.string a0_1) ∧ w49.cell? ⟨gb7001, 2, none⟩ = some (.string a0_2) ∧ w49.cell? ⟨gb7002, 0, none⟩ = some (.int .u8 a1_0) ∧ w49.cell? ⟨gb7002, 1, none⟩ = some (.string a1_1) := hS_
        refine norm_ (a' := ?_) ?_ ?_
        rotate_left
        · simp only [putAll, Act.put, List.setIfInBounds_toArray, List.set_cons_zero, List.set_cons_succ]
          rfl
        refine one_ (i := 6) (N := none) #[true, true, true, true, true, true, true] rfl rfl (by kernel_rfl) (by decide) (fun K hK => ?_)
        have hs50 : w49.cell? ⟨gb7022, 0, none⟩ = some (.string (⟨#[]⟩ : ByteArray)) := (blk_cell BK7022.out 0).trans rfl
        have hfs50 := blk_frozen BK7022.out 0
        have hns50_0 := NB7001_7022.out
        have hns50_1 := NB7002_7022.out
        have hns50_2 := NB7013_7022.out
        have hms50_0 := NB7022_7001.out
        have hms50_1 := NB7022_7002.out
        have hms50_2 := NB7022_7013.out
        have hs51 : w49.cell? ⟨gb7022, 1, none⟩ = some (.string (⟨#[]⟩ : ByteArray)) := (blk_cell BK7022.out 1).trans rfl
        have hfs51 := blk_frozen BK7022.out 1
        have hns51_0 := NB7001_7022.out
        have hns51_1 := NB7002_7022.out
        have hns51_2 := NB7013_7022.out
        have hms51_0 := NB7022_7001.out
        have hms51_1 := NB7022_7002.out
        have hms51_2 := NB7022_7013.out
        have hs52 : w49.cell? ⟨gb7022, 2, none⟩ = some (.string (⟨#[]⟩ : ByteArray)) := (blk_cell BK7022.out 2).trans rfl
        have hfs52 := blk_frozen BK7022.out 2
        have hns52_0 := NB7001_7022.out
        have hns52_1 := NB7002_7022.out
        have hns52_2 := NB7013_7022.out
        have hms52_0 := NB7022_7001.out
        have hms52_1 := NB7022_7002.out
        have hms52_2 := NB7022_7013.out
        refine skip_ (w1 := ?_) (by rfl) rfl ?_ ?_
        rotate_left
        · go_simp
          rfl
        refine hK.out _ _ ⟨((cell_far (p := ⟨gb7022, _, none⟩) NB7001_7022.out _).trans (((cell_far (p := ⟨gb7022, _, none⟩) NB7001_7022.out _).trans (((cell_far (p := ⟨gb7022, _, none⟩) NB7001_7022.out _).trans (hHeld.1)))))), ((cell_far (p := ⟨gb7022, _, none⟩) NB7001_7022.out _).trans (((cell_far (p := ⟨gb7022, _, none⟩) NB7001_7022.out _).trans (((cell_far (p := ⟨gb7022, _, none⟩) NB7001_7022.out _).trans (hHeld.2.1)))))), ((cell_far (p := ⟨gb7022, _, none⟩) NB7001_7022.out _).trans (((cell_far (p := ⟨gb7022, _, none⟩) NB7001_7022.out _).trans (((cell_far (p := ⟨gb7022, _, none⟩) NB7001_7022.out _).trans (hHeld.2.2.1)))))), ((cell_far (p := ⟨gb7022, _, none⟩) NB7002_7022.out _).trans (((cell_far (p := ⟨gb7022, _, none⟩) NB7002_7022.out _).trans (((cell_far (p := ⟨gb7022, _, none⟩) NB7002_7022.out _).trans (hHeld.2.2.2.1)))))), ((cell_far (p := ⟨gb7022, _, none⟩) NB7002_7022.out _).trans (((cell_far (p := ⟨gb7022, _, none⟩) NB7002_7022.out _).trans (((cell_far (p := ⟨gb7022, _, none⟩) NB7002_7022.out _).trans (hHeld.2.2.2.2))))))⟩ (fun hHeld => ?_)
        clear hK K
        refine done_ (by kernel_rfl) ?_
        have hnb53 := NB7022_7001.out
        have hnc53 := NB7001_7022.out
        have hnb54 := NB7022_7002.out
        have hnc54 := NB7002_7022.out
        have hnb55 := NB7022_7013.out
        have hnc55 := NB7013_7022.out
        have hcz56_0 : w49.cell? ⟨gb7022, 0, none⟩ = some (.string (⟨#[]⟩ : ByteArray)) := (blk_cell BK7022.out 0).trans rfl
        have hcz56_1 : w49.cell? ⟨gb7022, 1, none⟩ = some (.string (⟨#[]⟩ : ByteArray)) := (blk_cell BK7022.out 1).trans rfl
        have hcz56_2 : w49.cell? ⟨gb7022, 2, none⟩ = some (.string (⟨#[]⟩ : ByteArray)) := (blk_cell BK7022.out 2).trans rfl
        have hfz56_0 := blk_frozen BK7022.out 0
        have hfz56_1 := blk_frozen BK7022.out 1
        have hfz56_2 := blk_frozen BK7022.out 2
        have hnb57 := NB7013_7001.out
        have hnc57 := NB7001_7013.out
        have hnb58 := NB7013_7002.out
        have hnc58 := NB7002_7013.out
        have hcz59_0 : w49.cell? ⟨gb7013, 0, none⟩ = some (.string t7010) := (blk_cell BK7013.out 0).trans rfl
        have hcz59_1 : w49.cell? ⟨gb7013, 1, none⟩ = some (.string t7011) := (blk_cell BK7013.out 1).trans rfl
        have hcz59_2 : w49.cell? ⟨gb7013, 2, none⟩ = some (.string t7012) := (blk_cell BK7013.out 2).trans rfl
        have hfz59_0 := blk_frozen BK7013.out 0
        have hfz59_1 := blk_frozen BK7013.out 1
        have hfz59_2 := blk_frozen BK7013.out 2
        try go_wp2_with (first | ((with_reducible refine gate_callee (f := 46) rfl ?_); refine goesL_ (some 30) rfl rfl Try.func46 (by kernel_rfl) rfl #[.agg #[.string t7019, .string t7020, .string t7021], .agg #[.string t7010, .string t7011, .string t7012]] rfl (by (try simp only [List.map_toArray, List.map_cons, List.map_nil]); first | done | rfl | (simp only [List.length_drop, List.length_take]; rfl)) ?_; (with_reducible refine (laws_eqValues.calls t7019 t7020 t7021 t7010 t7011 t7012 true _ A25.out).mono ?_); rintro e w60 ⟨rfl, hb⟩; refine ⟨_, rfl, ?_⟩; have n0_ := Aside0.mk (blk_below (g := gb7001) (o := .cells #[.string a0_0, .string a0_1, .string a0_2] 69 (0, 0)) (by (with_reducible repeat (first | refine blk_drewN ?_ _ | refine blk_drew ?_ | refine blk_alloc ?_ _)); refine blk_far ?_ NB7001_7022.out _; (with_reducible repeat (first | refine blk_drewN ?_ _ | refine blk_drew ?_ | refine blk_alloc ?_ _)); refine blk_far ?_ NB7001_7022.out _; (with_reducible repeat (first | refine blk_drewN ?_ _ | refine blk_drew ?_ | refine blk_alloc ?_ _)); refine blk_far ?_ NB7001_7022.out _; (with_reducible repeat (first | refine blk_drewN ?_ _ | refine blk_drew ?_ | refine blk_alloc ?_ _)); exact BK7001.out) hb); have n1_ := Aside0.mk (blk_below (g := gb7002) (o := .cells #[.int .u8 a1_0, .string a1_1] 56 (0, 0)) (by (with_reducible repeat (first | refine blk_drewN ?_ _ | refine blk_drew ?_ | refine blk_alloc ?_ _)); refine blk_far ?_ NB7002_7022.out _; (with_reducible repeat (first | refine blk_drewN ?_ _ | refine blk_drew ?_ | refine blk_alloc ?_ _)); refine blk_far ?_ NB7002_7022.out _; (with_reducible repeat (first | refine blk_drewN ?_ _ | refine blk_drew ?_ | refine blk_alloc ?_ _)); refine blk_far ?_ NB7002_7022.out _; (with_reducible repeat (first | refine blk_drewN ?_ _ | refine blk_drew ?_ | refine blk_alloc ?_ _)); exact BK7002.out) hb); have n2_ := Aside0.mk (blk_below (g := gb7013) (o := .cells #[.string t7010, .string t7011, .string t7012] 71 (0, 0)) (by (with_reducible repeat (first | refine blk_drewN ?_ _ | refine blk_drew ?_ | refine blk_alloc ?_ _)); refine blk_far ?_ NB7013_7022.out _; (with_reducible repeat (first | refine blk_drewN ?_ _ | refine blk_drew ?_ | refine blk_alloc ?_ _)); refine blk_far ?_ NB7013_7022.out _; (with_reducible repeat (first | refine blk_drewN ?_ _ | refine blk_drew ?_ | refine blk_alloc ?_ _)); refine blk_far ?_ NB7013_7022.out _; (with_reducible repeat (first | refine blk_drewN ?_ _ | refine blk_drew ?_ | refine blk_alloc ?_ _)); exact BK7013.out) hb); have n3_ := Aside0.mk (blk_below (g := gb7022) (o := .cells #[.string t7019, .string t7020, .string t7021] 71 (0, 0)) (by (with_reducible repeat (first | refine blk_drewN ?_ _ | refine blk_drew ?_ | refine blk_alloc ?_ _)); refine blk_put (cs := #[.string t7019, .string t7020, .string (⟨#[]⟩ : ByteArray)]) ?_ 2 _ rfl; (with_reducible repeat (first | refine blk_drewN ?_ _ | refine blk_drew ?_ | refine blk_alloc ?_ _)); refine blk_put (cs := #[.string t7019, .string (⟨#[]⟩ : ByteArray), .string (⟨#[]⟩ : ByteArray)]) ?_ 1 _ rfl; (with_reducible repeat (first | refine blk_drewN ?_ _ | refine blk_drew ?_ | refine blk_alloc ?_ _)); refine blk_put (cs := #[.string (⟨#[]⟩ : ByteArray), .string (⟨#[]⟩ : ByteArray), .string (⟨#[]⟩ : ByteArray)]) ?_ 0 _ rfl; (with_reducible repeat (first | refine blk_drewN ?_ _ | refine blk_drew ?_ | refine blk_alloc ?_ _)); exact BK7022.out) hb); have n4_ := Aside0.mk (below_step (by repeat (first | (with_reducible first | exact HB.out | apply below_alloc | apply pw_below_drewN | apply below_drew1 | refine below_set ?_ GE7001.out | refine below_set ?_ GE7002.out | refine below_set ?_ GE7013.out | refine below_set ?_ GE7022.out) | exact HB.out)) hb); clear BK7001; clear BK7002; clear BK7013; clear BK7022; clear HB; have BK7001 := n0_; have BK7002 := n1_; have BK7013 := n2_; have BK7022 := n3_; have HB := n4_; clear n0_ n1_ n2_ n3_ n4_; (try clear hb); (try clear hb2); (try clear hk); (try clear hi)))
        go_ret
        exact ⟨by first | rfl | (simp [errW_none, errW_some] <;> rfl) | (simp [*, errW_none, errW_some] <;> rfl), by repeat (first | (with_reducible first | exact HB.out | apply below_alloc | apply pw_below_drewN | apply below_drew1 | refine below_set ?_ GE7001.out | refine below_set ?_ GE7002.out | refine below_set ?_ GE7013.out | refine below_set ?_ GE7022.out) | exact HB.out)⟩
      · replace c26 := Bool.eq_false_iff.mpr c26
        subst c26
        have H1 : (some false) = some r := by rw [if_neg (show ¬ (false = true) by decide)] at H; exact H
        clear H
        have H := H1
        clear H1
        obtain rfl := Option.some.inj H
        go_enter Try.func7, Try.ntmps7
        try go_wp2_with (first | ((with_reducible refine gate_dst (N := 2) rfl ?_); refine box_event ?hg (N := 2) ?hd (cs := #[.string a0_0, .string a0_1, .string a0_2]) (t := 69) ?hr ?_; (case hd => rfl); (case hg => rfl); (case hr => first | (go_simp; done) | (go_simp; rfl)); intro gb7001 hg w61 hbox hb; have n0_ := Aside0.mk (below_step (by repeat (first | (with_reducible first | exact HB.out | apply below_alloc | apply pw_below_drewN | apply below_drew1) | exact HB.out)) hb); have n1_ := Aside0.mk (hbox); have n2_ := Aside0.mk ((by rw [hg]; exact (below_size (by repeat (first | (with_reducible first | exact HB.out | apply below_alloc | apply pw_below_drewN | apply below_drew1) | exact HB.out))) : w.heap.size ≤ gb7001)); have n3_ := Aside0.mk ((by rw [hg]; exact (below_size (by repeat (first | (with_reducible first | exact HB.out | apply below_alloc | apply pw_below_drewN | apply below_drew1) | exact HB.out))) : w.heap.size ≤ gb7001)); clear HB; have HB := n0_; have BK7001 := n1_; have GW7001 := n2_; have GE7001 := n3_; clear n0_ n1_ n2_ n3_; clear hb hbox hg) | ((with_reducible refine gate_dst (N := 3) rfl ?_); refine box_event ?hg (N := 3) ?hd (cs := #[.int .u8 a1_0, .string a1_1]) (t := 56) ?hr ?_; (case hd => rfl); (case hg => rfl); (case hr => first | (go_simp; done) | (go_simp; rfl)); intro gb7002 hg w62 hbox hb; have n0_ := Aside0.mk (blk_below (g := gb7001) (o := .cells #[.string a0_0, .string a0_1, .string a0_2] 69 (0, 0)) (by (with_reducible repeat (first | refine blk_drewN ?_ _ | refine blk_drew ?_ | refine blk_alloc ?_ _)); exact BK7001.out) hb); have n1_ := Aside0.mk (below_step (by repeat (first | (with_reducible first | exact HB.out | apply below_alloc | apply pw_below_drewN | apply below_drew1 | refine below_set ?_ GE7001.out) | exact HB.out)) hb); have n2_ := Aside0.mk (hbox); have n3_ := Aside0.mk ((by rw [hg]; exact (below_size (by repeat (first | (with_reducible first | exact HB.out | apply below_alloc | apply pw_below_drewN | apply below_drew1 | refine below_set ?_ GE7001.out) | exact HB.out))) : w.heap.size ≤ gb7002)); have n4_ := Aside0.mk ((by rw [hg]; exact (below_size (by repeat (first | (with_reducible first | exact HB.out | apply below_alloc | apply pw_below_drewN | apply below_drew1 | refine below_set ?_ GE7001.out) | exact HB.out))) : w.heap.size ≤ gb7002)); have n5_ := Aside0.mk ((by rw [hg]; exact Nat.ne_of_lt (blk_lt (g := gb7001) (o := .cells #[.string a0_0, .string a0_1, .string a0_2] 69 (0, 0)) (by (with_reducible repeat (first | refine blk_drewN ?_ _ | refine blk_drew ?_ | refine blk_alloc ?_ _)); exact BK7001.out)) : gb7001 ≠ gb7002)); have n6_ := Aside0.mk ((by rw [hg]; exact Nat.ne_of_gt (blk_lt (g := gb7001) (o := .cells #[.string a0_0, .string a0_1, .string a0_2] 69 (0, 0)) (by (with_reducible repeat (first | refine blk_drewN ?_ _ | refine blk_drew ?_ | refine blk_alloc ?_ _)); exact BK7001.out)) : gb7002 ≠ gb7001)); clear BK7001; clear HB; have BK7001 := n0_; have HB := n1_; have BK7002 := n2_; have GW7002 := n3_; have GE7002 := n4_; have NB7001_7002 := n5_; have NB7002_7001 := n6_; clear n0_ n1_ n2_ n3_ n4_ n5_ n6_; clear hb hbox hg; have hnb63 := NB7001_7002.out; have hnc63 := NB7002_7001.out; have hcz64_0 : w62.cell? ⟨gb7001, 0, none⟩ = some (.string a0_0) := (blk_cell BK7001.out 0).trans rfl; have hcz64_1 : w62.cell? ⟨gb7001, 1, none⟩ = some (.string a0_1) := (blk_cell BK7001.out 1).trans rfl; have hcz64_2 : w62.cell? ⟨gb7001, 2, none⟩ = some (.string a0_2) := (blk_cell BK7001.out 2).trans rfl; have hfz64_0 := blk_frozen BK7001.out 0; have hfz64_1 := blk_frozen BK7001.out 1; have hfz64_2 := blk_frozen BK7001.out 2) | ((with_reducible refine gate_callee (f := 42) rfl ?_); refine goesL_ (some 10) rfl rfl Try.func42 (by kernel_rfl) rfl #[.agg #[.string a0_0, .string a0_1, .string a0_2], .int .i64 1048576] rfl (by (try simp only [List.map_toArray, List.map_cons, List.map_nil]); first | done | rfl | (simp only [List.length_drop, List.length_take]; rfl)) ?_; (with_reducible refine (laws_szValues.calls a0_0 a0_1 a0_2 1048576 t7003 _ A3.out).mono ?_); rintro e w65 ⟨rfl, hb⟩; refine ⟨_, rfl, ?_⟩; have n0_ := Aside0.mk (blk_below (g := gb7001) (o := .cells #[.string a0_0, .string a0_1, .string a0_2] 69 (0, 0)) (by (with_reducible repeat (first | refine blk_drewN ?_ _ | refine blk_drew ?_ | refine blk_alloc ?_ _)); exact BK7001.out) hb); have n1_ := Aside0.mk (blk_below (g := gb7002) (o := .cells #[.int .u8 a1_0, .string a1_1] 56 (0, 0)) (by (with_reducible repeat (first | refine blk_drewN ?_ _ | refine blk_drew ?_ | refine blk_alloc ?_ _)); exact BK7002.out) hb); have n2_ := Aside0.mk (below_step (by repeat (first | (with_reducible first | exact HB.out | apply below_alloc | apply pw_below_drewN | apply below_drew1 | refine below_set ?_ GE7001.out | refine below_set ?_ GE7002.out) | exact HB.out)) hb); clear BK7001; clear BK7002; clear HB; have BK7001 := n0_; have BK7002 := n1_; have HB := n2_; clear n0_ n1_ n2_; (try clear hb); (try clear hb2); (try clear hk); (try clear hi); have hcz66_0 : w65.cell? ⟨gb7002, 0, none⟩ = some (.int .u8 a1_0) := (blk_cell BK7002.out 0).trans rfl; have hcz66_1 : w65.cell? ⟨gb7002, 1, none⟩ = some (.string a1_1) := (blk_cell BK7002.out 1).trans rfl; have hfz66_0 := blk_frozen BK7002.out 0; have hfz66_1 := blk_frozen BK7002.out 1) | ((with_reducible refine gate_callee (f := 34) rfl ?_); refine goesL_ (some 15) rfl rfl Try.func34 (by kernel_rfl) rfl #[.agg #[.int .u8 a1_0, .string a1_1], .int .i64 t7003] rfl (by (try simp only [List.map_toArray, List.map_cons, List.map_nil]); first | done | rfl | (simp only [List.length_drop, List.length_take]; rfl)) ?_; (with_reducible refine (laws_szMove.calls a1_0 a1_1 t7003 t7004 _ A10.out).mono ?_); rintro e w67 ⟨rfl, hb⟩; refine ⟨_, rfl, ?_⟩; have n0_ := Aside0.mk (blk_below (g := gb7001) (o := .cells #[.string a0_0, .string a0_1, .string a0_2] 69 (0, 0)) (by (with_reducible repeat (first | refine blk_drewN ?_ _ | refine blk_drew ?_ | refine blk_alloc ?_ _)); exact BK7001.out) hb); have n1_ := Aside0.mk (blk_below (g := gb7002) (o := .cells #[.int .u8 a1_0, .string a1_1] 56 (0, 0)) (by (with_reducible repeat (first | refine blk_drewN ?_ _ | refine blk_drew ?_ | refine blk_alloc ?_ _)); exact BK7002.out) hb); have n2_ := Aside0.mk (below_step (by repeat (first | (with_reducible first | exact HB.out | apply below_alloc | apply pw_below_drewN | apply below_drew1 | refine below_set ?_ GE7001.out | refine below_set ?_ GE7002.out) | exact HB.out)) hb); clear BK7001; clear BK7002; clear HB; have BK7001 := n0_; have BK7002 := n1_; have HB := n2_; clear n0_ n1_ n2_; (try clear hb); (try clear hb2); (try clear hk); (try clear hi)))
        have n0_ := Aside0.mk (blk_drew BK7001.out)
        have n1_ := Aside0.mk (blk_drew BK7002.out)
        have n2_ := Aside0.mk (below_drew1 HB.out)
        clear BK7001
        clear BK7002
        clear HB
        have BK7001 := n0_
        have BK7002 := n1_
        have HB := n2_
        clear n0_ n1_ n2_
        refine start_ (n := 7) (S := fun w' => w'.cell? ⟨gb7001, 0, none⟩ = some (.string a0_0) ∧ w'.cell? ⟨gb7001, 1, none⟩ = some (.string a0_1) ∧ w'.cell? ⟨gb7001, 2, none⟩ = some (.string a0_2) ∧ w'.cell? ⟨gb7002, 0, none⟩ = some (.int .u8 a1_0) ∧ w'.cell? ⟨gb7002, 1, none⟩ = some (.string a1_1)) (ds := []) #[false, false, false, false, false, false, false] (by kernel_rfl) rfl rfl ⟨(blk_cell BK7001.out 0).trans rfl, (blk_cell BK7001.out 1).trans rfl, (blk_cell BK7001.out 2).trans rfl, (blk_cell BK7002.out 0).trans rfl, (blk_cell BK7002.out 1).trans rfl⟩ (fun hHeld => ?_)
        generalize w67.drew = w68 at BK7001 BK7002 HB hHeld ⊢
        refine take_ (i := 0) (N := some 18) (v := ?_) (a' := ?_) #[true, false, false, false, false, false, false] rfl rfl (by kernel_rfl) (fun _ _ _ h => h) (Or.inl ⟨by rfl, ?_⟩) hHeld ?_ ?_
        rotate_left
        · rintro w' ⟨s0, s1, s2, s3, s4⟩
          go_simp
          first | with_reducible rfl | (rw [if_neg (by omega)]; done)
        rotate_left
        · simp only [Act.put, List.setIfInBounds_toArray, List.set_cons_zero, List.set_cons_succ, i64_w, i32_w]
          rfl
        refine take_ (i := 2) (N := some 20) (v := ?_) (a' := ?_) #[true, false, true, false, false, false, false] rfl rfl (by kernel_rfl) (fun _ _ _ h => h) (Or.inl ⟨by rfl, ?_⟩) hHeld ?_ ?_
        rotate_left
        · rintro w' ⟨s0, s1, s2, s3, s4⟩
          go_simp
          first | with_reducible rfl | (rw [if_neg (by omega)]; done)
        rotate_left
        · simp only [Act.put, List.setIfInBounds_toArray, List.set_cons_zero, List.set_cons_succ, i64_w, i32_w]
          rfl
        refine join_ (σ := Nat) 1 #[true, true, true, true, true, true, false] (fun s_ => [(19, .agg #[.string t7005, .string t7006, .string t7007]), (21, .agg #[.int .u8 t7008, .string t7009]), (22, .agg #[.string t7010, .string t7011, .string t7012]), (6, .pointer (some ⟨s_, 0, none⟩))]) (fun s_ w' => (w'.cell? ⟨gb7001, 0, none⟩ = some (.string a0_0) ∧ w'.cell? ⟨gb7001, 1, none⟩ = some (.string a0_1) ∧ w'.cell? ⟨gb7001, 2, none⟩ = some (.string a0_2) ∧ w'.cell? ⟨gb7002, 0, none⟩ = some (.int .u8 a1_0) ∧ w'.cell? ⟨gb7002, 1, none⟩ = some (.string a1_1)) ∧ (w'.heap[gb7001]? = some (.cells #[.string a0_0, .string a0_1, .string a0_2] 69 (0, 0))) ∧ (w'.heap[gb7002]? = some (.cells #[.int .u8 a1_0, .string a1_1] 56 (0, 0))) ∧ (w'.heap[s_]? = some (.cells #[.string (⟨#[]⟩ : ByteArray), .string (⟨#[]⟩ : ByteArray), .string (⟨#[]⟩ : ByteArray)] 71 (0, 0))) ∧ (w.heap.size ≤ s_) ∧ (w.heap.size ≤ s_) ∧ (gb7001 ≠ s_) ∧ (s_ ≠ gb7001) ∧ (gb7002 ≠ s_) ∧ (s_ ≠ gb7002) ∧ (Below w.heap.size w w')) ?_ ?_
        rotate_left
        · intro hCont
          refine two_ (i := 1) (j := 5) (Ni := some 19) (Nj := some 6) #[true, true, true, false, false, false, false] #[true, false, true, false, false, true, false] rfl rfl rfl rfl (by kernel_rfl) (by decide) (by decide) (fun K hK => ?_) (fun K hK => ?_)
          · skip
            refine goes_ Try.func44 (by kernel_rfl) rfl #[.agg #[.string a0_0, .string a0_1, .string a0_2]] (by rfl) rfl rfl (by (try simp only [List.map_toArray, List.map_cons, List.map_nil]); first | done | rfl | (simp only [List.length_drop, List.length_take]; rfl)) ?_
            with_reducible refine (laws_toValues.calls a0_0 a0_1 a0_2 t7005 t7006 t7007 _ A19.out).mono ?_
            rintro e w69 ⟨rfl, hb⟩
            refine ⟨_, rfl, ?_⟩
            have n0_ := Aside0.mk (blk_below (g := gb7001) (o := .cells #[.string a0_0, .string a0_1, .string a0_2] 69 (0, 0)) (by (with_reducible repeat (first | refine blk_drewN ?_ _ | refine blk_drew ?_ | refine blk_alloc ?_ _)); exact BK7001.out) hb)
            have n1_ := Aside0.mk (blk_below (g := gb7002) (o := .cells #[.int .u8 a1_0, .string a1_1] 56 (0, 0)) (by (with_reducible repeat (first | refine blk_drewN ?_ _ | refine blk_drew ?_ | refine blk_alloc ?_ _)); exact BK7002.out) hb)
            have n2_ := Aside0.mk (below_step (by repeat (first | (with_reducible first | exact HB.out | apply below_alloc | apply pw_below_drewN | apply below_drew1 | refine below_set ?_ GE7001.out | refine below_set ?_ GE7002.out) | exact HB.out)) hb)
            clear BK7001
            clear BK7002
            clear HB
            have BK7001 := n0_
            have BK7002 := n1_
            have HB := n2_
            clear n0_ n1_ n2_
            (try clear hb)
            (try clear hb2)
            (try clear hk)
            (try clear hi)
            refine hK.out _ _ ⟨(blk_cell BK7001.out 0).trans rfl, (blk_cell BK7001.out 1).trans rfl, (blk_cell BK7001.out 2).trans rfl, (blk_cell BK7002.out 0).trans rfl, (blk_cell BK7002.out 1).trans rfl⟩ (fun hHeld => ?_)
            clear hK K
            refine norm_ (a' := ?_) ?_ ?_
            rotate_left
            · show Act.put _ (some 19) _ = _
              simp only [Act.put, List.setIfInBounds_toArray, List.set_cons_zero, List.set_cons_succ, i64_w, i32_w]
              rfl
            refine two_ (i := 3) (j := 5) (Ni := some 21) (Nj := some 6) #[true, true, true, true, false, false, false] #[true, true, true, false, false, true, false] rfl rfl rfl rfl (by kernel_rfl) (by decide) (by decide) (fun K hK => ?_) (fun K hK => ?_)
            · skip
              refine goes_ Try.func37 (by kernel_rfl) rfl #[.agg #[.int .u8 a1_0, .string a1_1]] (by rfl) rfl rfl (by (try simp only [List.map_toArray, List.map_cons, List.map_nil]); first | done | rfl | (simp only [List.length_drop, List.length_take]; rfl)) ?_
              with_reducible refine (laws_toMove.calls a1_0 a1_1 t7008 t7009 _ A20.out).mono ?_
              rintro e w70 ⟨rfl, hb⟩
              refine ⟨_, rfl, ?_⟩
              have n0_ := Aside0.mk (blk_below (g := gb7001) (o := .cells #[.string a0_0, .string a0_1, .string a0_2] 69 (0, 0)) (by (with_reducible repeat (first | refine blk_drewN ?_ _ | refine blk_drew ?_ | refine blk_alloc ?_ _)); exact BK7001.out) hb)
              have n1_ := Aside0.mk (blk_below (g := gb7002) (o := .cells #[.int .u8 a1_0, .string a1_1] 56 (0, 0)) (by (with_reducible repeat (first | refine blk_drewN ?_ _ | refine blk_drew ?_ | refine blk_alloc ?_ _)); exact BK7002.out) hb)
              have n2_ := Aside0.mk (below_step (by repeat (first | (with_reducible first | exact HB.out | apply below_alloc | apply pw_below_drewN | apply below_drew1 | refine below_set ?_ GE7001.out | refine below_set ?_ GE7002.out) | exact HB.out)) hb)
              clear BK7001
              clear BK7002
              clear HB
              have BK7001 := n0_
              have BK7002 := n1_
              have HB := n2_
              clear n0_ n1_ n2_
              (try clear hb)
              (try clear hb2)
              (try clear hk)
              (try clear hi)
              refine hK.out _ _ ⟨(blk_cell BK7001.out 0).trans rfl, (blk_cell BK7001.out 1).trans rfl, (blk_cell BK7001.out 2).trans rfl, (blk_cell BK7002.out 0).trans rfl, (blk_cell BK7002.out 1).trans rfl⟩ (fun hHeld => ?_)
              clear hK K
              refine norm_ (a' := ?_) ?_ ?_
              rotate_left
              · show Act.put _ (some 21) _ = _
                simp only [Act.put, List.setIfInBounds_toArray, List.set_cons_zero, List.set_cons_succ, i64_w, i32_w]
                rfl
              refine two_ (i := 4) (j := 5) (Ni := some 22) (Nj := some 6) #[true, true, true, true, true, false, false] #[true, true, true, true, false, true, false] rfl rfl rfl rfl (by kernel_rfl) (by decide) (by decide) (fun K hK => ?_) (fun K hK => ?_)
              · skip
                refine goes_ Try.func43 (by kernel_rfl) rfl #[.agg #[.string t7005, .string t7006, .string t7007], .agg #[.int .u8 t7008, .string t7009]] (by rfl) rfl rfl (by (try simp only [List.map_toArray, List.map_cons, List.map_nil]); first | done | rfl | (simp only [List.length_drop, List.length_take]; rfl)) ?_
                with_reducible refine (spec_ReverseStep.calls t7005 t7006 t7007 t7008 t7009 t7010 t7011 t7012 _ A21.out).mono ?_
                rintro e w71 ⟨rfl, hb⟩
                refine ⟨_, rfl, ?_⟩
                have n0_ := Aside0.mk (blk_below (g := gb7001) (o := .cells #[.string a0_0, .string a0_1, .string a0_2] 69 (0, 0)) (by (with_reducible repeat (first | refine blk_drewN ?_ _ | refine blk_drew ?_ | refine blk_alloc ?_ _)); exact BK7001.out) hb)
                have n1_ := Aside0.mk (blk_below (g := gb7002) (o := .cells #[.int .u8 a1_0, .string a1_1] 56 (0, 0)) (by (with_reducible repeat (first | refine blk_drewN ?_ _ | refine blk_drew ?_ | refine blk_alloc ?_ _)); exact BK7002.out) hb)
                have n2_ := Aside0.mk (below_step (by repeat (first | (with_reducible first | exact HB.out | apply below_alloc | apply pw_below_drewN | apply below_drew1 | refine below_set ?_ GE7001.out | refine below_set ?_ GE7002.out) | exact HB.out)) hb)
                clear BK7001
                clear BK7002
                clear HB
                have BK7001 := n0_
                have BK7002 := n1_
                have HB := n2_
                clear n0_ n1_ n2_
                (try clear hb)
                (try clear hb2)
                (try clear hk)
                (try clear hi)
                refine hK.out _ _ ⟨(blk_cell BK7001.out 0).trans rfl, (blk_cell BK7001.out 1).trans rfl, (blk_cell BK7001.out 2).trans rfl, (blk_cell BK7002.out 0).trans rfl, (blk_cell BK7002.out 1).trans rfl⟩ (fun hHeld => ?_)
                clear hK K
                refine norm_ (a' := ?_) ?_ ?_
                rotate_left
                · show Act.put _ (some 22) _ = _
                  simp only [Act.put, List.setIfInBounds_toArray, List.set_cons_zero, List.set_cons_succ, i64_w, i32_w]
                  rfl
                refine one_ (i := 5) (N := some 6) #[true, true, true, true, true, true, false] rfl rfl (by kernel_rfl) (by decide) (fun K hK => ?_)
                refine box_step ?hg (N := 6) ?hd (cs := #[.string (⟨#[]⟩ : ByteArray), .string (⟨#[]⟩ : ByteArray), .string (⟨#[]⟩ : ByteArray)]) (t := 71) ?hr ?_; (case hd => rfl); (case hg => rfl); (case hr => first | (go_simp; done) | (go_simp; rfl))
                intro gb7013 hg w72 hbox hb
                have n0_ := Aside0.mk (blk_below (g := gb7001) (o := .cells #[.string a0_0, .string a0_1, .string a0_2] 69 (0, 0)) (by (with_reducible repeat (first | refine blk_drewN ?_ _ | refine blk_drew ?_ | refine blk_alloc ?_ _)); exact BK7001.out) hb)
                have n1_ := Aside0.mk (blk_below (g := gb7002) (o := .cells #[.int .u8 a1_0, .string a1_1] 56 (0, 0)) (by (with_reducible repeat (first | refine blk_drewN ?_ _ | refine blk_drew ?_ | refine blk_alloc ?_ _)); exact BK7002.out) hb)
                have n2_ := Aside0.mk (below_step (by repeat (first | (with_reducible first | exact HB.out | apply below_alloc | apply pw_below_drewN | apply below_drew1 | refine below_set ?_ GE7001.out | refine below_set ?_ GE7002.out) | exact HB.out)) hb)
                have n3_ := Aside0.mk (hbox)
                have n4_ := Aside0.mk ((by rw [hg]; exact (below_size (by repeat (first | (with_reducible first | exact HB.out | apply below_alloc | apply pw_below_drewN | apply below_drew1 | refine below_set ?_ GE7001.out | refine below_set ?_ GE7002.out) | exact HB.out))) : w.heap.size ≤ gb7013))
                have n5_ := Aside0.mk ((by rw [hg]; exact (below_size (by repeat (first | (with_reducible first | exact HB.out | apply below_alloc | apply pw_below_drewN | apply below_drew1 | refine below_set ?_ GE7001.out | refine below_set ?_ GE7002.out) | exact HB.out))) : w.heap.size ≤ gb7013))
                have n6_ := Aside0.mk ((by rw [hg]; exact Nat.ne_of_lt (blk_lt (g := gb7001) (o := .cells #[.string a0_0, .string a0_1, .string a0_2] 69 (0, 0)) (by (with_reducible repeat (first | refine blk_drewN ?_ _ | refine blk_drew ?_ | refine blk_alloc ?_ _)); exact BK7001.out)) : gb7001 ≠ gb7013))
                have n7_ := Aside0.mk ((by rw [hg]; exact Nat.ne_of_gt (blk_lt (g := gb7001) (o := .cells #[.string a0_0, .string a0_1, .string a0_2] 69 (0, 0)) (by (with_reducible repeat (first | refine blk_drewN ?_ _ | refine blk_drew ?_ | refine blk_alloc ?_ _)); exact BK7001.out)) : gb7013 ≠ gb7001))
                have n8_ := Aside0.mk ((by rw [hg]; exact Nat.ne_of_lt (blk_lt (g := gb7002) (o := .cells #[.int .u8 a1_0, .string a1_1] 56 (0, 0)) (by (with_reducible repeat (first | refine blk_drewN ?_ _ | refine blk_drew ?_ | refine blk_alloc ?_ _)); exact BK7002.out)) : gb7002 ≠ gb7013))
                have n9_ := Aside0.mk ((by rw [hg]; exact Nat.ne_of_gt (blk_lt (g := gb7002) (o := .cells #[.int .u8 a1_0, .string a1_1] 56 (0, 0)) (by (with_reducible repeat (first | refine blk_drewN ?_ _ | refine blk_drew ?_ | refine blk_alloc ?_ _)); exact BK7002.out)) : gb7013 ≠ gb7002))
                clear BK7001
                clear BK7002
                clear HB
                have BK7001 := n0_
                have BK7002 := n1_
                have HB := n2_
                have BK7013 := n3_
                have GW7013 := n4_
                have GE7013 := n5_
                have NB7001_7013 := n6_
                have NB7013_7001 := n7_
                have NB7002_7013 := n8_
                have NB7013_7002 := n9_
                clear n0_ n1_ n2_ n3_ n4_ n5_ n6_ n7_ n8_ n9_
                clear hb hbox hg
                refine hK.out _ _ ⟨(blk_cell BK7001.out 0).trans rfl, (blk_cell BK7001.out 1).trans rfl, (blk_cell BK7001.out 2).trans rfl, (blk_cell BK7002.out 0).trans rfl, (blk_cell BK7002.out 1).trans rfl⟩ (fun hHeld => ?_)
                clear hK K
                refine norm_ (a' := ?_) ?_ ?_
                rotate_left
                · show Act.put _ (some 6) _ = _
                  simp only [Act.put, List.setIfInBounds_toArray, List.set_cons_zero, List.set_cons_succ, i64_w, i32_w]
                  rfl
                exact norm_ (by simp only [putAll, Act.put, List.setIfInBounds_toArray, List.set_cons_zero, List.set_cons_succ]) (hCont (gb7013) _ ⟨hHeld, (by (with_reducible repeat (first | refine blk_drewN ?_ _ | refine blk_drew ?_ | refine blk_alloc ?_ _)); exact BK7001.out), (by (with_reducible repeat (first | refine blk_drewN ?_ _ | refine blk_drew ?_ | refine blk_alloc ?_ _)); exact BK7002.out), (by (with_reducible repeat (first | refine blk_drewN ?_ _ | refine blk_drew ?_ | refine blk_alloc ?_ _)); exact BK7013.out), GW7013.out, GE7013.out, NB7001_7013.out, NB7013_7001.out, NB7002_7013.out, NB7013_7002.out, (by repeat (first | (with_reducible first | exact HB.out | apply below_alloc | apply pw_below_drewN | apply below_drew1 | refine below_set ?_ GE7001.out | refine below_set ?_ GE7002.out | refine below_set ?_ GE7013.out) | exact HB.out))⟩)
              · skip
                refine box_step ?hg (N := 6) ?hd (cs := #[.string (⟨#[]⟩ : ByteArray), .string (⟨#[]⟩ : ByteArray), .string (⟨#[]⟩ : ByteArray)]) (t := 71) ?hr ?_; (case hd => rfl); (case hg => rfl); (case hr => first | (go_simp; done) | (go_simp; rfl))
                intro gb7013 hg w71 hbox hb
                have n0_ := Aside0.mk (blk_below (g := gb7001) (o := .cells #[.string a0_0, .string a0_1, .string a0_2] 69 (0, 0)) (by (with_reducible repeat (first | refine blk_drewN ?_ _ | refine blk_drew ?_ | refine blk_alloc ?_ _)); exact BK7001.out) hb)
                have n1_ := Aside0.mk (blk_below (g := gb7002) (o := .cells #[.int .u8 a1_0, .string a1_1] 56 (0, 0)) (by (with_reducible repeat (first | refine blk_drewN ?_ _ | refine blk_drew ?_ | refine blk_alloc ?_ _)); exact BK7002.out) hb)
                have n2_ := Aside0.mk (below_step (by repeat (first | (with_reducible first | exact HB.out | apply below_alloc | apply pw_below_drewN | apply below_drew1 | refine below_set ?_ GE7001.out | refine below_set ?_ GE7002.out) | exact HB.out)) hb)
                have n3_ := Aside0.mk (hbox)
                have n4_ := Aside0.mk ((by rw [hg]; exact (below_size (by repeat (first | (with_reducible first | exact HB.out | apply below_alloc | apply pw_below_drewN | apply below_drew1 | refine below_set ?_ GE7001.out | refine below_set ?_ GE7002.out) | exact HB.out))) : w.heap.size ≤ gb7013))
                have n5_ := Aside0.mk ((by rw [hg]; exact (below_size (by repeat (first | (with_reducible first | exact HB.out | apply below_alloc | apply pw_below_drewN | apply below_drew1 | refine below_set ?_ GE7001.out | refine below_set ?_ GE7002.out) | exact HB.out))) : w.heap.size ≤ gb7013))
                have n6_ := Aside0.mk ((by rw [hg]; exact Nat.ne_of_lt (blk_lt (g := gb7001) (o := .cells #[.string a0_0, .string a0_1, .string a0_2] 69 (0, 0)) (by (with_reducible repeat (first | refine blk_drewN ?_ _ | refine blk_drew ?_ | refine blk_alloc ?_ _)); exact BK7001.out)) : gb7001 ≠ gb7013))
                have n7_ := Aside0.mk ((by rw [hg]; exact Nat.ne_of_gt (blk_lt (g := gb7001) (o := .cells #[.string a0_0, .string a0_1, .string a0_2] 69 (0, 0)) (by (with_reducible repeat (first | refine blk_drewN ?_ _ | refine blk_drew ?_ | refine blk_alloc ?_ _)); exact BK7001.out)) : gb7013 ≠ gb7001))
                have n8_ := Aside0.mk ((by rw [hg]; exact Nat.ne_of_lt (blk_lt (g := gb7002) (o := .cells #[.int .u8 a1_0, .string a1_1] 56 (0, 0)) (by (with_reducible repeat (first | refine blk_drewN ?_ _ | refine blk_drew ?_ | refine blk_alloc ?_ _)); exact BK7002.out)) : gb7002 ≠ gb7013))
                have n9_ := Aside0.mk ((by rw [hg]; exact Nat.ne_of_gt (blk_lt (g := gb7002) (o := .cells #[.int .u8 a1_0, .string a1_1] 56 (0, 0)) (by (with_reducible repeat (first | refine blk_drewN ?_ _ | refine blk_drew ?_ | refine blk_alloc ?_ _)); exact BK7002.out)) : gb7013 ≠ gb7002))
                clear BK7001
                clear BK7002
                clear HB
                have BK7001 := n0_
                have BK7002 := n1_
                have HB := n2_
                have BK7013 := n3_
                have GW7013 := n4_
                have GE7013 := n5_
                have NB7001_7013 := n6_
                have NB7013_7001 := n7_
                have NB7002_7013 := n8_
                have NB7013_7002 := n9_
                clear n0_ n1_ n2_ n3_ n4_ n5_ n6_ n7_ n8_ n9_
                clear hb hbox hg
                refine hK.out _ _ ⟨(blk_cell BK7001.out 0).trans rfl, (blk_cell BK7001.out 1).trans rfl, (blk_cell BK7001.out 2).trans rfl, (blk_cell BK7002.out 0).trans rfl, (blk_cell BK7002.out 1).trans rfl⟩ (fun hHeld => ?_)
                clear hK K
                refine norm_ (a' := ?_) ?_ ?_
                rotate_left
                · show Act.put _ (some 6) _ = _
                  simp only [Act.put, List.setIfInBounds_toArray, List.set_cons_zero, List.set_cons_succ, i64_w, i32_w]
                  rfl
                refine one_ (i := 4) (N := some 22) #[true, true, true, true, true, true, false] rfl rfl (by kernel_rfl) (by decide) (fun K hK => ?_)
                refine goes_ Try.func43 (by kernel_rfl) rfl #[.agg #[.string t7005, .string t7006, .string t7007], .agg #[.int .u8 t7008, .string t7009]] (by rfl) rfl rfl (by (try simp only [List.map_toArray, List.map_cons, List.map_nil]); first | done | rfl | (simp only [List.length_drop, List.length_take]; rfl)) ?_
                with_reducible refine (spec_ReverseStep.calls t7005 t7006 t7007 t7008 t7009 t7010 t7011 t7012 _ A21.out).mono ?_
                rintro e w72 ⟨rfl, hb⟩
                refine ⟨_, rfl, ?_⟩
                have n0_ := Aside0.mk (blk_below (g := gb7001) (o := .cells #[.string a0_0, .string a0_1, .string a0_2] 69 (0, 0)) (by (with_reducible repeat (first | refine blk_drewN ?_ _ | refine blk_drew ?_ | refine blk_alloc ?_ _)); exact BK7001.out) hb)
                have n1_ := Aside0.mk (blk_below (g := gb7002) (o := .cells #[.int .u8 a1_0, .string a1_1] 56 (0, 0)) (by (with_reducible repeat (first | refine blk_drewN ?_ _ | refine blk_drew ?_ | refine blk_alloc ?_ _)); exact BK7002.out) hb)
                have n2_ := Aside0.mk (blk_below (g := gb7013) (o := .cells #[.string (⟨#[]⟩ : ByteArray), .string (⟨#[]⟩ : ByteArray), .string (⟨#[]⟩ : ByteArray)] 71 (0, 0)) (by (with_reducible repeat (first | refine blk_drewN ?_ _ | refine blk_drew ?_ | refine blk_alloc ?_ _)); exact BK7013.out) hb)
                have n3_ := Aside0.mk (below_step (by repeat (first | (with_reducible first | exact HB.out | apply below_alloc | apply pw_below_drewN | apply below_drew1 | refine below_set ?_ GE7001.out | refine below_set ?_ GE7002.out | refine below_set ?_ GE7013.out) | exact HB.out)) hb)
                clear BK7001
                clear BK7002
                clear BK7013
                clear HB
                have BK7001 := n0_
                have BK7002 := n1_
                have BK7013 := n2_
                have HB := n3_
                clear n0_ n1_ n2_ n3_
                (try clear hb)
                (try clear hb2)
                (try clear hk)
                (try clear hi)
                refine hK.out _ _ ⟨(blk_cell BK7001.out 0).trans rfl, (blk_cell BK7001.out 1).trans rfl, (blk_cell BK7001.out 2).trans rfl, (blk_cell BK7002.out 0).trans rfl, (blk_cell BK7002.out 1).trans rfl⟩ (fun hHeld => ?_)
                clear hK K
                refine norm_ (a' := ?_) ?_ ?_
                rotate_left
                · show Act.put _ (some 22) _ = _
                  simp only [Act.put, List.setIfInBounds_toArray, List.set_cons_zero, List.set_cons_succ, i64_w, i32_w]
                  rfl
                exact norm_ (by simp only [putAll, Act.put, List.setIfInBounds_toArray, List.set_cons_zero, List.set_cons_succ]) (hCont (gb7013) _ ⟨hHeld, (by (with_reducible repeat (first | refine blk_drewN ?_ _ | refine blk_drew ?_ | refine blk_alloc ?_ _)); exact BK7001.out), (by (with_reducible repeat (first | refine blk_drewN ?_ _ | refine blk_drew ?_ | refine blk_alloc ?_ _)); exact BK7002.out), (by (with_reducible repeat (first | refine blk_drewN ?_ _ | refine blk_drew ?_ | refine blk_alloc ?_ _)); exact BK7013.out), GW7013.out, GE7013.out, NB7001_7013.out, NB7013_7001.out, NB7002_7013.out, NB7013_7002.out, (by repeat (first | (with_reducible first | exact HB.out | apply below_alloc | apply pw_below_drewN | apply below_drew1 | refine below_set ?_ GE7001.out | refine below_set ?_ GE7002.out | refine below_set ?_ GE7013.out) | exact HB.out))⟩)
            · skip
              refine box_step ?hg (N := 6) ?hd (cs := #[.string (⟨#[]⟩ : ByteArray), .string (⟨#[]⟩ : ByteArray), .string (⟨#[]⟩ : ByteArray)]) (t := 71) ?hr ?_; (case hd => rfl); (case hg => rfl); (case hr => first | (go_simp; done) | (go_simp; rfl))
              intro gb7013 hg w70 hbox hb
              have n0_ := Aside0.mk (blk_below (g := gb7001) (o := .cells #[.string a0_0, .string a0_1, .string a0_2] 69 (0, 0)) (by (with_reducible repeat (first | refine blk_drewN ?_ _ | refine blk_drew ?_ | refine blk_alloc ?_ _)); exact BK7001.out) hb)
              have n1_ := Aside0.mk (blk_below (g := gb7002) (o := .cells #[.int .u8 a1_0, .string a1_1] 56 (0, 0)) (by (with_reducible repeat (first | refine blk_drewN ?_ _ | refine blk_drew ?_ | refine blk_alloc ?_ _)); exact BK7002.out) hb)
              have n2_ := Aside0.mk (below_step (by repeat (first | (with_reducible first | exact HB.out | apply below_alloc | apply pw_below_drewN | apply below_drew1 | refine below_set ?_ GE7001.out | refine below_set ?_ GE7002.out) | exact HB.out)) hb)
              have n3_ := Aside0.mk (hbox)
              have n4_ := Aside0.mk ((by rw [hg]; exact (below_size (by repeat (first | (with_reducible first | exact HB.out | apply below_alloc | apply pw_below_drewN | apply below_drew1 | refine below_set ?_ GE7001.out | refine below_set ?_ GE7002.out) | exact HB.out))) : w.heap.size ≤ gb7013))
              have n5_ := Aside0.mk ((by rw [hg]; exact (below_size (by repeat (first | (with_reducible first | exact HB.out | apply below_alloc | apply pw_below_drewN | apply below_drew1 | refine below_set ?_ GE7001.out | refine below_set ?_ GE7002.out) | exact HB.out))) : w.heap.size ≤ gb7013))
              have n6_ := Aside0.mk ((by rw [hg]; exact Nat.ne_of_lt (blk_lt (g := gb7001) (o := .cells #[.string a0_0, .string a0_1, .string a0_2] 69 (0, 0)) (by (with_reducible repeat (first | refine blk_drewN ?_ _ | refine blk_drew ?_ | refine blk_alloc ?_ _)); exact BK7001.out)) : gb7001 ≠ gb7013))
              have n7_ := Aside0.mk ((by rw [hg]; exact Nat.ne_of_gt (blk_lt (g := gb7001) (o := .cells #[.string a0_0, .string a0_1, .string a0_2] 69 (0, 0)) (by (with_reducible repeat (first | refine blk_drewN ?_ _ | refine blk_drew ?_ | refine blk_alloc ?_ _)); exact BK7001.out)) : gb7013 ≠ gb7001))
              have n8_ := Aside0.mk ((by rw [hg]; exact Nat.ne_of_lt (blk_lt (g := gb7002) (o := .cells #[.int .u8 a1_0, .string a1_1] 56 (0, 0)) (by (with_reducible repeat (first | refine blk_drewN ?_ _ | refine blk_drew ?_ | refine blk_alloc ?_ _)); exact BK7002.out)) : gb7002 ≠ gb7013))
              have n9_ := Aside0.mk ((by rw [hg]; exact Nat.ne_of_gt (blk_lt (g := gb7002) (o := .cells #[.int .u8 a1_0, .string a1_1] 56 (0, 0)) (by (with_reducible repeat (first | refine blk_drewN ?_ _ | refine blk_drew ?_ | refine blk_alloc ?_ _)); exact BK7002.out)) : gb7013 ≠ gb7002))
              clear BK7001
              clear BK7002
              clear HB
              have BK7001 := n0_
              have BK7002 := n1_
              have HB := n2_
              have BK7013 := n3_
              have GW7013 := n4_
              have GE7013 := n5_
              have NB7001_7013 := n6_
              have NB7013_7001 := n7_
              have NB7002_7013 := n8_
              have NB7013_7002 := n9_
              clear n0_ n1_ n2_ n3_ n4_ n5_ n6_ n7_ n8_ n9_
              clear hb hbox hg
              refine hK.out _ _ ⟨(blk_cell BK7001.out 0).trans rfl, (blk_cell BK7001.out 1).trans rfl, (blk_cell BK7001.out 2).trans rfl, (blk_cell BK7002.out 0).trans rfl, (blk_cell BK7002.out 1).trans rfl⟩ (fun hHeld => ?_)
              clear hK K
              refine norm_ (a' := ?_) ?_ ?_
              rotate_left
              · show Act.put _ (some 6) _ = _
                simp only [Act.put, List.setIfInBounds_toArray, List.set_cons_zero, List.set_cons_succ, i64_w, i32_w]
                rfl
              refine one_ (i := 3) (N := some 21) #[true, true, true, true, false, true, false] rfl rfl (by kernel_rfl) (by decide) (fun K hK => ?_)
              refine goes_ Try.func37 (by kernel_rfl) rfl #[.agg #[.int .u8 a1_0, .string a1_1]] (by rfl) rfl rfl (by (try simp only [List.map_toArray, List.map_cons, List.map_nil]); first | done | rfl | (simp only [List.length_drop, List.length_take]; rfl)) ?_
              with_reducible refine (laws_toMove.calls a1_0 a1_1 t7008 t7009 _ A20.out).mono ?_
              rintro e w71 ⟨rfl, hb⟩
              refine ⟨_, rfl, ?_⟩
              have n0_ := Aside0.mk (blk_below (g := gb7001) (o := .cells #[.string a0_0, .string a0_1, .string a0_2] 69 (0, 0)) (by (with_reducible repeat (first | refine blk_drewN ?_ _ | refine blk_drew ?_ | refine blk_alloc ?_ _)); exact BK7001.out) hb)
              have n1_ := Aside0.mk (blk_below (g := gb7002) (o := .cells #[.int .u8 a1_0, .string a1_1] 56 (0, 0)) (by (with_reducible repeat (first | refine blk_drewN ?_ _ | refine blk_drew ?_ | refine blk_alloc ?_ _)); exact BK7002.out) hb)
              have n2_ := Aside0.mk (blk_below (g := gb7013) (o := .cells #[.string (⟨#[]⟩ : ByteArray), .string (⟨#[]⟩ : ByteArray), .string (⟨#[]⟩ : ByteArray)] 71 (0, 0)) (by (with_reducible repeat (first | refine blk_drewN ?_ _ | refine blk_drew ?_ | refine blk_alloc ?_ _)); exact BK7013.out) hb)
              have n3_ := Aside0.mk (below_step (by repeat (first | (with_reducible first | exact HB.out | apply below_alloc | apply pw_below_drewN | apply below_drew1 | refine below_set ?_ GE7001.out | refine below_set ?_ GE7002.out | refine below_set ?_ GE7013.out) | exact HB.out)) hb)
              clear BK7001
              clear BK7002
              clear BK7013
              clear HB
              have BK7001 := n0_
              have BK7002 := n1_
              have BK7013 := n2_
              have HB := n3_
              clear n0_ n1_ n2_ n3_
              (try clear hb)
              (try clear hb2)
              (try clear hk)
              (try clear hi)
              refine hK.out _ _ ⟨(blk_cell BK7001.out 0).trans rfl, (blk_cell BK7001.out 1).trans rfl, (blk_cell BK7001.out 2).trans rfl, (blk_cell BK7002.out 0).trans rfl, (blk_cell BK7002.out 1).trans rfl⟩ (fun hHeld => ?_)
              clear hK K
              refine norm_ (a' := ?_) ?_ ?_
              rotate_left
              · show Act.put _ (some 21) _ = _
                simp only [Act.put, List.setIfInBounds_toArray, List.set_cons_zero, List.set_cons_succ, i64_w, i32_w]
                rfl
              refine one_ (i := 4) (N := some 22) #[true, true, true, true, true, true, false] rfl rfl (by kernel_rfl) (by decide) (fun K hK => ?_)
              refine goes_ Try.func43 (by kernel_rfl) rfl #[.agg #[.string t7005, .string t7006, .string t7007], .agg #[.int .u8 t7008, .string t7009]] (by rfl) rfl rfl (by (try simp only [List.map_toArray, List.map_cons, List.map_nil]); first | done | rfl | (simp only [List.length_drop, List.length_take]; rfl)) ?_
              with_reducible refine (spec_ReverseStep.calls t7005 t7006 t7007 t7008 t7009 t7010 t7011 t7012 _ A21.out).mono ?_
              rintro e w72 ⟨rfl, hb⟩
              refine ⟨_, rfl, ?_⟩
              have n0_ := Aside0.mk (blk_below (g := gb7001) (o := .cells #[.string a0_0, .string a0_1, .string a0_2] 69 (0, 0)) (by (with_reducible repeat (first | refine blk_drewN ?_ _ | refine blk_drew ?_ | refine blk_alloc ?_ _)); exact BK7001.out) hb)
              have n1_ := Aside0.mk (blk_below (g := gb7002) (o := .cells #[.int .u8 a1_0, .string a1_1] 56 (0, 0)) (by (with_reducible repeat (first | refine blk_drewN ?_ _ | refine blk_drew ?_ | refine blk_alloc ?_ _)); exact BK7002.out) hb)
              have n2_ := Aside0.mk (blk_below (g := gb7013) (o := .cells #[.string (⟨#[]⟩ : ByteArray), .string (⟨#[]⟩ : ByteArray), .string (⟨#[]⟩ : ByteArray)] 71 (0, 0)) (by (with_reducible repeat (first | refine blk_drewN ?_ _ | refine blk_drew ?_ | refine blk_alloc ?_ _)); exact BK7013.out) hb)
              have n3_ := Aside0.mk (below_step (by repeat (first | (with_reducible first | exact HB.out | apply below_alloc | apply pw_below_drewN | apply below_drew1 | refine below_set ?_ GE7001.out | refine below_set ?_ GE7002.out | refine below_set ?_ GE7013.out) | exact HB.out)) hb)
              clear BK7001
              clear BK7002
              clear BK7013
              clear HB
              have BK7001 := n0_
              have BK7002 := n1_
              have BK7013 := n2_
              have HB := n3_
              clear n0_ n1_ n2_ n3_
              (try clear hb)
              (try clear hb2)
              (try clear hk)
              (try clear hi)
              refine hK.out _ _ ⟨(blk_cell BK7001.out 0).trans rfl, (blk_cell BK7001.out 1).trans rfl, (blk_cell BK7001.out 2).trans rfl, (blk_cell BK7002.out 0).trans rfl, (blk_cell BK7002.out 1).trans rfl⟩ (fun hHeld => ?_)
              clear hK K
              refine norm_ (a' := ?_) ?_ ?_
              rotate_left
              · show Act.put _ (some 22) _ = _
                simp only [Act.put, List.setIfInBounds_toArray, List.set_cons_zero, List.set_cons_succ, i64_w, i32_w]
                rfl
              exact norm_ (by simp only [putAll, Act.put, List.setIfInBounds_toArray, List.set_cons_zero, List.set_cons_succ]) (hCont (gb7013) _ ⟨hHeld, (by (with_reducible repeat (first | refine blk_drewN ?_ _ | refine blk_drew ?_ | refine blk_alloc ?_ _)); exact BK7001.out), (by (with_reducible repeat (first | refine blk_drewN ?_ _ | refine blk_drew ?_ | refine blk_alloc ?_ _)); exact BK7002.out), (by (with_reducible repeat (first | refine blk_drewN ?_ _ | refine blk_drew ?_ | refine blk_alloc ?_ _)); exact BK7013.out), GW7013.out, GE7013.out, NB7001_7013.out, NB7013_7001.out, NB7002_7013.out, NB7013_7002.out, (by repeat (first | (with_reducible first | exact HB.out | apply below_alloc | apply pw_below_drewN | apply below_drew1 | refine below_set ?_ GE7001.out | refine below_set ?_ GE7002.out | refine below_set ?_ GE7013.out) | exact HB.out))⟩)
          · skip
            refine box_step ?hg (N := 6) ?hd (cs := #[.string (⟨#[]⟩ : ByteArray), .string (⟨#[]⟩ : ByteArray), .string (⟨#[]⟩ : ByteArray)]) (t := 71) ?hr ?_; (case hd => rfl); (case hg => rfl); (case hr => first | (go_simp; done) | (go_simp; rfl))
            intro gb7013 hg w69 hbox hb
            have n0_ := Aside0.mk (blk_below (g := gb7001) (o := .cells #[.string a0_0, .string a0_1, .string a0_2] 69 (0, 0)) (by (with_reducible repeat (first | refine blk_drewN ?_ _ | refine blk_drew ?_ | refine blk_alloc ?_ _)); exact BK7001.out) hb)
            have n1_ := Aside0.mk (blk_below (g := gb7002) (o := .cells #[.int .u8 a1_0, .string a1_1] 56 (0, 0)) (by (with_reducible repeat (first | refine blk_drewN ?_ _ | refine blk_drew ?_ | refine blk_alloc ?_ _)); exact BK7002.out) hb)
            have n2_ := Aside0.mk (below_step (by repeat (first | (with_reducible first | exact HB.out | apply below_alloc | apply pw_below_drewN | apply below_drew1 | refine below_set ?_ GE7001.out | refine below_set ?_ GE7002.out) | exact HB.out)) hb)
            have n3_ := Aside0.mk (hbox)
            have n4_ := Aside0.mk ((by rw [hg]; exact (below_size (by repeat (first | (with_reducible first | exact HB.out | apply below_alloc | apply pw_below_drewN | apply below_drew1 | refine below_set ?_ GE7001.out | refine below_set ?_ GE7002.out) | exact HB.out))) : w.heap.size ≤ gb7013))
            have n5_ := Aside0.mk ((by rw [hg]; exact (below_size (by repeat (first | (with_reducible first | exact HB.out | apply below_alloc | apply pw_below_drewN | apply below_drew1 | refine below_set ?_ GE7001.out | refine below_set ?_ GE7002.out) | exact HB.out))) : w.heap.size ≤ gb7013))
            have n6_ := Aside0.mk ((by rw [hg]; exact Nat.ne_of_lt (blk_lt (g := gb7001) (o := .cells #[.string a0_0, .string a0_1, .string a0_2] 69 (0, 0)) (by (with_reducible repeat (first | refine blk_drewN ?_ _ | refine blk_drew ?_ | refine blk_alloc ?_ _)); exact BK7001.out)) : gb7001 ≠ gb7013))
            have n7_ := Aside0.mk ((by rw [hg]; exact Nat.ne_of_gt (blk_lt (g := gb7001) (o := .cells #[.string a0_0, .string a0_1, .string a0_2] 69 (0, 0)) (by (with_reducible repeat (first | refine blk_drewN ?_ _ | refine blk_drew ?_ | refine blk_alloc ?_ _)); exact BK7001.out)) : gb7013 ≠ gb7001))
            have n8_ := Aside0.mk ((by rw [hg]; exact Nat.ne_of_lt (blk_lt (g := gb7002) (o := .cells #[.int .u8 a1_0, .string a1_1] 56 (0, 0)) (by (with_reducible repeat (first | refine blk_drewN ?_ _ | refine blk_drew ?_ | refine blk_alloc ?_ _)); exact BK7002.out)) : gb7002 ≠ gb7013))
            have n9_ := Aside0.mk ((by rw [hg]; exact Nat.ne_of_gt (blk_lt (g := gb7002) (o := .cells #[.int .u8 a1_0, .string a1_1] 56 (0, 0)) (by (with_reducible repeat (first | refine blk_drewN ?_ _ | refine blk_drew ?_ | refine blk_alloc ?_ _)); exact BK7002.out)) : gb7013 ≠ gb7002))
            clear BK7001
            clear BK7002
            clear HB
            have BK7001 := n0_
            have BK7002 := n1_
            have HB := n2_
            have BK7013 := n3_
            have GW7013 := n4_
            have GE7013 := n5_
            have NB7001_7013 := n6_
            have NB7013_7001 := n7_
            have NB7002_7013 := n8_
            have NB7013_7002 := n9_
            clear n0_ n1_ n2_ n3_ n4_ n5_ n6_ n7_ n8_ n9_
            clear hb hbox hg
            refine hK.out _ _ ⟨(blk_cell BK7001.out 0).trans rfl, (blk_cell BK7001.out 1).trans rfl, (blk_cell BK7001.out 2).trans rfl, (blk_cell BK7002.out 0).trans rfl, (blk_cell BK7002.out 1).trans rfl⟩ (fun hHeld => ?_)
            clear hK K
            refine norm_ (a' := ?_) ?_ ?_
            rotate_left
            · show Act.put _ (some 6) _ = _
              simp only [Act.put, List.setIfInBounds_toArray, List.set_cons_zero, List.set_cons_succ, i64_w, i32_w]
              rfl
            refine one_ (i := 1) (N := some 19) #[true, true, true, false, false, true, false] rfl rfl (by kernel_rfl) (by decide) (fun K hK => ?_)
            refine goes_ Try.func44 (by kernel_rfl) rfl #[.agg #[.string a0_0, .string a0_1, .string a0_2]] (by rfl) rfl rfl (by (try simp only [List.map_toArray, List.map_cons, List.map_nil]); first | done | rfl | (simp only [List.length_drop, List.length_take]; rfl)) ?_
            with_reducible refine (laws_toValues.calls a0_0 a0_1 a0_2 t7005 t7006 t7007 _ A19.out).mono ?_
            rintro e w70 ⟨rfl, hb⟩
            refine ⟨_, rfl, ?_⟩
            have n0_ := Aside0.mk (blk_below (g := gb7001) (o := .cells #[.string a0_0, .string a0_1, .string a0_2] 69 (0, 0)) (by (with_reducible repeat (first | refine blk_drewN ?_ _ | refine blk_drew ?_ | refine blk_alloc ?_ _)); exact BK7001.out) hb)
            have n1_ := Aside0.mk (blk_below (g := gb7002) (o := .cells #[.int .u8 a1_0, .string a1_1] 56 (0, 0)) (by (with_reducible repeat (first | refine blk_drewN ?_ _ | refine blk_drew ?_ | refine blk_alloc ?_ _)); exact BK7002.out) hb)
            have n2_ := Aside0.mk (blk_below (g := gb7013) (o := .cells #[.string (⟨#[]⟩ : ByteArray), .string (⟨#[]⟩ : ByteArray), .string (⟨#[]⟩ : ByteArray)] 71 (0, 0)) (by (with_reducible repeat (first | refine blk_drewN ?_ _ | refine blk_drew ?_ | refine blk_alloc ?_ _)); exact BK7013.out) hb)
            have n3_ := Aside0.mk (below_step (by repeat (first | (with_reducible first | exact HB.out | apply below_alloc | apply pw_below_drewN | apply below_drew1 | refine below_set ?_ GE7001.out | refine below_set ?_ GE7002.out | refine below_set ?_ GE7013.out) | exact HB.out)) hb)
            clear BK7001
            clear BK7002
            clear BK7013
            clear HB
            have BK7001 := n0_
            have BK7002 := n1_
            have BK7013 := n2_
            have HB := n3_
            clear n0_ n1_ n2_ n3_
            (try clear hb)
            (try clear hb2)
            (try clear hk)
            (try clear hi)
            refine hK.out _ _ ⟨(blk_cell BK7001.out 0).trans rfl, (blk_cell BK7001.out 1).trans rfl, (blk_cell BK7001.out 2).trans rfl, (blk_cell BK7002.out 0).trans rfl, (blk_cell BK7002.out 1).trans rfl⟩ (fun hHeld => ?_)
            clear hK K
            refine norm_ (a' := ?_) ?_ ?_
            rotate_left
            · show Act.put _ (some 19) _ = _
              simp only [Act.put, List.setIfInBounds_toArray, List.set_cons_zero, List.set_cons_succ, i64_w, i32_w]
              rfl
            refine one_ (i := 3) (N := some 21) #[true, true, true, true, false, true, false] rfl rfl (by kernel_rfl) (by decide) (fun K hK => ?_)
            refine goes_ Try.func37 (by kernel_rfl) rfl #[.agg #[.int .u8 a1_0, .string a1_1]] (by rfl) rfl rfl (by (try simp only [List.map_toArray, List.map_cons, List.map_nil]); first | done | rfl | (simp only [List.length_drop, List.length_take]; rfl)) ?_
            with_reducible refine (laws_toMove.calls a1_0 a1_1 t7008 t7009 _ A20.out).mono ?_
            rintro e w71 ⟨rfl, hb⟩
            refine ⟨_, rfl, ?_⟩
            have n0_ := Aside0.mk (blk_below (g := gb7001) (o := .cells #[.string a0_0, .string a0_1, .string a0_2] 69 (0, 0)) (by (with_reducible repeat (first | refine blk_drewN ?_ _ | refine blk_drew ?_ | refine blk_alloc ?_ _)); exact BK7001.out) hb)
            have n1_ := Aside0.mk (blk_below (g := gb7002) (o := .cells #[.int .u8 a1_0, .string a1_1] 56 (0, 0)) (by (with_reducible repeat (first | refine blk_drewN ?_ _ | refine blk_drew ?_ | refine blk_alloc ?_ _)); exact BK7002.out) hb)
            have n2_ := Aside0.mk (blk_below (g := gb7013) (o := .cells #[.string (⟨#[]⟩ : ByteArray), .string (⟨#[]⟩ : ByteArray), .string (⟨#[]⟩ : ByteArray)] 71 (0, 0)) (by (with_reducible repeat (first | refine blk_drewN ?_ _ | refine blk_drew ?_ | refine blk_alloc ?_ _)); exact BK7013.out) hb)
            have n3_ := Aside0.mk (below_step (by repeat (first | (with_reducible first | exact HB.out | apply below_alloc | apply pw_below_drewN | apply below_drew1 | refine below_set ?_ GE7001.out | refine below_set ?_ GE7002.out | refine below_set ?_ GE7013.out) | exact HB.out)) hb)
            clear BK7001
            clear BK7002
            clear BK7013
            clear HB
            have BK7001 := n0_
            have BK7002 := n1_
            have BK7013 := n2_
            have HB := n3_
            clear n0_ n1_ n2_ n3_
            (try clear hb)
            (try clear hb2)
            (try clear hk)
            (try clear hi)
            refine hK.out _ _ ⟨(blk_cell BK7001.out 0).trans rfl, (blk_cell BK7001.out 1).trans rfl, (blk_cell BK7001.out 2).trans rfl, (blk_cell BK7002.out 0).trans rfl, (blk_cell BK7002.out 1).trans rfl⟩ (fun hHeld => ?_)
            clear hK K
            refine norm_ (a' := ?_) ?_ ?_
            rotate_left
            · show Act.put _ (some 21) _ = _
              simp only [Act.put, List.setIfInBounds_toArray, List.set_cons_zero, List.set_cons_succ, i64_w, i32_w]
              rfl
            refine one_ (i := 4) (N := some 22) #[true, true, true, true, true, true, false] rfl rfl (by kernel_rfl) (by decide) (fun K hK => ?_)
            refine goes_ Try.func43 (by kernel_rfl) rfl #[.agg #[.string t7005, .string t7006, .string t7007], .agg #[.int .u8 t7008, .string t7009]] (by rfl) rfl rfl (by (try simp only [List.map_toArray, List.map_cons, List.map_nil]); first | done | rfl | (simp only [List.length_drop, List.length_take]; rfl)) ?_
            with_reducible refine (spec_ReverseStep.calls t7005 t7006 t7007 t7008 t7009 t7010 t7011 t7012 _ A21.out).mono ?_
            rintro e w72 ⟨rfl, hb⟩
            refine ⟨_, rfl, ?_⟩
            have n0_ := Aside0.mk (blk_below (g := gb7001) (o := .cells #[.string a0_0, .string a0_1, .string a0_2] 69 (0, 0)) (by (with_reducible repeat (first | refine blk_drewN ?_ _ | refine blk_drew ?_ | refine blk_alloc ?_ _)); exact BK7001.out) hb)
            have n1_ := Aside0.mk (blk_below (g := gb7002) (o := .cells #[.int .u8 a1_0, .string a1_1] 56 (0, 0)) (by (with_reducible repeat (first | refine blk_drewN ?_ _ | refine blk_drew ?_ | refine blk_alloc ?_ _)); exact BK7002.out) hb)
            have n2_ := Aside0.mk (blk_below (g := gb7013) (o := .cells #[.string (⟨#[]⟩ : ByteArray), .string (⟨#[]⟩ : ByteArray), .string (⟨#[]⟩ : ByteArray)] 71 (0, 0)) (by (with_reducible repeat (first | refine blk_drewN ?_ _ | refine blk_drew ?_ | refine blk_alloc ?_ _)); exact BK7013.out) hb)
            have n3_ := Aside0.mk (below_step (by repeat (first | (with_reducible first | exact HB.out | apply below_alloc | apply pw_below_drewN | apply below_drew1 | refine below_set ?_ GE7001.out | refine below_set ?_ GE7002.out | refine below_set ?_ GE7013.out) | exact HB.out)) hb)
            clear BK7001
            clear BK7002
            clear BK7013
            clear HB
            have BK7001 := n0_
            have BK7002 := n1_
            have BK7013 := n2_
            have HB := n3_
            clear n0_ n1_ n2_ n3_
            (try clear hb)
            (try clear hb2)
            (try clear hk)
            (try clear hi)
            refine hK.out _ _ ⟨(blk_cell BK7001.out 0).trans rfl, (blk_cell BK7001.out 1).trans rfl, (blk_cell BK7001.out 2).trans rfl, (blk_cell BK7002.out 0).trans rfl, (blk_cell BK7002.out 1).trans rfl⟩ (fun hHeld => ?_)
            clear hK K
            refine norm_ (a' := ?_) ?_ ?_
            rotate_left
            · show Act.put _ (some 22) _ = _
              simp only [Act.put, List.setIfInBounds_toArray, List.set_cons_zero, List.set_cons_succ, i64_w, i32_w]
              rfl
            exact norm_ (by simp only [putAll, Act.put, List.setIfInBounds_toArray, List.set_cons_zero, List.set_cons_succ]) (hCont (gb7013) _ ⟨hHeld, (by (with_reducible repeat (first | refine blk_drewN ?_ _ | refine blk_drew ?_ | refine blk_alloc ?_ _)); exact BK7001.out), (by (with_reducible repeat (first | refine blk_drewN ?_ _ | refine blk_drew ?_ | refine blk_alloc ?_ _)); exact BK7002.out), (by (with_reducible repeat (first | refine blk_drewN ?_ _ | refine blk_drew ?_ | refine blk_alloc ?_ _)); exact BK7013.out), GW7013.out, GE7013.out, NB7001_7013.out, NB7013_7001.out, NB7002_7013.out, NB7013_7002.out, (by repeat (first | (with_reducible first | exact HB.out | apply below_alloc | apply pw_below_drewN | apply below_drew1 | refine below_set ?_ GE7001.out | refine below_set ?_ GE7002.out | refine below_set ?_ GE7013.out) | exact HB.out))⟩)
        rintro gb7013 w73 ⟨hS_, h0_, h1_, h2_, h3_, h4_, h5_, h6_, h7_, h8_, h9_⟩
        have n0_ : Aside0 (w73.heap[gb7001]? = some (.cells #[.string a0_0, .string a0_1, .string a0_2] 69 (0, 0))) := ⟨h0_⟩
        have n1_ : Aside0 (w73.heap[gb7002]? = some (.cells #[.int .u8 a1_0, .string a1_1] 56 (0, 0))) := ⟨h1_⟩
        have n2_ : Aside0 (w73.heap[gb7013]? = some (.cells #[.string (⟨#[]⟩ : ByteArray), .string (⟨#[]⟩ : ByteArray), .string (⟨#[]⟩ : ByteArray)] 71 (0, 0))) := ⟨h2_⟩
        have n3_ : Aside0 (w.heap.size ≤ gb7013) := ⟨h3_⟩
        have n4_ : Aside0 (w.heap.size ≤ gb7013) := ⟨h4_⟩
        have n5_ : Aside0 (gb7001 ≠ gb7013) := ⟨h5_⟩
        have n6_ : Aside0 (gb7013 ≠ gb7001) := ⟨h6_⟩
        have n7_ : Aside0 (gb7002 ≠ gb7013) := ⟨h7_⟩
        have n8_ : Aside0 (gb7013 ≠ gb7002) := ⟨h8_⟩
        have n9_ : Aside0 (Below w.heap.size w w73) := ⟨h9_⟩
        clear BK7001
        clear BK7002
        clear HB
        clear h0_ h1_ h2_ h3_ h4_ h5_ h6_ h7_ h8_ h9_
        have BK7001 := n0_
        have BK7002 := n1_
        have BK7013 := n2_
        have GW7013 := n3_
        have GE7013 := n4_
        have NB7001_7013 := n5_
        have NB7013_7001 := n6_
        have NB7002_7013 := n7_
        have NB7013_7002 := n8_
        have HB := n9_
        clear n0_ n1_ n2_ n3_ n4_ n5_ n6_ n7_ n8_ n9_
        have hHeld : w73.cell? ⟨gb7001, 0, none⟩ = some (.string a0_0) ∧ w73.cell? ⟨gb7001, 1, none⟩ = some (.string a0_1) ∧ w73.cell? ⟨gb7001, 2, none⟩ = some (.string a0_2) ∧ w73.cell? ⟨gb7002, 0, none⟩ = some (.int .u8 a1_0) ∧ w73.cell? ⟨gb7002, 1, none⟩ = some (.string a1_1) := hS_
        refine norm_ (a' := ?_) ?_ ?_
        rotate_left
        · simp only [putAll, Act.put, List.setIfInBounds_toArray, List.set_cons_zero, List.set_cons_succ]
          rfl
        refine one_ (i := 6) (N := none) #[true, true, true, true, true, true, true] rfl rfl (by kernel_rfl) (by decide) (fun K hK => ?_)
        have hs74 : w73.cell? ⟨gb7013, 0, none⟩ = some (.string (⟨#[]⟩ : ByteArray)) := (blk_cell BK7013.out 0).trans rfl
        have hfs74 := blk_frozen BK7013.out 0
        have hns74_0 := NB7001_7013.out
        have hns74_1 := NB7002_7013.out
        have hms74_0 := NB7013_7001.out
        have hms74_1 := NB7013_7002.out
        have hs75 : w73.cell? ⟨gb7013, 1, none⟩ = some (.string (⟨#[]⟩ : ByteArray)) := (blk_cell BK7013.out 1).trans rfl
        have hfs75 := blk_frozen BK7013.out 1
        have hns75_0 := NB7001_7013.out
        have hns75_1 := NB7002_7013.out
        have hms75_0 := NB7013_7001.out
        have hms75_1 := NB7013_7002.out
        have hs76 : w73.cell? ⟨gb7013, 2, none⟩ = some (.string (⟨#[]⟩ : ByteArray)) := (blk_cell BK7013.out 2).trans rfl
        have hfs76 := blk_frozen BK7013.out 2
        have hns76_0 := NB7001_7013.out
        have hns76_1 := NB7002_7013.out
        have hms76_0 := NB7013_7001.out
        have hms76_1 := NB7013_7002.out
        refine skip_ (w1 := ?_) (by rfl) rfl ?_ ?_
        rotate_left
        · go_simp
          rfl
        refine hK.out _ _ ⟨((cell_far (p := ⟨gb7013, _, none⟩) NB7001_7013.out _).trans (((cell_far (p := ⟨gb7013, _, none⟩) NB7001_7013.out _).trans (((cell_far (p := ⟨gb7013, _, none⟩) NB7001_7013.out _).trans (hHeld.1)))))), ((cell_far (p := ⟨gb7013, _, none⟩) NB7001_7013.out _).trans (((cell_far (p := ⟨gb7013, _, none⟩) NB7001_7013.out _).trans (((cell_far (p := ⟨gb7013, _, none⟩) NB7001_7013.out _).trans (hHeld.2.1)))))), ((cell_far (p := ⟨gb7013, _, none⟩) NB7001_7013.out _).trans (((cell_far (p := ⟨gb7013, _, none⟩) NB7001_7013.out _).trans (((cell_far (p := ⟨gb7013, _, none⟩) NB7001_7013.out _).trans (hHeld.2.2.1)))))), ((cell_far (p := ⟨gb7013, _, none⟩) NB7002_7013.out _).trans (((cell_far (p := ⟨gb7013, _, none⟩) NB7002_7013.out _).trans (((cell_far (p := ⟨gb7013, _, none⟩) NB7002_7013.out _).trans (hHeld.2.2.2.1)))))), ((cell_far (p := ⟨gb7013, _, none⟩) NB7002_7013.out _).trans (((cell_far (p := ⟨gb7013, _, none⟩) NB7002_7013.out _).trans (((cell_far (p := ⟨gb7013, _, none⟩) NB7002_7013.out _).trans (hHeld.2.2.2.2))))))⟩ (fun hHeld => ?_)
        clear hK K
        refine done_ (by kernel_rfl) ?_
        try go_wp2
        have n0_ : Aside0 ((((w73.setCell ⟨gb7013, 0, none⟩ (.string t7010)).setCell ⟨gb7013, 1, none⟩ (.string t7011)).setCell ⟨gb7013, 2, none⟩ (.string t7012)).heap[gb7001]? = some (.cells #[.string a0_0, .string a0_1, .string a0_2] 69 (0, 0))) := ⟨by (with_reducible repeat (first | refine blk_drewN ?_ _ | refine blk_drew ?_ | refine blk_alloc ?_ _)); refine blk_far ?_ NB7001_7013.out _; (with_reducible repeat (first | refine blk_drewN ?_ _ | refine blk_drew ?_ | refine blk_alloc ?_ _)); refine blk_far ?_ NB7001_7013.out _; (with_reducible repeat (first | refine blk_drewN ?_ _ | refine blk_drew ?_ | refine blk_alloc ?_ _)); refine blk_far ?_ NB7001_7013.out _; (with_reducible repeat (first | refine blk_drewN ?_ _ | refine blk_drew ?_ | refine blk_alloc ?_ _)); exact BK7001.out⟩
        have n1_ : Aside0 ((((w73.setCell ⟨gb7013, 0, none⟩ (.string t7010)).setCell ⟨gb7013, 1, none⟩ (.string t7011)).setCell ⟨gb7013, 2, none⟩ (.string t7012)).heap[gb7002]? = some (.cells #[.int .u8 a1_0, .string a1_1] 56 (0, 0))) := ⟨by (with_reducible repeat (first | refine blk_drewN ?_ _ | refine blk_drew ?_ | refine blk_alloc ?_ _)); refine blk_far ?_ NB7002_7013.out _; (with_reducible repeat (first | refine blk_drewN ?_ _ | refine blk_drew ?_ | refine blk_alloc ?_ _)); refine blk_far ?_ NB7002_7013.out _; (with_reducible repeat (first | refine blk_drewN ?_ _ | refine blk_drew ?_ | refine blk_alloc ?_ _)); refine blk_far ?_ NB7002_7013.out _; (with_reducible repeat (first | refine blk_drewN ?_ _ | refine blk_drew ?_ | refine blk_alloc ?_ _)); exact BK7002.out⟩
        have n2_ : Aside0 ((((w73.setCell ⟨gb7013, 0, none⟩ (.string t7010)).setCell ⟨gb7013, 1, none⟩ (.string t7011)).setCell ⟨gb7013, 2, none⟩ (.string t7012)).heap[gb7013]? = some (.cells #[.string t7010, .string t7011, .string t7012] 71 (0, 0))) := ⟨by (with_reducible repeat (first | refine blk_drewN ?_ _ | refine blk_drew ?_ | refine blk_alloc ?_ _)); refine blk_put (cs := #[.string t7010, .string t7011, .string (⟨#[]⟩ : ByteArray)]) ?_ 2 _ rfl; (with_reducible repeat (first | refine blk_drewN ?_ _ | refine blk_drew ?_ | refine blk_alloc ?_ _)); refine blk_put (cs := #[.string t7010, .string (⟨#[]⟩ : ByteArray), .string (⟨#[]⟩ : ByteArray)]) ?_ 1 _ rfl; (with_reducible repeat (first | refine blk_drewN ?_ _ | refine blk_drew ?_ | refine blk_alloc ?_ _)); refine blk_put (cs := #[.string (⟨#[]⟩ : ByteArray), .string (⟨#[]⟩ : ByteArray), .string (⟨#[]⟩ : ByteArray)]) ?_ 0 _ rfl; (with_reducible repeat (first | refine blk_drewN ?_ _ | refine blk_drew ?_ | refine blk_alloc ?_ _)); exact BK7013.out⟩
        have n3_ : Aside0 (Below w.heap.size w (((w73.setCell ⟨gb7013, 0, none⟩ (.string t7010)).setCell ⟨gb7013, 1, none⟩ (.string t7011)).setCell ⟨gb7013, 2, none⟩ (.string t7012))) := ⟨by repeat (first | (with_reducible first | exact HB.out | apply below_alloc | apply pw_below_drewN | apply below_drew1 | refine below_set ?_ GE7001.out | refine below_set ?_ GE7002.out | refine below_set ?_ GE7013.out) | exact HB.out)⟩
        (try clear BK7001)
        (try clear BK7002)
        (try clear BK7013)
        (try clear HB)
        generalize (((w73.setCell ⟨gb7013, 0, none⟩ (.string t7010)).setCell ⟨gb7013, 1, none⟩ (.string t7011)).setCell ⟨gb7013, 2, none⟩ (.string t7012)) = w77 at n0_ n1_ n2_ n3_ ⊢
        have BK7001 := n0_
        have BK7002 := n1_
        have BK7013 := n2_
        have HB := n3_
        clear n0_ n1_ n2_ n3_
        have n0_ := Aside0.mk (blk_drew BK7001.out)
        have n1_ := Aside0.mk (blk_drew BK7002.out)
        have n2_ := Aside0.mk (blk_drew BK7013.out)
        have n3_ := Aside0.mk (below_drew1 HB.out)
        clear BK7001
        clear BK7002
        clear BK7013
        clear HB
        have BK7001 := n0_
        have BK7002 := n1_
        have BK7013 := n2_
        have HB := n3_
        clear n0_ n1_ n2_ n3_
        refine start_ (n := 7) (S := fun w' => w'.cell? ⟨gb7001, 0, none⟩ = some (.string a0_0) ∧ w'.cell? ⟨gb7001, 1, none⟩ = some (.string a0_1) ∧ w'.cell? ⟨gb7001, 2, none⟩ = some (.string a0_2) ∧ w'.cell? ⟨gb7002, 0, none⟩ = some (.int .u8 a1_0) ∧ w'.cell? ⟨gb7002, 1, none⟩ = some (.string a1_1)) (ds := []) #[false, false, false, false, false, false, false] (by kernel_rfl) rfl rfl ⟨(blk_cell BK7001.out 0).trans rfl, (blk_cell BK7001.out 1).trans rfl, (blk_cell BK7001.out 2).trans rfl, (blk_cell BK7002.out 0).trans rfl, (blk_cell BK7002.out 1).trans rfl⟩ (fun hHeld => ?_)
        generalize w77.drew = w78 at BK7001 BK7002 BK7013 HB hHeld ⊢
        refine take_ (i := 0) (N := some 23) (v := ?_) (a' := ?_) #[true, false, false, false, false, false, false] rfl rfl (by kernel_rfl) (fun _ _ _ h => h) (Or.inl ⟨by rfl, ?_⟩) hHeld ?_ ?_
        rotate_left
        · rintro w' ⟨s0, s1, s2, s3, s4⟩
          go_simp
          first | with_reducible rfl | (rw [if_neg (by omega)]; done)
        rotate_left
        · simp only [Act.put, List.setIfInBounds_toArray, List.set_cons_zero, List.set_cons_succ, i64_w, i32_w]
          rfl
        refine take_ (i := 2) (N := some 25) (v := ?_) (a' := ?_) #[true, false, true, false, false, false, false] rfl rfl (by kernel_rfl) (fun _ _ _ h => h) (Or.inl ⟨by rfl, ?_⟩) hHeld ?_ ?_
        rotate_left
        · rintro w' ⟨s0, s1, s2, s3, s4⟩
          go_simp
          first | with_reducible rfl | (rw [if_neg (by omega)]; done)
        rotate_left
        · simp only [Act.put, List.setIfInBounds_toArray, List.set_cons_zero, List.set_cons_succ, i64_w, i32_w]
          rfl
        refine join_ (σ := Nat) 1 #[true, true, true, true, true, true, false] (fun s_ => [(24, .agg #[.string t7014, .string t7015, .string t7016]), (26, .agg #[.int .u8 t7017, .string t7018]), (27, .agg #[.string t7019, .string t7020, .string t7021]), (7, .pointer (some ⟨s_, 0, none⟩))]) (fun s_ w' => (w'.cell? ⟨gb7001, 0, none⟩ = some (.string a0_0) ∧ w'.cell? ⟨gb7001, 1, none⟩ = some (.string a0_1) ∧ w'.cell? ⟨gb7001, 2, none⟩ = some (.string a0_2) ∧ w'.cell? ⟨gb7002, 0, none⟩ = some (.int .u8 a1_0) ∧ w'.cell? ⟨gb7002, 1, none⟩ = some (.string a1_1)) ∧ (w'.heap[gb7001]? = some (.cells #[.string a0_0, .string a0_1, .string a0_2] 69 (0, 0))) ∧ (w'.heap[gb7002]? = some (.cells #[.int .u8 a1_0, .string a1_1] 56 (0, 0))) ∧ (w'.heap[gb7013]? = some (.cells #[.string t7010, .string t7011, .string t7012] 71 (0, 0))) ∧ (w'.heap[s_]? = some (.cells #[.string (⟨#[]⟩ : ByteArray), .string (⟨#[]⟩ : ByteArray), .string (⟨#[]⟩ : ByteArray)] 71 (0, 0))) ∧ (w.heap.size ≤ s_) ∧ (w.heap.size ≤ s_) ∧ (gb7001 ≠ s_) ∧ (s_ ≠ gb7001) ∧ (gb7002 ≠ s_) ∧ (s_ ≠ gb7002) ∧ (gb7013 ≠ s_) ∧ (s_ ≠ gb7013) ∧ (Below w.heap.size w w')) ?_ ?_
        rotate_left
        · intro hCont
          refine two_ (i := 1) (j := 5) (Ni := some 24) (Nj := some 7) #[true, true, true, false, false, false, false] #[true, false, true, false, false, true, false] rfl rfl rfl rfl (by kernel_rfl) (by decide) (by decide) (fun K hK => ?_) (fun K hK => ?_)
          · skip
            refine goes_ Try.func44 (by kernel_rfl) rfl #[.agg #[.string a0_0, .string a0_1, .string a0_2]] (by rfl) rfl rfl (by (try simp only [List.map_toArray, List.map_cons, List.map_nil]); first | done | rfl | (simp only [List.length_drop, List.length_take]; rfl)) ?_
            with_reducible refine (laws_toValues.calls a0_0 a0_1 a0_2 t7014 t7015 t7016 _ A22.out).mono ?_
            rintro e w79 ⟨rfl, hb⟩
            refine ⟨_, rfl, ?_⟩
            have n0_ := Aside0.mk (blk_below (g := gb7001) (o := .cells #[.string a0_0, .string a0_1, .string a0_2] 69 (0, 0)) (by (with_reducible repeat (first | refine blk_drewN ?_ _ | refine blk_drew ?_ | refine blk_alloc ?_ _)); exact BK7001.out) hb)
            have n1_ := Aside0.mk (blk_below (g := gb7002) (o := .cells #[.int .u8 a1_0, .string a1_1] 56 (0, 0)) (by (with_reducible repeat (first | refine blk_drewN ?_ _ | refine blk_drew ?_ | refine blk_alloc ?_ _)); exact BK7002.out) hb)
            have n2_ := Aside0.mk (blk_below (g := gb7013) (o := .cells #[.string t7010, .string t7011, .string t7012] 71 (0, 0)) (by (with_reducible repeat (first | refine blk_drewN ?_ _ | refine blk_drew ?_ | refine blk_alloc ?_ _)); exact BK7013.out) hb)
            have n3_ := Aside0.mk (below_step (by repeat (first | (with_reducible first | exact HB.out | apply below_alloc | apply pw_below_drewN | apply below_drew1 | refine below_set ?_ GE7001.out | refine below_set ?_ GE7002.out | refine below_set ?_ GE7013.out) | exact HB.out)) hb)
            clear BK7001
            clear BK7002
            clear BK7013
            clear HB
            have BK7001 := n0_
            have BK7002 := n1_
            have BK7013 := n2_
            have HB := n3_
            clear n0_ n1_ n2_ n3_
            (try clear hb)
            (try clear hb2)
            (try clear hk)
            (try clear hi)
            refine hK.out _ _ ⟨(blk_cell BK7001.out 0).trans rfl, (blk_cell BK7001.out 1).trans rfl, (blk_cell BK7001.out 2).trans rfl, (blk_cell BK7002.out 0).trans rfl, (blk_cell BK7002.out 1).trans rfl⟩ (fun hHeld => ?_)
            clear hK K
            refine norm_ (a' := ?_) ?_ ?_
            rotate_left
            · show Act.put _ (some 24) _ = _
              simp only [Act.put, List.setIfInBounds_toArray, List.set_cons_zero, List.set_cons_succ, i64_w, i32_w]
              rfl
            refine two_ (i := 3) (j := 5) (Ni := some 26) (Nj := some 7) #[true, true, true, true, false, false, false] #[true, true, true, false, false, true, false] rfl rfl rfl rfl (by kernel_rfl) (by decide) (by decide) (fun K hK => ?_) (fun K hK => ?_)
            · skip
              refine goes_ Try.func37 (by kernel_rfl) rfl #[.agg #[.int .u8 a1_0, .string a1_1]] (by rfl) rfl rfl (by (try simp only [List.map_toArray, List.map_cons, List.map_nil]); first | done | rfl | (simp only [List.length_drop, List.length_take]; rfl)) ?_
              with_reducible refine (laws_toMove.calls a1_0 a1_1 t7017 t7018 _ A23.out).mono ?_
              rintro e w80 ⟨rfl, hb⟩
              refine ⟨_, rfl, ?_⟩
              have n0_ := Aside0.mk (blk_below (g := gb7001) (o := .cells #[.string a0_0, .string a0_1, .string a0_2] 69 (0, 0)) (by (with_reducible repeat (first | refine blk_drewN ?_ _ | refine blk_drew ?_ | refine blk_alloc ?_ _)); exact BK7001.out) hb)
              have n1_ := Aside0.mk (blk_below (g := gb7002) (o := .cells #[.int .u8 a1_0, .string a1_1] 56 (0, 0)) (by (with_reducible repeat (first | refine blk_drewN ?_ _ | refine blk_drew ?_ | refine blk_alloc ?_ _)); exact BK7002.out) hb)
              have n2_ := Aside0.mk (blk_below (g := gb7013) (o := .cells #[.string t7010, .string t7011, .string t7012] 71 (0, 0)) (by (with_reducible repeat (first | refine blk_drewN ?_ _ | refine blk_drew ?_ | refine blk_alloc ?_ _)); exact BK7013.out) hb)
              have n3_ := Aside0.mk (below_step (by repeat (first | (with_reducible first | exact HB.out | apply below_alloc | apply pw_below_drewN | apply below_drew1 | refine below_set ?_ GE7001.out | refine below_set ?_ GE7002.out | refine below_set ?_ GE7013.out) | exact HB.out)) hb)
              clear BK7001
              clear BK7002
              clear BK7013
              clear HB
              have BK7001 := n0_
              have BK7002 := n1_
              have BK7013 := n2_
              have HB := n3_
              clear n0_ n1_ n2_ n3_
              (try clear hb)
              (try clear hb2)
              (try clear hk)
              (try clear hi)
              refine hK.out _ _ ⟨(blk_cell BK7001.out 0).trans rfl, (blk_cell BK7001.out 1).trans rfl, (blk_cell BK7001.out 2).trans rfl, (blk_cell BK7002.out 0).trans rfl, (blk_cell BK7002.out 1).trans rfl⟩ (fun hHeld => ?_)
              clear hK K
              refine norm_ (a' := ?_) ?_ ?_
              rotate_left
              · show Act.put _ (some 26) _ = _
                simp only [Act.put, List.setIfInBounds_toArray, List.set_cons_zero, List.set_cons_succ, i64_w, i32_w]
                rfl
              refine two_ (i := 4) (j := 5) (Ni := some 27) (Nj := some 7) #[true, true, true, true, true, false, false] #[true, true, true, true, false, true, false] rfl rfl rfl rfl (by kernel_rfl) (by decide) (by decide) (fun K hK => ?_) (fun K hK => ?_)
              · skip
                refine goes_ Try.func45 (by kernel_rfl) rfl #[.agg #[.string t7014, .string t7015, .string t7016], .agg #[.int .u8 t7017, .string t7018]] (by rfl) rfl rfl (by (try simp only [List.map_toArray, List.map_cons, List.map_nil]); first | done | rfl | (simp only [List.length_drop, List.length_take]; rfl)) ?_
                with_reducible refine (impl_ReverseStep.calls t7014 t7015 t7016 t7017 t7018 t7019 t7020 t7021 _ A24.out).mono ?_
                rintro e w81 ⟨rfl, hb⟩
                refine ⟨_, rfl, ?_⟩
                have n0_ := Aside0.mk (blk_below (g := gb7001) (o := .cells #[.string a0_0, .string a0_1, .string a0_2] 69 (0, 0)) (by (with_reducible repeat (first | refine blk_drewN ?_ _ | refine blk_drew ?_ | refine blk_alloc ?_ _)); exact BK7001.out) hb)
                have n1_ := Aside0.mk (blk_below (g := gb7002) (o := .cells #[.int .u8 a1_0, .string a1_1] 56 (0, 0)) (by (with_reducible repeat (first | refine blk_drewN ?_ _ | refine blk_drew ?_ | refine blk_alloc ?_ _)); exact BK7002.out) hb)
                have n2_ := Aside0.mk (blk_below (g := gb7013) (o := .cells #[.string t7010, .string t7011, .string t7012] 71 (0, 0)) (by (with_reducible repeat (first | refine blk_drewN ?_ _ | refine blk_drew ?_ | refine blk_alloc ?_ _)); exact BK7013.out) hb)
                have n3_ := Aside0.mk (below_step (by repeat (first | (with_reducible first | exact HB.out | apply below_alloc | apply pw_below_drewN | apply below_drew1 | refine below_set ?_ GE7001.out | refine below_set ?_ GE7002.out | refine below_set ?_ GE7013.out) | exact HB.out)) hb)
                clear BK7001
                clear BK7002
                clear BK7013
                clear HB
                have BK7001 := n0_
                have BK7002 := n1_
                have BK7013 := n2_
                have HB := n3_
                clear n0_ n1_ n2_ n3_
                (try clear hb)
                (try clear hb2)
                (try clear hk)
                (try clear hi)
                refine hK.out _ _ ⟨(blk_cell BK7001.out 0).trans rfl, (blk_cell BK7001.out 1).trans rfl, (blk_cell BK7001.out 2).trans rfl, (blk_cell BK7002.out 0).trans rfl, (blk_cell BK7002.out 1).trans rfl⟩ (fun hHeld => ?_)
                clear hK K
                refine norm_ (a' := ?_) ?_ ?_
                rotate_left
                · show Act.put _ (some 27) _ = _
                  simp only [Act.put, List.setIfInBounds_toArray, List.set_cons_zero, List.set_cons_succ, i64_w, i32_w]
                  rfl
                refine one_ (i := 5) (N := some 7) #[true, true, true, true, true, true, false] rfl rfl (by kernel_rfl) (by decide) (fun K hK => ?_)
                refine box_step ?hg (N := 7) ?hd (cs := #[.string (⟨#[]⟩ : ByteArray), .string (⟨#[]⟩ : ByteArray), .string (⟨#[]⟩ : ByteArray)]) (t := 71) ?hr ?_; (case hd => rfl); (case hg => rfl); (case hr => first | (go_simp; done) | (go_simp; rfl))
                intro gb7022 hg w82 hbox hb
                have n0_ := Aside0.mk (blk_below (g := gb7001) (o := .cells #[.string a0_0, .string a0_1, .string a0_2] 69 (0, 0)) (by (with_reducible repeat (first | refine blk_drewN ?_ _ | refine blk_drew ?_ | refine blk_alloc ?_ _)); exact BK7001.out) hb)
                have n1_ := Aside0.mk (blk_below (g := gb7002) (o := .cells #[.int .u8 a1_0, .string a1_1] 56 (0, 0)) (by (with_reducible repeat (first | refine blk_drewN ?_ _ | refine blk_drew ?_ | refine blk_alloc ?_ _)); exact BK7002.out) hb)
                have n2_ := Aside0.mk (blk_below (g := gb7013) (o := .cells #[.string t7010, .string t7011, .string t7012] 71 (0, 0)) (by (with_reducible repeat (first | refine blk_drewN ?_ _ | refine blk_drew ?_ | refine blk_alloc ?_ _)); exact BK7013.out) hb)
                have n3_ := Aside0.mk (below_step (by repeat (first | (with_reducible first | exact HB.out | apply below_alloc | apply pw_below_drewN | apply below_drew1 | refine below_set ?_ GE7001.out | refine below_set ?_ GE7002.out | refine below_set ?_ GE7013.out) | exact HB.out)) hb)
                have n4_ := Aside0.mk (hbox)
                have n5_ := Aside0.mk ((by rw [hg]; exact (below_size (by repeat (first | (with_reducible first | exact HB.out | apply below_alloc | apply pw_below_drewN | apply below_drew1 | refine below_set ?_ GE7001.out | refine below_set ?_ GE7002.out | refine below_set ?_ GE7013.out) | exact HB.out))) : w.heap.size ≤ gb7022))
                have n6_ := Aside0.mk ((by rw [hg]; exact (below_size (by repeat (first | (with_reducible first | exact HB.out | apply below_alloc | apply pw_below_drewN | apply below_drew1 | refine below_set ?_ GE7001.out | refine below_set ?_ GE7002.out | refine below_set ?_ GE7013.out) | exact HB.out))) : w.heap.size ≤ gb7022))
                have n7_ := Aside0.mk ((by rw [hg]; exact Nat.ne_of_lt (blk_lt (g := gb7001) (o := .cells #[.string a0_0, .string a0_1, .string a0_2] 69 (0, 0)) (by (with_reducible repeat (first | refine blk_drewN ?_ _ | refine blk_drew ?_ | refine blk_alloc ?_ _)); exact BK7001.out)) : gb7001 ≠ gb7022))
                have n8_ := Aside0.mk ((by rw [hg]; exact Nat.ne_of_gt (blk_lt (g := gb7001) (o := .cells #[.string a0_0, .string a0_1, .string a0_2] 69 (0, 0)) (by (with_reducible repeat (first | refine blk_drewN ?_ _ | refine blk_drew ?_ | refine blk_alloc ?_ _)); exact BK7001.out)) : gb7022 ≠ gb7001))
                have n9_ := Aside0.mk ((by rw [hg]; exact Nat.ne_of_lt (blk_lt (g := gb7002) (o := .cells #[.int .u8 a1_0, .string a1_1] 56 (0, 0)) (by (with_reducible repeat (first | refine blk_drewN ?_ _ | refine blk_drew ?_ | refine blk_alloc ?_ _)); exact BK7002.out)) : gb7002 ≠ gb7022))
                have n10_ := Aside0.mk ((by rw [hg]; exact Nat.ne_of_gt (blk_lt (g := gb7002) (o := .cells #[.int .u8 a1_0, .string a1_1] 56 (0, 0)) (by (with_reducible repeat (first | refine blk_drewN ?_ _ | refine blk_drew ?_ | refine blk_alloc ?_ _)); exact BK7002.out)) : gb7022 ≠ gb7002))
                have n11_ := Aside0.mk ((by rw [hg]; exact Nat.ne_of_lt (blk_lt (g := gb7013) (o := .cells #[.string t7010, .string t7011, .string t7012] 71 (0, 0)) (by (with_reducible repeat (first | refine blk_drewN ?_ _ | refine blk_drew ?_ | refine blk_alloc ?_ _)); exact BK7013.out)) : gb7013 ≠ gb7022))
                have n12_ := Aside0.mk ((by rw [hg]; exact Nat.ne_of_gt (blk_lt (g := gb7013) (o := .cells #[.string t7010, .string t7011, .string t7012] 71 (0, 0)) (by (with_reducible repeat (first | refine blk_drewN ?_ _ | refine blk_drew ?_ | refine blk_alloc ?_ _)); exact BK7013.out)) : gb7022 ≠ gb7013))
                clear BK7001
                clear BK7002
                clear BK7013
                clear HB
                have BK7001 := n0_
                have BK7002 := n1_
                have BK7013 := n2_
                have HB := n3_
                have BK7022 := n4_
                have GW7022 := n5_
                have GE7022 := n6_
                have NB7001_7022 := n7_
                have NB7022_7001 := n8_
                have NB7002_7022 := n9_
                have NB7022_7002 := n10_
                have NB7013_7022 := n11_
                have NB7022_7013 := n12_
                clear n0_ n1_ n2_ n3_ n4_ n5_ n6_ n7_ n8_ n9_ n10_ n11_ n12_
                clear hb hbox hg
                refine hK.out _ _ ⟨(blk_cell BK7001.out 0).trans rfl, (blk_cell BK7001.out 1).trans rfl, (blk_cell BK7001.out 2).trans rfl, (blk_cell BK7002.out 0).trans rfl, (blk_cell BK7002.out 1).trans rfl⟩ (fun hHeld => ?_)
                clear hK K
                refine norm_ (a' := ?_) ?_ ?_
                rotate_left
                · show Act.put _ (some 7) _ = _
                  simp only [Act.put, List.setIfInBounds_toArray, List.set_cons_zero, List.set_cons_succ, i64_w, i32_w]
                  rfl
                exact norm_ (by simp only [putAll, Act.put, List.setIfInBounds_toArray, List.set_cons_zero, List.set_cons_succ]) (hCont (gb7022) _ ⟨hHeld, (by (with_reducible repeat (first | refine blk_drewN ?_ _ | refine blk_drew ?_ | refine blk_alloc ?_ _)); exact BK7001.out), (by (with_reducible repeat (first | refine blk_drewN ?_ _ | refine blk_drew ?_ | refine blk_alloc ?_ _)); exact BK7002.out), (by (with_reducible repeat (first | refine blk_drewN ?_ _ | refine blk_drew ?_ | refine blk_alloc ?_ _)); exact BK7013.out), (by (with_reducible repeat (first | refine blk_drewN ?_ _ | refine blk_drew ?_ | refine blk_alloc ?_ _)); exact BK7022.out), GW7022.out, GE7022.out, NB7001_7022.out, NB7022_7001.out, NB7002_7022.out, NB7022_7002.out, NB7013_7022.out, NB7022_7013.out, (by repeat (first | (with_reducible first | exact HB.out | apply below_alloc | apply pw_below_drewN | apply below_drew1 | refine below_set ?_ GE7001.out | refine below_set ?_ GE7002.out | refine below_set ?_ GE7013.out | refine below_set ?_ GE7022.out) | exact HB.out))⟩)
              · skip
                refine box_step ?hg (N := 7) ?hd (cs := #[.string (⟨#[]⟩ : ByteArray), .string (⟨#[]⟩ : ByteArray), .string (⟨#[]⟩ : ByteArray)]) (t := 71) ?hr ?_; (case hd => rfl); (case hg => rfl); (case hr => first | (go_simp; done) | (go_simp; rfl))
                intro gb7022 hg w81 hbox hb
                have n0_ := Aside0.mk (blk_below (g := gb7001) (o := .cells #[.string a0_0, .string a0_1, .string a0_2] 69 (0, 0)) (by (with_reducible repeat (first | refine blk_drewN ?_ _ | refine blk_drew ?_ | refine blk_alloc ?_ _)); exact BK7001.out) hb)
                have n1_ := Aside0.mk (blk_below (g := gb7002) (o := .cells #[.int .u8 a1_0, .string a1_1] 56 (0, 0)) (by (with_reducible repeat (first | refine blk_drewN ?_ _ | refine blk_drew ?_ | refine blk_alloc ?_ _)); exact BK7002.out) hb)
                have n2_ := Aside0.mk (blk_below (g := gb7013) (o := .cells #[.string t7010, .string t7011, .string t7012] 71 (0, 0)) (by (with_reducible repeat (first | refine blk_drewN ?_ _ | refine blk_drew ?_ | refine blk_alloc ?_ _)); exact BK7013.out) hb)
                have n3_ := Aside0.mk (below_step (by repeat (first | (with_reducible first | exact HB.out | apply below_alloc | apply pw_below_drewN | apply below_drew1 | refine below_set ?_ GE7001.out | refine below_set ?_ GE7002.out | refine below_set ?_ GE7013.out) | exact HB.out)) hb)
                have n4_ := Aside0.mk (hbox)
                have n5_ := Aside0.mk ((by rw [hg]; exact (below_size (by repeat (first | (with_reducible first | exact HB.out | apply below_alloc | apply pw_below_drewN | apply below_drew1 | refine below_set ?_ GE7001.out | refine below_set ?_ GE7002.out | refine below_set ?_ GE7013.out) | exact HB.out))) : w.heap.size ≤ gb7022))
                have n6_ := Aside0.mk ((by rw [hg]; exact (below_size (by repeat (first | (with_reducible first | exact HB.out | apply below_alloc | apply pw_below_drewN | apply below_drew1 | refine below_set ?_ GE7001.out | refine below_set ?_ GE7002.out | refine below_set ?_ GE7013.out) | exact HB.out))) : w.heap.size ≤ gb7022))
                have n7_ := Aside0.mk ((by rw [hg]; exact Nat.ne_of_lt (blk_lt (g := gb7001) (o := .cells #[.string a0_0, .string a0_1, .string a0_2] 69 (0, 0)) (by (with_reducible repeat (first | refine blk_drewN ?_ _ | refine blk_drew ?_ | refine blk_alloc ?_ _)); exact BK7001.out)) : gb7001 ≠ gb7022))
                have n8_ := Aside0.mk ((by rw [hg]; exact Nat.ne_of_gt (blk_lt (g := gb7001) (o := .cells #[.string a0_0, .string a0_1, .string a0_2] 69 (0, 0)) (by (with_reducible repeat (first | refine blk_drewN ?_ _ | refine blk_drew ?_ | refine blk_alloc ?_ _)); exact BK7001.out)) : gb7022 ≠ gb7001))
                have n9_ := Aside0.mk ((by rw [hg]; exact Nat.ne_of_lt (blk_lt (g := gb7002) (o := .cells #[.int .u8 a1_0, .string a1_1] 56 (0, 0)) (by (with_reducible repeat (first | refine blk_drewN ?_ _ | refine blk_drew ?_ | refine blk_alloc ?_ _)); exact BK7002.out)) : gb7002 ≠ gb7022))
                have n10_ := Aside0.mk ((by rw [hg]; exact Nat.ne_of_gt (blk_lt (g := gb7002) (o := .cells #[.int .u8 a1_0, .string a1_1] 56 (0, 0)) (by (with_reducible repeat (first | refine blk_drewN ?_ _ | refine blk_drew ?_ | refine blk_alloc ?_ _)); exact BK7002.out)) : gb7022 ≠ gb7002))
                have n11_ := Aside0.mk ((by rw [hg]; exact Nat.ne_of_lt (blk_lt (g := gb7013) (o := .cells #[.string t7010, .string t7011, .string t7012] 71 (0, 0)) (by (with_reducible repeat (first | refine blk_drewN ?_ _ | refine blk_drew ?_ | refine blk_alloc ?_ _)); exact BK7013.out)) : gb7013 ≠ gb7022))
                have n12_ := Aside0.mk ((by rw [hg]; exact Nat.ne_of_gt (blk_lt (g := gb7013) (o := .cells #[.string t7010, .string t7011, .string t7012] 71 (0, 0)) (by (with_reducible repeat (first | refine blk_drewN ?_ _ | refine blk_drew ?_ | refine blk_alloc ?_ _)); exact BK7013.out)) : gb7022 ≠ gb7013))
                clear BK7001
                clear BK7002
                clear BK7013
                clear HB
                have BK7001 := n0_
                have BK7002 := n1_
                have BK7013 := n2_
                have HB := n3_
                have BK7022 := n4_
                have GW7022 := n5_
                have GE7022 := n6_
                have NB7001_7022 := n7_
                have NB7022_7001 := n8_
                have NB7002_7022 := n9_
                have NB7022_7002 := n10_
                have NB7013_7022 := n11_
                have NB7022_7013 := n12_
                clear n0_ n1_ n2_ n3_ n4_ n5_ n6_ n7_ n8_ n9_ n10_ n11_ n12_
                clear hb hbox hg
                refine hK.out _ _ ⟨(blk_cell BK7001.out 0).trans rfl, (blk_cell BK7001.out 1).trans rfl, (blk_cell BK7001.out 2).trans rfl, (blk_cell BK7002.out 0).trans rfl, (blk_cell BK7002.out 1).trans rfl⟩ (fun hHeld => ?_)
                clear hK K
                refine norm_ (a' := ?_) ?_ ?_
                rotate_left
                · show Act.put _ (some 7) _ = _
                  simp only [Act.put, List.setIfInBounds_toArray, List.set_cons_zero, List.set_cons_succ, i64_w, i32_w]
                  rfl
                refine one_ (i := 4) (N := some 27) #[true, true, true, true, true, true, false] rfl rfl (by kernel_rfl) (by decide) (fun K hK => ?_)
                refine goes_ Try.func45 (by kernel_rfl) rfl #[.agg #[.string t7014, .string t7015, .string t7016], .agg #[.int .u8 t7017, .string t7018]] (by rfl) rfl rfl (by (try simp only [List.map_toArray, List.map_cons, List.map_nil]); first | done | rfl | (simp only [List.length_drop, List.length_take]; rfl)) ?_
                with_reducible refine (impl_ReverseStep.calls t7014 t7015 t7016 t7017 t7018 t7019 t7020 t7021 _ A24.out).mono ?_
                rintro e w82 ⟨rfl, hb⟩
                refine ⟨_, rfl, ?_⟩
                have n0_ := Aside0.mk (blk_below (g := gb7001) (o := .cells #[.string a0_0, .string a0_1, .string a0_2] 69 (0, 0)) (by (with_reducible repeat (first | refine blk_drewN ?_ _ | refine blk_drew ?_ | refine blk_alloc ?_ _)); exact BK7001.out) hb)
                have n1_ := Aside0.mk (blk_below (g := gb7002) (o := .cells #[.int .u8 a1_0, .string a1_1] 56 (0, 0)) (by (with_reducible repeat (first | refine blk_drewN ?_ _ | refine blk_drew ?_ | refine blk_alloc ?_ _)); exact BK7002.out) hb)
                have n2_ := Aside0.mk (blk_below (g := gb7013) (o := .cells #[.string t7010, .string t7011, .string t7012] 71 (0, 0)) (by (with_reducible repeat (first | refine blk_drewN ?_ _ | refine blk_drew ?_ | refine blk_alloc ?_ _)); exact BK7013.out) hb)
                have n3_ := Aside0.mk (blk_below (g := gb7022) (o := .cells #[.string (⟨#[]⟩ : ByteArray), .string (⟨#[]⟩ : ByteArray), .string (⟨#[]⟩ : ByteArray)] 71 (0, 0)) (by (with_reducible repeat (first | refine blk_drewN ?_ _ | refine blk_drew ?_ | refine blk_alloc ?_ _)); exact BK7022.out) hb)
                have n4_ := Aside0.mk (below_step (by repeat (first | (with_reducible first | exact HB.out | apply below_alloc | apply pw_below_drewN | apply below_drew1 | refine below_set ?_ GE7001.out | refine below_set ?_ GE7002.out | refine below_set ?_ GE7013.out | refine below_set ?_ GE7022.out) | exact HB.out)) hb)
                clear BK7001
                clear BK7002
                clear BK7013
                clear BK7022
                clear HB
                have BK7001 := n0_
                have BK7002 := n1_
                have BK7013 := n2_
                have BK7022 := n3_
                have HB := n4_
                clear n0_ n1_ n2_ n3_ n4_
                (try clear hb)
                (try clear hb2)
                (try clear hk)
                (try clear hi)
                refine hK.out _ _ ⟨(blk_cell BK7001.out 0).trans rfl, (blk_cell BK7001.out 1).trans rfl, (blk_cell BK7001.out 2).trans rfl, (blk_cell BK7002.out 0).trans rfl, (blk_cell BK7002.out 1).trans rfl⟩ (fun hHeld => ?_)
                clear hK K
                refine norm_ (a' := ?_) ?_ ?_
                rotate_left
                · show Act.put _ (some 27) _ = _
                  simp only [Act.put, List.setIfInBounds_toArray, List.set_cons_zero, List.set_cons_succ, i64_w, i32_w]
                  rfl
                exact norm_ (by simp only [putAll, Act.put, List.setIfInBounds_toArray, List.set_cons_zero, List.set_cons_succ]) (hCont (gb7022) _ ⟨hHeld, (by (with_reducible repeat (first | refine blk_drewN ?_ _ | refine blk_drew ?_ | refine blk_alloc ?_ _)); exact BK7001.out), (by (with_reducible repeat (first | refine blk_drewN ?_ _ | refine blk_drew ?_ | refine blk_alloc ?_ _)); exact BK7002.out), (by (with_reducible repeat (first | refine blk_drewN ?_ _ | refine blk_drew ?_ | refine blk_alloc ?_ _)); exact BK7013.out), (by (with_reducible repeat (first | refine blk_drewN ?_ _ | refine blk_drew ?_ | refine blk_alloc ?_ _)); exact BK7022.out), GW7022.out, GE7022.out, NB7001_7022.out, NB7022_7001.out, NB7002_7022.out, NB7022_7002.out, NB7013_7022.out, NB7022_7013.out, (by repeat (first | (with_reducible first | exact HB.out | apply below_alloc | apply pw_below_drewN | apply below_drew1 | refine below_set ?_ GE7001.out | refine below_set ?_ GE7002.out | refine below_set ?_ GE7013.out | refine below_set ?_ GE7022.out) | exact HB.out))⟩)
            · skip
              refine box_step ?hg (N := 7) ?hd (cs := #[.string (⟨#[]⟩ : ByteArray), .string (⟨#[]⟩ : ByteArray), .string (⟨#[]⟩ : ByteArray)]) (t := 71) ?hr ?_; (case hd => rfl); (case hg => rfl); (case hr => first | (go_simp; done) | (go_simp; rfl))
              intro gb7022 hg w80 hbox hb
              have n0_ := Aside0.mk (blk_below (g := gb7001) (o := .cells #[.string a0_0, .string a0_1, .string a0_2] 69 (0, 0)) (by (with_reducible repeat (first | refine blk_drewN ?_ _ | refine blk_drew ?_ | refine blk_alloc ?_ _)); exact BK7001.out) hb)
              have n1_ := Aside0.mk (blk_below (g := gb7002) (o := .cells #[.int .u8 a1_0, .string a1_1] 56 (0, 0)) (by (with_reducible repeat (first | refine blk_drewN ?_ _ | refine blk_drew ?_ | refine blk_alloc ?_ _)); exact BK7002.out) hb)
              have n2_ := Aside0.mk (blk_below (g := gb7013) (o := .cells #[.string t7010, .string t7011, .string t7012] 71 (0, 0)) (by (with_reducible repeat (first | refine blk_drewN ?_ _ | refine blk_drew ?_ | refine blk_alloc ?_ _)); exact BK7013.out) hb)
              have n3_ := Aside0.mk (below_step (by repeat (first | (with_reducible first | exact HB.out | apply below_alloc | apply pw_below_drewN | apply below_drew1 | refine below_set ?_ GE7001.out | refine below_set ?_ GE7002.out | refine below_set ?_ GE7013.out) | exact HB.out)) hb)
              have n4_ := Aside0.mk (hbox)
              have n5_ := Aside0.mk ((by rw [hg]; exact (below_size (by repeat (first | (with_reducible first | exact HB.out | apply below_alloc | apply pw_below_drewN | apply below_drew1 | refine below_set ?_ GE7001.out | refine below_set ?_ GE7002.out | refine below_set ?_ GE7013.out) | exact HB.out))) : w.heap.size ≤ gb7022))
              have n6_ := Aside0.mk ((by rw [hg]; exact (below_size (by repeat (first | (with_reducible first | exact HB.out | apply below_alloc | apply pw_below_drewN | apply below_drew1 | refine below_set ?_ GE7001.out | refine below_set ?_ GE7002.out | refine below_set ?_ GE7013.out) | exact HB.out))) : w.heap.size ≤ gb7022))
              have n7_ := Aside0.mk ((by rw [hg]; exact Nat.ne_of_lt (blk_lt (g := gb7001) (o := .cells #[.string a0_0, .string a0_1, .string a0_2] 69 (0, 0)) (by (with_reducible repeat (first | refine blk_drewN ?_ _ | refine blk_drew ?_ | refine blk_alloc ?_ _)); exact BK7001.out)) : gb7001 ≠ gb7022))
              have n8_ := Aside0.mk ((by rw [hg]; exact Nat.ne_of_gt (blk_lt (g := gb7001) (o := .cells #[.string a0_0, .string a0_1, .string a0_2] 69 (0, 0)) (by (with_reducible repeat (first | refine blk_drewN ?_ _ | refine blk_drew ?_ | refine blk_alloc ?_ _)); exact BK7001.out)) : gb7022 ≠ gb7001))
              have n9_ := Aside0.mk ((by rw [hg]; exact Nat.ne_of_lt (blk_lt (g := gb7002) (o := .cells #[.int .u8 a1_0, .string a1_1] 56 (0, 0)) (by (with_reducible repeat (first | refine blk_drewN ?_ _ | refine blk_drew ?_ | refine blk_alloc ?_ _)); exact BK7002.out)) : gb7002 ≠ gb7022))
              have n10_ := Aside0.mk ((by rw [hg]; exact Nat.ne_of_gt (blk_lt (g := gb7002) (o := .cells #[.int .u8 a1_0, .string a1_1] 56 (0, 0)) (by (with_reducible repeat (first | refine blk_drewN ?_ _ | refine blk_drew ?_ | refine blk_alloc ?_ _)); exact BK7002.out)) : gb7022 ≠ gb7002))
              have n11_ := Aside0.mk ((by rw [hg]; exact Nat.ne_of_lt (blk_lt (g := gb7013) (o := .cells #[.string t7010, .string t7011, .string t7012] 71 (0, 0)) (by (with_reducible repeat (first | refine blk_drewN ?_ _ | refine blk_drew ?_ | refine blk_alloc ?_ _)); exact BK7013.out)) : gb7013 ≠ gb7022))
              have n12_ := Aside0.mk ((by rw [hg]; exact Nat.ne_of_gt (blk_lt (g := gb7013) (o := .cells #[.string t7010, .string t7011, .string t7012] 71 (0, 0)) (by (with_reducible repeat (first | refine blk_drewN ?_ _ | refine blk_drew ?_ | refine blk_alloc ?_ _)); exact BK7013.out)) : gb7022 ≠ gb7013))
              clear BK7001
              clear BK7002
              clear BK7013
              clear HB
              have BK7001 := n0_
              have BK7002 := n1_
              have BK7013 := n2_
              have HB := n3_
              have BK7022 := n4_
              have GW7022 := n5_
              have GE7022 := n6_
              have NB7001_7022 := n7_
              have NB7022_7001 := n8_
              have NB7002_7022 := n9_
              have NB7022_7002 := n10_
              have NB7013_7022 := n11_
              have NB7022_7013 := n12_
              clear n0_ n1_ n2_ n3_ n4_ n5_ n6_ n7_ n8_ n9_ n10_ n11_ n12_
              clear hb hbox hg
              refine hK.out _ _ ⟨(blk_cell BK7001.out 0).trans rfl, (blk_cell BK7001.out 1).trans rfl, (blk_cell BK7001.out 2).trans rfl, (blk_cell BK7002.out 0).trans rfl, (blk_cell BK7002.out 1).trans rfl⟩ (fun hHeld => ?_)
              clear hK K
              refine norm_ (a' := ?_) ?_ ?_
              rotate_left
              · show Act.put _ (some 7) _ = _
                simp only [Act.put, List.setIfInBounds_toArray, List.set_cons_zero, List.set_cons_succ, i64_w, i32_w]
                rfl
              refine one_ (i := 3) (N := some 26) #[true, true, true, true, false, true, false] rfl rfl (by kernel_rfl) (by decide) (fun K hK => ?_)
              refine goes_ Try.func37 (by kernel_rfl) rfl #[.agg #[.int .u8 a1_0, .string a1_1]] (by rfl) rfl rfl (by (try simp only [List.map_toArray, List.map_cons, List.map_nil]); first | done | rfl | (simp only [List.length_drop, List.length_take]; rfl)) ?_
              with_reducible refine (laws_toMove.calls a1_0 a1_1 t7017 t7018 _ A23.out).mono ?_
              rintro e w81 ⟨rfl, hb⟩
              refine ⟨_, rfl, ?_⟩
              have n0_ := Aside0.mk (blk_below (g := gb7001) (o := .cells #[.string a0_0, .string a0_1, .string a0_2] 69 (0, 0)) (by (with_reducible repeat (first | refine blk_drewN ?_ _ | refine blk_drew ?_ | refine blk_alloc ?_ _)); exact BK7001.out) hb)
              have n1_ := Aside0.mk (blk_below (g := gb7002) (o := .cells #[.int .u8 a1_0, .string a1_1] 56 (0, 0)) (by (with_reducible repeat (first | refine blk_drewN ?_ _ | refine blk_drew ?_ | refine blk_alloc ?_ _)); exact BK7002.out) hb)
              have n2_ := Aside0.mk (blk_below (g := gb7013) (o := .cells #[.string t7010, .string t7011, .string t7012] 71 (0, 0)) (by (with_reducible repeat (first | refine blk_drewN ?_ _ | refine blk_drew ?_ | refine blk_alloc ?_ _)); exact BK7013.out) hb)
              have n3_ := Aside0.mk (blk_below (g := gb7022) (o := .cells #[.string (⟨#[]⟩ : ByteArray), .string (⟨#[]⟩ : ByteArray), .string (⟨#[]⟩ : ByteArray)] 71 (0, 0)) (by (with_reducible repeat (first | refine blk_drewN ?_ _ | refine blk_drew ?_ | refine blk_alloc ?_ _)); exact BK7022.out) hb)
              have n4_ := Aside0.mk (below_step (by repeat (first | (with_reducible first | exact HB.out | apply below_alloc | apply pw_below_drewN | apply below_drew1 | refine below_set ?_ GE7001.out | refine below_set ?_ GE7002.out | refine below_set ?_ GE7013.out | refine below_set ?_ GE7022.out) | exact HB.out)) hb)
              clear BK7001
              clear BK7002
              clear BK7013
              clear BK7022
              clear HB
              have BK7001 := n0_
              have BK7002 := n1_
              have BK7013 := n2_
              have BK7022 := n3_
              have HB := n4_
              clear n0_ n1_ n2_ n3_ n4_
              (try clear hb)
              (try clear hb2)
              (try clear hk)
              (try clear hi)
              refine hK.out _ _ ⟨(blk_cell BK7001.out 0).trans rfl, (blk_cell BK7001.out 1).trans rfl, (blk_cell BK7001.out 2).trans rfl, (blk_cell BK7002.out 0).trans rfl, (blk_cell BK7002.out 1).trans rfl⟩ (fun hHeld => ?_)
              clear hK K
              refine norm_ (a' := ?_) ?_ ?_
              rotate_left
              · show Act.put _ (some 26) _ = _
                simp only [Act.put, List.setIfInBounds_toArray, List.set_cons_zero, List.set_cons_succ, i64_w, i32_w]
                rfl
              refine one_ (i := 4) (N := some 27) #[true, true, true, true, true, true, false] rfl rfl (by kernel_rfl) (by decide) (fun K hK => ?_)
              refine goes_ Try.func45 (by kernel_rfl) rfl #[.agg #[.string t7014, .string t7015, .string t7016], .agg #[.int .u8 t7017, .string t7018]] (by rfl) rfl rfl (by (try simp only [List.map_toArray, List.map_cons, List.map_nil]); first | done | rfl | (simp only [List.length_drop, List.length_take]; rfl)) ?_
              with_reducible refine (impl_ReverseStep.calls t7014 t7015 t7016 t7017 t7018 t7019 t7020 t7021 _ A24.out).mono ?_
              rintro e w82 ⟨rfl, hb⟩
              refine ⟨_, rfl, ?_⟩
              have n0_ := Aside0.mk (blk_below (g := gb7001) (o := .cells #[.string a0_0, .string a0_1, .string a0_2] 69 (0, 0)) (by (with_reducible repeat (first | refine blk_drewN ?_ _ | refine blk_drew ?_ | refine blk_alloc ?_ _)); exact BK7001.out) hb)
              have n1_ := Aside0.mk (blk_below (g := gb7002) (o := .cells #[.int .u8 a1_0, .string a1_1] 56 (0, 0)) (by (with_reducible repeat (first | refine blk_drewN ?_ _ | refine blk_drew ?_ | refine blk_alloc ?_ _)); exact BK7002.out) hb)
              have n2_ := Aside0.mk (blk_below (g := gb7013) (o := .cells #[.string t7010, .string t7011, .string t7012] 71 (0, 0)) (by (with_reducible repeat (first | refine blk_drewN ?_ _ | refine blk_drew ?_ | refine blk_alloc ?_ _)); exact BK7013.out) hb)
              have n3_ := Aside0.mk (blk_below (g := gb7022) (o := .cells #[.string (⟨#[]⟩ : ByteArray), .string (⟨#[]⟩ : ByteArray), .string (⟨#[]⟩ : ByteArray)] 71 (0, 0)) (by (with_reducible repeat (first | refine blk_drewN ?_ _ | refine blk_drew ?_ | refine blk_alloc ?_ _)); exact BK7022.out) hb)
              have n4_ := Aside0.mk (below_step (by repeat (first | (with_reducible first | exact HB.out | apply below_alloc | apply pw_below_drewN | apply below_drew1 | refine below_set ?_ GE7001.out | refine below_set ?_ GE7002.out | refine below_set ?_ GE7013.out | refine below_set ?_ GE7022.out) | exact HB.out)) hb)
              clear BK7001
              clear BK7002
              clear BK7013
              clear BK7022
              clear HB
              have BK7001 := n0_
              have BK7002 := n1_
              have BK7013 := n2_
              have BK7022 := n3_
              have HB := n4_
              clear n0_ n1_ n2_ n3_ n4_
              (try clear hb)
              (try clear hb2)
              (try clear hk)
              (try clear hi)
              refine hK.out _ _ ⟨(blk_cell BK7001.out 0).trans rfl, (blk_cell BK7001.out 1).trans rfl, (blk_cell BK7001.out 2).trans rfl, (blk_cell BK7002.out 0).trans rfl, (blk_cell BK7002.out 1).trans rfl⟩ (fun hHeld => ?_)
              clear hK K
              refine norm_ (a' := ?_) ?_ ?_
              rotate_left
              · show Act.put _ (some 27) _ = _
                simp only [Act.put, List.setIfInBounds_toArray, List.set_cons_zero, List.set_cons_succ, i64_w, i32_w]
                rfl
              exact norm_ (by simp only [putAll, Act.put, List.setIfInBounds_toArray, List.set_cons_zero, List.set_cons_succ]) (hCont (gb7022) _ ⟨hHeld, (by (with_reducible repeat (first | refine blk_drewN ?_ _ | refine blk_drew ?_ | refine blk_alloc ?_ _)); exact BK7001.out), (by (with_reducible repeat (first | refine blk_drewN ?_ _ | refine blk_drew ?_ | refine blk_alloc ?_ _)); exact BK7002.out), (by (with_reducible repeat (first | refine blk_drewN ?_ _ | refine blk_drew ?_ | refine blk_alloc ?_ _)); exact BK7013.out), (by (with_reducible repeat (first | refine blk_drewN ?_ _ | refine blk_drew ?_ | refine blk_alloc ?_ _)); exact BK7022.out), GW7022.out, GE7022.out, NB7001_7022.out, NB7022_7001.out, NB7002_7022.out, NB7022_7002.out, NB7013_7022.out, NB7022_7013.out, (by repeat (first | (with_reducible first | exact HB.out | apply below_alloc | apply pw_below_drewN | apply below_drew1 | refine below_set ?_ GE7001.out | refine below_set ?_ GE7002.out | refine below_set ?_ GE7013.out | refine below_set ?_ GE7022.out) | exact HB.out))⟩)
          · skip
            refine box_step ?hg (N := 7) ?hd (cs := #[.string (⟨#[]⟩ : ByteArray), .string (⟨#[]⟩ : ByteArray), .string (⟨#[]⟩ : ByteArray)]) (t := 71) ?hr ?_; (case hd => rfl); (case hg => rfl); (case hr => first | (go_simp; done) | (go_simp; rfl))
            intro gb7022 hg w79 hbox hb
            have n0_ := Aside0.mk (blk_below (g := gb7001) (o := .cells #[.string a0_0, .string a0_1, .string a0_2] 69 (0, 0)) (by (with_reducible repeat (first | refine blk_drewN ?_ _ | refine blk_drew ?_ | refine blk_alloc ?_ _)); exact BK7001.out) hb)
            have n1_ := Aside0.mk (blk_below (g := gb7002) (o := .cells #[.int .u8 a1_0, .string a1_1] 56 (0, 0)) (by (with_reducible repeat (first | refine blk_drewN ?_ _ | refine blk_drew ?_ | refine blk_alloc ?_ _)); exact BK7002.out) hb)
            have n2_ := Aside0.mk (blk_below (g := gb7013) (o := .cells #[.string t7010, .string t7011, .string t7012] 71 (0, 0)) (by (with_reducible repeat (first | refine blk_drewN ?_ _ | refine blk_drew ?_ | refine blk_alloc ?_ _)); exact BK7013.out) hb)
            have n3_ := Aside0.mk (below_step (by repeat (first | (with_reducible first | exact HB.out | apply below_alloc | apply pw_below_drewN | apply below_drew1 | refine below_set ?_ GE7001.out | refine below_set ?_ GE7002.out | refine below_set ?_ GE7013.out) | exact HB.out)) hb)
            have n4_ := Aside0.mk (hbox)
            have n5_ := Aside0.mk ((by rw [hg]; exact (below_size (by repeat (first | (with_reducible first | exact HB.out | apply below_alloc | apply pw_below_drewN | apply below_drew1 | refine below_set ?_ GE7001.out | refine below_set ?_ GE7002.out | refine below_set ?_ GE7013.out) | exact HB.out))) : w.heap.size ≤ gb7022))
            have n6_ := Aside0.mk ((by rw [hg]; exact (below_size (by repeat (first | (with_reducible first | exact HB.out | apply below_alloc | apply pw_below_drewN | apply below_drew1 | refine below_set ?_ GE7001.out | refine below_set ?_ GE7002.out | refine below_set ?_ GE7013.out) | exact HB.out))) : w.heap.size ≤ gb7022))
            have n7_ := Aside0.mk ((by rw [hg]; exact Nat.ne_of_lt (blk_lt (g := gb7001) (o := .cells #[.string a0_0, .string a0_1, .string a0_2] 69 (0, 0)) (by (with_reducible repeat (first | refine blk_drewN ?_ _ | refine blk_drew ?_ | refine blk_alloc ?_ _)); exact BK7001.out)) : gb7001 ≠ gb7022))
            have n8_ := Aside0.mk ((by rw [hg]; exact Nat.ne_of_gt (blk_lt (g := gb7001) (o := .cells #[.string a0_0, .string a0_1, .string a0_2] 69 (0, 0)) (by (with_reducible repeat (first | refine blk_drewN ?_ _ | refine blk_drew ?_ | refine blk_alloc ?_ _)); exact BK7001.out)) : gb7022 ≠ gb7001))
            have n9_ := Aside0.mk ((by rw [hg]; exact Nat.ne_of_lt (blk_lt (g := gb7002) (o := .cells #[.int .u8 a1_0, .string a1_1] 56 (0, 0)) (by (with_reducible repeat (first | refine blk_drewN ?_ _ | refine blk_drew ?_ | refine blk_alloc ?_ _)); exact BK7002.out)) : gb7002 ≠ gb7022))
            have n10_ := Aside0.mk ((by rw [hg]; exact Nat.ne_of_gt (blk_lt (g := gb7002) (o := .cells #[.int .u8 a1_0, .string a1_1] 56 (0, 0)) (by (with_reducible repeat (first | refine blk_drewN ?_ _ | refine blk_drew ?_ | refine blk_alloc ?_ _)); exact BK7002.out)) : gb7022 ≠ gb7002))
            have n11_ := Aside0.mk ((by rw [hg]; exact Nat.ne_of_lt (blk_lt (g := gb7013) (o := .cells #[.string t7010, .string t7011, .string t7012] 71 (0, 0)) (by (with_reducible repeat (first | refine blk_drewN ?_ _ | refine blk_drew ?_ | refine blk_alloc ?_ _)); exact BK7013.out)) : gb7013 ≠ gb7022))
            have n12_ := Aside0.mk ((by rw [hg]; exact Nat.ne_of_gt (blk_lt (g := gb7013) (o := .cells #[.string t7010, .string t7011, .string t7012] 71 (0, 0)) (by (with_reducible repeat (first | refine blk_drewN ?_ _ | refine blk_drew ?_ | refine blk_alloc ?_ _)); exact BK7013.out)) : gb7022 ≠ gb7013))
            clear BK7001
            clear BK7002
            clear BK7013
            clear HB
            have BK7001 := n0_
            have BK7002 := n1_
            have BK7013 := n2_
            have HB := n3_
            have BK7022 := n4_
            have GW7022 := n5_
            have GE7022 := n6_
            have NB7001_7022 := n7_
            have NB7022_7001 := n8_
            have NB7002_7022 := n9_
            have NB7022_7002 := n10_
            have NB7013_7022 := n11_
            have NB7022_7013 := n12_
            clear n0_ n1_ n2_ n3_ n4_ n5_ n6_ n7_ n8_ n9_ n10_ n11_ n12_
            clear hb hbox hg
            refine hK.out _ _ ⟨(blk_cell BK7001.out 0).trans rfl, (blk_cell BK7001.out 1).trans rfl, (blk_cell BK7001.out 2).trans rfl, (blk_cell BK7002.out 0).trans rfl, (blk_cell BK7002.out 1).trans rfl⟩ (fun hHeld => ?_)
            clear hK K
            refine norm_ (a' := ?_) ?_ ?_
            rotate_left
            · show Act.put _ (some 7) _ = _
              simp only [Act.put, List.setIfInBounds_toArray, List.set_cons_zero, List.set_cons_succ, i64_w, i32_w]
              rfl
            refine one_ (i := 1) (N := some 24) #[true, true, true, false, false, true, false] rfl rfl (by kernel_rfl) (by decide) (fun K hK => ?_)
            refine goes_ Try.func44 (by kernel_rfl) rfl #[.agg #[.string a0_0, .string a0_1, .string a0_2]] (by rfl) rfl rfl (by (try simp only [List.map_toArray, List.map_cons, List.map_nil]); first | done | rfl | (simp only [List.length_drop, List.length_take]; rfl)) ?_
            with_reducible refine (laws_toValues.calls a0_0 a0_1 a0_2 t7014 t7015 t7016 _ A22.out).mono ?_
            rintro e w80 ⟨rfl, hb⟩
            refine ⟨_, rfl, ?_⟩
            have n0_ := Aside0.mk (blk_below (g := gb7001) (o := .cells #[.string a0_0, .string a0_1, .string a0_2] 69 (0, 0)) (by (with_reducible repeat (first | refine blk_drewN ?_ _ | refine blk_drew ?_ | refine blk_alloc ?_ _)); exact BK7001.out) hb)
            have n1_ := Aside0.mk (blk_below (g := gb7002) (o := .cells #[.int .u8 a1_0, .string a1_1] 56 (0, 0)) (by (with_reducible repeat (first | refine blk_drewN ?_ _ | refine blk_drew ?_ | refine blk_alloc ?_ _)); exact BK7002.out) hb)
            have n2_ := Aside0.mk (blk_below (g := gb7013) (o := .cells #[.string t7010, .string t7011, .string t7012] 71 (0, 0)) (by (with_reducible repeat (first | refine blk_drewN ?_ _ | refine blk_drew ?_ | refine blk_alloc ?_ _)); exact BK7013.out) hb)
            have n3_ := Aside0.mk (blk_below (g := gb7022) (o := .cells #[.string (⟨#[]⟩ : ByteArray), .string (⟨#[]⟩ : ByteArray), .string (⟨#[]⟩ : ByteArray)] 71 (0, 0)) (by (with_reducible repeat (first | refine blk_drewN ?_ _ | refine blk_drew ?_ | refine blk_alloc ?_ _)); exact BK7022.out) hb)
            have n4_ := Aside0.mk (below_step (by repeat (first | (with_reducible first | exact HB.out | apply below_alloc | apply pw_below_drewN | apply below_drew1 | refine below_set ?_ GE7001.out | refine below_set ?_ GE7002.out | refine below_set ?_ GE7013.out | refine below_set ?_ GE7022.out) | exact HB.out)) hb)
            clear BK7001
            clear BK7002
            clear BK7013
            clear BK7022
            clear HB
            have BK7001 := n0_
            have BK7002 := n1_
            have BK7013 := n2_
            have BK7022 := n3_
            have HB := n4_
            clear n0_ n1_ n2_ n3_ n4_
            (try clear hb)
            (try clear hb2)
            (try clear hk)
            (try clear hi)
            refine hK.out _ _ ⟨(blk_cell BK7001.out 0).trans rfl, (blk_cell BK7001.out 1).trans rfl, (blk_cell BK7001.out 2).trans rfl, (blk_cell BK7002.out 0).trans rfl, (blk_cell BK7002.out 1).trans rfl⟩ (fun hHeld => ?_)
            clear hK K
            refine norm_ (a' := ?_) ?_ ?_
            rotate_left
            · show Act.put _ (some 24) _ = _
              simp only [Act.put, List.setIfInBounds_toArray, List.set_cons_zero, List.set_cons_succ, i64_w, i32_w]
              rfl
            refine one_ (i := 3) (N := some 26) #[true, true, true, true, false, true, false] rfl rfl (by kernel_rfl) (by decide) (fun K hK => ?_)
            refine goes_ Try.func37 (by kernel_rfl) rfl #[.agg #[.int .u8 a1_0, .string a1_1]] (by rfl) rfl rfl (by (try simp only [List.map_toArray, List.map_cons, List.map_nil]); first | done | rfl | (simp only [List.length_drop, List.length_take]; rfl)) ?_
            with_reducible refine (laws_toMove.calls a1_0 a1_1 t7017 t7018 _ A23.out).mono ?_
            rintro e w81 ⟨rfl, hb⟩
            refine ⟨_, rfl, ?_⟩
            have n0_ := Aside0.mk (blk_below (g := gb7001) (o := .cells #[.string a0_0, .string a0_1, .string a0_2] 69 (0, 0)) (by (with_reducible repeat (first | refine blk_drewN ?_ _ | refine blk_drew ?_ | refine blk_alloc ?_ _)); exact BK7001.out) hb)
            have n1_ := Aside0.mk (blk_below (g := gb7002) (o := .cells #[.int .u8 a1_0, .string a1_1] 56 (0, 0)) (by (with_reducible repeat (first | refine blk_drewN ?_ _ | refine blk_drew ?_ | refine blk_alloc ?_ _)); exact BK7002.out) hb)
            have n2_ := Aside0.mk (blk_below (g := gb7013) (o := .cells #[.string t7010, .string t7011, .string t7012] 71 (0, 0)) (by (with_reducible repeat (first | refine blk_drewN ?_ _ | refine blk_drew ?_ | refine blk_alloc ?_ _)); exact BK7013.out) hb)
            have n3_ := Aside0.mk (blk_below (g := gb7022) (o := .cells #[.string (⟨#[]⟩ : ByteArray), .string (⟨#[]⟩ : ByteArray), .string (⟨#[]⟩ : ByteArray)] 71 (0, 0)) (by (with_reducible repeat (first | refine blk_drewN ?_ _ | refine blk_drew ?_ | refine blk_alloc ?_ _)); exact BK7022.out) hb)
            have n4_ := Aside0.mk (below_step (by repeat (first | (with_reducible first | exact HB.out | apply below_alloc | apply pw_below_drewN | apply below_drew1 | refine below_set ?_ GE7001.out | refine below_set ?_ GE7002.out | refine below_set ?_ GE7013.out | refine below_set ?_ GE7022.out) | exact HB.out)) hb)
            clear BK7001
            clear BK7002
            clear BK7013
            clear BK7022
            clear HB
            have BK7001 := n0_
            have BK7002 := n1_
            have BK7013 := n2_
            have BK7022 := n3_
            have HB := n4_
            clear n0_ n1_ n2_ n3_ n4_
            (try clear hb)
            (try clear hb2)
            (try clear hk)
            (try clear hi)
            refine hK.out _ _ ⟨(blk_cell BK7001.out 0).trans rfl, (blk_cell BK7001.out 1).trans rfl, (blk_cell BK7001.out 2).trans rfl, (blk_cell BK7002.out 0).trans rfl, (blk_cell BK7002.out 1).trans rfl⟩ (fun hHeld => ?_)
            clear hK K
            refine norm_ (a' := ?_) ?_ ?_
            rotate_left
            · show Act.put _ (some 26) _ = _
              simp only [Act.put, List.setIfInBounds_toArray, List.set_cons_zero, List.set_cons_succ, i64_w, i32_w]
              rfl
            refine one_ (i := 4) (N := some 27) #[true, true, true, true, true, true, false] rfl rfl (by kernel_rfl) (by decide) (fun K hK => ?_)
            refine goes_ Try.func45 (by kernel_rfl) rfl #[.agg #[.string t7014, .string t7015, .string t7016], .agg #[.int .u8 t7017, .string t7018]] (by rfl) rfl rfl (by (try simp only [List.map_toArray, List.map_cons, List.map_nil]); first | done | rfl | (simp only [List.length_drop, List.length_take]; rfl)) ?_
            with_reducible refine (impl_ReverseStep.calls t7014 t7015 t7016 t7017 t7018 t7019 t7020 t7021 _ A24.out).mono ?_
            rintro e w82 ⟨rfl, hb⟩
            refine ⟨_, rfl, ?_⟩
            have n0_ := Aside0.mk (blk_below (g := gb7001) (o := .cells #[.string a0_0, .string a0_1, .string a0_2] 69 (0, 0)) (by (with_reducible repeat (first | refine blk_drewN ?_ _ | refine blk_drew ?_ | refine blk_alloc ?_ _)); exact BK7001.out) hb)
            have n1_ := Aside0.mk (blk_below (g := gb7002) (o := .cells #[.int .u8 a1_0, .string a1_1] 56 (0, 0)) (by (with_reducible repeat (first | refine blk_drewN ?_ _ | refine blk_drew ?_ | refine blk_alloc ?_ _)); exact BK7002.out) hb)
            have n2_ := Aside0.mk (blk_below (g := gb7013) (o := .cells #[.string t7010, .string t7011, .string t7012] 71 (0, 0)) (by (with_reducible repeat (first | refine blk_drewN ?_ _ | refine blk_drew ?_ | refine blk_alloc ?_ _)); exact BK7013.out) hb)
            have n3_ := Aside0.mk (blk_below (g := gb7022) (o := .cells #[.string (⟨#[]⟩ : ByteArray), .string (⟨#[]⟩ : ByteArray), .string (⟨#[]⟩ : ByteArray)] 71 (0, 0)) (by (with_reducible repeat (first | refine blk_drewN ?_ _ | refine blk_drew ?_ | refine blk_alloc ?_ _)); exact BK7022.out) hb)
            have n4_ := Aside0.mk (below_step (by repeat (first | (with_reducible first | exact HB.out | apply below_alloc | apply pw_below_drewN | apply below_drew1 | refine below_set ?_ GE7001.out | refine below_set ?_ GE7002.out | refine below_set ?_ GE7013.out | refine below_set ?_ GE7022.out) | exact HB.out)) hb)
            clear BK7001
            clear BK7002
            clear BK7013
            clear BK7022
            clear HB
            have BK7001 := n0_
            have BK7002 := n1_
            have BK7013 := n2_
            have BK7022 := n3_
            have HB := n4_
            clear n0_ n1_ n2_ n3_ n4_
            (try clear hb)
            (try clear hb2)
            (try clear hk)
            (try clear hi)
            refine hK.out _ _ ⟨(blk_cell BK7001.out 0).trans rfl, (blk_cell BK7001.out 1).trans rfl, (blk_cell BK7001.out 2).trans rfl, (blk_cell BK7002.out 0).trans rfl, (blk_cell BK7002.out 1).trans rfl⟩ (fun hHeld => ?_)
            clear hK K
            refine norm_ (a' := ?_) ?_ ?_
            rotate_left
            · show Act.put _ (some 27) _ = _
              simp only [Act.put, List.setIfInBounds_toArray, List.set_cons_zero, List.set_cons_succ, i64_w, i32_w]
              rfl
            exact norm_ (by simp only [putAll, Act.put, List.setIfInBounds_toArray, List.set_cons_zero, List.set_cons_succ]) (hCont (gb7022) _ ⟨hHeld, (by (with_reducible repeat (first | refine blk_drewN ?_ _ | refine blk_drew ?_ | refine blk_alloc ?_ _)); exact BK7001.out), (by (with_reducible repeat (first | refine blk_drewN ?_ _ | refine blk_drew ?_ | refine blk_alloc ?_ _)); exact BK7002.out), (by (with_reducible repeat (first | refine blk_drewN ?_ _ | refine blk_drew ?_ | refine blk_alloc ?_ _)); exact BK7013.out), (by (with_reducible repeat (first | refine blk_drewN ?_ _ | refine blk_drew ?_ | refine blk_alloc ?_ _)); exact BK7022.out), GW7022.out, GE7022.out, NB7001_7022.out, NB7022_7001.out, NB7002_7022.out, NB7022_7002.out, NB7013_7022.out, NB7022_7013.out, (by repeat (first | (with_reducible first | exact HB.out | apply below_alloc | apply pw_below_drewN | apply below_drew1 | refine below_set ?_ GE7001.out | refine below_set ?_ GE7002.out | refine below_set ?_ GE7013.out | refine below_set ?_ GE7022.out) | exact HB.out))⟩)
        rintro gb7022 w83 ⟨hS_, h0_, h1_, h2_, h3_, h4_, h5_, h6_, h7_, h8_, h9_, h10_, h11_, h12_⟩
        have n0_ : Aside0 (w83.heap[gb7001]? = some (.cells #[.string a0_0, .string a0_1, .string a0_2] 69 (0, 0))) := ⟨h0_⟩
        have n1_ : Aside0 (w83.heap[gb7002]? = some (.cells #[.int .u8 a1_0, .string a1_1] 56 (0, 0))) := ⟨h1_⟩
        have n2_ : Aside0 (w83.heap[gb7013]? = some (.cells #[.string t7010, .string t7011, .string t7012] 71 (0, 0))) := ⟨h2_⟩
        have n3_ : Aside0 (w83.heap[gb7022]? = some (.cells #[.string (⟨#[]⟩ : ByteArray), .string (⟨#[]⟩ : ByteArray), .string (⟨#[]⟩ : ByteArray)] 71 (0, 0))) := ⟨h3_⟩
        have n4_ : Aside0 (w.heap.size ≤ gb7022) := ⟨h4_⟩
        have n5_ : Aside0 (w.heap.size ≤ gb7022) := ⟨h5_⟩
        have n6_ : Aside0 (gb7001 ≠ gb7022) := ⟨h6_⟩
        have n7_ : Aside0 (gb7022 ≠ gb7001) := ⟨h7_⟩
        have n8_ : Aside0 (gb7002 ≠ gb7022) := ⟨h8_⟩
        have n9_ : Aside0 (gb7022 ≠ gb7002) := ⟨h9_⟩
        have n10_ : Aside0 (gb7013 ≠ gb7022) := ⟨h10_⟩
        have n11_ : Aside0 (gb7022 ≠ gb7013) := ⟨h11_⟩
        have n12_ : Aside0 (Below w.heap.size w w83) := ⟨h12_⟩
        clear BK7001
        clear BK7002
        clear BK7013
        clear HB
        clear h0_ h1_ h2_ h3_ h4_ h5_ h6_ h7_ h8_ h9_ h10_ h11_ h12_
        have BK7001 := n0_
        have BK7002 := n1_
        have BK7013 := n2_
        have BK7022 := n3_
        have GW7022 := n4_
        have GE7022 := n5_
        have NB7001_7022 := n6_
        have NB7022_7001 := n7_
        have NB7002_7022 := n8_
        have NB7022_7002 := n9_
        have NB7013_7022 := n10_
        have NB7022_7013 := n11_
        have HB := n12_
        clear n0_ n1_ n2_ n3_ n4_ n5_ n6_ n7_ n8_ n9_ n10_ n11_ n12_
        have hHeld : w83.cell? ⟨gb7001, 0, none⟩ = some (.string a0_0) ∧ w83.cell? ⟨gb7001, 1, none⟩ = some (.string a0_1) ∧ w83.cell? ⟨gb7001, 2, none⟩ = some (.string a0_2) ∧ w83.cell? ⟨gb7002, 0, none⟩ = some (.int .u8 a1_0) ∧ w83.cell? ⟨gb7002, 1, none⟩ = some (.string a1_1) := hS_
        refine norm_ (a' := ?_) ?_ ?_
        rotate_left
        · simp only [putAll, Act.put, List.setIfInBounds_toArray, List.set_cons_zero, List.set_cons_succ]
          rfl
        refine one_ (i := 6) (N := none) #[true, true, true, true, true, true, true] rfl rfl (by kernel_rfl) (by decide) (fun K hK => ?_)
        have hs84 : w83.cell? ⟨gb7022, 0, none⟩ = some (.string (⟨#[]⟩ : ByteArray)) := (blk_cell BK7022.out 0).trans rfl
        have hfs84 := blk_frozen BK7022.out 0
        have hns84_0 := NB7001_7022.out
        have hns84_1 := NB7002_7022.out
        have hns84_2 := NB7013_7022.out
        have hms84_0 := NB7022_7001.out
        have hms84_1 := NB7022_7002.out
        have hms84_2 := NB7022_7013.out
        have hs85 : w83.cell? ⟨gb7022, 1, none⟩ = some (.string (⟨#[]⟩ : ByteArray)) := (blk_cell BK7022.out 1).trans rfl
        have hfs85 := blk_frozen BK7022.out 1
        have hns85_0 := NB7001_7022.out
        have hns85_1 := NB7002_7022.out
        have hns85_2 := NB7013_7022.out
        have hms85_0 := NB7022_7001.out
        have hms85_1 := NB7022_7002.out
        have hms85_2 := NB7022_7013.out
        have hs86 : w83.cell? ⟨gb7022, 2, none⟩ = some (.string (⟨#[]⟩ : ByteArray)) := (blk_cell BK7022.out 2).trans rfl
        have hfs86 := blk_frozen BK7022.out 2
        have hns86_0 := NB7001_7022.out
        have hns86_1 := NB7002_7022.out
        have hns86_2 := NB7013_7022.out
        have hms86_0 := NB7022_7001.out
        have hms86_1 := NB7022_7002.out
        have hms86_2 := NB7022_7013.out
        refine skip_ (w1 := ?_) (by rfl) rfl ?_ ?_
        rotate_left
        · go_simp
          rfl
        refine hK.out _ _ ⟨((cell_far (p := ⟨gb7022, _, none⟩) NB7001_7022.out _).trans (((cell_far (p := ⟨gb7022, _, none⟩) NB7001_7022.out _).trans (((cell_far (p := ⟨gb7022, _, none⟩) NB7001_7022.out _).trans (hHeld.1)))))), ((cell_far (p := ⟨gb7022, _, none⟩) NB7001_7022.out _).trans (((cell_far (p := ⟨gb7022, _, none⟩) NB7001_7022.out _).trans (((cell_far (p := ⟨gb7022, _, none⟩) NB7001_7022.out _).trans (hHeld.2.1)))))), ((cell_far (p := ⟨gb7022, _, none⟩) NB7001_7022.out _).trans (((cell_far (p := ⟨gb7022, _, none⟩) NB7001_7022.out _).trans (((cell_far (p := ⟨gb7022, _, none⟩) NB7001_7022.out _).trans (hHeld.2.2.1)))))), ((cell_far (p := ⟨gb7022, _, none⟩) NB7002_7022.out _).trans (((cell_far (p := ⟨gb7022, _, none⟩) NB7002_7022.out _).trans (((cell_far (p := ⟨gb7022, _, none⟩) NB7002_7022.out _).trans (hHeld.2.2.2.1)))))), ((cell_far (p := ⟨gb7022, _, none⟩) NB7002_7022.out _).trans (((cell_far (p := ⟨gb7022, _, none⟩) NB7002_7022.out _).trans (((cell_far (p := ⟨gb7022, _, none⟩) NB7002_7022.out _).trans (hHeld.2.2.2.2))))))⟩ (fun hHeld => ?_)
        clear hK K
        refine done_ (by kernel_rfl) ?_
        have hnb87 := NB7022_7001.out
        have hnc87 := NB7001_7022.out
        have hnb88 := NB7022_7002.out
        have hnc88 := NB7002_7022.out
        have hnb89 := NB7022_7013.out
        have hnc89 := NB7013_7022.out
        have hcz90_0 : w83.cell? ⟨gb7022, 0, none⟩ = some (.string (⟨#[]⟩ : ByteArray)) := (blk_cell BK7022.out 0).trans rfl
        have hcz90_1 : w83.cell? ⟨gb7022, 1, none⟩ = some (.string (⟨#[]⟩ : ByteArray)) := (blk_cell BK7022.out 1).trans rfl
        have hcz90_2 : w83.cell? ⟨gb7022, 2, none⟩ = some (.string (⟨#[]⟩ : ByteArray)) := (blk_cell BK7022.out 2).trans rfl
        have hfz90_0 := blk_frozen BK7022.out 0
        have hfz90_1 := blk_frozen BK7022.out 1
        have hfz90_2 := blk_frozen BK7022.out 2
        have hnb91 := NB7013_7001.out
        have hnc91 := NB7001_7013.out
        have hnb92 := NB7013_7002.out
        have hnc92 := NB7002_7013.out
        have hcz93_0 : w83.cell? ⟨gb7013, 0, none⟩ = some (.string t7010) := (blk_cell BK7013.out 0).trans rfl
        have hcz93_1 : w83.cell? ⟨gb7013, 1, none⟩ = some (.string t7011) := (blk_cell BK7013.out 1).trans rfl
        have hcz93_2 : w83.cell? ⟨gb7013, 2, none⟩ = some (.string t7012) := (blk_cell BK7013.out 2).trans rfl
        have hfz93_0 := blk_frozen BK7013.out 0
        have hfz93_1 := blk_frozen BK7013.out 1
        have hfz93_2 := blk_frozen BK7013.out 2
        try go_wp2_with (first | ((with_reducible refine gate_callee (f := 46) rfl ?_); refine goesL_ (some 30) rfl rfl Try.func46 (by kernel_rfl) rfl #[.agg #[.string t7019, .string t7020, .string t7021], .agg #[.string t7010, .string t7011, .string t7012]] rfl (by (try simp only [List.map_toArray, List.map_cons, List.map_nil]); first | done | rfl | (simp only [List.length_drop, List.length_take]; rfl)) ?_; (with_reducible refine (laws_eqValues.calls t7019 t7020 t7021 t7010 t7011 t7012 false _ A25.out).mono ?_); rintro e w94 ⟨rfl, hb⟩; refine ⟨_, rfl, ?_⟩; have n0_ := Aside0.mk (blk_below (g := gb7001) (o := .cells #[.string a0_0, .string a0_1, .string a0_2] 69 (0, 0)) (by (with_reducible repeat (first | refine blk_drewN ?_ _ | refine blk_drew ?_ | refine blk_alloc ?_ _)); refine blk_far ?_ NB7001_7022.out _; (with_reducible repeat (first | refine blk_drewN ?_ _ | refine blk_drew ?_ | refine blk_alloc ?_ _)); refine blk_far ?_ NB7001_7022.out _; (with_reducible repeat (first | refine blk_drewN ?_ _ | refine blk_drew ?_ | refine blk_alloc ?_ _)); refine blk_far ?_ NB7001_7022.out _; (with_reducible repeat (first | refine blk_drewN ?_ _ | refine blk_drew ?_ | refine blk_alloc ?_ _)); exact BK7001.out) hb); have n1_ := Aside0.mk (blk_below (g := gb7002) (o := .cells #[.int .u8 a1_0, .string a1_1] 56 (0, 0)) (by (with_reducible repeat (first | refine blk_drewN ?_ _ | refine blk_drew ?_ | refine blk_alloc ?_ _)); refine blk_far ?_ NB7002_7022.out _; (with_reducible repeat (first | refine blk_drewN ?_ _ | refine blk_drew ?_ | refine blk_alloc ?_ _)); refine blk_far ?_ NB7002_7022.out _; (with_reducible repeat (first | refine blk_drewN ?_ _ | refine blk_drew ?_ | refine blk_alloc ?_ _)); refine blk_far ?_ NB7002_7022.out _; (with_reducible repeat (first | refine blk_drewN ?_ _ | refine blk_drew ?_ | refine blk_alloc ?_ _)); exact BK7002.out) hb); have n2_ := Aside0.mk (blk_below (g := gb7013) (o := .cells #[.string t7010, .string t7011, .string t7012] 71 (0, 0)) (by (with_reducible repeat (first | refine blk_drewN ?_ _ | refine blk_drew ?_ | refine blk_alloc ?_ _)); refine blk_far ?_ NB7013_7022.out _; (with_reducible repeat (first | refine blk_drewN ?_ _ | refine blk_drew ?_ | refine blk_alloc ?_ _)); refine blk_far ?_ NB7013_7022.out _; (with_reducible repeat (first | refine blk_drewN ?_ _ | refine blk_drew ?_ | refine blk_alloc ?_ _)); refine blk_far ?_ NB7013_7022.out _; (with_reducible repeat (first | refine blk_drewN ?_ _ | refine blk_drew ?_ | refine blk_alloc ?_ _)); exact BK7013.out) hb); have n3_ := Aside0.mk (blk_below (g := gb7022) (o := .cells #[.string t7019, .string t7020, .string t7021] 71 (0, 0)) (by (with_reducible repeat (first | refine blk_drewN ?_ _ | refine blk_drew ?_ | refine blk_alloc ?_ _)); refine blk_put (cs := #[.string t7019, .string t7020, .string (⟨#[]⟩ : ByteArray)]) ?_ 2 _ rfl; (with_reducible repeat (first | refine blk_drewN ?_ _ | refine blk_drew ?_ | refine blk_alloc ?_ _)); refine blk_put (cs := #[.string t7019, .string (⟨#[]⟩ : ByteArray), .string (⟨#[]⟩ : ByteArray)]) ?_ 1 _ rfl; (with_reducible repeat (first | refine blk_drewN ?_ _ | refine blk_drew ?_ | refine blk_alloc ?_ _)); refine blk_put (cs := #[.string (⟨#[]⟩ : ByteArray), .string (⟨#[]⟩ : ByteArray), .string (⟨#[]⟩ : ByteArray)]) ?_ 0 _ rfl; (with_reducible repeat (first | refine blk_drewN ?_ _ | refine blk_drew ?_ | refine blk_alloc ?_ _)); exact BK7022.out) hb); have n4_ := Aside0.mk (below_step (by repeat (first | (with_reducible first | exact HB.out | apply below_alloc | apply pw_below_drewN | apply below_drew1 | refine below_set ?_ GE7001.out | refine below_set ?_ GE7002.out | refine below_set ?_ GE7013.out | refine below_set ?_ GE7022.out) | exact HB.out)) hb); clear BK7001; clear BK7002; clear BK7013; clear BK7022; clear HB; have BK7001 := n0_; have BK7002 := n1_; have BK7013 := n2_; have BK7022 := n3_; have HB := n4_; clear n0_ n1_ n2_ n3_ n4_; (try clear hb); (try clear hb2); (try clear hk); (try clear hi)))
        go_ret
        exact ⟨by first | rfl | (simp [errW_none, errW_some] <;> rfl) | (simp [*, errW_none, errW_some] <;> rfl), by repeat (first | (with_reducible first | exact HB.out | apply below_alloc | apply pw_below_drewN | apply below_drew1 | refine below_set ?_ GE7001.out | refine below_set ?_ GE7002.out | refine below_set ?_ GE7013.out | refine below_set ?_ GE7022.out) | exact HB.out)⟩

end Go.Proofs.Ytkefiajemifklaa.A
