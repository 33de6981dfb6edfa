/- FnExactEqualConstraint: what its proof needs, put together by this session's program wip/merge.py out of the texts that wip/xp.py printed and of this session's own. -/
import Derived.Test.YtkefiajemifklaaQFnExactEqualConstraint1
import Derived.Test.YtkefiajemifklaaWMore
import Derived.ChangeArms
import Derived.ChangeReads
import Derived.DataReads
import Derived.DataElems
import Derived.Lib.Strings
import Derived.Lib.Bytealg
namespace Go.Proofs.Ytkefiajemifklaa.A
open Go.RowKit Go.Proofs.Ytkefiajemifklaa.Ext Go.Proofs.YtkefiajemifklaaW.PrintWords Go.Proofs.YtkefiajemifklaaW.PrintLast Go.Proofs.YtkefiajemifklaaW.PrintMore
attribute [local go_sem] max2_int min2_int max_two min_two max_three min_three max_four min_four   -- for this text's walks alone
set_option linter.unusedVariables false
set_option linter.unusedSimpArgs false

/-! ### impl_EqualConstraint: function 61 -/
def impl_EqualConstraint.f (k : Nat) (a0_0 : Int) (a0_1 : ByteArray) (a0_2 : ByteArray) (a0_3 : Int) (a0_4 : ByteArray) (l0_5 : List (S97)) (l0_6 : List Int) (a0_7 : Int) (a1_0 : Int) (a1_1 : ByteArray) (a1_2 : ByteArray) (a1_3 : Int) (a1_4 : ByteArray) (l1_5 : List (S97)) (l1_6 : List Int) (a1_7 : Int) : Option (Bool) := if a0_0 = a1_0 then (if a0_1.toList = a1_1.toList then (if a0_2.toList = a1_2.toList then ((impl_EqualRegex.f k a0_3 a0_4 l0_5 a1_3 a1_4 l1_5).bind fun t61003 => (if t61003 = true then ((slices_Equal_int_int.f k l0_6 l1_6).bind fun t61004 => (if t61004 = true then (some (a0_7 == a1_7)) else (some false))) else (some false))) else (some false)) else (some false)) else (some false)
theorem impl_EqualConstraint.mono : ∀ a0 a1 a2 a3 a4 a5 a6 a7 a8 a9 a10 a11 a12 a13 a14 a15 k, LeO (impl_EqualConstraint.f k a0 a1 a2 a3 a4 a5 a6 a7 a8 a9 a10 a11 a12 a13 a14 a15) (impl_EqualConstraint.f (k + 1) a0 a1 a2 a3 a4 a5 a6 a7 a8 a9 a10 a11 a12 a13 a14 a15) := by
  intro a0 a1 a2 a3 a4 a5 a6 a7 a8 a9 a10 a11 a12 a13 a14 a15 k
  unfold impl_EqualConstraint.f
  repeat' first
      | (with_reducible exact impl_EqualRegex.mono _ _ _ _ _ _ _)
      | (with_reducible exact slices_Equal_int_int.mono _ _ _)
      | (with_reducible exact LeO.refl _)
      | (with_reducible exact LeO.none _)
      | (with_reducible refine LeO.ite ?_ ?_)
      | (with_reducible refine LeO.bind ?_ (fun _ => ?_))
      | exact impl_EqualRegex.mono _ _ _ _ _ _ _
      | exact slices_Equal_int_int.mono _ _ _
      | exact LeO.none _
      | refine LeO.ite ?_ ?_
      | refine LeO.bind ?_ (fun _ => ?_)
set_option maxHeartbeats 8000000 in
set_option maxRecDepth 100000 in
theorem impl_EqualConstraint.calls (k : Nat) (a0_0 : Int) (a0_1 : ByteArray) (a0_2 : ByteArray) (a0_3 : Int) (a0_4 : ByteArray) (A0_5 : Option Addr) (c0_5 : Nat) (l0_5 : List (S97)) (A0_6 : Option Addr) (c0_6 : Nat) (l0_6 : List Int) (a0_7 : Int) (a1_0 : Int) (a1_1 : ByteArray) (a1_2 : ByteArray) (a1_3 : Int) (a1_4 : ByteArray) (A1_5 : Option Addr) (c1_5 : Nat) (l1_5 : List (S97)) (A1_6 : Option Addr) (c1_6 : Nat) (l1_6 : List Int) (a1_7 : Int) (r : Bool) (w : World) (hr0_5 : Kd.C k97 w A0_5 l0_5.length l0_5) (hc0_5 : l0_5.length ≤ c0_5) (hr0_6 : Kd.C (Kd.int .i64) w A0_6 l0_6.length l0_6) (hc0_6 : l0_6.length ≤ c0_6) (hr1_5 : Kd.C k97 w A1_5 l1_5.length l1_5) (hc1_5 : l1_5.length ≤ c1_5) (hr1_6 : Kd.C (Kd.int .i64) w A1_6 l1_6.length l1_6) (hc1_6 : l1_6.length ≤ c1_6) (h : impl_EqualConstraint.f k a0_0 a0_1 a0_2 a0_3 a0_4 l0_5 l0_6 a0_7 a1_0 a1_1 a1_2 a1_3 a1_4 l1_5 l1_6 a1_7 = some r) :
    Calls Try.prog 61 #[.agg #[.int .i64 a0_0, .string a0_1, .string a0_2, .int .i64 a0_3, .string a0_4, .slice A0_5 l0_5.length c0_5, .slice A0_6 l0_6.length c0_6, .int .i64 a0_7], .agg #[.int .i64 a1_0, .string a1_1, .string a1_2, .int .i64 a1_3, .string a1_4, .slice A1_5 l1_5.length c1_5, .slice A1_6 l1_6.length c1_6, .int .i64 a1_7]] w fun e w' => e = .returned (.bool r) ∧ Below w.heap.size w w' := by
  have hu99 := Try.underlying99
  have hu97 := Try.underlying97
  have HR0_5 := Aside0.mk hr0_5
  have HC0_5 := Aside0.mk hc0_5
  clear hr0_5 hc0_5
  have HR0_6 := Aside0.mk hr0_6
  have HC0_6 := Aside0.mk hc0_6
  clear hr0_6 hc0_6
  have HR1_5 := Aside0.mk hr1_5
  have HC1_5 := Aside0.mk hc1_5
  clear hr1_5 hc1_5
  have HR1_6 := Aside0.mk hr1_6
  have HC1_6 := Aside0.mk hc1_6
  clear hr1_6 hc1_6
  have HB := Aside0.mk (Below.refl w.heap.size w)
  have H : (if a0_0 = a1_0 then (if a0_1.toList = a1_1.toList then (if a0_2.toList = a1_2.toList then ((impl_EqualRegex.f k a0_3 a0_4 l0_5 a1_3 a1_4 l1_5).bind fun t61003 => (if t61003 = true then ((slices_Equal_int_int.f k l0_6 l1_6).bind fun t61004 => (if t61004 = true then (some (a0_7 == a1_7)) else (some false))) else (some false))) else (some false)) else (some false)) else (some false)) = some r := h
  clear h
  by_cases c3 : a0_0 = a1_0
  · rw [if_pos c3] at H
    have c3b0 : (a0_0 == a1_0) = true := beq_iff_eq.mpr c3
    have c3b1 : (a0_0 != a1_0) = false := bne_eq_false_iff_eq.mpr c3
    clear c3
    by_cases c4 : a0_1.toList = a1_1.toList
    · rw [if_pos c4] at H
      have c4b0 : (a0_1.toList == a1_1.toList) = true := beq_iff_eq.mpr c4
      have c4b1 : (a0_1.toList != a1_1.toList) = false := bne_eq_false_iff_eq.mpr c4
      clear c4
      by_cases c5 : a0_2.toList = a1_2.toList
      · rw [if_pos c5] at H
        have c5b0 : (a0_2.toList == a1_2.toList) = true := beq_iff_eq.mpr c5
        have c5b1 : (a0_2.toList != a1_2.toList) = false := bne_eq_false_iff_eq.mpr c5
        clear c5
        replace H := Option.bind_eq_some_iff.mp H
        obtain ⟨t61003, A60, H⟩ := H
        replace H : (if t61003 = true then ((slices_Equal_int_int.f k l0_6 l1_6).bind fun t61004 => (if t61004 = true then (some (a0_7 == a1_7)) else (some false))) else (some false)) = some r := H
        have A6 := Aside0.mk A60
        clear A60
        by_cases c7 : t61003 = true
        · subst c7
          have H1 : ((slices_Equal_int_int.f k l0_6 l1_6).bind fun t61004 => (if t61004 = true then (some (a0_7 == a1_7)) else (some false))) = some r := by rw [if_pos rfl] at H; exact H
          clear H
          have H := H1
          clear H1
          replace H := Option.bind_eq_some_iff.mp H
          obtain ⟨t61004, A80, H⟩ := H
          replace H : (if t61004 = true then (some (a0_7 == a1_7)) else (some false)) = some r := H
          have A8 := Aside0.mk A80
          clear A80
          by_cases c9 : t61004 = true
          · subst c9
            have H1 : (some (a0_7 == a1_7)) = some r := by rw [if_pos rfl] at H; exact H
            clear H
            have H := H1
            clear H1
            obtain rfl := Option.some.inj H
            go_enter Try.func61, Try.ntmps61
            go_wp2_with (first | ((with_reducible refine gate_dst (N := 2) rfl ?_); refine box_event ?hg (N := 2) ?hd (cs := #[.int .i64 a0_0, .string a0_1, .string a0_2, .int .i64 a0_3, .string a0_4, .slice A0_5 l0_5.length c0_5, .slice A0_6 l0_6.length c0_6, .int .i64 a0_7]) (t := 99) ?hr ?_; (case hd => rfl); (case hg => rfl); (case hr => first | (go_simp; done) | (go_simp; rfl)); intro gb61001 hg w10 hbox hb; have n0_ := Aside0.mk (below_step (by repeat (first | (with_reducible first | exact HB.out | apply below_alloc | apply pw_below_drewN | apply below_drew1) | exact HB.out)) hb); have n1_ := Aside0.mk (hbox); have n2_ := Aside0.mk ((by rw [hg]; exact (below_size (by repeat (first | (with_reducible first | exact HB.out | apply below_alloc | apply pw_below_drewN | apply below_drew1) | exact HB.out))) : w.heap.size ≤ gb61001)); have n3_ := Aside0.mk ((by rw [hg]; exact (below_size (by repeat (first | (with_reducible first | exact HB.out | apply below_alloc | apply pw_below_drewN | apply below_drew1) | exact HB.out))) : w.heap.size ≤ gb61001)); clear HB; have HB := n0_; have BK61001 := n1_; have GW61001 := n2_; have GE61001 := n3_; clear n0_ n1_ n2_ n3_; clear hb hbox hg) | ((with_reducible refine gate_dst (N := 3) rfl ?_); refine box_event ?hg (N := 3) ?hd (cs := #[.int .i64 a1_0, .string a1_1, .string a1_2, .int .i64 a1_3, .string a1_4, .slice A1_5 l1_5.length c1_5, .slice A1_6 l1_6.length c1_6, .int .i64 a1_7]) (t := 99) ?hr ?_; (case hd => rfl); (case hg => rfl); (case hr => first | (go_simp; done) | (go_simp; rfl)); intro gb61002 hg w11 hbox hb; have n0_ := Aside0.mk (blk_below (g := gb61001) (o := .cells #[.int .i64 a0_0, .string a0_1, .string a0_2, .int .i64 a0_3, .string a0_4, .slice A0_5 l0_5.length c0_5, .slice A0_6 l0_6.length c0_6, .int .i64 a0_7] 99 (0, 0)) (by (with_reducible repeat (first | refine blk_drewN ?_ _ | refine blk_drew ?_ | refine blk_alloc ?_ _)); exact BK61001.out) hb); have n1_ := Aside0.mk (below_step (by repeat (first | (with_reducible first | exact HB.out | apply below_alloc | apply pw_below_drewN | apply below_drew1 | refine below_set ?_ GE61001.out) | exact HB.out)) hb); have n2_ := Aside0.mk (hbox); have n3_ := Aside0.mk ((by rw [hg]; exact (below_size (by repeat (first | (with_reducible first | exact HB.out | apply below_alloc | apply pw_below_drewN | apply below_drew1 | refine below_set ?_ GE61001.out) | exact HB.out))) : w.heap.size ≤ gb61002)); have n4_ := Aside0.mk ((by rw [hg]; exact (below_size (by repeat (first | (with_reducible first | exact HB.out | apply below_alloc | apply pw_below_drewN | apply below_drew1 | refine below_set ?_ GE61001.out) | exact HB.out))) : w.heap.size ≤ gb61002)); have n5_ := Aside0.mk ((by rw [hg]; exact Nat.ne_of_lt (blk_lt (g := gb61001) (o := .cells #[.int .i64 a0_0, .string a0_1, .string a0_2, .int .i64 a0_3, .string a0_4, .slice A0_5 l0_5.length c0_5, .slice A0_6 l0_6.length c0_6, .int .i64 a0_7] 99 (0, 0)) (by (with_reducible repeat (first | refine blk_drewN ?_ _ | refine blk_drew ?_ | refine blk_alloc ?_ _)); exact BK61001.out)) : gb61001 ≠ gb61002)); have n6_ := Aside0.mk ((by rw [hg]; exact Nat.ne_of_gt (blk_lt (g := gb61001) (o := .cells #[.int .i64 a0_0, .string a0_1, .string a0_2, .int .i64 a0_3, .string a0_4, .slice A0_5 l0_5.length c0_5, .slice A0_6 l0_6.length c0_6, .int .i64 a0_7] 99 (0, 0)) (by (with_reducible repeat (first | refine blk_drewN ?_ _ | refine blk_drew ?_ | refine blk_alloc ?_ _)); exact BK61001.out)) : gb61002 ≠ gb61001)); clear BK61001; clear HB; have BK61001 := n0_; have HB := n1_; have BK61002 := n2_; have GW61002 := n3_; have GE61002 := n4_; have NB61001_61002 := n5_; have NB61002_61001 := n6_; clear n0_ n1_ n2_ n3_ n4_ n5_ n6_; clear hb hbox hg; have hnb12 := NB61001_61002.out; have hnc12 := NB61002_61001.out; have hcz13_0 : w11.cell? ⟨gb61001, 0, none⟩ = some (.int .i64 a0_0) := (blk_cell BK61001.out 0).trans rfl; have hcz13_1 : w11.cell? ⟨gb61001, 1, none⟩ = some (.string a0_1) := (blk_cell BK61001.out 1).trans rfl; have hcz13_2 : w11.cell? ⟨gb61001, 2, none⟩ = some (.string a0_2) := (blk_cell BK61001.out 2).trans rfl; have hcz13_3 : w11.cell? ⟨gb61001, 3, none⟩ = some (.int .i64 a0_3) := (blk_cell BK61001.out 3).trans rfl; have hcz13_4 : w11.cell? ⟨gb61001, 4, none⟩ = some (.string a0_4) := (blk_cell BK61001.out 4).trans rfl; have hcz13_5 : w11.cell? ⟨gb61001, 5, none⟩ = some (.slice A0_5 l0_5.length c0_5) := (blk_cell BK61001.out 5).trans rfl; have hcz13_6 : w11.cell? ⟨gb61001, 6, none⟩ = some (.slice A0_6 l0_6.length c0_6) := (blk_cell BK61001.out 6).trans rfl; have hcz13_7 : w11.cell? ⟨gb61001, 7, none⟩ = some (.int .i64 a0_7) := (blk_cell BK61001.out 7).trans rfl; have hfz13_0 := blk_frozen BK61001.out 0; have hfz13_1 := blk_frozen BK61001.out 1; have hfz13_2 := blk_frozen BK61001.out 2; have hfz13_3 := blk_frozen BK61001.out 3; have hfz13_4 := blk_frozen BK61001.out 4; have hfz13_5 := blk_frozen BK61001.out 5; have hfz13_6 := blk_frozen BK61001.out 6; have hfz13_7 := blk_frozen BK61001.out 7; have hcz14_0 : w11.cell? ⟨gb61002, 0, none⟩ = some (.int .i64 a1_0) := (blk_cell BK61002.out 0).trans rfl; have hcz14_1 : w11.cell? ⟨gb61002, 1, none⟩ = some (.string a1_1) := (blk_cell BK61002.out 1).trans rfl; have hcz14_2 : w11.cell? ⟨gb61002, 2, none⟩ = some (.string a1_2) := (blk_cell BK61002.out 2).trans rfl; have hcz14_3 : w11.cell? ⟨gb61002, 3, none⟩ = some (.int .i64 a1_3) := (blk_cell BK61002.out 3).trans rfl; have hcz14_4 : w11.cell? ⟨gb61002, 4, none⟩ = some (.string a1_4) := (blk_cell BK61002.out 4).trans rfl; have hcz14_5 : w11.cell? ⟨gb61002, 5, none⟩ = some (.slice A1_5 l1_5.length c1_5) := (blk_cell BK61002.out 5).trans rfl; have hcz14_6 : w11.cell? ⟨gb61002, 6, none⟩ = some (.slice A1_6 l1_6.length c1_6) := (blk_cell BK61002.out 6).trans rfl; have hcz14_7 : w11.cell? ⟨gb61002, 7, none⟩ = some (.int .i64 a1_7) := (blk_cell BK61002.out 7).trans rfl; have hfz14_0 := blk_frozen BK61002.out 0; have hfz14_1 := blk_frozen BK61002.out 1; have hfz14_2 := blk_frozen BK61002.out 2; have hfz14_3 := blk_frozen BK61002.out 3; have hfz14_4 := blk_frozen BK61002.out 4; have hfz14_5 := blk_frozen BK61002.out 5; have hfz14_6 := blk_frozen BK61002.out 6; have hfz14_7 := blk_frozen BK61002.out 7) | (go_at_call 132; (with_reducible refine (impl_EqualRegex.calls k a0_3 a0_4 _ _ l0_5 a1_3 a1_4 _ _ l1_5 true _ ?side1 ?side2 ?side3 ?side4 A6.out).mono ?_); (case side1 => repeat (first | exact (Kd.C_below HR0_5.out HB.out) | (with_reducible refine Kd.C_alloc ?_ _) | (with_reducible refine Kd.C_drewN ?_ _) | (with_reducible refine Kd.C_drew ?_))); (case side2 => exact HC0_5.out); (case side3 => repeat (first | exact (Kd.C_below HR1_5.out HB.out) | (with_reducible refine Kd.C_alloc ?_ _) | (with_reducible refine Kd.C_drewN ?_ _) | (with_reducible refine Kd.C_drew ?_))); (case side4 => exact HC1_5.out); rintro e w15 ⟨rfl, hb⟩; have n0_ := Aside0.mk (blk_below (g := gb61001) (o := .cells #[.int .i64 a0_0, .string a0_1, .string a0_2, .int .i64 a0_3, .string a0_4, .slice A0_5 l0_5.length c0_5, .slice A0_6 l0_6.length c0_6, .int .i64 a0_7] 99 (0, 0)) (by (with_reducible repeat (first | refine blk_drewN ?_ _ | refine blk_drew ?_ | refine blk_alloc ?_ _)); exact BK61001.out) hb); have n1_ := Aside0.mk (blk_below (g := gb61002) (o := .cells #[.int .i64 a1_0, .string a1_1, .string a1_2, .int .i64 a1_3, .string a1_4, .slice A1_5 l1_5.length c1_5, .slice A1_6 l1_6.length c1_6, .int .i64 a1_7] 99 (0, 0)) (by (with_reducible repeat (first | refine blk_drewN ?_ _ | refine blk_drew ?_ | refine blk_alloc ?_ _)); exact BK61002.out) hb); have n2_ := Aside0.mk (below_step (by repeat (first | (with_reducible first | exact HB.out | apply below_alloc | apply pw_below_drewN | apply below_drew1 | refine below_set ?_ GE61001.out | refine below_set ?_ GE61002.out) | exact HB.out)) hb); clear BK61001; clear BK61002; clear HB; have BK61001 := n0_; have BK61002 := n1_; have HB := n2_; clear n0_ n1_ n2_; (try clear hb); (try clear hb2); (try clear hk); (try clear hi); have hcz16_0 : w15.cell? ⟨gb61001, 0, none⟩ = some (.int .i64 a0_0) := (blk_cell BK61001.out 0).trans rfl; have hcz16_1 : w15.cell? ⟨gb61001, 1, none⟩ = some (.string a0_1) := (blk_cell BK61001.out 1).trans rfl; have hcz16_2 : w15.cell? ⟨gb61001, 2, none⟩ = some (.string a0_2) := (blk_cell BK61001.out 2).trans rfl; have hcz16_3 : w15.cell? ⟨gb61001, 3, none⟩ = some (.int .i64 a0_3) := (blk_cell BK61001.out 3).trans rfl; have hcz16_4 : w15.cell? ⟨gb61001, 4, none⟩ = some (.string a0_4) := (blk_cell BK61001.out 4).trans rfl; have hcz16_5 : w15.cell? ⟨gb61001, 5, none⟩ = some (.slice A0_5 l0_5.length c0_5) := (blk_cell BK61001.out 5).trans rfl; have hcz16_6 : w15.cell? ⟨gb61001, 6, none⟩ = some (.slice A0_6 l0_6.length c0_6) := (blk_cell BK61001.out 6).trans rfl; have hcz16_7 : w15.cell? ⟨gb61001, 7, none⟩ = some (.int .i64 a0_7) := (blk_cell BK61001.out 7).trans rfl; have hfz16_0 := blk_frozen BK61001.out 0; have hfz16_1 := blk_frozen BK61001.out 1; have hfz16_2 := blk_frozen BK61001.out 2; have hfz16_3 := blk_frozen BK61001.out 3; have hfz16_4 := blk_frozen BK61001.out 4; have hfz16_5 := blk_frozen BK61001.out 5; have hfz16_6 := blk_frozen BK61001.out 6; have hfz16_7 := blk_frozen BK61001.out 7; have hcz17_0 : w15.cell? ⟨gb61002, 0, none⟩ = some (.int .i64 a1_0) := (blk_cell BK61002.out 0).trans rfl; have hcz17_1 : w15.cell? ⟨gb61002, 1, none⟩ = some (.string a1_1) := (blk_cell BK61002.out 1).trans rfl; have hcz17_2 : w15.cell? ⟨gb61002, 2, none⟩ = some (.string a1_2) := (blk_cell BK61002.out 2).trans rfl; have hcz17_3 : w15.cell? ⟨gb61002, 3, none⟩ = some (.int .i64 a1_3) := (blk_cell BK61002.out 3).trans rfl; have hcz17_4 : w15.cell? ⟨gb61002, 4, none⟩ = some (.string a1_4) := (blk_cell BK61002.out 4).trans rfl; have hcz17_5 : w15.cell? ⟨gb61002, 5, none⟩ = some (.slice A1_5 l1_5.length c1_5) := (blk_cell BK61002.out 5).trans rfl; have hcz17_6 : w15.cell? ⟨gb61002, 6, none⟩ = some (.slice A1_6 l1_6.length c1_6) := (blk_cell BK61002.out 6).trans rfl; have hcz17_7 : w15.cell? ⟨gb61002, 7, none⟩ = some (.int .i64 a1_7) := (blk_cell BK61002.out 7).trans rfl; have hfz17_0 := blk_frozen BK61002.out 0; have hfz17_1 := blk_frozen BK61002.out 1; have hfz17_2 := blk_frozen BK61002.out 2; have hfz17_3 := blk_frozen BK61002.out 3; have hfz17_4 := blk_frozen BK61002.out 4; have hfz17_5 := blk_frozen BK61002.out 5; have hfz17_6 := blk_frozen BK61002.out 6; have hfz17_7 := blk_frozen BK61002.out 7) | (go_at_call 76; (with_reducible refine (slices_Equal_int_int.calls k _ _ l0_6 _ _ l1_6 true _ ?side1 ?side2 ?side3 ?side4 A8.out).mono ?_); (case side1 => repeat (first | exact (Kd.C_below HR0_6.out HB.out) | (with_reducible refine Kd.C_alloc ?_ _) | (with_reducible refine Kd.C_drewN ?_ _) | (with_reducible refine Kd.C_drew ?_))); (case side2 => exact HC0_6.out); (case side3 => repeat (first | exact (Kd.C_below HR1_6.out HB.out) | (with_reducible refine Kd.C_alloc ?_ _) | (with_reducible refine Kd.C_drewN ?_ _) | (with_reducible refine Kd.C_drew ?_))); (case side4 => exact HC1_6.out); rintro e w' ⟨rfl, ⟨nd, rfl⟩⟩))
            go_ret
            exact ⟨by first | rfl | (simp [errW_none, errW_some] <;> rfl) | (simp [*, errW_none, errW_some] <;> rfl), by repeat (first | (with_reducible first | exact HB.out | apply below_alloc | apply pw_below_drewN | apply below_drew1 | refine below_set ?_ GE61001.out | refine below_set ?_ GE61002.out) | exact HB.out)⟩
          · replace c9 := Bool.eq_false_iff.mpr c9
            subst c9
            have H1 : (some false) = some r := by rw [if_neg (show ¬ (false = true) by decide)] at H; exact H
            clear H
            have H := H1
            clear H1
            obtain rfl := Option.some.inj H
            go_enter Try.func61, Try.ntmps61
            go_wp2_with (first | ((with_reducible refine gate_dst (N := 2) rfl ?_); refine box_event ?hg (N := 2) ?hd (cs := #[.int .i64 a0_0, .string a0_1, .string a0_2, .int .i64 a0_3, .string a0_4, .slice A0_5 l0_5.length c0_5, .slice A0_6 l0_6.length c0_6, .int .i64 a0_7]) (t := 99) ?hr ?_; (case hd => rfl); (case hg => rfl); (case hr => first | (go_simp; done) | (go_simp; rfl)); intro gb61001 hg w18 hbox hb; have n0_ := Aside0.mk (below_step (by repeat (first | (with_reducible first | exact HB.out | apply below_alloc | apply pw_below_drewN | apply below_drew1) | exact HB.out)) hb); have n1_ := Aside0.mk (hbox); have n2_ := Aside0.mk ((by rw [hg]; exact (below_size (by repeat (first | (with_reducible first | exact HB.out | apply below_alloc | apply pw_below_drewN | apply below_drew1) | exact HB.out))) : w.heap.size ≤ gb61001)); have n3_ := Aside0.mk ((by rw [hg]; exact (below_size (by repeat (first | (with_reducible first | exact HB.out | apply below_alloc | apply pw_below_drewN | apply below_drew1) | exact HB.out))) : w.heap.size ≤ gb61001)); clear HB; have HB := n0_; have BK61001 := n1_; have GW61001 := n2_; have GE61001 := n3_; clear n0_ n1_ n2_ n3_; clear hb hbox hg) | ((with_reducible refine gate_dst (N := 3) rfl ?_); refine box_event ?hg (N := 3) ?hd (cs := #[.int .i64 a1_0, .string a1_1, .string a1_2, .int .i64 a1_3, .string a1_4, .slice A1_5 l1_5.length c1_5, .slice A1_6 l1_6.length c1_6, .int .i64 a1_7]) (t := 99) ?hr ?_; (case hd => rfl); (case hg => rfl); (case hr => first | (go_simp; done) | (go_simp; rfl)); intro gb61002 hg w19 hbox hb; have n0_ := Aside0.mk (blk_below (g := gb61001) (o := .cells #[.int .i64 a0_0, .string a0_1, .string a0_2, .int .i64 a0_3, .string a0_4, .slice A0_5 l0_5.length c0_5, .slice A0_6 l0_6.length c0_6, .int .i64 a0_7] 99 (0, 0)) (by (with_reducible repeat (first | refine blk_drewN ?_ _ | refine blk_drew ?_ | refine blk_alloc ?_ _)); exact BK61001.out) hb); have n1_ := Aside0.mk (below_step (by repeat (first | (with_reducible first | exact HB.out | apply below_alloc | apply pw_below_drewN | apply below_drew1 | refine below_set ?_ GE61001.out) | exact HB.out)) hb); have n2_ := Aside0.mk (hbox); have n3_ := Aside0.mk ((by rw [hg]; exact (below_size (by repeat (first | (with_reducible first | exact HB.out | apply below_alloc | apply pw_below_drewN | apply below_drew1 | refine below_set ?_ GE61001.out) | exact HB.out))) : w.heap.size ≤ gb61002)); have n4_ := Aside0.mk ((by rw [hg]; exact (below_size (by repeat (first | (with_reducible first | exact HB.out | apply below_alloc | apply pw_below_drewN | apply below_drew1 | refine below_set ?_ GE61001.out) | exact HB.out))) : w.heap.size ≤ gb61002)); have n5_ := Aside0.mk ((by rw [hg]; exact Nat.ne_of_lt (blk_lt (g := gb61001) (o := .cells #[.int .i64 a0_0, .string a0_1, .string a0_2, .int .i64 a0_3, .string a0_4, .slice A0_5 l0_5.length c0_5, .slice A0_6 l0_6.length c0_6, .int .i64 a0_7] 99 (0, 0)) (by (with_reducible repeat (first | refine blk_drewN ?_ _ | refine blk_drew ?_ | refine blk_alloc ?_ _)); exact BK61001.out)) : gb61001 ≠ gb61002)); have n6_ := Aside0.mk ((by rw [hg]; exact Nat.ne_of_gt (blk_lt (g := gb61001) (o := .cells #[.int .i64 a0_0, .string a0_1, .string a0_2, .int .i64 a0_3, .string a0_4, .slice A0_5 l0_5.length c0_5, .slice A0_6 l0_6.length c0_6, .int .i64 a0_7] 99 (0, 0)) (by (with_reducible repeat (first | refine blk_drewN ?_ _ | refine blk_drew ?_ | refine blk_alloc ?_ _)); exact BK61001.out)) : gb61002 ≠ gb61001)); clear BK61001; clear HB; have BK61001 := n0_; have HB := n1_; have BK61002 := n2_; have GW61002 := n3_; have GE61002 := n4_; have NB61001_61002 := n5_; have NB61002_61001 := n6_; clear n0_ n1_ n2_ n3_ n4_ n5_ n6_; clear hb hbox hg; have hnb20 := NB61001_61002.out; have hnc20 := NB61002_61001.out; have hcz21_0 : w19.cell? ⟨gb61001, 0, none⟩ = some (.int .i64 a0_0) := (blk_cell BK61001.out 0).trans rfl; have hcz21_1 : w19.cell? ⟨gb61001, 1, none⟩ = some (.string a0_1) := (blk_cell BK61001.out 1).trans rfl; have hcz21_2 : w19.cell? ⟨gb61001, 2, none⟩ = some (.string a0_2) := (blk_cell BK61001.out 2).trans rfl; have hcz21_3 : w19.cell? ⟨gb61001, 3, none⟩ = some (.int .i64 a0_3) := (blk_cell BK61001.out 3).trans rfl; have hcz21_4 : w19.cell? ⟨gb61001, 4, none⟩ = some (.string a0_4) := (blk_cell BK61001.out 4).trans rfl; have hcz21_5 : w19.cell? ⟨gb61001, 5, none⟩ = some (.slice A0_5 l0_5.length c0_5) := (blk_cell BK61001.out 5).trans rfl; have hcz21_6 : w19.cell? ⟨gb61001, 6, none⟩ = some (.slice A0_6 l0_6.length c0_6) := (blk_cell BK61001.out 6).trans rfl; have hcz21_7 : w19.cell? ⟨gb61001, 7, none⟩ = some (.int .i64 a0_7) := (blk_cell BK61001.out 7).trans rfl; have hfz21_0 := blk_frozen BK61001.out 0; have hfz21_1 := blk_frozen BK61001.out 1; have hfz21_2 := blk_frozen BK61001.out 2; have hfz21_3 := blk_frozen BK61001.out 3; have hfz21_4 := blk_frozen BK61001.out 4; have hfz21_5 := blk_frozen BK61001.out 5; have hfz21_6 := blk_frozen BK61001.out 6; have hfz21_7 := blk_frozen BK61001.out 7; have hcz22_0 : w19.cell? ⟨gb61002, 0, none⟩ = some (.int .i64 a1_0) := (blk_cell BK61002.out 0).trans rfl; have hcz22_1 : w19.cell? ⟨gb61002, 1, none⟩ = some (.string a1_1) := (blk_cell BK61002.out 1).trans rfl; have hcz22_2 : w19.cell? ⟨gb61002, 2, none⟩ = some (.string a1_2) := (blk_cell BK61002.out 2).trans rfl; have hcz22_3 : w19.cell? ⟨gb61002, 3, none⟩ = some (.int .i64 a1_3) := (blk_cell BK61002.out 3).trans rfl; have hcz22_4 : w19.cell? ⟨gb61002, 4, none⟩ = some (.string a1_4) := (blk_cell BK61002.out 4).trans rfl; have hcz22_5 : w19.cell? ⟨gb61002, 5, none⟩ = some (.slice A1_5 l1_5.length c1_5) := (blk_cell BK61002.out 5).trans rfl; have hcz22_6 : w19.cell? ⟨gb61002, 6, none⟩ = some (.slice A1_6 l1_6.length c1_6) := (blk_cell BK61002.out 6).trans rfl; have hcz22_7 : w19.cell? ⟨gb61002, 7, none⟩ = some (.int .i64 a1_7) := (blk_cell BK61002.out 7).trans rfl; have hfz22_0 := blk_frozen BK61002.out 0; have hfz22_1 := blk_frozen BK61002.out 1; have hfz22_2 := blk_frozen BK61002.out 2; have hfz22_3 := blk_frozen BK61002.out 3; have hfz22_4 := blk_frozen BK61002.out 4; have hfz22_5 := blk_frozen BK61002.out 5; have hfz22_6 := blk_frozen BK61002.out 6; have hfz22_7 := blk_frozen BK61002.out 7) | (go_at_call 132; (with_reducible refine (impl_EqualRegex.calls k a0_3 a0_4 _ _ l0_5 a1_3 a1_4 _ _ l1_5 true _ ?side1 ?side2 ?side3 ?side4 A6.out).mono ?_); (case side1 => repeat (first | exact (Kd.C_below HR0_5.out HB.out) | (with_reducible refine Kd.C_alloc ?_ _) | (with_reducible refine Kd.C_drewN ?_ _) | (with_reducible refine Kd.C_drew ?_))); (case side2 => exact HC0_5.out); (case side3 => repeat (first | exact (Kd.C_below HR1_5.out HB.out) | (with_reducible refine Kd.C_alloc ?_ _) | (with_reducible refine Kd.C_drewN ?_ _) | (with_reducible refine Kd.C_drew ?_))); (case side4 => exact HC1_5.out); rintro e w23 ⟨rfl, hb⟩; have n0_ := Aside0.mk (blk_below (g := gb61001) (o := .cells #[.int .i64 a0_0, .string a0_1, .string a0_2, .int .i64 a0_3, .string a0_4, .slice A0_5 l0_5.length c0_5, .slice A0_6 l0_6.length c0_6, .int .i64 a0_7] 99 (0, 0)) (by (with_reducible repeat (first | refine blk_drewN ?_ _ | refine blk_drew ?_ | refine blk_alloc ?_ _)); exact BK61001.out) hb); have n1_ := Aside0.mk (blk_below (g := gb61002) (o := .cells #[.int .i64 a1_0, .string a1_1, .string a1_2, .int .i64 a1_3, .string a1_4, .slice A1_5 l1_5.length c1_5, .slice A1_6 l1_6.length c1_6, .int .i64 a1_7] 99 (0, 0)) (by (with_reducible repeat (first | refine blk_drewN ?_ _ | refine blk_drew ?_ | refine blk_alloc ?_ _)); exact BK61002.out) hb); have n2_ := Aside0.mk (below_step (by repeat (first | (with_reducible first | exact HB.out | apply below_alloc | apply pw_below_drewN | apply below_drew1 | refine below_set ?_ GE61001.out | refine below_set ?_ GE61002.out) | exact HB.out)) hb); clear BK61001; clear BK61002; clear HB; have BK61001 := n0_; have BK61002 := n1_; have HB := n2_; clear n0_ n1_ n2_; (try clear hb); (try clear hb2); (try clear hk); (try clear hi); have hcz24_0 : w23.cell? ⟨gb61001, 0, none⟩ = some (.int .i64 a0_0) := (blk_cell BK61001.out 0).trans rfl; have hcz24_1 : w23.cell? ⟨gb61001, 1, none⟩ = some (.string a0_1) := (blk_cell BK61001.out 1).trans rfl; have hcz24_2 : w23.cell? ⟨gb61001, 2, none⟩ = some (.string a0_2) := (blk_cell BK61001.out 2).trans rfl; have hcz24_3 : w23.cell? ⟨gb61001, 3, none⟩ = some (.int .i64 a0_3) := (blk_cell BK61001.out 3).trans rfl; have hcz24_4 : w23.cell? ⟨gb61001, 4, none⟩ = some (.string a0_4) := (blk_cell BK61001.out 4).trans rfl; have hcz24_5 : w23.cell? ⟨gb61001, 5, none⟩ = some (.slice A0_5 l0_5.length c0_5) := (blk_cell BK61001.out 5).trans rfl; have hcz24_6 : w23.cell? ⟨gb61001, 6, none⟩ = some (.slice A0_6 l0_6.length c0_6) := (blk_cell BK61001.out 6).trans rfl; have hcz24_7 : w23.cell? ⟨gb61001, 7, none⟩ = some (.int .i64 a0_7) := (blk_cell BK61001.out 7).trans rfl; have hfz24_0 := blk_frozen BK61001.out 0; have hfz24_1 := blk_frozen BK61001.out 1; have hfz24_2 := blk_frozen BK61001.out 2; have hfz24_3 := blk_frozen BK61001.out 3; have hfz24_4 := blk_frozen BK61001.out 4; have hfz24_5 := blk_frozen BK61001.out 5; have hfz24_6 := blk_frozen BK61001.out 6; have hfz24_7 := blk_frozen BK61001.out 7; have hcz25_0 : w23.cell? ⟨gb61002, 0, none⟩ = some (.int .i64 a1_0) := (blk_cell BK61002.out 0).trans rfl; have hcz25_1 : w23.cell? ⟨gb61002, 1, none⟩ = some (.string a1_1) := (blk_cell BK61002.out 1).trans rfl; have hcz25_2 : w23.cell? ⟨gb61002, 2, none⟩ = some (.string a1_2) := (blk_cell BK61002.out 2).trans rfl; have hcz25_3 : w23.cell? ⟨gb61002, 3, none⟩ = some (.int .i64 a1_3) := (blk_cell BK61002.out 3).trans rfl; have hcz25_4 : w23.cell? ⟨gb61002, 4, none⟩ = some (.string a1_4) := (blk_cell BK61002.out 4).trans rfl; have hcz25_5 : w23.cell? ⟨gb61002, 5, none⟩ = some (.slice A1_5 l1_5.length c1_5) := (blk_cell BK61002.out 5).trans rfl; have hcz25_6 : w23.cell? ⟨gb61002, 6, none⟩ = some (.slice A1_6 l1_6.length c1_6) := (blk_cell BK61002.out 6).trans rfl; have hcz25_7 : w23.cell? ⟨gb61002, 7, none⟩ = some (.int .i64 a1_7) := (blk_cell BK61002.out 7).trans rfl; have hfz25_0 := blk_frozen BK61002.out 0; have hfz25_1 := blk_frozen BK61002.out 1; have hfz25_2 := blk_frozen BK61002.out 2; have hfz25_3 := blk_frozen BK61002.out 3; have hfz25_4 := blk_frozen BK61002.out 4; have hfz25_5 := blk_frozen BK61002.out 5; have hfz25_6 := blk_frozen BK61002.out 6; have hfz25_7 := blk_frozen BK61002.out 7) | (go_at_call 76; (with_reducible refine (slices_Equal_int_int.calls k _ _ l0_6 _ _ l1_6 false _ ?side1 ?side2 ?side3 ?side4 A8.out).mono ?_); (case side1 => repeat (first | exact (Kd.C_below HR0_6.out HB.out) | (with_reducible refine Kd.C_alloc ?_ _) | (with_reducible refine Kd.C_drewN ?_ _) | (with_reducible refine Kd.C_drew ?_))); (case side2 => exact HC0_6.out); (case side3 => repeat (first | exact (Kd.C_below HR1_6.out HB.out) | (with_reducible refine Kd.C_alloc ?_ _) | (with_reducible refine Kd.C_drewN ?_ _) | (with_reducible refine Kd.C_drew ?_))); (case side4 => exact HC1_6.out); rintro e w' ⟨rfl, ⟨nd, rfl⟩⟩))
            go_ret
            exact ⟨by first | rfl | (simp [errW_none, errW_some] <;> rfl) | (simp [*, errW_none, errW_some] <;> rfl), by repeat (first | (with_reducible first | exact HB.out | apply below_alloc | apply pw_below_drewN | apply below_drew1 | refine below_set ?_ GE61001.out | refine below_set ?_ GE61002.out) | exact HB.out)⟩
        · replace c7 := Bool.eq_false_iff.mpr c7
          subst c7
          have H1 : (some false) = some r := by rw [if_neg (show ¬ (false = true) by decide)] at H; exact H
          clear H
          have H := H1
          clear H1
          obtain rfl := Option.some.inj H
          go_enter Try.func61, Try.ntmps61
          go_wp2_with (first | ((with_reducible refine gate_dst (N := 2) rfl ?_); refine box_event ?hg (N := 2) ?hd (cs := #[.int .i64 a0_0, .string a0_1, .string a0_2, .int .i64 a0_3, .string a0_4, .slice A0_5 l0_5.length c0_5, .slice A0_6 l0_6.length c0_6, .int .i64 a0_7]) (t := 99) ?hr ?_; (case hd => rfl); (case hg => rfl); (case hr => first | (go_simp; done) | (go_simp; rfl)); intro gb61001 hg w26 hbox hb; have n0_ := Aside0.mk (below_step (by repeat (first | (with_reducible first | exact HB.out | apply below_alloc | apply pw_below_drewN | apply below_drew1) | exact HB.out)) hb); have n1_ := Aside0.mk (hbox); have n2_ := Aside0.mk ((by rw [hg]; exact (below_size (by repeat (first | (with_reducible first | exact HB.out | apply below_alloc | apply pw_below_drewN | apply below_drew1) | exact HB.out))) : w.heap.size ≤ gb61001)); have n3_ := Aside0.mk ((by rw [hg]; exact (below_size (by repeat (first | (with_reducible first | exact HB.out | apply below_alloc | apply pw_below_drewN | apply below_drew1) | exact HB.out))) : w.heap.size ≤ gb61001)); clear HB; have HB := n0_; have BK61001 := n1_; have GW61001 := n2_; have GE61001 := n3_; clear n0_ n1_ n2_ n3_; clear hb hbox hg) | ((with_reducible refine gate_dst (N := 3) rfl ?_); refine box_event ?hg (N := 3) ?hd (cs := #[.int .i64 a1_0, .string a1_1, .string a1_2, .int .i64 a1_3, .string a1_4, .slice A1_5 l1_5.length c1_5, .slice A1_6 l1_6.length c1_6, .int .i64 a1_7]) (t := 99) ?hr ?_; (case hd => rfl); (case hg => rfl); (case hr => first | (go_simp; done) | (go_simp; rfl)); intro gb61002 hg w27 hbox hb; have n0_ := Aside0.mk (blk_below (g := gb61001) (o := .cells #[.int .i64 a0_0, .string a0_1, .string a0_2, .int .i64 a0_3, .string a0_4, .slice A0_5 l0_5.length c0_5, .slice A0_6 l0_6.length c0_6, .int .i64 a0_7] 99 (0, 0)) (by (with_reducible repeat (first | refine blk_drewN ?_ _ | refine blk_drew ?_ | refine blk_alloc ?_ _)); exact BK61001.out) hb); have n1_ := Aside0.mk (below_step (by repeat (first | (with_reducible first | exact HB.out | apply below_alloc | apply pw_below_drewN | apply below_drew1 | refine below_set ?_ GE61001.out) | exact HB.out)) hb); have n2_ := Aside0.mk (hbox); have n3_ := Aside0.mk ((by rw [hg]; exact (below_size (by repeat (first | (with_reducible first | exact HB.out | apply below_alloc | apply pw_below_drewN | apply below_drew1 | refine below_set ?_ GE61001.out) | exact HB.out))) : w.heap.size ≤ gb61002)); have n4_ := Aside0.mk ((by rw [hg]; exact (below_size (by repeat (first | (with_reducible first | exact HB.out | apply below_alloc | apply pw_below_drewN | apply below_drew1 | refine below_set ?_ GE61001.out) | exact HB.out))) : w.heap.size ≤ gb61002)); have n5_ := Aside0.mk ((by rw [hg]; exact Nat.ne_of_lt (blk_lt (g := gb61001) (o := .cells #[.int .i64 a0_0, .string a0_1, .string a0_2, .int .i64 a0_3, .string a0_4, .slice A0_5 l0_5.length c0_5, .slice A0_6 l0_6.length c0_6, .int .i64 a0_7] 99 (0, 0)) (by (with_reducible repeat (first | refine blk_drewN ?_ _ | refine blk_drew ?_ | refine blk_alloc ?_ _)); exact BK61001.out)) : gb61001 ≠ gb61002)); have n6_ := Aside0.mk ((by rw [hg]; exact Nat.ne_of_gt (blk_lt (g := gb61001) (o := .cells #[.int .i64 a0_0, .string a0_1, .string a0_2, .int .i64 a0_3, .string a0_4, .slice A0_5 l0_5.length c0_5, .slice A0_6 l0_6.length c0_6, .int .i64 a0_7] 99 (0, 0)) (by (with_reducible repeat (first | refine blk_drewN ?_ _ | refine blk_drew ?_ | refine blk_alloc ?_ _)); exact BK61001.out)) : gb61002 ≠ gb61001)); clear BK61001; clear HB; have BK61001 := n0_; have HB := n1_; have BK61002 := n2_; have GW61002 := n3_; have GE61002 := n4_; have NB61001_61002 := n5_; have NB61002_61001 := n6_; clear n0_ n1_ n2_ n3_ n4_ n5_ n6_; clear hb hbox hg; have hnb28 := NB61001_61002.out; have hnc28 := NB61002_61001.out; have hcz29_0 : w27.cell? ⟨gb61001, 0, none⟩ = some (.int .i64 a0_0) := (blk_cell BK61001.out 0).trans rfl; have hcz29_1 : w27.cell? ⟨gb61001, 1, none⟩ = some (.string a0_1) := (blk_cell BK61001.out 1).trans rfl; have hcz29_2 : w27.cell? ⟨gb61001, 2, none⟩ = some (.string a0_2) := (blk_cell BK61001.out 2).trans rfl; have hcz29_3 : w27.cell? ⟨gb61001, 3, none⟩ = some (.int .i64 a0_3) := (blk_cell BK61001.out 3).trans rfl; have hcz29_4 : w27.cell? ⟨gb61001, 4, none⟩ = some (.string a0_4) := (blk_cell BK61001.out 4).trans rfl; have hcz29_5 : w27.cell? ⟨gb61001, 5, none⟩ = some (.slice A0_5 l0_5.length c0_5) := (blk_cell BK61001.out 5).trans rfl; have hcz29_6 : w27.cell? ⟨gb61001, 6, none⟩ = some (.slice A0_6 l0_6.length c0_6) := (blk_cell BK61001.out 6).trans rfl; have hcz29_7 : w27.cell? ⟨gb61001, 7, none⟩ = some (.int .i64 a0_7) := (blk_cell BK61001.out 7).trans rfl; have hfz29_0 := blk_frozen BK61001.out 0; have hfz29_1 := blk_frozen BK61001.out 1; have hfz29_2 := blk_frozen BK61001.out 2; have hfz29_3 := blk_frozen BK61001.out 3; have hfz29_4 := blk_frozen BK61001.out 4; have hfz29_5 := blk_frozen BK61001.out 5; have hfz29_6 := blk_frozen BK61001.out 6; have hfz29_7 := blk_frozen BK61001.out 7; have hcz30_0 : w27.cell? ⟨gb61002, 0, none⟩ = some (.int .i64 a1_0) := (blk_cell BK61002.out 0).trans rfl; have hcz30_1 : w27.cell? ⟨gb61002, 1, none⟩ = some (.string a1_1) := (blk_cell BK61002.out 1).trans rfl; have hcz30_2 : w27.cell? ⟨gb61002, 2, none⟩ = some (.string a1_2) := (blk_cell BK61002.out 2).trans rfl; have hcz30_3 : w27.cell? ⟨gb61002, 3, none⟩ = some (.int .i64 a1_3) := (blk_cell BK61002.out 3).trans rfl; have hcz30_4 : w27.cell? ⟨gb61002, 4, none⟩ = some (.string a1_4) := (blk_cell BK61002.out 4).trans rfl; have hcz30_5 : w27.cell? ⟨gb61002, 5, none⟩ = some (.slice A1_5 l1_5.length c1_5) := (blk_cell BK61002.out 5).trans rfl; have hcz30_6 : w27.cell? ⟨gb61002, 6, none⟩ = some (.slice A1_6 l1_6.length c1_6) := (blk_cell BK61002.out 6).trans rfl; have hcz30_7 : w27.cell? ⟨gb61002, 7, none⟩ = some (.int .i64 a1_7) := (blk_cell BK61002.out 7).trans rfl; have hfz30_0 := blk_frozen BK61002.out 0; have hfz30_1 := blk_frozen BK61002.out 1; have hfz30_2 := blk_frozen BK61002.out 2; have hfz30_3 := blk_frozen BK61002.out 3; have hfz30_4 := blk_frozen BK61002.out 4; have hfz30_5 := blk_frozen BK61002.out 5; have hfz30_6 := blk_frozen BK61002.out 6; have hfz30_7 := blk_frozen BK61002.out 7) | (go_at_call 132; (with_reducible refine (impl_EqualRegex.calls k a0_3 a0_4 _ _ l0_5 a1_3 a1_4 _ _ l1_5 false _ ?side1 ?side2 ?side3 ?side4 A6.out).mono ?_); (case side1 => repeat (first | exact (Kd.C_below HR0_5.out HB.out) | (with_reducible refine Kd.C_alloc ?_ _) | (with_reducible refine Kd.C_drewN ?_ _) | (with_reducible refine Kd.C_drew ?_))); (case side2 => exact HC0_5.out); (case side3 => repeat (first | exact (Kd.C_below HR1_5.out HB.out) | (with_reducible refine Kd.C_alloc ?_ _) | (with_reducible refine Kd.C_drewN ?_ _) | (with_reducible refine Kd.C_drew ?_))); (case side4 => exact HC1_5.out); rintro e w31 ⟨rfl, hb⟩; have n0_ := Aside0.mk (blk_below (g := gb61001) (o := .cells #[.int .i64 a0_0, .string a0_1, .string a0_2, .int .i64 a0_3, .string a0_4, .slice A0_5 l0_5.length c0_5, .slice A0_6 l0_6.length c0_6, .int .i64 a0_7] 99 (0, 0)) (by (with_reducible repeat (first | refine blk_drewN ?_ _ | refine blk_drew ?_ | refine blk_alloc ?_ _)); exact BK61001.out) hb); have n1_ := Aside0.mk (blk_below (g := gb61002) (o := .cells #[.int .i64 a1_0, .string a1_1, .string a1_2, .int .i64 a1_3, .string a1_4, .slice A1_5 l1_5.length c1_5, .slice A1_6 l1_6.length c1_6, .int .i64 a1_7] 99 (0, 0)) (by (with_reducible repeat (first | refine blk_drewN ?_ _ | refine blk_drew ?_ | refine blk_alloc ?_ _)); exact BK61002.out) hb); have n2_ := Aside0.mk (below_step (by repeat (first | (with_reducible first | exact HB.out | apply below_alloc | apply pw_below_drewN | apply below_drew1 | refine below_set ?_ GE61001.out | refine below_set ?_ GE61002.out) | exact HB.out)) hb); clear BK61001; clear BK61002; clear HB; have BK61001 := n0_; have BK61002 := n1_; have HB := n2_; clear n0_ n1_ n2_; (try clear hb); (try clear hb2); (try clear hk); (try clear hi)))
          go_ret
          exact ⟨by first | rfl | (simp [errW_none, errW_some] <;> rfl) | (simp [*, errW_none, errW_some] <;> rfl), by repeat (first | (with_reducible first | exact HB.out | apply below_alloc | apply pw_below_drewN | apply below_drew1 | refine below_set ?_ GE61001.out | refine below_set ?_ GE61002.out) | exact HB.out)⟩
      · rw [if_neg c5] at H
        have c5b0 : (a0_2.toList == a1_2.toList) = false := beq_eq_false_iff_ne.mpr c5
        have c5b1 : (a0_2.toList != a1_2.toList) = true := bne_iff_ne.mpr c5
        obtain rfl := Option.some.inj H
        go_enter Try.func61, Try.ntmps61
        go_wp2_with (first | ((with_reducible refine gate_dst (N := 2) rfl ?_); refine box_event ?hg (N := 2) ?hd (cs := #[.int .i64 a0_0, .string a0_1, .string a0_2, .int .i64 a0_3, .string a0_4, .slice A0_5 l0_5.length c0_5, .slice A0_6 l0_6.length c0_6, .int .i64 a0_7]) (t := 99) ?hr ?_; (case hd => rfl); (case hg => rfl); (case hr => first | (go_simp; done) | (go_simp; rfl)); intro gb61001 hg w32 hbox hb; have n0_ := Aside0.mk (below_step (by repeat (first | (with_reducible first | exact HB.out | apply below_alloc | apply pw_below_drewN | apply below_drew1) | exact HB.out)) hb); have n1_ := Aside0.mk (hbox); have n2_ := Aside0.mk ((by rw [hg]; exact (below_size (by repeat (first | (with_reducible first | exact HB.out | apply below_alloc | apply pw_below_drewN | apply below_drew1) | exact HB.out))) : w.heap.size ≤ gb61001)); have n3_ := Aside0.mk ((by rw [hg]; exact (below_size (by repeat (first | (with_reducible first | exact HB.out | apply below_alloc | apply pw_below_drewN | apply below_drew1) | exact HB.out))) : w.heap.size ≤ gb61001)); clear HB; have HB := n0_; have BK61001 := n1_; have GW61001 := n2_; have GE61001 := n3_; clear n0_ n1_ n2_ n3_; clear hb hbox hg) | ((with_reducible refine gate_dst (N := 3) rfl ?_); refine box_event ?hg (N := 3) ?hd (cs := #[.int .i64 a1_0, .string a1_1, .string a1_2, .int .i64 a1_3, .string a1_4, .slice A1_5 l1_5.length c1_5, .slice A1_6 l1_6.length c1_6, .int .i64 a1_7]) (t := 99) ?hr ?_; (case hd => rfl); (case hg => rfl); (case hr => first | (go_simp; done) | (go_simp; rfl)); intro gb61002 hg w33 hbox hb; have n0_ := Aside0.mk (blk_below (g := gb61001) (o := .cells #[.int .i64 a0_0, .string a0_1, .string a0_2, .int .i64 a0_3, .string a0_4, .slice A0_5 l0_5.length c0_5, .slice A0_6 l0_6.length c0_6, .int .i64 a0_7] 99 (0, 0)) (by (with_reducible repeat (first | refine blk_drewN ?_ _ | refine blk_drew ?_ | refine blk_alloc ?_ _)); exact BK61001.out) hb); have n1_ := Aside0.mk (below_step (by repeat (first | (with_reducible first | exact HB.out | apply below_alloc | apply pw_below_drewN | apply below_drew1 | refine below_set ?_ GE61001.out) | exact HB.out)) hb); have n2_ := Aside0.mk (hbox); have n3_ := Aside0.mk ((by rw [hg]; exact (below_size (by repeat (first | (with_reducible first | exact HB.out | apply below_alloc | apply pw_below_drewN | apply below_drew1 | refine below_set ?_ GE61001.out) | exact HB.out))) : w.heap.size ≤ gb61002)); have n4_ := Aside0.mk ((by rw [hg]; exact (below_size (by repeat (first | (with_reducible first | exact HB.out | apply below_alloc | apply pw_below_drewN | apply below_drew1 | refine below_set ?_ GE61001.out) | exact HB.out))) : w.heap.size ≤ gb61002)); have n5_ := Aside0.mk ((by rw [hg]; exact Nat.ne_of_lt (blk_lt (g := gb61001) (o := .cells #[.int .i64 a0_0, .string a0_1, .string a0_2, .int .i64 a0_3, .string a0_4, .slice A0_5 l0_5.length c0_5, .slice A0_6 l0_6.length c0_6, .int .i64 a0_7] 99 (0, 0)) (by (with_reducible repeat (first | refine blk_drewN ?_ _ | refine blk_drew ?_ | refine blk_alloc ?_ _)); exact BK61001.out)) : gb61001 ≠ gb61002)); have n6_ := Aside0.mk ((by rw [hg]; exact Nat.ne_of_gt (blk_lt (g := gb61001) (o := .cells #[.int .i64 a0_0, .string a0_1, .string a0_2, .int .i64 a0_3, .string a0_4, .slice A0_5 l0_5.length c0_5, .slice A0_6 l0_6.length c0_6, .int .i64 a0_7] 99 (0, 0)) (by (with_reducible repeat (first | refine blk_drewN ?_ _ | refine blk_drew ?_ | refine blk_alloc ?_ _)); exact BK61001.out)) : gb61002 ≠ gb61001)); clear BK61001; clear HB; have BK61001 := n0_; have HB := n1_; have BK61002 := n2_; have GW61002 := n3_; have GE61002 := n4_; have NB61001_61002 := n5_; have NB61002_61001 := n6_; clear n0_ n1_ n2_ n3_ n4_ n5_ n6_; clear hb hbox hg; have hnb34 := NB61001_61002.out; have hnc34 := NB61002_61001.out; have hcz35_0 : w33.cell? ⟨gb61001, 0, none⟩ = some (.int .i64 a0_0) := (blk_cell BK61001.out 0).trans rfl; have hcz35_1 : w33.cell? ⟨gb61001, 1, none⟩ = some (.string a0_1) := (blk_cell BK61001.out 1).trans rfl; have hcz35_2 : w33.cell? ⟨gb61001, 2, none⟩ = some (.string a0_2) := (blk_cell BK61001.out 2).trans rfl; have hcz35_3 : w33.cell? ⟨gb61001, 3, none⟩ = some (.int .i64 a0_3) := (blk_cell BK61001.out 3).trans rfl; have hcz35_4 : w33.cell? ⟨gb61001, 4, none⟩ = some (.string a0_4) := (blk_cell BK61001.out 4).trans rfl; have hcz35_5 : w33.cell? ⟨gb61001, 5, none⟩ = some (.slice A0_5 l0_5.length c0_5) := (blk_cell BK61001.out 5).trans rfl; have hcz35_6 : w33.cell? ⟨gb61001, 6, none⟩ = some (.slice A0_6 l0_6.length c0_6) := (blk_cell BK61001.out 6).trans rfl; have hcz35_7 : w33.cell? ⟨gb61001, 7, none⟩ = some (.int .i64 a0_7) := (blk_cell BK61001.out 7).trans rfl; have hfz35_0 := blk_frozen BK61001.out 0; have hfz35_1 := blk_frozen BK61001.out 1; have hfz35_2 := blk_frozen BK61001.out 2; have hfz35_3 := blk_frozen BK61001.out 3; have hfz35_4 := blk_frozen BK61001.out 4; have hfz35_5 := blk_frozen BK61001.out 5; have hfz35_6 := blk_frozen BK61001.out 6; have hfz35_7 := blk_frozen BK61001.out 7; have hcz36_0 : w33.cell? ⟨gb61002, 0, none⟩ = some (.int .i64 a1_0) := (blk_cell BK61002.out 0).trans rfl; have hcz36_1 : w33.cell? ⟨gb61002, 1, none⟩ = some (.string a1_1) := (blk_cell BK61002.out 1).trans rfl; have hcz36_2 : w33.cell? ⟨gb61002, 2, none⟩ = some (.string a1_2) := (blk_cell BK61002.out 2).trans rfl; have hcz36_3 : w33.cell? ⟨gb61002, 3, none⟩ = some (.int .i64 a1_3) := (blk_cell BK61002.out 3).trans rfl; have hcz36_4 : w33.cell? ⟨gb61002, 4, none⟩ = some (.string a1_4) := (blk_cell BK61002.out 4).trans rfl; have hcz36_5 : w33.cell? ⟨gb61002, 5, none⟩ = some (.slice A1_5 l1_5.length c1_5) := (blk_cell BK61002.out 5).trans rfl; have hcz36_6 : w33.cell? ⟨gb61002, 6, none⟩ = some (.slice A1_6 l1_6.length c1_6) := (blk_cell BK61002.out 6).trans rfl; have hcz36_7 : w33.cell? ⟨gb61002, 7, none⟩ = some (.int .i64 a1_7) := (blk_cell BK61002.out 7).trans rfl; have hfz36_0 := blk_frozen BK61002.out 0; have hfz36_1 := blk_frozen BK61002.out 1; have hfz36_2 := blk_frozen BK61002.out 2; have hfz36_3 := blk_frozen BK61002.out 3; have hfz36_4 := blk_frozen BK61002.out 4; have hfz36_5 := blk_frozen BK61002.out 5; have hfz36_6 := blk_frozen BK61002.out 6; have hfz36_7 := blk_frozen BK61002.out 7))
        go_ret
        exact ⟨by first | rfl | (simp [errW_none, errW_some] <;> rfl) | (simp [*, errW_none, errW_some] <;> rfl), by repeat (first | (with_reducible first | exact HB.out | apply below_alloc | apply pw_below_drewN | apply below_drew1 | refine below_set ?_ GE61001.out | refine below_set ?_ GE61002.out) | exact HB.out)⟩
    · rw [if_neg c4] at H
      have c4b0 : (a0_1.toList == a1_1.toList) = false := beq_eq_false_iff_ne.mpr c4
      have c4b1 : (a0_1.toList != a1_1.toList) = true := bne_iff_ne.mpr c4
      obtain rfl := Option.some.inj H
      go_enter Try.func61, Try.ntmps61
      go_wp2_with (first | ((with_reducible refine gate_dst (N := 2) rfl ?_); refine box_event ?hg (N := 2) ?hd (cs := #[.int .i64 a0_0, .string a0_1, .string a0_2, .int .i64 a0_3, .string a0_4, .slice A0_5 l0_5.length c0_5, .slice A0_6 l0_6.length c0_6, .int .i64 a0_7]) (t := 99) ?hr ?_; (case hd => rfl); (case hg => rfl); (case hr => first | (go_simp; done) | (go_simp; rfl)); intro gb61001 hg w37 hbox hb; have n0_ := Aside0.mk (below_step (by repeat (first | (with_reducible first | exact HB.out | apply below_alloc | apply pw_below_drewN | apply below_drew1) | exact HB.out)) hb); have n1_ := Aside0.mk (hbox); have n2_ := Aside0.mk ((by rw [hg]; exact (below_size (by repeat (first | (with_reducible first | exact HB.out | apply below_alloc | apply pw_below_drewN | apply below_drew1) | exact HB.out))) : w.heap.size ≤ gb61001)); have n3_ := Aside0.mk ((by rw [hg]; exact (below_size (by repeat (first | (with_reducible first | exact HB.out | apply below_alloc | apply pw_below_drewN | apply below_drew1) | exact HB.out))) : w.heap.size ≤ gb61001)); clear HB; have HB := n0_; have BK61001 := n1_; have GW61001 := n2_; have GE61001 := n3_; clear n0_ n1_ n2_ n3_; clear hb hbox hg) | ((with_reducible refine gate_dst (N := 3) rfl ?_); refine box_event ?hg (N := 3) ?hd (cs := #[.int .i64 a1_0, .string a1_1, .string a1_2, .int .i64 a1_3, .string a1_4, .slice A1_5 l1_5.length c1_5, .slice A1_6 l1_6.length c1_6, .int .i64 a1_7]) (t := 99) ?hr ?_; (case hd => rfl); (case hg => rfl); (case hr => first | (go_simp; done) | (go_simp; rfl)); intro gb61002 hg w38 hbox hb; have n0_ := Aside0.mk (blk_below (g := gb61001) (o := .cells #[.int .i64 a0_0, .string a0_1, .string a0_2, .int .i64 a0_3, .string a0_4, .slice A0_5 l0_5.length c0_5, .slice A0_6 l0_6.length c0_6, .int .i64 a0_7] 99 (0, 0)) (by (with_reducible repeat (first | refine blk_drewN ?_ _ | refine blk_drew ?_ | refine blk_alloc ?_ _)); exact BK61001.out) hb); have n1_ := Aside0.mk (below_step (by repeat (first | (with_reducible first | exact HB.out | apply below_alloc | apply pw_below_drewN | apply below_drew1 | refine below_set ?_ GE61001.out) | exact HB.out)) hb); have n2_ := Aside0.mk (hbox); have n3_ := Aside0.mk ((by rw [hg]; exact (below_size (by repeat (first | (with_reducible first | exact HB.out | apply below_alloc | apply pw_below_drewN | apply below_drew1 | refine below_set ?_ GE61001.out) | exact HB.out))) : w.heap.size ≤ gb61002)); have n4_ := Aside0.mk ((by rw [hg]; exact (below_size (by repeat (first | (with_reducible first | exact HB.out | apply below_alloc | apply pw_below_drewN | apply below_drew1 | refine below_set ?_ GE61001.out) | exact HB.out))) : w.heap.size ≤ gb61002)); have n5_ := Aside0.mk ((by rw [hg]; exact Nat.ne_of_lt (blk_lt (g := gb61001) (o := .cells #[.int .i64 a0_0, .string a0_1, .string a0_2, .int .i64 a0_3, .string a0_4, .slice A0_5 l0_5.length c0_5, .slice A0_6 l0_6.length c0_6, .int .i64 a0_7] 99 (0, 0)) (by (with_reducible repeat (first | refine blk_drewN ?_ _ | refine blk_drew ?_ | refine blk_alloc ?_ _)); exact BK61001.out)) : gb61001 ≠ gb61002)); have n6_ := Aside0.mk ((by rw [hg]; exact Nat.ne_of_gt (blk_lt (g := gb61001) (o := .cells #[.int .i64 a0_0, .string a0_1, .string a0_2, .int .i64 a0_3, .string a0_4, .slice A0_5 l0_5.length c0_5, .slice A0_6 l0_6.length c0_6, .int .i64 a0_7] 99 (0, 0)) (by (with_reducible repeat (first | refine blk_drewN ?_ _ | refine blk_drew ?_ | refine blk_alloc ?_ _)); exact BK61001.out)) : gb61002 ≠ gb61001)); clear BK61001; clear HB; have BK61001 := n0_; have HB := n1_; have BK61002 := n2_; have GW61002 := n3_; have GE61002 := n4_; have NB61001_61002 := n5_; have NB61002_61001 := n6_; clear n0_ n1_ n2_ n3_ n4_ n5_ n6_; clear hb hbox hg; have hnb39 := NB61001_61002.out; have hnc39 := NB61002_61001.out; have hcz40_0 : w38.cell? ⟨gb61001, 0, none⟩ = some (.int .i64 a0_0) := (blk_cell BK61001.out 0).trans rfl; have hcz40_1 : w38.cell? ⟨gb61001, 1, none⟩ = some (.string a0_1) := (blk_cell BK61001.out 1).trans rfl; have hcz40_2 : w38.cell? ⟨gb61001, 2, none⟩ = some (.string a0_2) := (blk_cell BK61001.out 2).trans rfl; have hcz40_3 : w38.cell? ⟨gb61001, 3, none⟩ = some (.int .i64 a0_3) := (blk_cell BK61001.out 3).trans rfl; have hcz40_4 : w38.cell? ⟨gb61001, 4, none⟩ = some (.string a0_4) := (blk_cell BK61001.out 4).trans rfl; have hcz40_5 : w38.cell? ⟨gb61001, 5, none⟩ = some (.slice A0_5 l0_5.length c0_5) := (blk_cell BK61001.out 5).trans rfl; have hcz40_6 : w38.cell? ⟨gb61001, 6, none⟩ = some (.slice A0_6 l0_6.length c0_6) := (blk_cell BK61001.out 6).trans rfl; have hcz40_7 : w38.cell? ⟨gb61001, 7, none⟩ = some (.int .i64 a0_7) := (blk_cell BK61001.out 7).trans rfl; have hfz40_0 := blk_frozen BK61001.out 0; have hfz40_1 := blk_frozen BK61001.out 1; have hfz40_2 := blk_frozen BK61001.out 2; have hfz40_3 := blk_frozen BK61001.out 3; have hfz40_4 := blk_frozen BK61001.out 4; have hfz40_5 := blk_frozen BK61001.out 5; have hfz40_6 := blk_frozen BK61001.out 6; have hfz40_7 := blk_frozen BK61001.out 7; have hcz41_0 : w38.cell? ⟨gb61002, 0, none⟩ = some (.int .i64 a1_0) := (blk_cell BK61002.out 0).trans rfl; have hcz41_1 : w38.cell? ⟨gb61002, 1, none⟩ = some (.string a1_1) := (blk_cell BK61002.out 1).trans rfl; have hcz41_2 : w38.cell? ⟨gb61002, 2, none⟩ = some (.string a1_2) := (blk_cell BK61002.out 2).trans rfl; have hcz41_3 : w38.cell? ⟨gb61002, 3, none⟩ = some (.int .i64 a1_3) := (blk_cell BK61002.out 3).trans rfl; have hcz41_4 : w38.cell? ⟨gb61002, 4, none⟩ = some (.string a1_4) := (blk_cell BK61002.out 4).trans rfl; have hcz41_5 : w38.cell? ⟨gb61002, 5, none⟩ = some (.slice A1_5 l1_5.length c1_5) := (blk_cell BK61002.out 5).trans rfl; have hcz41_6 : w38.cell? ⟨gb61002, 6, none⟩ = some (.slice A1_6 l1_6.length c1_6) := (blk_cell BK61002.out 6).trans rfl; have hcz41_7 : w38.cell? ⟨gb61002, 7, none⟩ = some (.int .i64 a1_7) := (blk_cell BK61002.out 7).trans rfl; have hfz41_0 := blk_frozen BK61002.out 0; have hfz41_1 := blk_frozen BK61002.out 1; have hfz41_2 := blk_frozen BK61002.out 2; have hfz41_3 := blk_frozen BK61002.out 3; have hfz41_4 := blk_frozen BK61002.out 4; have hfz41_5 := blk_frozen BK61002.out 5; have hfz41_6 := blk_frozen BK61002.out 6; have hfz41_7 := blk_frozen BK61002.out 7))
      go_ret
      exact ⟨by first | rfl | (simp [errW_none, errW_some] <;> rfl) | (simp [*, errW_none, errW_some] <;> rfl), by repeat (first | (with_reducible first | exact HB.out | apply below_alloc | apply pw_below_drewN | apply below_drew1 | refine below_set ?_ GE61001.out | refine below_set ?_ GE61002.out) | exact HB.out)⟩
  · rw [if_neg c3] at H
    have c3b0 : (a0_0 == a1_0) = false := beq_eq_false_iff_ne.mpr c3
    have c3b1 : (a0_0 != a1_0) = true := bne_iff_ne.mpr c3
    obtain rfl := Option.some.inj H
    go_enter Try.func61, Try.ntmps61
    go_wp2_with (first | ((with_reducible refine gate_dst (N := 2) rfl ?_); refine box_event ?hg (N := 2) ?hd (cs := #[.int .i64 a0_0, .string a0_1, .string a0_2, .int .i64 a0_3, .string a0_4, .slice A0_5 l0_5.length c0_5, .slice A0_6 l0_6.length c0_6, .int .i64 a0_7]) (t := 99) ?hr ?_; (case hd => rfl); (case hg => rfl); (case hr => first | (go_simp; done) | (go_simp; rfl)); intro gb61001 hg w42 hbox hb; have n0_ := Aside0.mk (below_step (by repeat (first | (with_reducible first | exact HB.out | apply below_alloc | apply pw_below_drewN | apply below_drew1) | exact HB.out)) hb); have n1_ := Aside0.mk (hbox); have n2_ := Aside0.mk ((by rw [hg]; exact (below_size (by repeat (first | (with_reducible first | exact HB.out | apply below_alloc | apply pw_below_drewN | apply below_drew1) | exact HB.out))) : w.heap.size ≤ gb61001)); have n3_ := Aside0.mk ((by rw [hg]; exact (below_size (by repeat (first | (with_reducible first | exact HB.out | apply below_alloc | apply pw_below_drewN | apply below_drew1) | exact HB.out))) : w.heap.size ≤ gb61001)); clear HB; have HB := n0_; have BK61001 := n1_; have GW61001 := n2_; have GE61001 := n3_; clear n0_ n1_ n2_ n3_; clear hb hbox hg) | ((with_reducible refine gate_dst (N := 3) rfl ?_); refine box_event ?hg (N := 3) ?hd (cs := #[.int .i64 a1_0, .string a1_1, .string a1_2, .int .i64 a1_3, .string a1_4, .slice A1_5 l1_5.length c1_5, .slice A1_6 l1_6.length c1_6, .int .i64 a1_7]) (t := 99) ?hr ?_; (case hd => rfl); (case hg => rfl); (case hr => first | (go_simp; done) | (go_simp; rfl)); intro gb61002 hg w43 hbox hb; have n0_ := Aside0.mk (blk_below (g := gb61001) (o := .cells #[.int .i64 a0_0, .string a0_1, .string a0_2, .int .i64 a0_3, .string a0_4, .slice A0_5 l0_5.length c0_5, .slice A0_6 l0_6.length c0_6, .int .i64 a0_7] 99 (0, 0)) (by (with_reducible repeat (first | refine blk_drewN ?_ _ | refine blk_drew ?_ | refine blk_alloc ?_ _)); exact BK61001.out) hb); have n1_ := Aside0.mk (below_step (by repeat (first | (with_reducible first | exact HB.out | apply below_alloc | apply pw_below_drewN | apply below_drew1 | refine below_set ?_ GE61001.out) | exact HB.out)) hb); have n2_ := Aside0.mk (hbox); have n3_ := Aside0.mk ((by rw [hg]; exact (below_size (by repeat (first | (with_reducible first | exact HB.out | apply below_alloc | apply pw_below_drewN | apply below_drew1 | refine below_set ?_ GE61001.out) | exact HB.out))) : w.heap.size ≤ gb61002)); have n4_ := Aside0.mk ((by rw [hg]; exact (below_size (by repeat (first | (with_reducible first | exact HB.out | apply below_alloc | apply pw_below_drewN | apply below_drew1 | refine below_set ?_ GE61001.out) | exact HB.out))) : w.heap.size ≤ gb61002)); have n5_ := Aside0.mk ((by rw [hg]; exact Nat.ne_of_lt (blk_lt (g := gb61001) (o := .cells #[.int .i64 a0_0, .string a0_1, .string a0_2, .int .i64 a0_3, .string a0_4, .slice A0_5 l0_5.length c0_5, .slice A0_6 l0_6.length c0_6, .int .i64 a0_7] 99 (0, 0)) (by (with_reducible repeat (first | refine blk_drewN ?_ _ | refine blk_drew ?_ | refine blk_alloc ?_ _)); exact BK61001.out)) : gb61001 ≠ gb61002)); have n6_ := Aside0.mk ((by rw [hg]; exact Nat.ne_of_gt (blk_lt (g := gb61001) (o := .cells #[.int .i64 a0_0, .string a0_1, .string a0_2, .int .i64 a0_3, .string a0_4, .slice A0_5 l0_5.length c0_5, .slice A0_6 l0_6.length c0_6, .int .i64 a0_7] 99 (0, 0)) (by (with_reducible repeat (first | refine blk_drewN ?_ _ | refine blk_drew ?_ | refine blk_alloc ?_ _)); exact BK61001.out)) : gb61002 ≠ gb61001)); clear BK61001; clear HB; have BK61001 := n0_; have HB := n1_; have BK61002 := n2_; have GW61002 := n3_; have GE61002 := n4_; have NB61001_61002 := n5_; have NB61002_61001 := n6_; clear n0_ n1_ n2_ n3_ n4_ n5_ n6_; clear hb hbox hg; have hnb44 := NB61001_61002.out; have hnc44 := NB61002_61001.out; have hcz45_0 : w43.cell? ⟨gb61001, 0, none⟩ = some (.int .i64 a0_0) := (blk_cell BK61001.out 0).trans rfl; have hcz45_1 : w43.cell? ⟨gb61001, 1, none⟩ = some (.string a0_1) := (blk_cell BK61001.out 1).trans rfl; have hcz45_2 : w43.cell? ⟨gb61001, 2, none⟩ = some (.string a0_2) := (blk_cell BK61001.out 2).trans rfl; have hcz45_3 : w43.cell? ⟨gb61001, 3, none⟩ = some (.int .i64 a0_3) := (blk_cell BK61001.out 3).trans rfl; have hcz45_4 : w43.cell? ⟨gb61001, 4, none⟩ = some (.string a0_4) := (blk_cell BK61001.out 4).trans rfl; have hcz45_5 : w43.cell? ⟨gb61001, 5, none⟩ = some (.slice A0_5 l0_5.length c0_5) := (blk_cell BK61001.out 5).trans rfl; have hcz45_6 : w43.cell? ⟨gb61001, 6, none⟩ = some (.slice A0_6 l0_6.length c0_6) := (blk_cell BK61001.out 6).trans rfl; have hcz45_7 : w43.cell? ⟨gb61001, 7, none⟩ = some (.int .i64 a0_7) := (blk_cell BK61001.out 7).trans rfl; have hfz45_0 := blk_frozen BK61001.out 0; have hfz45_1 := blk_frozen BK61001.out 1; have hfz45_2 := blk_frozen BK61001.out 2; have hfz45_3 := blk_frozen BK61001.out 3; have hfz45_4 := blk_frozen BK61001.out 4; have hfz45_5 := blk_frozen BK61001.out 5; have hfz45_6 := blk_frozen BK61001.out 6; have hfz45_7 := blk_frozen BK61001.out 7; have hcz46_0 : w43.cell? ⟨gb61002, 0, none⟩ = some (.int .i64 a1_0) := (blk_cell BK61002.out 0).trans rfl; have hcz46_1 : w43.cell? ⟨gb61002, 1, none⟩ = some (.string a1_1) := (blk_cell BK61002.out 1).trans rfl; have hcz46_2 : w43.cell? ⟨gb61002, 2, none⟩ = some (.string a1_2) := (blk_cell BK61002.out 2).trans rfl; have hcz46_3 : w43.cell? ⟨gb61002, 3, none⟩ = some (.int .i64 a1_3) := (blk_cell BK61002.out 3).trans rfl; have hcz46_4 : w43.cell? ⟨gb61002, 4, none⟩ = some (.string a1_4) := (blk_cell BK61002.out 4).trans rfl; have hcz46_5 : w43.cell? ⟨gb61002, 5, none⟩ = some (.slice A1_5 l1_5.length c1_5) := (blk_cell BK61002.out 5).trans rfl; have hcz46_6 : w43.cell? ⟨gb61002, 6, none⟩ = some (.slice A1_6 l1_6.length c1_6) := (blk_cell BK61002.out 6).trans rfl; have hcz46_7 : w43.cell? ⟨gb61002, 7, none⟩ = some (.int .i64 a1_7) := (blk_cell BK61002.out 7).trans rfl; have hfz46_0 := blk_frozen BK61002.out 0; have hfz46_1 := blk_frozen BK61002.out 1; have hfz46_2 := blk_frozen BK61002.out 2; have hfz46_3 := blk_frozen BK61002.out 3; have hfz46_4 := blk_frozen BK61002.out 4; have hfz46_5 := blk_frozen BK61002.out 5; have hfz46_6 := blk_frozen BK61002.out 6; have hfz46_7 := blk_frozen BK61002.out 7))
    go_ret
    exact ⟨by first | rfl | (simp [errW_none, errW_some] <;> rfl) | (simp [*, errW_none, errW_some] <;> rfl), by repeat (first | (with_reducible first | exact HB.out | apply below_alloc | apply pw_below_drewN | apply below_drew1 | refine below_set ?_ GE61001.out | refine below_set ?_ GE61002.out) | exact HB.out)⟩


end Go.Proofs.Ytkefiajemifklaa.A


namespace Go.Proofs.Ytkefiajemifklaa.A
open Go.RowKit Go.Proofs.Ytkefiajemifklaa.Ext Go.Proofs.YtkefiajemifklaaW.PrintWords Go.Proofs.YtkefiajemifklaaW.PrintLast Go.Proofs.YtkefiajemifklaaW.PrintMore
attribute [local go_sem] max2_int min2_int max_two min_two max_three min_three max_four min_four   -- for this text's walks alone
set_option linter.unusedVariables false
set_option linter.unusedSimpArgs false

/-! ### laws_FnExactEqualConstraint: function 13 -/
def laws_FnExactEqualConstraint.f (k : Nat) (a0_0 : Int) (a0_1 : ByteArray) (a0_2 : ByteArray) (a0_3 : Int) (a0_4 : ByteArray) (l0_5 : List (S90)) (l0_6 : List Int) (a0_7 : Int) (a1_0 : Int) (a1_1 : ByteArray) (a1_2 : ByteArray) (a1_3 : Int) (a1_4 : ByteArray) (l1_5 : List (S90)) (l1_6 : List Int) (a1_7 : Int) : Option (Bool) := (laws_szConstraint.f k a0_0 a0_1 a0_2 a0_3 a0_4 l0_5 l0_6 a0_7 1048576).bind fun t13003 => (if t13003 < 0 then (some true) else ((laws_szConstraint.f k a1_0 a1_1 a1_2 a1_3 a1_4 l1_5 l1_6 a1_7 t13003).bind fun t13004 => (if t13004 < 0 then (some true) else ((laws_toConstraint.f k a0_0 a0_1 a0_2 a0_3 a0_4 l0_5 l0_6 a0_7).bind fun bt13005 => ((laws_toConstraint.f k a1_0 a1_1 a1_2 a1_3 a1_4 l1_5 l1_6 a1_7).bind fun bt13017 => ((spec_EqualConstraint.f k bt13005.1 bt13005.2.1 bt13005.2.2.1 bt13005.2.2.2.1 bt13005.2.2.2.2.1 bt13005.2.2.2.2.2.1 bt13005.2.2.2.2.2.2.1 bt13005.2.2.2.2.2.2.2 bt13017.1 bt13017.2.1 bt13017.2.2.1 bt13017.2.2.2.1 bt13017.2.2.2.2.1 bt13017.2.2.2.2.2.1 bt13017.2.2.2.2.2.2.1 bt13017.2.2.2.2.2.2.2).bind fun t13029 => ((laws_toConstraint.f k a0_0 a0_1 a0_2 a0_3 a0_4 l0_5 l0_6 a0_7).bind fun bt13030 => ((laws_toConstraint.f k a1_0 a1_1 a1_2 a1_3 a1_4 l1_5 l1_6 a1_7).bind fun bt13043 => ((impl_EqualConstraint.f k bt13030.1 bt13030.2.1 bt13030.2.2.1 bt13030.2.2.2.1 bt13030.2.2.2.2.1 bt13030.2.2.2.2.2.1 bt13030.2.2.2.2.2.2.1 bt13030.2.2.2.2.2.2.2 bt13043.1 bt13043.2.1 bt13043.2.2.1 bt13043.2.2.2.1 bt13043.2.2.2.2.1 bt13043.2.2.2.2.2.1 bt13043.2.2.2.2.2.2.1 bt13043.2.2.2.2.2.2.2).bind fun t13056 => (if (t13056 != t13029) = true then (some false) else ((laws_toConstraint.f k a0_0 a0_1 a0_2 a0_3 a0_4 l0_5 l0_6 a0_7).bind fun bt13057 => ((laws_eqConstraint.f k bt13030.1 bt13030.2.1 bt13030.2.2.1 bt13030.2.2.2.1 bt13030.2.2.2.2.1 bt13030.2.2.2.2.2.1 bt13030.2.2.2.2.2.2.1 bt13030.2.2.2.2.2.2.2 bt13057.1 bt13057.2.1 bt13057.2.2.1 bt13057.2.2.2.1 bt13057.2.2.2.2.1 bt13057.2.2.2.2.2.1 bt13057.2.2.2.2.2.2.1 bt13057.2.2.2.2.2.2.2).bind fun t13069 => (if t13069 = true then ((laws_toConstraint.f k a1_0 a1_1 a1_2 a1_3 a1_4 l1_5 l1_6 a1_7).bind fun bt13070 => ((laws_eqConstraint.f k bt13043.1 bt13043.2.1 bt13043.2.2.1 bt13043.2.2.2.1 bt13043.2.2.2.2.1 bt13043.2.2.2.2.2.1 bt13043.2.2.2.2.2.2.1 bt13043.2.2.2.2.2.2.2 bt13070.1 bt13070.2.1 bt13070.2.2.1 bt13070.2.2.2.1 bt13070.2.2.2.2.1 bt13070.2.2.2.2.2.1 bt13070.2.2.2.2.2.2.1 bt13070.2.2.2.2.2.2.2).bind fun t13082 => (if t13082 = true then (some true) else (some false)))) else (some false))))))))))))))
theorem laws_FnExactEqualConstraint.mono : ∀ a0 a1 a2 a3 a4 a5 a6 a7 a8 a9 a10 a11 a12 a13 a14 a15 k, LeO (laws_FnExactEqualConstraint.f k a0 a1 a2 a3 a4 a5 a6 a7 a8 a9 a10 a11 a12 a13 a14 a15) (laws_FnExactEqualConstraint.f (k + 1) a0 a1 a2 a3 a4 a5 a6 a7 a8 a9 a10 a11 a12 a13 a14 a15) := by
  intro a0 a1 a2 a3 a4 a5 a6 a7 a8 a9 a10 a11 a12 a13 a14 a15 k
  unfold laws_FnExactEqualConstraint.f
  repeat' first
      | (with_reducible exact impl_EqualConstraint.mono _ _ _ _ _ _ _ _ _ _ _ _ _ _ _ _ _)
      | (with_reducible exact laws_eqConstraint.mono _ _ _ _ _ _ _ _ _ _ _ _ _ _ _ _ _)
      | (with_reducible exact laws_szConstraint.mono _ _ _ _ _ _ _ _ _ _)
      | (with_reducible exact laws_toConstraint.mono _ _ _ _ _ _ _ _ _)
      | (with_reducible exact spec_EqualConstraint.mono _ _ _ _ _ _ _ _ _ _ _ _ _ _ _ _ _)
      | (with_reducible exact LeO.refl _)
      | (with_reducible exact LeO.none _)
      | (with_reducible refine LeO.ite ?_ ?_)
      | (with_reducible refine LeO.bind ?_ (fun _ => ?_))
      | exact impl_EqualConstraint.mono _ _ _ _ _ _ _ _ _ _ _ _ _ _ _ _ _
      | exact laws_eqConstraint.mono _ _ _ _ _ _ _ _ _ _ _ _ _ _ _ _ _
      | exact laws_szConstraint.mono _ _ _ _ _ _ _ _ _ _
      | exact laws_toConstraint.mono _ _ _ _ _ _ _ _ _
      | exact spec_EqualConstraint.mono _ _ _ _ _ _ _ _ _ _ _ _ _ _ _ _ _
      | exact LeO.none _
      | refine LeO.ite ?_ ?_
      | refine LeO.bind ?_ (fun _ => ?_)
set_option maxHeartbeats 8000000 in
set_option maxRecDepth 100000 in
theorem laws_FnExactEqualConstraint.calls (k : Nat) (a0_0 : Int) (a0_1 : ByteArray) (a0_2 : ByteArray) (a0_3 : Int) (a0_4 : ByteArray) (A0_5 : Option Addr) (c0_5 : Nat) (l0_5 : List (S90)) (A0_6 : Option Addr) (c0_6 : Nat) (l0_6 : List Int) (a0_7 : Int) (a1_0 : Int) (a1_1 : ByteArray) (a1_2 : ByteArray) (a1_3 : Int) (a1_4 : ByteArray) (A1_5 : Option Addr) (c1_5 : Nat) (l1_5 : List (S90)) (A1_6 : Option Addr) (c1_6 : Nat) (l1_6 : List Int) (a1_7 : Int) (r : Bool) (w : World) (hr0_5 : Kd.C k90 w A0_5 l0_5.length l0_5) (hc0_5 : l0_5.length ≤ c0_5) (hr0_6 : Kd.C (Kd.int .i64) w A0_6 l0_6.length l0_6) (hc0_6 : l0_6.length ≤ c0_6) (hr1_5 : Kd.C k90 w A1_5 l1_5.length l1_5) (hc1_5 : l1_5.length ≤ c1_5) (hr1_6 : Kd.C (Kd.int .i64) w A1_6 l1_6.length l1_6) (hc1_6 : l1_6.length ≤ c1_6) (h : laws_FnExactEqualConstraint.f k a0_0 a0_1 a0_2 a0_3 a0_4 l0_5 l0_6 a0_7 a1_0 a1_1 a1_2 a1_3 a1_4 l1_5 l1_6 a1_7 = some r) (hr_ : r = true) :
    Calls Try.prog 13 #[.agg #[.int .i64 a0_0, .string a0_1, .string a0_2, .int .i64 a0_3, .string a0_4, .slice A0_5 l0_5.length c0_5, .slice A0_6 l0_6.length c0_6, .int .i64 a0_7], .agg #[.int .i64 a1_0, .string a1_1, .string a1_2, .int .i64 a1_3, .string a1_4, .slice A1_5 l1_5.length c1_5, .slice A1_6 l1_6.length c1_6, .int .i64 a1_7]] w fun e w' => e = .returned (.bool r) ∧ Below w.heap.size w w' := by
  have HRT_ := Aside0.mk hr_
  clear hr_
  have hu92 := Try.underlying92
  have hu99 := Try.underlying99
  have HR0_5 := Aside0.mk hr0_5
  have HC0_5 := Aside0.mk hc0_5
  clear hr0_5 hc0_5
  have HR0_6 := Aside0.mk hr0_6
  have HC0_6 := Aside0.mk hc0_6
  clear hr0_6 hc0_6
  have HR1_5 := Aside0.mk hr1_5
  have HC1_5 := Aside0.mk hc1_5
  clear hr1_5 hc1_5
  have HR1_6 := Aside0.mk hr1_6
  have HC1_6 := Aside0.mk hc1_6
  clear hr1_6 hc1_6
  have HB := Aside0.mk (Below.refl w.heap.size w)
  have H : ((laws_szConstraint.f k a0_0 a0_1 a0_2 a0_3 a0_4 l0_5 l0_6 a0_7 1048576).bind fun t13003 => (if t13003 < 0 then (some true) else ((laws_szConstraint.f k a1_0 a1_1 a1_2 a1_3 a1_4 l1_5 l1_6 a1_7 t13003).bind fun t13004 => (if t13004 < 0 then (some true) else ((laws_toConstraint.f k a0_0 a0_1 a0_2 a0_3 a0_4 l0_5 l0_6 a0_7).bind fun bt13005 => ((laws_toConstraint.f k a1_0 a1_1 a1_2 a1_3 a1_4 l1_5 l1_6 a1_7).bind fun bt13017 => ((spec_EqualConstraint.f k bt13005.1 bt13005.2.1 bt13005.2.2.1 bt13005.2.2.2.1 bt13005.2.2.2.2.1 bt13005.2.2.2.2.2.1 bt13005.2.2.2.2.2.2.1 bt13005.2.2.2.2.2.2.2 bt13017.1 bt13017.2.1 bt13017.2.2.1 bt13017.2.2.2.1 bt13017.2.2.2.2.1 bt13017.2.2.2.2.2.1 bt13017.2.2.2.2.2.2.1 bt13017.2.2.2.2.2.2.2).bind fun t13029 => ((laws_toConstraint.f k a0_0 a0_1 a0_2 a0_3 a0_4 l0_5 l0_6 a0_7).bind fun bt13030 => ((laws_toConstraint.f k a1_0 a1_1 a1_2 a1_3 a1_4 l1_5 l1_6 a1_7).bind fun bt13043 => ((impl_EqualConstraint.f k bt13030.1 bt13030.2.1 bt13030.2.2.1 bt13030.2.2.2.1 bt13030.2.2.2.2.1 bt13030.2.2.2.2.2.1 bt13030.2.2.2.2.2.2.1 bt13030.2.2.2.2.2.2.2 bt13043.1 bt13043.2.1 bt13043.2.2.1 bt13043.2.2.2.1 bt13043.2.2.2.2.1 bt13043.2.2.2.2.2.1 bt13043.2.2.2.2.2.2.1 bt13043.2.2.2.2.2.2.2).bind fun t13056 => (if (t13056 != t13029) = true then (some false) else ((laws_toConstraint.f k a0_0 a0_1 a0_2 a0_3 a0_4 l0_5 l0_6 a0_7).bind fun bt13057 => ((laws_eqConstraint.f k bt13030.1 bt13030.2.1 bt13030.2.2.1 bt13030.2.2.2.1 bt13030.2.2.2.2.1 bt13030.2.2.2.2.2.1 bt13030.2.2.2.2.2.2.1 bt13030.2.2.2.2.2.2.2 bt13057.1 bt13057.2.1 bt13057.2.2.1 bt13057.2.2.2.1 bt13057.2.2.2.2.1 bt13057.2.2.2.2.2.1 bt13057.2.2.2.2.2.2.1 bt13057.2.2.2.2.2.2.2).bind fun t13069 => (if t13069 = true then ((laws_toConstraint.f k a1_0 a1_1 a1_2 a1_3 a1_4 l1_5 l1_6 a1_7).bind fun bt13070 => ((laws_eqConstraint.f k bt13043.1 bt13043.2.1 bt13043.2.2.1 bt13043.2.2.2.1 bt13043.2.2.2.2.1 bt13043.2.2.2.2.2.1 bt13043.2.2.2.2.2.2.1 bt13043.2.2.2.2.2.2.2 bt13070.1 bt13070.2.1 bt13070.2.2.1 bt13070.2.2.2.1 bt13070.2.2.2.2.1 bt13070.2.2.2.2.2.1 bt13070.2.2.2.2.2.2.1 bt13070.2.2.2.2.2.2.2).bind fun t13082 => (if t13082 = true then (some true) else (some false)))) else (some false))))))))))))))) = some r := h
  clear h
  replace H := Option.bind_eq_some_iff.mp H
  obtain ⟨t13003, A30, H⟩ := H
  replace H : (if t13003 < 0 then (some true) else ((laws_szConstraint.f k a1_0 a1_1 a1_2 a1_3 a1_4 l1_5 l1_6 a1_7 t13003).bind fun t13004 => (if t13004 < 0 then (some true) else ((laws_toConstraint.f k a0_0 a0_1 a0_2 a0_3 a0_4 l0_5 l0_6 a0_7).bind fun bt13005 => ((laws_toConstraint.f k a1_0 a1_1 a1_2 a1_3 a1_4 l1_5 l1_6 a1_7).bind fun bt13017 => ((spec_EqualConstraint.f k bt13005.1 bt13005.2.1 bt13005.2.2.1 bt13005.2.2.2.1 bt13005.2.2.2.2.1 bt13005.2.2.2.2.2.1 bt13005.2.2.2.2.2.2.1 bt13005.2.2.2.2.2.2.2 bt13017.1 bt13017.2.1 bt13017.2.2.1 bt13017.2.2.2.1 bt13017.2.2.2.2.1 bt13017.2.2.2.2.2.1 bt13017.2.2.2.2.2.2.1 bt13017.2.2.2.2.2.2.2).bind fun t13029 => ((laws_toConstraint.f k a0_0 a0_1 a0_2 a0_3 a0_4 l0_5 l0_6 a0_7).bind fun bt13030 => ((laws_toConstraint.f k a1_0 a1_1 a1_2 a1_3 a1_4 l1_5 l1_6 a1_7).bind fun bt13043 => ((impl_EqualConstraint.f k bt13030.1 bt13030.2.1 bt13030.2.2.1 bt13030.2.2.2.1 bt13030.2.2.2.2.1 bt13030.2.2.2.2.2.1 bt13030.2.2.2.2.2.2.1 bt13030.2.2.2.2.2.2.2 bt13043.1 bt13043.2.1 bt13043.2.2.1 bt13043.2.2.2.1 bt13043.2.2.2.2.1 bt13043.2.2.2.2.2.1 bt13043.2.2.2.2.2.2.1 bt13043.2.2.2.2.2.2.2).bind fun t13056 => (if (t13056 != t13029) = true then (some false) else ((laws_toConstraint.f k a0_0 a0_1 a0_2 a0_3 a0_4 l0_5 l0_6 a0_7).bind fun bt13057 => ((laws_eqConstraint.f k bt13030.1 bt13030.2.1 bt13030.2.2.1 bt13030.2.2.2.1 bt13030.2.2.2.2.1 bt13030.2.2.2.2.2.1 bt13030.2.2.2.2.2.2.1 bt13030.2.2.2.2.2.2.2 bt13057.1 bt13057.2.1 bt13057.2.2.1 bt13057.2.2.2.1 bt13057.2.2.2.2.1 bt13057.2.2.2.2.2.1 bt13057.2.2.2.2.2.2.1 bt13057.2.2.2.2.2.2.2).bind fun t13069 => (if t13069 = true then ((laws_toConstraint.f k a1_0 a1_1 a1_2 a1_3 a1_4 l1_5 l1_6 a1_7).bind fun bt13070 => ((laws_eqConstraint.f k bt13043.1 bt13043.2.1 bt13043.2.2.1 bt13043.2.2.2.1 bt13043.2.2.2.2.1 bt13043.2.2.2.2.2.1 bt13043.2.2.2.2.2.2.1 bt13043.2.2.2.2.2.2.2 bt13070.1 bt13070.2.1 bt13070.2.2.1 bt13070.2.2.2.1 bt13070.2.2.2.2.1 bt13070.2.2.2.2.2.1 bt13070.2.2.2.2.2.2.1 bt13070.2.2.2.2.2.2.2).bind fun t13082 => (if t13082 = true then (some true) else (some false)))) else (some false)))))))))))))) = some r := H
  have A3 := Aside0.mk A30
  clear A30
  by_cases c4 : t13003 < 0
  · rw [if_pos c4] at H
    have c4b0 : decide (t13003 < 0) = true := decide_eq_true c4
    clear c4
    obtain rfl := Option.some.inj H
    go_enter Try.func13, Try.ntmps13
    go_wp2_with (first | ((with_reducible refine gate_dst (N := 2) rfl ?_); refine box_event ?hg (N := 2) ?hd (cs := #[.int .i64 a0_0, .string a0_1, .string a0_2, .int .i64 a0_3, .string a0_4, .slice A0_5 l0_5.length c0_5, .slice A0_6 l0_6.length c0_6, .int .i64 a0_7]) (t := 92) ?hr ?_; (case hd => rfl); (case hg => rfl); (case hr => first | (go_simp; done) | (go_simp; rfl)); intro gb13001 hg w5 hbox hb; have n0_ := Aside0.mk (below_step (by repeat (first | (with_reducible first | exact HB.out | apply below_alloc | apply pw_below_drewN | apply below_drew1) | exact HB.out)) hb); have n1_ := Aside0.mk (hbox); have n2_ := Aside0.mk ((by rw [hg]; exact (below_size (by repeat (first | (with_reducible first | exact HB.out | apply below_alloc | apply pw_below_drewN | apply below_drew1) | exact HB.out))) : w.heap.size ≤ gb13001)); have n3_ := Aside0.mk ((by rw [hg]; exact (below_size (by repeat (first | (with_reducible first | exact HB.out | apply below_alloc | apply pw_below_drewN | apply below_drew1) | exact HB.out))) : w.heap.size ≤ gb13001)); clear HB; have HB := n0_; have BK13001 := n1_; have GW13001 := n2_; have GE13001 := n3_; clear n0_ n1_ n2_ n3_; clear hb hbox hg) | ((with_reducible refine gate_dst (N := 3) rfl ?_); refine box_event ?hg (N := 3) ?hd (cs := #[.int .i64 a1_0, .string a1_1, .string a1_2, .int .i64 a1_3, .string a1_4, .slice A1_5 l1_5.length c1_5, .slice A1_6 l1_6.length c1_6, .int .i64 a1_7]) (t := 92) ?hr ?_; (case hd => rfl); (case hg => rfl); (case hr => first | (go_simp; done) | (go_simp; rfl)); intro gb13002 hg w6 hbox hb; have n0_ := Aside0.mk (blk_below (g := gb13001) (o := .cells #[.int .i64 a0_0, .string a0_1, .string a0_2, .int .i64 a0_3, .string a0_4, .slice A0_5 l0_5.length c0_5, .slice A0_6 l0_6.length c0_6, .int .i64 a0_7] 92 (0, 0)) (by (with_reducible repeat (first | refine blk_drewN ?_ _ | refine blk_drew ?_ | refine blk_alloc ?_ _)); exact BK13001.out) hb); have n1_ := Aside0.mk (below_step (by repeat (first | (with_reducible first | exact HB.out | apply below_alloc | apply pw_below_drewN | apply below_drew1 | refine below_set ?_ GE13001.out) | exact HB.out)) hb); have n2_ := Aside0.mk (hbox); have n3_ := Aside0.mk ((by rw [hg]; exact (below_size (by repeat (first | (with_reducible first | exact HB.out | apply below_alloc | apply pw_below_drewN | apply below_drew1 | refine below_set ?_ GE13001.out) | exact HB.out))) : w.heap.size ≤ gb13002)); have n4_ := Aside0.mk ((by rw [hg]; exact (below_size (by repeat (first | (with_reducible first | exact HB.out | apply below_alloc | apply pw_below_drewN | apply below_drew1 | refine below_set ?_ GE13001.out) | exact HB.out))) : w.heap.size ≤ gb13002)); have n5_ := Aside0.mk ((by rw [hg]; exact Nat.ne_of_lt (blk_lt (g := gb13001) (o := .cells #[.int .i64 a0_0, .string a0_1, .string a0_2, .int .i64 a0_3, .string a0_4, .slice A0_5 l0_5.length c0_5, .slice A0_6 l0_6.length c0_6, .int .i64 a0_7] 92 (0, 0)) (by (with_reducible repeat (first | refine blk_drewN ?_ _ | refine blk_drew ?_ | refine blk_alloc ?_ _)); exact BK13001.out)) : gb13001 ≠ gb13002)); have n6_ := Aside0.mk ((by rw [hg]; exact Nat.ne_of_gt (blk_lt (g := gb13001) (o := .cells #[.int .i64 a0_0, .string a0_1, .string a0_2, .int .i64 a0_3, .string a0_4, .slice A0_5 l0_5.length c0_5, .slice A0_6 l0_6.length c0_6, .int .i64 a0_7] 92 (0, 0)) (by (with_reducible repeat (first | refine blk_drewN ?_ _ | refine blk_drew ?_ | refine blk_alloc ?_ _)); exact BK13001.out)) : gb13002 ≠ gb13001)); clear BK13001; clear HB; have BK13001 := n0_; have HB := n1_; have BK13002 := n2_; have GW13002 := n3_; have GE13002 := n4_; have NB13001_13002 := n5_; have NB13002_13001 := n6_; clear n0_ n1_ n2_ n3_ n4_ n5_ n6_; clear hb hbox hg; have hnb7 := NB13001_13002.out; have hnc7 := NB13002_13001.out; have hcz8_0 : w6.cell? ⟨gb13001, 0, none⟩ = some (.int .i64 a0_0) := (blk_cell BK13001.out 0).trans rfl; have hcz8_1 : w6.cell? ⟨gb13001, 1, none⟩ = some (.string a0_1) := (blk_cell BK13001.out 1).trans rfl; have hcz8_2 : w6.cell? ⟨gb13001, 2, none⟩ = some (.string a0_2) := (blk_cell BK13001.out 2).trans rfl; have hcz8_3 : w6.cell? ⟨gb13001, 3, none⟩ = some (.int .i64 a0_3) := (blk_cell BK13001.out 3).trans rfl; have hcz8_4 : w6.cell? ⟨gb13001, 4, none⟩ = some (.string a0_4) := (blk_cell BK13001.out 4).trans rfl; have hcz8_5 : w6.cell? ⟨gb13001, 5, none⟩ = some (.slice A0_5 l0_5.length c0_5) := (blk_cell BK13001.out 5).trans rfl; have hcz8_6 : w6.cell? ⟨gb13001, 6, none⟩ = some (.slice A0_6 l0_6.length c0_6) := (blk_cell BK13001.out 6).trans rfl; have hcz8_7 : w6.cell? ⟨gb13001, 7, none⟩ = some (.int .i64 a0_7) := (blk_cell BK13001.out 7).trans rfl; have hfz8_0 := blk_frozen BK13001.out 0; have hfz8_1 := blk_frozen BK13001.out 1; have hfz8_2 := blk_frozen BK13001.out 2; have hfz8_3 := blk_frozen BK13001.out 3; have hfz8_4 := blk_frozen BK13001.out 4; have hfz8_5 := blk_frozen BK13001.out 5; have hfz8_6 := blk_frozen BK13001.out 6; have hfz8_7 := blk_frozen BK13001.out 7) | ((with_reducible refine gate_callee (f := 58) rfl ?_); refine goesL_ (some 12) rfl rfl Try.func58 (by kernel_rfl) rfl #[.agg #[.int .i64 a0_0, .string a0_1, .string a0_2, .int .i64 a0_3, .string a0_4, .slice A0_5 l0_5.length c0_5, .slice A0_6 l0_6.length c0_6, .int .i64 a0_7], .int .i64 1048576] rfl (by (try simp only [List.map_toArray, List.map_cons, List.map_nil]); first | done | rfl | (simp only [List.length_drop, List.length_take]; rfl)) ?_; (with_reducible refine (laws_szConstraint.calls k a0_0 a0_1 a0_2 a0_3 a0_4 _ _ l0_5 _ _ l0_6 a0_7 1048576 t13003 _ ?side1 ?side2 ?side3 ?side4 A3.out).mono ?_); (case side1 => repeat (first | exact (Kd.C_below HR0_5.out HB.out) | (with_reducible refine Kd.C_alloc ?_ _) | (with_reducible refine Kd.C_drewN ?_ _) | (with_reducible refine Kd.C_drew ?_))); (case side2 => exact HC0_5.out); (case side3 => repeat (first | exact (Kd.C_below HR0_6.out HB.out) | (with_reducible refine Kd.C_alloc ?_ _) | (with_reducible refine Kd.C_drewN ?_ _) | (with_reducible refine Kd.C_drew ?_))); (case side4 => exact HC0_6.out); rintro e w9 ⟨rfl, hb⟩; refine ⟨_, rfl, ?_⟩; have n0_ := Aside0.mk (blk_below (g := gb13001) (o := .cells #[.int .i64 a0_0, .string a0_1, .string a0_2, .int .i64 a0_3, .string a0_4, .slice A0_5 l0_5.length c0_5, .slice A0_6 l0_6.length c0_6, .int .i64 a0_7] 92 (0, 0)) (by (with_reducible repeat (first | refine blk_drewN ?_ _ | refine blk_drew ?_ | refine blk_alloc ?_ _)); exact BK13001.out) hb); have n1_ := Aside0.mk (blk_below (g := gb13002) (o := .cells #[.int .i64 a1_0, .string a1_1, .string a1_2, .int .i64 a1_3, .string a1_4, .slice A1_5 l1_5.length c1_5, .slice A1_6 l1_6.length c1_6, .int .i64 a1_7] 92 (0, 0)) (by (with_reducible repeat (first | refine blk_drewN ?_ _ | refine blk_drew ?_ | refine blk_alloc ?_ _)); exact BK13002.out) hb); have n2_ := Aside0.mk (below_step (by repeat (first | (with_reducible first | exact HB.out | apply below_alloc | apply pw_below_drewN | apply below_drew1 | refine below_set ?_ GE13001.out | refine below_set ?_ GE13002.out) | exact HB.out)) hb); clear BK13001; clear BK13002; clear HB; have BK13001 := n0_; have BK13002 := n1_; have HB := n2_; clear n0_ n1_ n2_; (try clear hb); (try clear hb2); (try clear hk); (try clear hi)))
    go_ret
    exact ⟨by first | rfl | (simp [errW_none, errW_some] <;> rfl) | (simp [*, errW_none, errW_some] <;> rfl), by repeat (first | (with_reducible first | exact HB.out | apply below_alloc | apply pw_below_drewN | apply below_drew1 | refine below_set ?_ GE13001.out | refine below_set ?_ GE13002.out) | exact HB.out)⟩
  · rw [if_neg c4] at H
    have c4b0 : decide (t13003 < 0) = false := decide_eq_false c4
    clear c4
    replace H := Option.bind_eq_some_iff.mp H
    obtain ⟨t13004, A100, H⟩ := H
    replace H : (if t13004 < 0 then (some true) else ((laws_toConstraint.f k a0_0 a0_1 a0_2 a0_3 a0_4 l0_5 l0_6 a0_7).bind fun bt13005 => ((laws_toConstraint.f k a1_0 a1_1 a1_2 a1_3 a1_4 l1_5 l1_6 a1_7).bind fun bt13017 => ((spec_EqualConstraint.f k bt13005.1 bt13005.2.1 bt13005.2.2.1 bt13005.2.2.2.1 bt13005.2.2.2.2.1 bt13005.2.2.2.2.2.1 bt13005.2.2.2.2.2.2.1 bt13005.2.2.2.2.2.2.2 bt13017.1 bt13017.2.1 bt13017.2.2.1 bt13017.2.2.2.1 bt13017.2.2.2.2.1 bt13017.2.2.2.2.2.1 bt13017.2.2.2.2.2.2.1 bt13017.2.2.2.2.2.2.2).bind fun t13029 => ((laws_toConstraint.f k a0_0 a0_1 a0_2 a0_3 a0_4 l0_5 l0_6 a0_7).bind fun bt13030 => ((laws_toConstraint.f k a1_0 a1_1 a1_2 a1_3 a1_4 l1_5 l1_6 a1_7).bind fun bt13043 => ((impl_EqualConstraint.f k bt13030.1 bt13030.2.1 bt13030.2.2.1 bt13030.2.2.2.1 bt13030.2.2.2.2.1 bt13030.2.2.2.2.2.1 bt13030.2.2.2.2.2.2.1 bt13030.2.2.2.2.2.2.2 bt13043.1 bt13043.2.1 bt13043.2.2.1 bt13043.2.2.2.1 bt13043.2.2.2.2.1 bt13043.2.2.2.2.2.1 bt13043.2.2.2.2.2.2.1 bt13043.2.2.2.2.2.2.2).bind fun t13056 => (if (t13056 != t13029) = true then (some false) else ((laws_toConstraint.f k a0_0 a0_1 a0_2 a0_3 a0_4 l0_5 l0_6 a0_7).bind fun bt13057 => ((laws_eqConstraint.f k bt13030.1 bt13030.2.1 bt13030.2.2.1 bt13030.2.2.2.1 bt13030.2.2.2.2.1 bt13030.2.2.2.2.2.1 bt13030.2.2.2.2.2.2.1 bt13030.2.2.2.2.2.2.2 bt13057.1 bt13057.2.1 bt13057.2.2.1 bt13057.2.2.2.1 bt13057.2.2.2.2.1 bt13057.2.2.2.2.2.1 bt13057.2.2.2.2.2.2.1 bt13057.2.2.2.2.2.2.2).bind fun t13069 => (if t13069 = true then ((laws_toConstraint.f k a1_0 a1_1 a1_2 a1_3 a1_4 l1_5 l1_6 a1_7).bind fun bt13070 => ((laws_eqConstraint.f k bt13043.1 bt13043.2.1 bt13043.2.2.1 bt13043.2.2.2.1 bt13043.2.2.2.2.1 bt13043.2.2.2.2.2.1 bt13043.2.2.2.2.2.2.1 bt13043.2.2.2.2.2.2.2 bt13070.1 bt13070.2.1 bt13070.2.2.1 bt13070.2.2.2.1 bt13070.2.2.2.2.1 bt13070.2.2.2.2.2.1 bt13070.2.2.2.2.2.2.1 bt13070.2.2.2.2.2.2.2).bind fun t13082 => (if t13082 = true then (some true) else (some false)))) else (some false)))))))))))) = some r := H
    have A10 := Aside0.mk A100
    clear A100
    by_cases c11 : t13004 < 0
    · rw [if_pos c11] at H
      have c11b0 : decide (t13004 < 0) = true := decide_eq_true c11
      clear c11
      obtain rfl := Option.some.inj H
      go_enter Try.func13, Try.ntmps13
      go_wp2_with (first | ((with_reducible refine gate_dst (N := 2) rfl ?_); refine box_event ?hg (N := 2) ?hd (cs := #[.int .i64 a0_0, .string a0_1, .string a0_2, .int .i64 a0_3, .string a0_4, .slice A0_5 l0_5.length c0_5, .slice A0_6 l0_6.length c0_6, .int .i64 a0_7]) (t := 92) ?hr ?_; (case hd => rfl); (case hg => rfl); (case hr => first | (go_simp; done) | (go_simp; rfl)); intro gb13001 hg w12 hbox hb; have n0_ := Aside0.mk (below_step (by repeat (first | (with_reducible first | exact HB.out | apply below_alloc | apply pw_below_drewN | apply below_drew1) | exact HB.out)) hb); have n1_ := Aside0.mk (hbox); have n2_ := Aside0.mk ((by rw [hg]; exact (below_size (by repeat (first | (with_reducible first | exact HB.out | apply below_alloc | apply pw_below_drewN | apply below_drew1) | exact HB.out))) : w.heap.size ≤ gb13001)); have n3_ := Aside0.mk ((by rw [hg]; exact (below_size (by repeat (first | (with_reducible first | exact HB.out | apply below_alloc | apply pw_below_drewN | apply below_drew1) | exact HB.out))) : w.heap.size ≤ gb13001)); clear HB; have HB := n0_; have BK13001 := n1_; have GW13001 := n2_; have GE13001 := n3_; clear n0_ n1_ n2_ n3_; clear hb hbox hg) | ((with_reducible refine gate_dst (N := 3) rfl ?_); refine box_event ?hg (N := 3) ?hd (cs := #[.int .i64 a1_0, .string a1_1, .string a1_2, .int .i64 a1_3, .string a1_4, .slice A1_5 l1_5.length c1_5, .slice A1_6 l1_6.length c1_6, .int .i64 a1_7]) (t := 92) ?hr ?_; (case hd => rfl); (case hg => rfl); (case hr => first | (go_simp; done) | (go_simp; rfl)); intro gb13002 hg w13 hbox hb; have n0_ := Aside0.mk (blk_below (g := gb13001) (o := .cells #[.int .i64 a0_0, .string a0_1, .string a0_2, .int .i64 a0_3, .string a0_4, .slice A0_5 l0_5.length c0_5, .slice A0_6 l0_6.length c0_6, .int .i64 a0_7] 92 (0, 0)) (by (with_reducible repeat (first | refine blk_drewN ?_ _ | refine blk_drew ?_ | refine blk_alloc ?_ _)); exact BK13001.out) hb); have n1_ := Aside0.mk (below_step (by repeat (first | (with_reducible first | exact HB.out | apply below_alloc | apply pw_below_drewN | apply below_drew1 | refine below_set ?_ GE13001.out) | exact HB.out)) hb); have n2_ := Aside0.mk (hbox); have n3_ := Aside0.mk ((by rw [hg]; exact (below_size (by repeat (first | (with_reducible first | exact HB.out | apply below_alloc | apply pw_below_drewN | apply below_drew1 | refine below_set ?_ GE13001.out) | exact HB.out))) : w.heap.size ≤ gb13002)); have n4_ := Aside0.mk ((by rw [hg]; exact (below_size (by repeat (first | (with_reducible first | exact HB.out | apply below_alloc | apply pw_below_drewN | apply below_drew1 | refine below_set ?_ GE13001.out) | exact HB.out))) : w.heap.size ≤ gb13002)); have n5_ := Aside0.mk ((by rw [hg]; exact Nat.ne_of_lt (blk_lt (g := gb13001) (o := .cells #[.int .i64 a0_0, .string a0_1, .string a0_2, .int .i64 a0_3, .string a0_4, .slice A0_5 l0_5.length c0_5, .slice A0_6 l0_6.length c0_6, .int .i64 a0_7] 92 (0, 0)) (by (with_reducible repeat (first | refine blk_drewN ?_ _ | refine blk_drew ?_ | refine blk_alloc ?_ _)); exact BK13001.out)) : gb13001 ≠ gb13002)); have n6_ := Aside0.mk ((by rw [hg]; exact Nat.ne_of_gt (blk_lt (g := gb13001) (o := .cells #[.int .i64 a0_0, .string a0_1, .string a0_2, .int .i64 a0_3, .string a0_4, .slice A0_5 l0_5.length c0_5, .slice A0_6 l0_6.length c0_6, .int .i64 a0_7] 92 (0, 0)) (by (with_reducible repeat (first | refine blk_drewN ?_ _ | refine blk_drew ?_ | refine blk_alloc ?_ _)); exact BK13001.out)) : gb13002 ≠ gb13001)); clear BK13001; clear HB; have BK13001 := n0_; have HB := n1_; have BK13002 := n2_; have GW13002 := n3_; have GE13002 := n4_; have NB13001_13002 := n5_; have NB13002_13001 := n6_; clear n0_ n1_ n2_ n3_ n4_ n5_ n6_; clear hb hbox hg; have hnb14 := NB13001_13002.out; have hnc14 := NB13002_13001.out; have hcz15_0 : w13.cell? ⟨gb13001, 0, none⟩ = some (.int .i64 a0_0) := (blk_cell BK13001.out 0).trans rfl; have hcz15_1 : w13.cell? ⟨gb13001, 1, none⟩ = some (.string a0_1) := (blk_cell BK13001.out 1).trans rfl; have hcz15_2 : w13.cell? ⟨gb13001, 2, none⟩ = some (.string a0_2) := (blk_cell BK13001.out 2).trans rfl; have hcz15_3 : w13.cell? ⟨gb13001, 3, none⟩ = some (.int .i64 a0_3) := (blk_cell BK13001.out 3).trans rfl; have hcz15_4 : w13.cell? ⟨gb13001, 4, none⟩ = some (.string a0_4) := (blk_cell BK13001.out 4).trans rfl; have hcz15_5 : w13.cell? ⟨gb13001, 5, none⟩ = some (.slice A0_5 l0_5.length c0_5) := (blk_cell BK13001.out 5).trans rfl; have hcz15_6 : w13.cell? ⟨gb13001, 6, none⟩ = some (.slice A0_6 l0_6.length c0_6) := (blk_cell BK13001.out 6).trans rfl; have hcz15_7 : w13.cell? ⟨gb13001, 7, none⟩ = some (.int .i64 a0_7) := (blk_cell BK13001.out 7).trans rfl; have hfz15_0 := blk_frozen BK13001.out 0; have hfz15_1 := blk_frozen BK13001.out 1; have hfz15_2 := blk_frozen BK13001.out 2; have hfz15_3 := blk_frozen BK13001.out 3; have hfz15_4 := blk_frozen BK13001.out 4; have hfz15_5 := blk_frozen BK13001.out 5; have hfz15_6 := blk_frozen BK13001.out 6; have hfz15_7 := blk_frozen BK13001.out 7) | ((with_reducible refine gate_callee (f := 58) rfl ?_); refine goesL_ (some 12) rfl rfl Try.func58 (by kernel_rfl) rfl #[.agg #[.int .i64 a0_0, .string a0_1, .string a0_2, .int .i64 a0_3, .string a0_4, .slice A0_5 l0_5.length c0_5, .slice A0_6 l0_6.length c0_6, .int .i64 a0_7], .int .i64 1048576] rfl (by (try simp only [List.map_toArray, List.map_cons, List.map_nil]); first | done | rfl | (simp only [List.length_drop, List.length_take]; rfl)) ?_; (with_reducible refine (laws_szConstraint.calls k a0_0 a0_1 a0_2 a0_3 a0_4 _ _ l0_5 _ _ l0_6 a0_7 1048576 t13003 _ ?side1 ?side2 ?side3 ?side4 A3.out).mono ?_); (case side1 => repeat (first | exact (Kd.C_below HR0_5.out HB.out) | (with_reducible refine Kd.C_alloc ?_ _) | (with_reducible refine Kd.C_drewN ?_ _) | (with_reducible refine Kd.C_drew ?_))); (case side2 => exact HC0_5.out); (case side3 => repeat (first | exact (Kd.C_below HR0_6.out HB.out) | (with_reducible refine Kd.C_alloc ?_ _) | (with_reducible refine Kd.C_drewN ?_ _) | (with_reducible refine Kd.C_drew ?_))); (case side4 => exact HC0_6.out); rintro e w16 ⟨rfl, hb⟩; refine ⟨_, rfl, ?_⟩; have n0_ := Aside0.mk (blk_below (g := gb13001) (o := .cells #[.int .i64 a0_0, .string a0_1, .string a0_2, .int .i64 a0_3, .string a0_4, .slice A0_5 l0_5.length c0_5, .slice A0_6 l0_6.length c0_6, .int .i64 a0_7] 92 (0, 0)) (by (with_reducible repeat (first | refine blk_drewN ?_ _ | refine blk_drew ?_ | refine blk_alloc ?_ _)); exact BK13001.out) hb); have n1_ := Aside0.mk (blk_below (g := gb13002) (o := .cells #[.int .i64 a1_0, .string a1_1, .string a1_2, .int .i64 a1_3, .string a1_4, .slice A1_5 l1_5.length c1_5, .slice A1_6 l1_6.length c1_6, .int .i64 a1_7] 92 (0, 0)) (by (with_reducible repeat (first | refine blk_drewN ?_ _ | refine blk_drew ?_ | refine blk_alloc ?_ _)); exact BK13002.out) hb); have n2_ := Aside0.mk (below_step (by repeat (first | (with_reducible first | exact HB.out | apply below_alloc | apply pw_below_drewN | apply below_drew1 | refine below_set ?_ GE13001.out | refine below_set ?_ GE13002.out) | exact HB.out)) hb); clear BK13001; clear BK13002; clear HB; have BK13001 := n0_; have BK13002 := n1_; have HB := n2_; clear n0_ n1_ n2_; (try clear hb); (try clear hb2); (try clear hk); (try clear hi); have hcz17_0 : w16.cell? ⟨gb13002, 0, none⟩ = some (.int .i64 a1_0) := (blk_cell BK13002.out 0).trans rfl; have hcz17_1 : w16.cell? ⟨gb13002, 1, none⟩ = some (.string a1_1) := (blk_cell BK13002.out 1).trans rfl; have hcz17_2 : w16.cell? ⟨gb13002, 2, none⟩ = some (.string a1_2) := (blk_cell BK13002.out 2).trans rfl; have hcz17_3 : w16.cell? ⟨gb13002, 3, none⟩ = some (.int .i64 a1_3) := (blk_cell BK13002.out 3).trans rfl; have hcz17_4 : w16.cell? ⟨gb13002, 4, none⟩ = some (.string a1_4) := (blk_cell BK13002.out 4).trans rfl; have hcz17_5 : w16.cell? ⟨gb13002, 5, none⟩ = some (.slice A1_5 l1_5.length c1_5) := (blk_cell BK13002.out 5).trans rfl; have hcz17_6 : w16.cell? ⟨gb13002, 6, none⟩ = some (.slice A1_6 l1_6.length c1_6) := (blk_cell BK13002.out 6).trans rfl; have hcz17_7 : w16.cell? ⟨gb13002, 7, none⟩ = some (.int .i64 a1_7) := (blk_cell BK13002.out 7).trans rfl; have hfz17_0 := blk_frozen BK13002.out 0; have hfz17_1 := blk_frozen BK13002.out 1; have hfz17_2 := blk_frozen BK13002.out 2; have hfz17_3 := blk_frozen BK13002.out 3; have hfz17_4 := blk_frozen BK13002.out 4; have hfz17_5 := blk_frozen BK13002.out 5; have hfz17_6 := blk_frozen BK13002.out 6; have hfz17_7 := blk_frozen BK13002.out 7) | ((with_reducible refine gate_callee (f := 58) rfl ?_); refine goesL_ (some 17) rfl rfl Try.func58 (by kernel_rfl) rfl #[.agg #[.int .i64 a1_0, .string a1_1, .string a1_2, .int .i64 a1_3, .string a1_4, .slice A1_5 l1_5.length c1_5, .slice A1_6 l1_6.length c1_6, .int .i64 a1_7], .int .i64 t13003] rfl (by (try simp only [List.map_toArray, List.map_cons, List.map_nil]); first | done | rfl | (simp only [List.length_drop, List.length_take]; rfl)) ?_; (with_reducible refine (laws_szConstraint.calls k a1_0 a1_1 a1_2 a1_3 a1_4 _ _ l1_5 _ _ l1_6 a1_7 t13003 t13004 _ ?side1 ?side2 ?side3 ?side4 A10.out).mono ?_); (case side1 => repeat (first | exact (Kd.C_below HR1_5.out HB.out) | (with_reducible refine Kd.C_alloc ?_ _) | (with_reducible refine Kd.C_drewN ?_ _) | (with_reducible refine Kd.C_drew ?_))); (case side2 => exact HC1_5.out); (case side3 => repeat (first | exact (Kd.C_below HR1_6.out HB.out) | (with_reducible refine Kd.C_alloc ?_ _) | (with_reducible refine Kd.C_drewN ?_ _) | (with_reducible refine Kd.C_drew ?_))); (case side4 => exact HC1_6.out); rintro e w18 ⟨rfl, hb⟩; refine ⟨_, rfl, ?_⟩; have n0_ := Aside0.mk (blk_below (g := gb13001) (o := .cells #[.int .i64 a0_0, .string a0_1, .string a0_2, .int .i64 a0_3, .string a0_4, .slice A0_5 l0_5.length c0_5, .slice A0_6 l0_6.length c0_6, .int .i64 a0_7] 92 (0, 0)) (by (with_reducible repeat (first | refine blk_drewN ?_ _ | refine blk_drew ?_ | refine blk_alloc ?_ _)); exact BK13001.out) hb); have n1_ := Aside0.mk (blk_below (g := gb13002) (o := .cells #[.int .i64 a1_0, .string a1_1, .string a1_2, .int .i64 a1_3, .string a1_4, .slice A1_5 l1_5.length c1_5, .slice A1_6 l1_6.length c1_6, .int .i64 a1_7] 92 (0, 0)) (by (with_reducible repeat (first | refine blk_drewN ?_ _ | refine blk_drew ?_ | refine blk_alloc ?_ _)); exact BK13002.out) hb); have n2_ := Aside0.mk (below_step (by repeat (first | (with_reducible first | exact HB.out | apply below_alloc | apply pw_below_drewN | apply below_drew1 | refine below_set ?_ GE13001.out | refine below_set ?_ GE13002.out) | exact HB.out)) hb); clear BK13001; clear BK13002; clear HB; have BK13001 := n0_; have BK13002 := n1_; have HB := n2_; clear n0_ n1_ n2_; (try clear hb); (try clear hb2); (try clear hk); (try clear hi)))
      go_ret
      exact ⟨by first | rfl | (simp [errW_none, errW_some] <;> rfl) | (simp [*, errW_none, errW_some] <;> rfl), by repeat (first | (with_reducible first | exact HB.out | apply below_alloc | apply pw_below_drewN | apply below_drew1 | refine below_set ?_ GE13001.out | refine below_set ?_ GE13002.out) | exact HB.out)⟩
    · rw [if_neg c11] at H
      have c11b0 : decide (t13004 < 0) = false := decide_eq_false c11
      clear c11
      replace H := Option.bind_eq_some_iff.mp H
      obtain ⟨⟨t13005, t13006, t13007, t13008, t13009, t13010, t13013, t13016⟩, A190, H⟩ := H
      replace H : ((laws_toConstraint.f k a1_0 a1_1 a1_2 a1_3 a1_4 l1_5 l1_6 a1_7).bind fun bt13017 => ((spec_EqualConstraint.f k t13005 t13006 t13007 t13008 t13009 t13010 t13013 t13016 bt13017.1 bt13017.2.1 bt13017.2.2.1 bt13017.2.2.2.1 bt13017.2.2.2.2.1 bt13017.2.2.2.2.2.1 bt13017.2.2.2.2.2.2.1 bt13017.2.2.2.2.2.2.2).bind fun t13029 => ((laws_toConstraint.f k a0_0 a0_1 a0_2 a0_3 a0_4 l0_5 l0_6 a0_7).bind fun bt13030 => ((laws_toConstraint.f k a1_0 a1_1 a1_2 a1_3 a1_4 l1_5 l1_6 a1_7).bind fun bt13043 => ((impl_EqualConstraint.f k bt13030.1 bt13030.2.1 bt13030.2.2.1 bt13030.2.2.2.1 bt13030.2.2.2.2.1 bt13030.2.2.2.2.2.1 bt13030.2.2.2.2.2.2.1 bt13030.2.2.2.2.2.2.2 bt13043.1 bt13043.2.1 bt13043.2.2.1 bt13043.2.2.2.1 bt13043.2.2.2.2.1 bt13043.2.2.2.2.2.1 bt13043.2.2.2.2.2.2.1 bt13043.2.2.2.2.2.2.2).bind fun t13056 => (if (t13056 != t13029) = true then (some false) else ((laws_toConstraint.f k a0_0 a0_1 a0_2 a0_3 a0_4 l0_5 l0_6 a0_7).bind fun bt13057 => ((laws_eqConstraint.f k bt13030.1 bt13030.2.1 bt13030.2.2.1 bt13030.2.2.2.1 bt13030.2.2.2.2.1 bt13030.2.2.2.2.2.1 bt13030.2.2.2.2.2.2.1 bt13030.2.2.2.2.2.2.2 bt13057.1 bt13057.2.1 bt13057.2.2.1 bt13057.2.2.2.1 bt13057.2.2.2.2.1 bt13057.2.2.2.2.2.1 bt13057.2.2.2.2.2.2.1 bt13057.2.2.2.2.2.2.2).bind fun t13069 => (if t13069 = true then ((laws_toConstraint.f k a1_0 a1_1 a1_2 a1_3 a1_4 l1_5 l1_6 a1_7).bind fun bt13070 => ((laws_eqConstraint.f k bt13043.1 bt13043.2.1 bt13043.2.2.1 bt13043.2.2.2.1 bt13043.2.2.2.2.1 bt13043.2.2.2.2.2.1 bt13043.2.2.2.2.2.2.1 bt13043.2.2.2.2.2.2.2 bt13070.1 bt13070.2.1 bt13070.2.2.1 bt13070.2.2.2.1 bt13070.2.2.2.2.1 bt13070.2.2.2.2.2.1 bt13070.2.2.2.2.2.2.1 bt13070.2.2.2.2.2.2.2).bind fun t13082 => (if t13082 = true then (some true) else (some false)))) else (some false)))))))))) = some r := H
      have A19 := Aside0.mk A190
      clear A190
      replace H := Option.bind_eq_some_iff.mp H
      obtain ⟨⟨t13017, t13018, t13019, t13020, t13021, t13022, t13025, t13028⟩, A200, H⟩ := H
      replace H : ((spec_EqualConstraint.f k t13005 t13006 t13007 t13008 t13009 t13010 t13013 t13016 t13017 t13018 t13019 t13020 t13021 t13022 t13025 t13028).bind fun t13029 => ((laws_toConstraint.f k a0_0 a0_1 a0_2 a0_3 a0_4 l0_5 l0_6 a0_7).bind fun bt13030 => ((laws_toConstraint.f k a1_0 a1_1 a1_2 a1_3 a1_4 l1_5 l1_6 a1_7).bind fun bt13043 => ((impl_EqualConstraint.f k bt13030.1 bt13030.2.1 bt13030.2.2.1 bt13030.2.2.2.1 bt13030.2.2.2.2.1 bt13030.2.2.2.2.2.1 bt13030.2.2.2.2.2.2.1 bt13030.2.2.2.2.2.2.2 bt13043.1 bt13043.2.1 bt13043.2.2.1 bt13043.2.2.2.1 bt13043.2.2.2.2.1 bt13043.2.2.2.2.2.1 bt13043.2.2.2.2.2.2.1 bt13043.2.2.2.2.2.2.2).bind fun t13056 => (if (t13056 != t13029) = true then (some false) else ((laws_toConstraint.f k a0_0 a0_1 a0_2 a0_3 a0_4 l0_5 l0_6 a0_7).bind fun bt13057 => ((laws_eqConstraint.f k bt13030.1 bt13030.2.1 bt13030.2.2.1 bt13030.2.2.2.1 bt13030.2.2.2.2.1 bt13030.2.2.2.2.2.1 bt13030.2.2.2.2.2.2.1 bt13030.2.2.2.2.2.2.2 bt13057.1 bt13057.2.1 bt13057.2.2.1 bt13057.2.2.2.1 bt13057.2.2.2.2.1 bt13057.2.2.2.2.2.1 bt13057.2.2.2.2.2.2.1 bt13057.2.2.2.2.2.2.2).bind fun t13069 => (if t13069 = true then ((laws_toConstraint.f k a1_0 a1_1 a1_2 a1_3 a1_4 l1_5 l1_6 a1_7).bind fun bt13070 => ((laws_eqConstraint.f k bt13043.1 bt13043.2.1 bt13043.2.2.1 bt13043.2.2.2.1 bt13043.2.2.2.2.1 bt13043.2.2.2.2.2.1 bt13043.2.2.2.2.2.2.1 bt13043.2.2.2.2.2.2.2 bt13070.1 bt13070.2.1 bt13070.2.2.1 bt13070.2.2.2.1 bt13070.2.2.2.2.1 bt13070.2.2.2.2.2.1 bt13070.2.2.2.2.2.2.1 bt13070.2.2.2.2.2.2.2).bind fun t13082 => (if t13082 = true then (some true) else (some false)))) else (some false))))))))) = some r := H
      have A20 := Aside0.mk A200
      clear A200
      replace H := Option.bind_eq_some_iff.mp H
      obtain ⟨t13029, A210, H⟩ := H
      replace H : ((laws_toConstraint.f k a0_0 a0_1 a0_2 a0_3 a0_4 l0_5 l0_6 a0_7).bind fun bt13030 => ((laws_toConstraint.f k a1_0 a1_1 a1_2 a1_3 a1_4 l1_5 l1_6 a1_7).bind fun bt13043 => ((impl_EqualConstraint.f k bt13030.1 bt13030.2.1 bt13030.2.2.1 bt13030.2.2.2.1 bt13030.2.2.2.2.1 bt13030.2.2.2.2.2.1 bt13030.2.2.2.2.2.2.1 bt13030.2.2.2.2.2.2.2 bt13043.1 bt13043.2.1 bt13043.2.2.1 bt13043.2.2.2.1 bt13043.2.2.2.2.1 bt13043.2.2.2.2.2.1 bt13043.2.2.2.2.2.2.1 bt13043.2.2.2.2.2.2.2).bind fun t13056 => (if (t13056 != t13029) = true then (some false) else ((laws_toConstraint.f k a0_0 a0_1 a0_2 a0_3 a0_4 l0_5 l0_6 a0_7).bind fun bt13057 => ((laws_eqConstraint.f k bt13030.1 bt13030.2.1 bt13030.2.2.1 bt13030.2.2.2.1 bt13030.2.2.2.2.1 bt13030.2.2.2.2.2.1 bt13030.2.2.2.2.2.2.1 bt13030.2.2.2.2.2.2.2 bt13057.1 bt13057.2.1 bt13057.2.2.1 bt13057.2.2.2.1 bt13057.2.2.2.2.1 bt13057.2.2.2.2.2.1 bt13057.2.2.2.2.2.2.1 bt13057.2.2.2.2.2.2.2).bind fun t13069 => (if t13069 = true then ((laws_toConstraint.f k a1_0 a1_1 a1_2 a1_3 a1_4 l1_5 l1_6 a1_7).bind fun bt13070 => ((laws_eqConstraint.f k bt13043.1 bt13043.2.1 bt13043.2.2.1 bt13043.2.2.2.1 bt13043.2.2.2.2.1 bt13043.2.2.2.2.2.1 bt13043.2.2.2.2.2.2.1 bt13043.2.2.2.2.2.2.2 bt13070.1 bt13070.2.1 bt13070.2.2.1 bt13070.2.2.2.1 bt13070.2.2.2.2.1 bt13070.2.2.2.2.2.1 bt13070.2.2.2.2.2.2.1 bt13070.2.2.2.2.2.2.2).bind fun t13082 => (if t13082 = true then (some true) else (some false)))) else (some false)))))))) = some r := H
      have A21 := Aside0.mk A210
      clear A210
      replace H := Option.bind_eq_some_iff.mp H
      obtain ⟨⟨t13030, t13031, t13032, t13033, t13034, t13035, t13038, t13041⟩, A220, H⟩ := H
      replace H : ((laws_toConstraint.f k a1_0 a1_1 a1_2 a1_3 a1_4 l1_5 l1_6 a1_7).bind fun bt13043 => ((impl_EqualConstraint.f k t13030 t13031 t13032 t13033 t13034 t13035 t13038 t13041 bt13043.1 bt13043.2.1 bt13043.2.2.1 bt13043.2.2.2.1 bt13043.2.2.2.2.1 bt13043.2.2.2.2.2.1 bt13043.2.2.2.2.2.2.1 bt13043.2.2.2.2.2.2.2).bind fun t13056 => (if (t13056 != t13029) = true then (some false) else ((laws_toConstraint.f k a0_0 a0_1 a0_2 a0_3 a0_4 l0_5 l0_6 a0_7).bind fun bt13057 => ((laws_eqConstraint.f k t13030 t13031 t13032 t13033 t13034 t13035 t13038 t13041 bt13057.1 bt13057.2.1 bt13057.2.2.1 bt13057.2.2.2.1 bt13057.2.2.2.2.1 bt13057.2.2.2.2.2.1 bt13057.2.2.2.2.2.2.1 bt13057.2.2.2.2.2.2.2).bind fun t13069 => (if t13069 = true then ((laws_toConstraint.f k a1_0 a1_1 a1_2 a1_3 a1_4 l1_5 l1_6 a1_7).bind fun bt13070 => ((laws_eqConstraint.f k bt13043.1 bt13043.2.1 bt13043.2.2.1 bt13043.2.2.2.1 bt13043.2.2.2.2.1 bt13043.2.2.2.2.2.1 bt13043.2.2.2.2.2.2.1 bt13043.2.2.2.2.2.2.2 bt13070.1 bt13070.2.1 bt13070.2.2.1 bt13070.2.2.2.1 bt13070.2.2.2.2.1 bt13070.2.2.2.2.2.1 bt13070.2.2.2.2.2.2.1 bt13070.2.2.2.2.2.2.2).bind fun t13082 => (if t13082 = true then (some true) else (some false)))) else (some false))))))) = some r := H
      have A22 := Aside0.mk A220
      clear A220
      replace H := Option.bind_eq_some_iff.mp H
      obtain ⟨⟨t13043, t13044, t13045, t13046, t13047, t13048, t13051, t13054⟩, A230, H⟩ := H
      replace H : ((impl_EqualConstraint.f k t13030 t13031 t13032 t13033 t13034 t13035 t13038 t13041 t13043 t13044 t13045 t13046 t13047 t13048 t13051 t13054).bind fun t13056 => (if (t13056 != t13029) = true then (some false) else ((laws_toConstraint.f k a0_0 a0_1 a0_2 a0_3 a0_4 l0_5 l0_6 a0_7).bind fun bt13057 => ((laws_eqConstraint.f k t13030 t13031 t13032 t13033 t13034 t13035 t13038 t13041 bt13057.1 bt13057.2.1 bt13057.2.2.1 bt13057.2.2.2.1 bt13057.2.2.2.2.1 bt13057.2.2.2.2.2.1 bt13057.2.2.2.2.2.2.1 bt13057.2.2.2.2.2.2.2).bind fun t13069 => (if t13069 = true then ((laws_toConstraint.f k a1_0 a1_1 a1_2 a1_3 a1_4 l1_5 l1_6 a1_7).bind fun bt13070 => ((laws_eqConstraint.f k t13043 t13044 t13045 t13046 t13047 t13048 t13051 t13054 bt13070.1 bt13070.2.1 bt13070.2.2.1 bt13070.2.2.2.1 bt13070.2.2.2.2.1 bt13070.2.2.2.2.2.1 bt13070.2.2.2.2.2.2.1 bt13070.2.2.2.2.2.2.2).bind fun t13082 => (if t13082 = true then (some true) else (some false)))) else (some false)))))) = some r := H
      have A23 := Aside0.mk A230
      clear A230
      replace H := Option.bind_eq_some_iff.mp H
      obtain ⟨t13056, A240, H⟩ := H
      replace H : (if (t13056 != t13029) = true then (some false) else ((laws_toConstraint.f k a0_0 a0_1 a0_2 a0_3 a0_4 l0_5 l0_6 a0_7).bind fun bt13057 => ((laws_eqConstraint.f k t13030 t13031 t13032 t13033 t13034 t13035 t13038 t13041 bt13057.1 bt13057.2.1 bt13057.2.2.1 bt13057.2.2.2.1 bt13057.2.2.2.2.1 bt13057.2.2.2.2.2.1 bt13057.2.2.2.2.2.2.1 bt13057.2.2.2.2.2.2.2).bind fun t13069 => (if t13069 = true then ((laws_toConstraint.f k a1_0 a1_1 a1_2 a1_3 a1_4 l1_5 l1_6 a1_7).bind fun bt13070 => ((laws_eqConstraint.f k t13043 t13044 t13045 t13046 t13047 t13048 t13051 t13054 bt13070.1 bt13070.2.1 bt13070.2.2.1 bt13070.2.2.2.1 bt13070.2.2.2.2.1 bt13070.2.2.2.2.2.1 bt13070.2.2.2.2.2.2.1 bt13070.2.2.2.2.2.2.2).bind fun t13082 => (if t13082 = true then (some true) else (some false)))) else (some false))))) = some r := H
      have A24 := Aside0.mk A240
      clear A240
      by_cases c25 : (t13056 != t13029) = true
      · rw [if_pos c25] at H
        have c25b0 : (t13056 != t13029) = true := c25
        (try (have c25b1 : decide (t13056 = t13029) = false := by simpa using c25))
        (try (have c25b2 : (t13056 == t13029) = false := by simpa using c25))
        (try (have c25b3 : ¬ (t13056 = t13029) := by simpa using c25))
        clear c25
        exact absurd ((Option.some.inj H).trans HRT_.out) (by decide)
      · rw [if_neg c25] at H
        have c25b0 : (t13056 != t13029) = false := by simpa using c25
        (try (have c25b1 : decide (t13056 = t13029) = true := by simpa using c25))
        (try (have c25b2 : (t13056 == t13029) = true := by simpa using c25))
        clear c25
        replace H := Option.bind_eq_some_iff.mp H
        obtain ⟨⟨t13057, t13058, t13059, t13060, t13061, t13062, t13065, t13068⟩, A600, H⟩ := H
        replace H : ((laws_eqConstraint.f k t13030 t13031 t13032 t13033 t13034 t13035 t13038 t13041 t13057 t13058 t13059 t13060 t13061 t13062 t13065 t13068).bind fun t13069 => (if t13069 = true then ((laws_toConstraint.f k a1_0 a1_1 a1_2 a1_3 a1_4 l1_5 l1_6 a1_7).bind fun bt13070 => ((laws_eqConstraint.f k t13043 t13044 t13045 t13046 t13047 t13048 t13051 t13054 bt13070.1 bt13070.2.1 bt13070.2.2.1 bt13070.2.2.2.1 bt13070.2.2.2.2.1 bt13070.2.2.2.2.2.1 bt13070.2.2.2.2.2.2.1 bt13070.2.2.2.2.2.2.2).bind fun t13082 => (if t13082 = true then (some true) else (some false)))) else (some false))) = some r := H
        have A60 := Aside0.mk A600
        clear A600
        replace H := Option.bind_eq_some_iff.mp H
        obtain ⟨t13069, A610, H⟩ := H
        replace H : (if t13069 = true then ((laws_toConstraint.f k a1_0 a1_1 a1_2 a1_3 a1_4 l1_5 l1_6 a1_7).bind fun bt13070 => ((laws_eqConstraint.f k t13043 t13044 t13045 t13046 t13047 t13048 t13051 t13054 bt13070.1 bt13070.2.1 bt13070.2.2.1 bt13070.2.2.2.1 bt13070.2.2.2.2.1 bt13070.2.2.2.2.2.1 bt13070.2.2.2.2.2.2.1 bt13070.2.2.2.2.2.2.2).bind fun t13082 => (if t13082 = true then (some true) else (some false)))) else (some false)) = some r := H
        have A61 := Aside0.mk A610
        clear A610
        by_cases c62 : t13069 = true
        · subst c62
          have H1 : ((laws_toConstraint.f k a1_0 a1_1 a1_2 a1_3 a1_4 l1_5 l1_6 a1_7).bind fun bt13070 => ((laws_eqConstraint.f k t13043 t13044 t13045 t13046 t13047 t13048 t13051 t13054 bt13070.1 bt13070.2.1 bt13070.2.2.1 bt13070.2.2.2.1 bt13070.2.2.2.2.1 bt13070.2.2.2.2.2.1 bt13070.2.2.2.2.2.2.1 bt13070.2.2.2.2.2.2.2).bind fun t13082 => (if t13082 = true then (some true) else (some false)))) = some r := by rw [if_pos rfl] at H; exact H
          clear H
          have H := H1
          clear H1
          replace H := Option.bind_eq_some_iff.mp H
          obtain ⟨⟨t13070, t13071, t13072, t13073, t13074, t13075, t13078, t13081⟩, A630, H⟩ := H
          replace H : ((laws_eqConstraint.f k t13043 t13044 t13045 t13046 t13047 t13048 t13051 t13054 t13070 t13071 t13072 t13073 t13074 t13075 t13078 t13081).bind fun t13082 => (if t13082 = true then (some true) else (some false))) = some r := H
          have A63 := Aside0.mk A630
          clear A630
          replace H := Option.bind_eq_some_iff.mp H
          obtain ⟨t13082, A640, H⟩ := H
          replace H : (if t13082 = true then (some true) else (some false)) = some r := H
          have A64 := Aside0.mk A640
          clear A640
          by_cases c65 : t13082 = true
          · subst c65
            have H1 : (some true) = some r := by rw [if_pos rfl] at H; exact H
            clear H
            have H := H1
            clear H1
            obtain rfl := Option.some.inj H
            go_enter Try.func13, Try.ntmps13
            try go_wp2_with (first | ((with_reducible refine gate_dst (N := 2) rfl ?_); refine box_event ?hg (N := 2) ?hd (cs := #[.int .i64 a0_0, .string a0_1, .string a0_2, .int .i64 a0_3, .string a0_4, .slice A0_5 l0_5.length c0_5, .slice A0_6 l0_6.length c0_6, .int .i64 a0_7]) (t := 92) ?hr ?_; (case hd => rfl); (case hg => rfl); (case hr => first | (go_simp; done) | (go_simp; rfl)); intro gb13001 hg w66 hbox hb; have n0_ := Aside0.mk (below_step (by repeat (first | (with_reducible first | exact HB.out | apply below_alloc | apply pw_below_drewN | apply below_drew1) | exact HB.out)) hb); have n1_ := Aside0.mk (hbox); have n2_ := Aside0.mk ((by rw [hg]; exact (below_size (by repeat (first | (with_reducible first | exact HB.out | apply below_alloc | apply pw_below_drewN | apply below_drew1) | exact HB.out))) : w.heap.size ≤ gb13001)); have n3_ := Aside0.mk ((by rw [hg]; exact (below_size (by repeat (first | (with_reducible first | exact HB.out | apply below_alloc | apply pw_below_drewN | apply below_drew1) | exact HB.out))) : w.heap.size ≤ gb13001)); clear HB; have HB := n0_; have BK13001 := n1_; have GW13001 := n2_; have GE13001 := n3_; clear n0_ n1_ n2_ n3_; clear hb hbox hg) | ((with_reducible refine gate_dst (N := 3) rfl ?_); refine box_event ?hg (N := 3) ?hd (cs := #[.int .i64 a1_0, .string a1_1, .string a1_2, .int .i64 a1_3, .string a1_4, .slice A1_5 l1_5.length c1_5, .slice A1_6 l1_6.length c1_6, .int .i64 a1_7]) (t := 92) ?hr ?_; (case hd => rfl); (case hg => rfl); (case hr => first | (go_simp; done) | (go_simp; rfl)); intro gb13002 hg w67 hbox hb; have n0_ := Aside0.mk (blk_below (g := gb13001) (o := .cells #[.int .i64 a0_0, .string a0_1, .string a0_2, .int .i64 a0_3, .string a0_4, .slice A0_5 l0_5.length c0_5, .slice A0_6 l0_6.length c0_6, .int .i64 a0_7] 92 (0, 0)) (by (with_reducible repeat (first | refine blk_drewN ?_ _ | refine blk_drew ?_ | refine blk_alloc ?_ _)); exact BK13001.out) hb); have n1_ := Aside0.mk (below_step (by repeat (first | (with_reducible first | exact HB.out | apply below_alloc | apply pw_below_drewN | apply below_drew1 | refine below_set ?_ GE13001.out) | exact HB.out)) hb); have n2_ := Aside0.mk (hbox); have n3_ := Aside0.mk ((by rw [hg]; exact (below_size (by repeat (first | (with_reducible first | exact HB.out | apply below_alloc | apply pw_below_drewN | apply below_drew1 | refine below_set ?_ GE13001.out) | exact HB.out))) : w.heap.size ≤ gb13002)); have n4_ := Aside0.mk ((by rw [hg]; exact (below_size (by repeat (first | (with_reducible first | exact HB.out | apply below_alloc | apply pw_below_drewN | apply below_drew1 | refine below_set ?_ GE13001.out) | exact HB.out))) : w.heap.size ≤ gb13002)); have n5_ := Aside0.mk ((by rw [hg]; exact Nat.ne_of_lt (blk_lt (g := gb13001) (o := .cells #[.int .i64 a0_0, .string a0_1, .string a0_2, .int .i64 a0_3, .string a0_4, .slice A0_5 l0_5.length c0_5, .slice A0_6 l0_6.length c0_6, .int .i64 a0_7] 92 (0, 0)) (by (with_reducible repeat (first | refine blk_drewN ?_ _ | refine blk_drew ?_ | refine blk_alloc ?_ _)); exact BK13001.out)) : gb13001 ≠ gb13002)); have n6_ := Aside0.mk ((by rw [hg]; exact Nat.ne_of_gt (blk_lt (g := gb13001) (o := .cells #[.int .i64 a0_0, .string a0_1, .string a0_2, .int .i64 a0_3, .string a0_4, .slice A0_5 l0_5.length c0_5, .slice A0_6 l0_6.length c0_6, .int .i64 a0_7] 92 (0, 0)) (by (with_reducible repeat (first | refine blk_drewN ?_ _ | refine blk_drew ?_ | refine blk_alloc ?_ _)); exact BK13001.out)) : gb13002 ≠ gb13001)); clear BK13001; clear HB; have BK13001 := n0_; have HB := n1_; have BK13002 := n2_; have GW13002 := n3_; have GE13002 := n4_; have NB13001_13002 := n5_; have NB13002_13001 := n6_; clear n0_ n1_ n2_ n3_ n4_ n5_ n6_; clear hb hbox hg; have hnb68 := NB13001_13002.out; have hnc68 := NB13002_13001.out; have hcz69_0 : w67.cell? ⟨gb13001, 0, none⟩ = some (.int .i64 a0_0) := (blk_cell BK13001.out 0).trans rfl; have hcz69_1 : w67.cell? ⟨gb13001, 1, none⟩ = some (.string a0_1) := (blk_cell BK13001.out 1).trans rfl; have hcz69_2 : w67.cell? ⟨gb13001, 2, none⟩ = some (.string a0_2) := (blk_cell BK13001.out 2).trans rfl; have hcz69_3 : w67.cell? ⟨gb13001, 3, none⟩ = some (.int .i64 a0_3) := (blk_cell BK13001.out 3).trans rfl; have hcz69_4 : w67.cell? ⟨gb13001, 4, none⟩ = some (.string a0_4) := (blk_cell BK13001.out 4).trans rfl; have hcz69_5 : w67.cell? ⟨gb13001, 5, none⟩ = some (.slice A0_5 l0_5.length c0_5) := (blk_cell BK13001.out 5).trans rfl; have hcz69_6 : w67.cell? ⟨gb13001, 6, none⟩ = some (.slice A0_6 l0_6.length c0_6) := (blk_cell BK13001.out 6).trans rfl; have hcz69_7 : w67.cell? ⟨gb13001, 7, none⟩ = some (.int .i64 a0_7) := (blk_cell BK13001.out 7).trans rfl; have hfz69_0 := blk_frozen BK13001.out 0; have hfz69_1 := blk_frozen BK13001.out 1; have hfz69_2 := blk_frozen BK13001.out 2; have hfz69_3 := blk_frozen BK13001.out 3; have hfz69_4 := blk_frozen BK13001.out 4; have hfz69_5 := blk_frozen BK13001.out 5; have hfz69_6 := blk_frozen BK13001.out 6; have hfz69_7 := blk_frozen BK13001.out 7) | ((with_reducible refine gate_callee (f := 58) rfl ?_); refine goesL_ (some 12) rfl rfl Try.func58 (by kernel_rfl) rfl #[.agg #[.int .i64 a0_0, .string a0_1, .string a0_2, .int .i64 a0_3, .string a0_4, .slice A0_5 l0_5.length c0_5, .slice A0_6 l0_6.length c0_6, .int .i64 a0_7], .int .i64 1048576] rfl (by (try simp only [List.map_toArray, List.map_cons, List.map_nil]); first | done | rfl | (simp only [List.length_drop, List.length_take]; rfl)) ?_; (with_reducible refine (laws_szConstraint.calls k a0_0 a0_1 a0_2 a0_3 a0_4 _ _ l0_5 _ _ l0_6 a0_7 1048576 t13003 _ ?side1 ?side2 ?side3 ?side4 A3.out).mono ?_); (case side1 => repeat (first | exact (Kd.C_below HR0_5.out HB.out) | (with_reducible refine Kd.C_alloc ?_ _) | (with_reducible refine Kd.C_drewN ?_ _) | (with_reducible refine Kd.C_drew ?_))); (case side2 => exact HC0_5.out); (case side3 => repeat (first | exact (Kd.C_below HR0_6.out HB.out) | (with_reducible refine Kd.C_alloc ?_ _) | (with_reducible refine Kd.C_drewN ?_ _) | (with_reducible refine Kd.C_drew ?_))); (case side4 => exact HC0_6.out); rintro e w70 ⟨rfl, hb⟩; refine ⟨_, rfl, ?_⟩; have n0_ := Aside0.mk (blk_below (g := gb13001) (o := .cells #[.int .i64 a0_0, .string a0_1, .string a0_2, .int .i64 a0_3, .string a0_4, .slice A0_5 l0_5.length c0_5, .slice A0_6 l0_6.length c0_6, .int .i64 a0_7] 92 (0, 0)) (by (with_reducible repeat (first | refine blk_drewN ?_ _ | refine blk_drew ?_ | refine blk_alloc ?_ _)); exact BK13001.out) hb); have n1_ := Aside0.mk (blk_below (g := gb13002) (o := .cells #[.int .i64 a1_0, .string a1_1, .string a1_2, .int .i64 a1_3, .string a1_4, .slice A1_5 l1_5.length c1_5, .slice A1_6 l1_6.length c1_6, .int .i64 a1_7] 92 (0, 0)) (by (with_reducible repeat (first | refine blk_drewN ?_ _ | refine blk_drew ?_ | refine blk_alloc ?_ _)); exact BK13002.out) hb); have n2_ := Aside0.mk (below_step (by repeat (first | (with_reducible first | exact HB.out | apply below_alloc | apply pw_below_drewN | apply below_drew1 | refine below_set ?_ GE13001.out | refine below_set ?_ GE13002.out) | exact HB.out)) hb); clear BK13001; clear BK13002; clear HB; have BK13001 := n0_; have BK13002 := n1_; have HB := n2_; clear n0_ n1_ n2_; (try clear hb); (try clear hb2); (try clear hk); (try clear hi); have hcz71_0 : w70.cell? ⟨gb13002, 0, none⟩ = some (.int .i64 a1_0) := (blk_cell BK13002.out 0).trans rfl; have hcz71_1 : w70.cell? ⟨gb13002, 1, none⟩ = some (.string a1_1) := (blk_cell BK13002.out 1).trans rfl; have hcz71_2 : w70.cell? ⟨gb13002, 2, none⟩ = some (.string a1_2) := (blk_cell BK13002.out 2).trans rfl; have hcz71_3 : w70.cell? ⟨gb13002, 3, none⟩ = some (.int .i64 a1_3) := (blk_cell BK13002.out 3).trans rfl; have hcz71_4 : w70.cell? ⟨gb13002, 4, none⟩ = some (.string a1_4) := (blk_cell BK13002.out 4).trans rfl; have hcz71_5 : w70.cell? ⟨gb13002, 5, none⟩ = some (.slice A1_5 l1_5.length c1_5) := (blk_cell BK13002.out 5).trans rfl; have hcz71_6 : w70.cell? ⟨gb13002, 6, none⟩ = some (.slice A1_6 l1_6.length c1_6) := (blk_cell BK13002.out 6).trans rfl; have hcz71_7 : w70.cell? ⟨gb13002, 7, none⟩ = some (.int .i64 a1_7) := (blk_cell BK13002.out 7).trans rfl; have hfz71_0 := blk_frozen BK13002.out 0; have hfz71_1 := blk_frozen BK13002.out 1; have hfz71_2 := blk_frozen BK13002.out 2; have hfz71_3 := blk_frozen BK13002.out 3; have hfz71_4 := blk_frozen BK13002.out 4; have hfz71_5 := blk_frozen BK13002.out 5; have hfz71_6 := blk_frozen BK13002.out 6; have hfz71_7 := blk_frozen BK13002.out 7) | ((with_reducible refine gate_callee (f := 58) rfl ?_); refine goesL_ (some 17) rfl rfl Try.func58 (by kernel_rfl) rfl #[.agg #[.int .i64 a1_0, .string a1_1, .string a1_2, .int .i64 a1_3, .string a1_4, .slice A1_5 l1_5.length c1_5, .slice A1_6 l1_6.length c1_6, .int .i64 a1_7], .int .i64 t13003] rfl (by (try simp only [List.map_toArray, List.map_cons, List.map_nil]); first | done | rfl | (simp only [List.length_drop, List.length_take]; rfl)) ?_; (with_reducible refine (laws_szConstraint.calls k a1_0 a1_1 a1_2 a1_3 a1_4 _ _ l1_5 _ _ l1_6 a1_7 t13003 t13004 _ ?side1 ?side2 ?side3 ?side4 A10.out).mono ?_); (case side1 => repeat (first | exact (Kd.C_below HR1_5.out HB.out) | (with_reducible refine Kd.C_alloc ?_ _) | (with_reducible refine Kd.C_drewN ?_ _) | (with_reducible refine Kd.C_drew ?_))); (case side2 => exact HC1_5.out); (case side3 => repeat (first | exact (Kd.C_below HR1_6.out HB.out) | (with_reducible refine Kd.C_alloc ?_ _) | (with_reducible refine Kd.C_drewN ?_ _) | (with_reducible refine Kd.C_drew ?_))); (case side4 => exact HC1_6.out); rintro e w72 ⟨rfl, hb⟩; refine ⟨_, rfl, ?_⟩; have n0_ := Aside0.mk (blk_below (g := gb13001) (o := .cells #[.int .i64 a0_0, .string a0_1, .string a0_2, .int .i64 a0_3, .string a0_4, .slice A0_5 l0_5.length c0_5, .slice A0_6 l0_6.length c0_6, .int .i64 a0_7] 92 (0, 0)) (by (with_reducible repeat (first | refine blk_drewN ?_ _ | refine blk_drew ?_ | refine blk_alloc ?_ _)); exact BK13001.out) hb); have n1_ := Aside0.mk (blk_below (g := gb13002) (o := .cells #[.int .i64 a1_0, .string a1_1, .string a1_2, .int .i64 a1_3, .string a1_4, .slice A1_5 l1_5.length c1_5, .slice A1_6 l1_6.length c1_6, .int .i64 a1_7] 92 (0, 0)) (by (with_reducible repeat (first | refine blk_drewN ?_ _ | refine blk_drew ?_ | refine blk_alloc ?_ _)); exact BK13002.out) hb); have n2_ := Aside0.mk (below_step (by repeat (first | (with_reducible first | exact HB.out | apply below_alloc | apply pw_below_drewN | apply below_drew1 | refine below_set ?_ GE13001.out | refine below_set ?_ GE13002.out) | exact HB.out)) hb); clear BK13001; clear BK13002; clear HB; have BK13001 := n0_; have BK13002 := n1_; have HB := n2_; clear n0_ n1_ n2_; (try clear hb); (try clear hb2); (try clear hk); (try clear hi)))
            have n0_ := Aside0.mk (blk_drew BK13001.out)
            have n1_ := Aside0.mk (blk_drew BK13002.out)
            have n2_ := Aside0.mk (below_drew1 HB.out)
            clear BK13001
            clear BK13002
            clear HB
            have BK13001 := n0_
            have BK13002 := n1_
            have HB := n2_
            clear n0_ n1_ n2_
            refine start_ (n := 6) (S := fun w' => w'.cell? ⟨gb13001, 0, none⟩ = some (.int .i64 a0_0) ∧ w'.cell? ⟨gb13001, 1, none⟩ = some (.string a0_1) ∧ w'.cell? ⟨gb13001, 2, none⟩ = some (.string a0_2) ∧ w'.cell? ⟨gb13001, 3, none⟩ = some (.int .i64 a0_3) ∧ w'.cell? ⟨gb13001, 4, none⟩ = some (.string a0_4) ∧ w'.cell? ⟨gb13001, 5, none⟩ = some (.slice A0_5 l0_5.length c0_5) ∧ w'.cell? ⟨gb13001, 6, none⟩ = some (.slice A0_6 l0_6.length c0_6) ∧ w'.cell? ⟨gb13001, 7, none⟩ = some (.int .i64 a0_7) ∧ w'.cell? ⟨gb13002, 0, none⟩ = some (.int .i64 a1_0) ∧ w'.cell? ⟨gb13002, 1, none⟩ = some (.string a1_1) ∧ w'.cell? ⟨gb13002, 2, none⟩ = some (.string a1_2) ∧ w'.cell? ⟨gb13002, 3, none⟩ = some (.int .i64 a1_3) ∧ w'.cell? ⟨gb13002, 4, none⟩ = some (.string a1_4) ∧ w'.cell? ⟨gb13002, 5, none⟩ = some (.slice A1_5 l1_5.length c1_5) ∧ w'.cell? ⟨gb13002, 6, none⟩ = some (.slice A1_6 l1_6.length c1_6) ∧ w'.cell? ⟨gb13002, 7, none⟩ = some (.int .i64 a1_7)) (ds := []) #[false, false, false, false, false, false] (by kernel_rfl) rfl rfl ⟨(blk_cell BK13001.out 0).trans rfl, (blk_cell BK13001.out 1).trans rfl, (blk_cell BK13001.out 2).trans rfl, (blk_cell BK13001.out 3).trans rfl, (blk_cell BK13001.out 4).trans rfl, (blk_cell BK13001.out 5).trans rfl, (blk_cell BK13001.out 6).trans rfl, (blk_cell BK13001.out 7).trans rfl, (blk_cell BK13002.out 0).trans rfl, (blk_cell BK13002.out 1).trans rfl, (blk_cell BK13002.out 2).trans rfl, (blk_cell BK13002.out 3).trans rfl, (blk_cell BK13002.out 4).trans rfl, (blk_cell BK13002.out 5).trans rfl, (blk_cell BK13002.out 6).trans rfl, (blk_cell BK13002.out 7).trans rfl⟩ (fun hHeld => ?_)
            generalize w72.drew = w73 at BK13001 BK13002 HB hHeld ⊢
            refine take_ (i := 0) (N := some 20) (v := ?_) (a' := ?_) #[true, false, false, false, false, false] rfl rfl (by kernel_rfl) (fun _ _ _ h => h) (Or.inl ⟨by rfl, ?_⟩) hHeld ?_ ?_
            rotate_left
            · rintro w' ⟨s0, s1, s2, s3, s4, s5, s6, s7, s8, s9, s10, s11, s12, s13, s14, s15⟩
              go_simp
              first | with_reducible rfl | (rw [if_neg (by omega)]; done)
            rotate_left
            · simp only [Act.put, List.setIfInBounds_toArray, List.set_cons_zero, List.set_cons_succ, i64_w, i32_w]
              rfl
            refine take_ (i := 2) (N := some 22) (v := ?_) (a' := ?_) #[true, false, true, false, false, false] rfl rfl (by kernel_rfl) (fun _ _ _ h => h) (Or.inl ⟨by rfl, ?_⟩) hHeld ?_ ?_
            rotate_left
            · rintro w' ⟨s0, s1, s2, s3, s4, s5, s6, s7, s8, s9, s10, s11, s12, s13, s14, s15⟩
              go_simp
              first | with_reducible rfl | (rw [if_neg (by omega)]; done)
            rotate_left
            · simp only [Act.put, List.setIfInBounds_toArray, List.set_cons_zero, List.set_cons_succ, i64_w, i32_w]
              rfl
            refine one_ (i := 1) (N := some 21) #[true, true, true, false, false, false] rfl rfl (by kernel_rfl) (by decide) (fun K hK => ?_)
            refine goes_ Try.func60 (by kernel_rfl) rfl #[.agg #[.int .i64 a0_0, .string a0_1, .string a0_2, .int .i64 a0_3, .string a0_4, .slice A0_5 l0_5.length c0_5, .slice A0_6 l0_6.length c0_6, .int .i64 a0_7]] (by rfl) rfl rfl (by (try simp only [List.map_toArray, List.map_cons, List.map_nil]); first | done | rfl | (simp only [List.length_drop, List.length_take]; rfl)) ?_
            with_reducible refine (laws_toConstraint.calls k a0_0 a0_1 a0_2 a0_3 a0_4 _ _ l0_5 _ _ l0_6 a0_7 t13005 t13006 t13007 t13008 t13009 t13010 t13013 t13016 _ ?side1 ?side2 ?side3 ?side4 A19.out).mono ?_
            (case side1 => repeat (first | exact (Kd.C_below HR0_5.out HB.out) | (with_reducible refine Kd.C_alloc ?_ _) | (with_reducible refine Kd.C_drewN ?_ _) | (with_reducible refine Kd.C_drew ?_)))
            (case side2 => exact HC0_5.out)
            (case side3 => repeat (first | exact (Kd.C_below HR0_6.out HB.out) | (with_reducible refine Kd.C_alloc ?_ _) | (with_reducible refine Kd.C_drewN ?_ _) | (with_reducible refine Kd.C_drew ?_)))
            (case side4 => exact HC0_6.out)
            rintro e w74 ⟨v13011, v13014, rfl, ho0, ho1, hb⟩
            refine ⟨_, rfl, ?_⟩
            have n0_ := Aside0.mk (Kd.R_lower ho0 (below_size (by repeat (first | (with_reducible first | exact HB.out | apply below_alloc | apply pw_below_drewN | apply below_drew1 | refine below_set ?_ GE13001.out | refine below_set ?_ GE13002.out) | exact HB.out))))
            have n1_ := Aside0.mk (Kd.R_lower ho1 (below_size (by repeat (first | (with_reducible first | exact HB.out | apply below_alloc | apply pw_below_drewN | apply below_drew1 | refine below_set ?_ GE13001.out | refine below_set ?_ GE13002.out) | exact HB.out))))
            have n2_ := Aside0.mk (blk_below (g := gb13001) (o := .cells #[.int .i64 a0_0, .string a0_1, .string a0_2, .int .i64 a0_3, .string a0_4, .slice A0_5 l0_5.length c0_5, .slice A0_6 l0_6.length c0_6, .int .i64 a0_7] 92 (0, 0)) (by (with_reducible repeat (first | refine blk_drewN ?_ _ | refine blk_drew ?_ | refine blk_alloc ?_ _)); exact BK13001.out) hb)
            have n3_ := Aside0.mk (blk_below (g := gb13002) (o := .cells #[.int .i64 a1_0, .string a1_1, .string a1_2, .int .i64 a1_3, .string a1_4, .slice A1_5 l1_5.length c1_5, .slice A1_6 l1_6.length c1_6, .int .i64 a1_7] 92 (0, 0)) (by (with_reducible repeat (first | refine blk_drewN ?_ _ | refine blk_drew ?_ | refine blk_alloc ?_ _)); exact BK13002.out) hb)
            have n4_ := Aside0.mk (below_step (by repeat (first | (with_reducible first | exact HB.out | apply below_alloc | apply pw_below_drewN | apply below_drew1 | refine below_set ?_ GE13001.out | refine below_set ?_ GE13002.out) | exact HB.out)) hb)
            clear BK13001
            clear BK13002
            clear HB
            have HO13012 := n0_
            have HO13015 := n1_
            have BK13001 := n2_
            have BK13002 := n3_
            have HB := n4_
            clear n0_ n1_ n2_ n3_ n4_
            (try clear hb)
            (try clear hb2)
            (try clear hk)
            (try clear hi)
            (try clear ho0)
            (try clear ho1)
            refine hK.out _ _ ⟨(blk_cell BK13001.out 0).trans rfl, (blk_cell BK13001.out 1).trans rfl, (blk_cell BK13001.out 2).trans rfl, (blk_cell BK13001.out 3).trans rfl, (blk_cell BK13001.out 4).trans rfl, (blk_cell BK13001.out 5).trans rfl, (blk_cell BK13001.out 6).trans rfl, (blk_cell BK13001.out 7).trans rfl, (blk_cell BK13002.out 0).trans rfl, (blk_cell BK13002.out 1).trans rfl, (blk_cell BK13002.out 2).trans rfl, (blk_cell BK13002.out 3).trans rfl, (blk_cell BK13002.out 4).trans rfl, (blk_cell BK13002.out 5).trans rfl, (blk_cell BK13002.out 6).trans rfl, (blk_cell BK13002.out 7).trans rfl⟩ (fun hHeld => ?_)
            clear hK K
            refine norm_ (a' := ?_) ?_ ?_
            rotate_left
            · show Act.put _ (some 21) _ = _
              simp only [Act.put, List.setIfInBounds_toArray, List.set_cons_zero, List.set_cons_succ, i64_w, i32_w]
              rfl
            refine one_ (i := 3) (N := some 23) #[true, true, true, true, false, false] rfl rfl (by kernel_rfl) (by decide) (fun K hK => ?_)
            refine goes_ Try.func60 (by kernel_rfl) rfl #[.agg #[.int .i64 a1_0, .string a1_1, .string a1_2, .int .i64 a1_3, .string a1_4, .slice A1_5 l1_5.length c1_5, .slice A1_6 l1_6.length c1_6, .int .i64 a1_7]] (by rfl) rfl rfl (by (try simp only [List.map_toArray, List.map_cons, List.map_nil]); first | done | rfl | (simp only [List.length_drop, List.length_take]; rfl)) ?_
            with_reducible refine (laws_toConstraint.calls k a1_0 a1_1 a1_2 a1_3 a1_4 _ _ l1_5 _ _ l1_6 a1_7 t13017 t13018 t13019 t13020 t13021 t13022 t13025 t13028 _ ?side1 ?side2 ?side3 ?side4 A20.out).mono ?_
            (case side1 => repeat (first | exact (Kd.C_below HR1_5.out HB.out) | (with_reducible refine Kd.C_alloc ?_ _) | (with_reducible refine Kd.C_drewN ?_ _) | (with_reducible refine Kd.C_drew ?_)))
            (case side2 => exact HC1_5.out)
            (case side3 => repeat (first | exact (Kd.C_below HR1_6.out HB.out) | (with_reducible refine Kd.C_alloc ?_ _) | (with_reducible refine Kd.C_drewN ?_ _) | (with_reducible refine Kd.C_drew ?_)))
            (case side4 => exact HC1_6.out)
            rintro e w75 ⟨v13023, v13026, rfl, ho0, ho1, hb⟩
            refine ⟨_, rfl, ?_⟩
            have n0_ := Aside0.mk (Kd.R_elder' (by (with_reducible repeat (first | apply Kd.R_alloc | apply Kd.R_drewN | apply Kd.R_drew)); exact HO13012.out) (Kd.R_base ho0) hb)
            have n1_ := Aside0.mk (Kd.R_elder' (by (with_reducible repeat (first | apply Kd.R_alloc | apply Kd.R_drewN | apply Kd.R_drew)); exact HO13015.out) (Kd.R_base ho1) hb)
            have n2_ := Aside0.mk (Kd.R_lower (Kd.R_new' ho0 (Kd.R_lt (by (with_reducible repeat (first | apply Kd.R_alloc | apply Kd.R_drewN | apply Kd.R_drew)); exact HO13012.out))) (below_size (by repeat (first | (with_reducible first | exact HB.out | apply below_alloc | apply pw_below_drewN | apply below_drew1 | refine below_set ?_ GE13001.out | refine below_set ?_ GE13002.out) | exact HB.out))))
            have n3_ := Aside0.mk (Kd.R_lower (Kd.R_new' ho1 (Kd.R_lt (by (with_reducible repeat (first | apply Kd.R_alloc | apply Kd.R_drewN | apply Kd.R_drew)); exact HO13015.out))) (below_size (by repeat (first | (with_reducible first | exact HB.out | apply below_alloc | apply pw_below_drewN | apply below_drew1 | refine below_set ?_ GE13001.out | refine below_set ?_ GE13002.out) | exact HB.out))))
            have n4_ := Aside0.mk (blk_below (g := gb13001) (o := .cells #[.int .i64 a0_0, .string a0_1, .string a0_2, .int .i64 a0_3, .string a0_4, .slice A0_5 l0_5.length c0_5, .slice A0_6 l0_6.length c0_6, .int .i64 a0_7] 92 (0, 0)) (by (with_reducible repeat (first | refine blk_drewN ?_ _ | refine blk_drew ?_ | refine blk_alloc ?_ _)); exact BK13001.out) hb)
            have n5_ := Aside0.mk (blk_below (g := gb13002) (o := .cells #[.int .i64 a1_0, .string a1_1, .string a1_2, .int .i64 a1_3, .string a1_4, .slice A1_5 l1_5.length c1_5, .slice A1_6 l1_6.length c1_6, .int .i64 a1_7] 92 (0, 0)) (by (with_reducible repeat (first | refine blk_drewN ?_ _ | refine blk_drew ?_ | refine blk_alloc ?_ _)); exact BK13002.out) hb)
            have n6_ := Aside0.mk (below_step (by repeat (first | (with_reducible first | exact HB.out | apply below_alloc | apply pw_below_drewN | apply below_drew1 | refine below_set ?_ GE13001.out | refine below_set ?_ GE13002.out) | exact HB.out)) hb)
            clear HO13012
            clear HO13015
            clear BK13001
            clear BK13002
            clear HB
            have HO13012 := n0_
            have HO13015 := n1_
            have HO13024 := n2_
            have HO13027 := n3_
            have BK13001 := n4_
            have BK13002 := n5_
            have HB := n6_
            clear n0_ n1_ n2_ n3_ n4_ n5_ n6_
            (try clear hb)
            (try clear hb2)
            (try clear hk)
            (try clear hi)
            (try clear ho0)
            (try clear ho1)
            obtain ⟨Ao76, co76, eo76⟩ := Kd.R_slice HO13012.out
            (first | subst eo76 | (injection eo76 with f1_ f2_ f3_; have f4_ := f1_.symm; have f5_ := f3_.symm; clear f1_ f2_ f3_; subst f4_; subst f5_))
            obtain ⟨Ao77, co77, eo77⟩ := Kd.R_slice HO13015.out
            (first | subst eo77 | (injection eo77 with f1_ f2_ f3_; have f4_ := f1_.symm; have f5_ := f3_.symm; clear f1_ f2_ f3_; subst f4_; subst f5_))
            obtain ⟨Ao78, co78, eo78⟩ := Kd.R_slice HO13024.out
            (first | subst eo78 | (injection eo78 with f1_ f2_ f3_; have f4_ := f1_.symm; have f5_ := f3_.symm; clear f1_ f2_ f3_; subst f4_; subst f5_))
            obtain ⟨Ao79, co79, eo79⟩ := Kd.R_slice HO13027.out
            (first | subst eo79 | (injection eo79 with f1_ f2_ f3_; have f4_ := f1_.symm; have f5_ := f3_.symm; clear f1_ f2_ f3_; subst f4_; subst f5_))
            refine hK.out _ _ ⟨(blk_cell BK13001.out 0).trans rfl, (blk_cell BK13001.out 1).trans rfl, (blk_cell BK13001.out 2).trans rfl, (blk_cell BK13001.out 3).trans rfl, (blk_cell BK13001.out 4).trans rfl, (blk_cell BK13001.out 5).trans rfl, (blk_cell BK13001.out 6).trans rfl, (blk_cell BK13001.out 7).trans rfl, (blk_cell BK13002.out 0).trans rfl, (blk_cell BK13002.out 1).trans rfl, (blk_cell BK13002.out 2).trans rfl, (blk_cell BK13002.out 3).trans rfl, (blk_cell BK13002.out 4).trans rfl, (blk_cell BK13002.out 5).trans rfl, (blk_cell BK13002.out 6).trans rfl, (blk_cell BK13002.out 7).trans rfl⟩ (fun hHeld => ?_)
            clear hK K
            refine norm_ (a' := ?_) ?_ ?_
            rotate_left
            · show Act.put _ (some 23) _ = _
              simp only [Act.put, List.setIfInBounds_toArray, List.set_cons_zero, List.set_cons_succ, i64_w, i32_w]
              rfl
            refine one_ (i := 4) (N := some 24) #[true, true, true, true, true, false] rfl rfl (by kernel_rfl) (by decide) (fun K hK => ?_)
            refine goes_ Try.func59 (by kernel_rfl) rfl #[.agg #[.int .i64 t13005, .string t13006, .string t13007, .int .i64 t13008, .string t13009, .slice Ao76 t13010.length co76, .slice Ao77 t13013.length co77, .int .i64 t13016], .agg #[.int .i64 t13017, .string t13018, .string t13019, .int .i64 t13020, .string t13021, .slice Ao78 t13022.length co78, .slice Ao79 t13025.length co79, .int .i64 t13028]] (by rfl) rfl rfl (by (try simp only [List.map_toArray, List.map_cons, List.map_nil]); first | done | rfl | (simp only [List.length_drop, List.length_take]; rfl)) ?_
            with_reducible refine (spec_EqualConstraint.calls k t13005 t13006 t13007 t13008 t13009 _ _ t13010 _ _ t13013 t13016 t13017 t13018 t13019 t13020 t13021 _ _ t13022 _ _ t13025 t13028 t13029 _ ?side1 ?side2 ?side3 ?side4 ?side5 ?side6 ?side7 ?side8 A21.out).mono ?_
            (case side1 => repeat (first | exact (Kd.R_reads' HO13012.out).2.2 | (with_reducible refine Kd.C_alloc ?_ _) | (with_reducible refine Kd.C_drewN ?_ _) | (with_reducible refine Kd.C_drew ?_)))
            (case side2 => exact (Kd.R_reads' HO13012.out).2.1)
            (case side3 => repeat (first | exact (Kd.R_reads' HO13015.out).2.2 | (with_reducible refine Kd.C_alloc ?_ _) | (with_reducible refine Kd.C_drewN ?_ _) | (with_reducible refine Kd.C_drew ?_)))
            (case side4 => exact (Kd.R_reads' HO13015.out).2.1)
            (case side5 => repeat (first | exact (Kd.R_reads' HO13024.out).2.2 | (with_reducible refine Kd.C_alloc ?_ _) | (with_reducible refine Kd.C_drewN ?_ _) | (with_reducible refine Kd.C_drew ?_)))
            (case side6 => exact (Kd.R_reads' HO13024.out).2.1)
            (case side7 => repeat (first | exact (Kd.R_reads' HO13027.out).2.2 | (with_reducible refine Kd.C_alloc ?_ _) | (with_reducible refine Kd.C_drewN ?_ _) | (with_reducible refine Kd.C_drew ?_)))
            (case side8 => exact (Kd.R_reads' HO13027.out).2.1)
            rintro e w80 ⟨rfl, hb⟩
            refine ⟨_, rfl, ?_⟩
            have n0_ := Aside0.mk (Kd.R_below (by (with_reducible repeat (first | apply Kd.R_alloc | apply Kd.R_drewN | apply Kd.R_drew)); exact HO13012.out) hb)
            have n1_ := Aside0.mk (Kd.R_below (by (with_reducible repeat (first | apply Kd.R_alloc | apply Kd.R_drewN | apply Kd.R_drew)); exact HO13015.out) hb)
            have n2_ := Aside0.mk (Kd.R_below (by (with_reducible repeat (first | apply Kd.R_alloc | apply Kd.R_drewN | apply Kd.R_drew)); exact HO13024.out) hb)
            have n3_ := Aside0.mk (Kd.R_below (by (with_reducible repeat (first | apply Kd.R_alloc | apply Kd.R_drewN | apply Kd.R_drew)); exact HO13027.out) hb)
            have n4_ := Aside0.mk (blk_below (g := gb13001) (o := .cells #[.int .i64 a0_0, .string a0_1, .string a0_2, .int .i64 a0_3, .string a0_4, .slice A0_5 l0_5.length c0_5, .slice A0_6 l0_6.length c0_6, .int .i64 a0_7] 92 (0, 0)) (by (with_reducible repeat (first | refine blk_drewN ?_ _ | refine blk_drew ?_ | refine blk_alloc ?_ _)); exact BK13001.out) hb)
            have n5_ := Aside0.mk (blk_below (g := gb13002) (o := .cells #[.int .i64 a1_0, .string a1_1, .string a1_2, .int .i64 a1_3, .string a1_4, .slice A1_5 l1_5.length c1_5, .slice A1_6 l1_6.length c1_6, .int .i64 a1_7] 92 (0, 0)) (by (with_reducible repeat (first | refine blk_drewN ?_ _ | refine blk_drew ?_ | refine blk_alloc ?_ _)); exact BK13002.out) hb)
            have n6_ := Aside0.mk (below_step (by repeat (first | (with_reducible first | exact HB.out | apply below_alloc | apply pw_below_drewN | apply below_drew1 | refine below_set ?_ GE13001.out | refine below_set ?_ GE13002.out) | exact HB.out)) hb)
            clear HO13012
            clear HO13015
            clear HO13024
            clear HO13027
            clear BK13001
            clear BK13002
            clear HB
            have HO13012 := n0_
            have HO13015 := n1_
            have HO13024 := n2_
            have HO13027 := n3_
            have BK13001 := n4_
            have BK13002 := n5_
            have HB := n6_
            clear n0_ n1_ n2_ n3_ n4_ n5_ n6_
            (try clear hb)
            (try clear hb2)
            (try clear hk)
            (try clear hi)
            refine hK.out _ _ ⟨(blk_cell BK13001.out 0).trans rfl, (blk_cell BK13001.out 1).trans rfl, (blk_cell BK13001.out 2).trans rfl, (blk_cell BK13001.out 3).trans rfl, (blk_cell BK13001.out 4).trans rfl, (blk_cell BK13001.out 5).trans rfl, (blk_cell BK13001.out 6).trans rfl, (blk_cell BK13001.out 7).trans rfl, (blk_cell BK13002.out 0).trans rfl, (blk_cell BK13002.out 1).trans rfl, (blk_cell BK13002.out 2).trans rfl, (blk_cell BK13002.out 3).trans rfl, (blk_cell BK13002.out 4).trans rfl, (blk_cell BK13002.out 5).trans rfl, (blk_cell BK13002.out 6).trans rfl, (blk_cell BK13002.out 7).trans rfl⟩ (fun hHeld => ?_)
            clear hK K
            refine norm_ (a' := ?_) ?_ ?_
            rotate_left
            · show Act.put _ (some 24) _ = _
              simp only [Act.put, List.setIfInBounds_toArray, List.set_cons_zero, List.set_cons_succ, i64_w, i32_w]
              rfl
            refine pure_ (i := 5) (N := some 6) (v := ?_) (a' := ?_) #[true, true, true, true, true, true] rfl rfl (by kernel_rfl) (fun _ _ _ h => h) (Or.inl ⟨by rfl, ?_⟩) ?_ ?_
            rotate_left
            · intro w'
              go_simp
              first | with_reducible rfl | (rw [if_neg (by omega)]; done)
            rotate_left
            · simp only [Act.put, List.setIfInBounds_toArray, List.set_cons_zero, List.set_cons_succ, i64_w, i32_w]
              rfl
            refine done_ (by kernel_rfl) ?_
            have hcz81_0 : w80.cell? ⟨gb13001, 0, none⟩ = some (.int .i64 a0_0) := (blk_cell BK13001.out 0).trans rfl
            have hcz81_1 : w80.cell? ⟨gb13001, 1, none⟩ = some (.string a0_1) := (blk_cell BK13001.out 1).trans rfl
            have hcz81_2 : w80.cell? ⟨gb13001, 2, none⟩ = some (.string a0_2) := (blk_cell BK13001.out 2).trans rfl
            have hcz81_3 : w80.cell? ⟨gb13001, 3, none⟩ = some (.int .i64 a0_3) := (blk_cell BK13001.out 3).trans rfl
            have hcz81_4 : w80.cell? ⟨gb13001, 4, none⟩ = some (.string a0_4) := (blk_cell BK13001.out 4).trans rfl
            have hcz81_5 : w80.cell? ⟨gb13001, 5, none⟩ = some (.slice A0_5 l0_5.length c0_5) := (blk_cell BK13001.out 5).trans rfl
            have hcz81_6 : w80.cell? ⟨gb13001, 6, none⟩ = some (.slice A0_6 l0_6.length c0_6) := (blk_cell BK13001.out 6).trans rfl
            have hcz81_7 : w80.cell? ⟨gb13001, 7, none⟩ = some (.int .i64 a0_7) := (blk_cell BK13001.out 7).trans rfl
            have hfz81_0 := blk_frozen BK13001.out 0
            have hfz81_1 := blk_frozen BK13001.out 1
            have hfz81_2 := blk_frozen BK13001.out 2
            have hfz81_3 := blk_frozen BK13001.out 3
            have hfz81_4 := blk_frozen BK13001.out 4
            have hfz81_5 := blk_frozen BK13001.out 5
            have hfz81_6 := blk_frozen BK13001.out 6
            have hfz81_7 := blk_frozen BK13001.out 7
            try go_wp2_with (first | ((with_reducible refine gate_callee (f := 60) rfl ?_); refine goesL_ (some 26) rfl rfl Try.func60 (by kernel_rfl) rfl #[.agg #[.int .i64 a0_0, .string a0_1, .string a0_2, .int .i64 a0_3, .string a0_4, .slice A0_5 l0_5.length c0_5, .slice A0_6 l0_6.length c0_6, .int .i64 a0_7]] rfl (by (try simp only [List.map_toArray, List.map_cons, List.map_nil]); first | done | rfl | (simp only [List.length_drop, List.length_take]; rfl)) ?_; (with_reducible refine (laws_toConstraint.calls k a0_0 a0_1 a0_2 a0_3 a0_4 _ _ l0_5 _ _ l0_6 a0_7 t13030 t13031 t13032 t13033 t13034 t13035 t13038 t13041 _ ?side1 ?side2 ?side3 ?side4 A22.out).mono ?_); (case side1 => repeat (first | exact (Kd.C_below HR0_5.out HB.out) | (with_reducible refine Kd.C_alloc ?_ _) | (with_reducible refine Kd.C_drewN ?_ _) | (with_reducible refine Kd.C_drew ?_))); (case side2 => exact HC0_5.out); (case side3 => repeat (first | exact (Kd.C_below HR0_6.out HB.out) | (with_reducible refine Kd.C_alloc ?_ _) | (with_reducible refine Kd.C_drewN ?_ _) | (with_reducible refine Kd.C_drew ?_))); (case side4 => exact HC0_6.out); rintro e w82 ⟨v13036, v13039, rfl, ho0, ho1, hb⟩; refine ⟨_, rfl, ?_⟩; have n0_ := Aside0.mk (Kd.R_elder' (by (with_reducible repeat (first | apply Kd.R_alloc | apply Kd.R_drewN | apply Kd.R_drew)); exact HO13012.out) (Kd.R_base ho0) hb); have n1_ := Aside0.mk (Kd.R_elder' (by (with_reducible repeat (first | apply Kd.R_alloc | apply Kd.R_drewN | apply Kd.R_drew)); exact HO13015.out) (Kd.R_base ho1) hb); have n2_ := Aside0.mk (Kd.R_elder' (by (with_reducible repeat (first | apply Kd.R_alloc | apply Kd.R_drewN | apply Kd.R_drew)); exact HO13024.out) (Kd.R_base ho0) hb); have n3_ := Aside0.mk (Kd.R_elder' (by (with_reducible repeat (first | apply Kd.R_alloc | apply Kd.R_drewN | apply Kd.R_drew)); exact HO13027.out) (Kd.R_base ho1) hb); have n4_ := Aside0.mk (Kd.R_lower (Kd.R_new' (Kd.R_new' ho0 (Kd.R_lt (by (with_reducible repeat (first | apply Kd.R_alloc | apply Kd.R_drewN | apply Kd.R_drew)); exact HO13012.out))) (Kd.R_lt (by (with_reducible repeat (first | apply Kd.R_alloc | apply Kd.R_drewN | apply Kd.R_drew)); exact HO13024.out))) (below_size (by repeat (first | (with_reducible first | exact HB.out | apply below_alloc | apply pw_below_drewN | apply below_drew1 | refine below_set ?_ GE13001.out | refine below_set ?_ GE13002.out) | exact HB.out)))); have n5_ := Aside0.mk (Kd.R_lower (Kd.R_new' (Kd.R_new' ho1 (Kd.R_lt (by (with_reducible repeat (first | apply Kd.R_alloc | apply Kd.R_drewN | apply Kd.R_drew)); exact HO13015.out))) (Kd.R_lt (by (with_reducible repeat (first | apply Kd.R_alloc | apply Kd.R_drewN | apply Kd.R_drew)); exact HO13027.out))) (below_size (by repeat (first | (with_reducible first | exact HB.out | apply below_alloc | apply pw_below_drewN | apply below_drew1 | refine below_set ?_ GE13001.out | refine below_set ?_ GE13002.out) | exact HB.out)))); have n6_ := Aside0.mk (blk_below (g := gb13001) (o := .cells #[.int .i64 a0_0, .string a0_1, .string a0_2, .int .i64 a0_3, .string a0_4, .slice A0_5 l0_5.length c0_5, .slice A0_6 l0_6.length c0_6, .int .i64 a0_7] 92 (0, 0)) (by (with_reducible repeat (first | refine blk_drewN ?_ _ | refine blk_drew ?_ | refine blk_alloc ?_ _)); exact BK13001.out) hb); have n7_ := Aside0.mk (blk_below (g := gb13002) (o := .cells #[.int .i64 a1_0, .string a1_1, .string a1_2, .int .i64 a1_3, .string a1_4, .slice A1_5 l1_5.length c1_5, .slice A1_6 l1_6.length c1_6, .int .i64 a1_7] 92 (0, 0)) (by (with_reducible repeat (first | refine blk_drewN ?_ _ | refine blk_drew ?_ | refine blk_alloc ?_ _)); exact BK13002.out) hb); have n8_ := Aside0.mk (below_step (by repeat (first | (with_reducible first | exact HB.out | apply below_alloc | apply pw_below_drewN | apply below_drew1 | refine below_set ?_ GE13001.out | refine below_set ?_ GE13002.out) | exact HB.out)) hb); clear HO13012; clear HO13015; clear HO13024; clear HO13027; clear BK13001; clear BK13002; clear HB; have HO13012 := n0_; have HO13015 := n1_; have HO13024 := n2_; have HO13027 := n3_; have HO13037 := n4_; have HO13040 := n5_; have BK13001 := n6_; have BK13002 := n7_; have HB := n8_; clear n0_ n1_ n2_ n3_ n4_ n5_ n6_ n7_ n8_; (try clear hb); (try clear hb2); (try clear hk); (try clear hi); (try clear ho0); (try clear ho1)) | ((with_reducible refine gate_dst (N := 7) rfl ?_); refine box_event ?hg (N := 7) ?hd (cs := #[.int .i64 0, .string (⟨#[]⟩ : ByteArray), .string (⟨#[]⟩ : ByteArray), .int .i64 0, .string (⟨#[]⟩ : ByteArray), .slice none 0 0, .slice none 0 0, .int .i64 0]) (t := 99) ?hr ?_; (case hd => rfl); (case hg => rfl); (case hr => first | (go_simp; done) | (go_simp; rfl)); intro gb13042 hg w83 hbox hb; have n0_ := Aside0.mk (Kd.R_below (by (with_reducible repeat (first | apply Kd.R_alloc | apply Kd.R_drewN | apply Kd.R_drew)); exact HO13012.out) hb); have n1_ := Aside0.mk (Kd.R_below (by (with_reducible repeat (first | apply Kd.R_alloc | apply Kd.R_drewN | apply Kd.R_drew)); exact HO13015.out) hb); have n2_ := Aside0.mk (Kd.R_below (by (with_reducible repeat (first | apply Kd.R_alloc | apply Kd.R_drewN | apply Kd.R_drew)); exact HO13024.out) hb); have n3_ := Aside0.mk (Kd.R_below (by (with_reducible repeat (first | apply Kd.R_alloc | apply Kd.R_drewN | apply Kd.R_drew)); exact HO13027.out) hb); have n4_ := Aside0.mk (Kd.R_below (by (with_reducible repeat (first | apply Kd.R_alloc | apply Kd.R_drewN | apply Kd.R_drew)); exact HO13037.out) hb); have n5_ := Aside0.mk (Kd.R_below (by (with_reducible repeat (first | apply Kd.R_alloc | apply Kd.R_drewN | apply Kd.R_drew)); exact HO13040.out) hb); have n6_ := Aside0.mk (blk_below (g := gb13001) (o := .cells #[.int .i64 a0_0, .string a0_1, .string a0_2, .int .i64 a0_3, .string a0_4, .slice A0_5 l0_5.length c0_5, .slice A0_6 l0_6.length c0_6, .int .i64 a0_7] 92 (0, 0)) (by (with_reducible repeat (first | refine blk_drewN ?_ _ | refine blk_drew ?_ | refine blk_alloc ?_ _)); exact BK13001.out) hb); have n7_ := Aside0.mk (blk_below (g := gb13002) (o := .cells #[.int .i64 a1_0, .string a1_1, .string a1_2, .int .i64 a1_3, .string a1_4, .slice A1_5 l1_5.length c1_5, .slice A1_6 l1_6.length c1_6, .int .i64 a1_7] 92 (0, 0)) (by (with_reducible repeat (first | refine blk_drewN ?_ _ | refine blk_drew ?_ | refine blk_alloc ?_ _)); exact BK13002.out) hb); have n8_ := Aside0.mk (below_step (by repeat (first | (with_reducible first | exact HB.out | apply below_alloc | apply pw_below_drewN | apply below_drew1 | refine below_set ?_ GE13001.out | refine below_set ?_ GE13002.out) | exact HB.out)) hb); have n9_ := Aside0.mk (hbox); have n10_ := Aside0.mk ((by rw [hg]; exact (below_size (by repeat (first | (with_reducible first | exact HB.out | apply below_alloc | apply pw_below_drewN | apply below_drew1 | refine below_set ?_ GE13001.out | refine below_set ?_ GE13002.out) | exact HB.out))) : w.heap.size ≤ gb13042)); have n11_ := Aside0.mk ((by rw [hg]; exact (below_size (by repeat (first | (with_reducible first | exact HB.out | apply below_alloc | apply pw_below_drewN | apply below_drew1 | refine below_set ?_ GE13001.out | refine below_set ?_ GE13002.out) | exact HB.out))) : w.heap.size ≤ gb13042)); have n12_ := Aside0.mk ((by rw [hg]; exact Nat.ne_of_lt (blk_lt (g := gb13001) (o := .cells #[.int .i64 a0_0, .string a0_1, .string a0_2, .int .i64 a0_3, .string a0_4, .slice A0_5 l0_5.length c0_5, .slice A0_6 l0_6.length c0_6, .int .i64 a0_7] 92 (0, 0)) (by (with_reducible repeat (first | refine blk_drewN ?_ _ | refine blk_drew ?_ | refine blk_alloc ?_ _)); exact BK13001.out)) : gb13001 ≠ gb13042)); have n13_ := Aside0.mk ((by rw [hg]; exact Nat.ne_of_gt (blk_lt (g := gb13001) (o := .cells #[.int .i64 a0_0, .string a0_1, .string a0_2, .int .i64 a0_3, .string a0_4, .slice A0_5 l0_5.length c0_5, .slice A0_6 l0_6.length c0_6, .int .i64 a0_7] 92 (0, 0)) (by (with_reducible repeat (first | refine blk_drewN ?_ _ | refine blk_drew ?_ | refine blk_alloc ?_ _)); exact BK13001.out)) : gb13042 ≠ gb13001)); have n14_ := Aside0.mk ((by rw [hg]; exact Nat.ne_of_lt (blk_lt (g := gb13002) (o := .cells #[.int .i64 a1_0, .string a1_1, .string a1_2, .int .i64 a1_3, .string a1_4, .slice A1_5 l1_5.length c1_5, .slice A1_6 l1_6.length c1_6, .int .i64 a1_7] 92 (0, 0)) (by (with_reducible repeat (first | refine blk_drewN ?_ _ | refine blk_drew ?_ | refine blk_alloc ?_ _)); exact BK13002.out)) : gb13002 ≠ gb13042)); have n15_ := Aside0.mk ((by rw [hg]; exact Nat.ne_of_gt (blk_lt (g := gb13002) (o := .cells #[.int .i64 a1_0, .string a1_1, .string a1_2, .int .i64 a1_3, .string a1_4, .slice A1_5 l1_5.length c1_5, .slice A1_6 l1_6.length c1_6, .int .i64 a1_7] 92 (0, 0)) (by (with_reducible repeat (first | refine blk_drewN ?_ _ | refine blk_drew ?_ | refine blk_alloc ?_ _)); exact BK13002.out)) : gb13042 ≠ gb13002)); clear HO13012; clear HO13015; clear HO13024; clear HO13027; clear HO13037; clear HO13040; clear BK13001; clear BK13002; clear HB; have HO13012 := n0_; have HO13015 := n1_; have HO13024 := n2_; have HO13027 := n3_; have HO13037 := n4_; have HO13040 := n5_; have BK13001 := n6_; have BK13002 := n7_; have HB := n8_; have BK13042 := n9_; have GW13042 := n10_; have GE13042 := n11_; have NB13001_13042 := n12_; have NB13042_13001 := n13_; have NB13002_13042 := n14_; have NB13042_13002 := n15_; clear n0_ n1_ n2_ n3_ n4_ n5_ n6_ n7_ n8_ n9_ n10_ n11_ n12_ n13_ n14_ n15_; clear hb hbox hg; have hnb84 := NB13042_13001.out; have hnc84 := NB13001_13042.out; have hnb85 := NB13042_13002.out; have hnc85 := NB13002_13042.out; have hcz86_0 : w83.cell? ⟨gb13042, 0, none⟩ = some (.int .i64 0) := (blk_cell BK13042.out 0).trans rfl; have hcz86_1 : w83.cell? ⟨gb13042, 1, none⟩ = some (.string (⟨#[]⟩ : ByteArray)) := (blk_cell BK13042.out 1).trans rfl; have hcz86_2 : w83.cell? ⟨gb13042, 2, none⟩ = some (.string (⟨#[]⟩ : ByteArray)) := (blk_cell BK13042.out 2).trans rfl; have hcz86_3 : w83.cell? ⟨gb13042, 3, none⟩ = some (.int .i64 0) := (blk_cell BK13042.out 3).trans rfl; have hcz86_4 : w83.cell? ⟨gb13042, 4, none⟩ = some (.string (⟨#[]⟩ : ByteArray)) := (blk_cell BK13042.out 4).trans rfl; have hcz86_5 : w83.cell? ⟨gb13042, 5, none⟩ = some (.slice none 0 0) := (blk_cell BK13042.out 5).trans rfl; have hcz86_6 : w83.cell? ⟨gb13042, 6, none⟩ = some (.slice none 0 0) := (blk_cell BK13042.out 6).trans rfl; have hcz86_7 : w83.cell? ⟨gb13042, 7, none⟩ = some (.int .i64 0) := (blk_cell BK13042.out 7).trans rfl; have hfz86_0 := blk_frozen BK13042.out 0; have hfz86_1 := blk_frozen BK13042.out 1; have hfz86_2 := blk_frozen BK13042.out 2; have hfz86_3 := blk_frozen BK13042.out 3; have hfz86_4 := blk_frozen BK13042.out 4; have hfz86_5 := blk_frozen BK13042.out 5; have hfz86_6 := blk_frozen BK13042.out 6; have hfz86_7 := blk_frozen BK13042.out 7; obtain ⟨Ao87, co87, eo87⟩ := Kd.R_slice HO13037.out; subst eo87; obtain ⟨Ao88, co88, eo88⟩ := Kd.R_slice HO13040.out; subst eo88; have hcz89_0 : w83.cell? ⟨gb13002, 0, none⟩ = some (.int .i64 a1_0) := (blk_cell BK13002.out 0).trans rfl; have hcz89_1 : w83.cell? ⟨gb13002, 1, none⟩ = some (.string a1_1) := (blk_cell BK13002.out 1).trans rfl; have hcz89_2 : w83.cell? ⟨gb13002, 2, none⟩ = some (.string a1_2) := (blk_cell BK13002.out 2).trans rfl; have hcz89_3 : w83.cell? ⟨gb13002, 3, none⟩ = some (.int .i64 a1_3) := (blk_cell BK13002.out 3).trans rfl; have hcz89_4 : w83.cell? ⟨gb13002, 4, none⟩ = some (.string a1_4) := (blk_cell BK13002.out 4).trans rfl; have hcz89_5 : w83.cell? ⟨gb13002, 5, none⟩ = some (.slice A1_5 l1_5.length c1_5) := (blk_cell BK13002.out 5).trans rfl; have hcz89_6 : w83.cell? ⟨gb13002, 6, none⟩ = some (.slice A1_6 l1_6.length c1_6) := (blk_cell BK13002.out 6).trans rfl; have hcz89_7 : w83.cell? ⟨gb13002, 7, none⟩ = some (.int .i64 a1_7) := (blk_cell BK13002.out 7).trans rfl; have hfz89_0 := blk_frozen BK13002.out 0; have hfz89_1 := blk_frozen BK13002.out 1; have hfz89_2 := blk_frozen BK13002.out 2; have hfz89_3 := blk_frozen BK13002.out 3; have hfz89_4 := blk_frozen BK13002.out 4; have hfz89_5 := blk_frozen BK13002.out 5; have hfz89_6 := blk_frozen BK13002.out 6; have hfz89_7 := blk_frozen BK13002.out 7) | ((with_reducible refine gate_callee (f := 60) rfl ?_); refine goesL_ (some 28) rfl rfl Try.func60 (by kernel_rfl) rfl #[.agg #[.int .i64 a1_0, .string a1_1, .string a1_2, .int .i64 a1_3, .string a1_4, .slice A1_5 l1_5.length c1_5, .slice A1_6 l1_6.length c1_6, .int .i64 a1_7]] rfl (by (try simp only [List.map_toArray, List.map_cons, List.map_nil]); first | done | rfl | (simp only [List.length_drop, List.length_take]; rfl)) ?_; (with_reducible refine (laws_toConstraint.calls k a1_0 a1_1 a1_2 a1_3 a1_4 _ _ l1_5 _ _ l1_6 a1_7 t13043 t13044 t13045 t13046 t13047 t13048 t13051 t13054 _ ?side1 ?side2 ?side3 ?side4 A23.out).mono ?_); (case side1 => exact Kd.C_below HR1_5.out (by repeat (first | (with_reducible first | exact HB.out | apply below_alloc | apply pw_below_drewN | apply below_drew1 | refine below_set ?_ GE13001.out | refine below_set ?_ GE13002.out | refine below_set ?_ GE13042.out) | exact HB.out))); (case side2 => exact HC1_5.out); (case side3 => exact Kd.C_below HR1_6.out (by repeat (first | (with_reducible first | exact HB.out | apply below_alloc | apply pw_below_drewN | apply below_drew1 | refine below_set ?_ GE13001.out | refine below_set ?_ GE13002.out | refine below_set ?_ GE13042.out) | exact HB.out))); (case side4 => exact HC1_6.out); rintro e w90 ⟨v13049, v13052, rfl, ho0, ho1, hb⟩; refine ⟨_, rfl, ?_⟩; have n0_ := Aside0.mk (Kd.R_elder' (by (with_reducible repeat (first | apply Kd.R_alloc | apply Kd.R_drewN | apply Kd.R_drew)); exact (Kd.R_mono (Kd.R_far (p := ⟨gb13042, 7, none⟩) (Kd.R_far (p := ⟨gb13042, 6, none⟩) (Kd.R_far (p := ⟨gb13042, 5, none⟩) (Kd.R_far (p := ⟨gb13042, 4, none⟩) (Kd.R_far (p := ⟨gb13042, 3, none⟩) (Kd.R_far (p := ⟨gb13042, 2, none⟩) (Kd.R_far (p := ⟨gb13042, 1, none⟩) (Kd.R_far (p := ⟨gb13042, 0, none⟩) (Kd.R_types HO13012.out BK13042.out (by decide)) (fun _ hk => hk.2) (.int .i64 t13030)) (fun _ hk => hk.2) (.string t13031)) (fun _ hk => hk.2) (.string t13032)) (fun _ hk => hk.2) (.int .i64 t13033)) (fun _ hk => hk.2) (.string t13034)) (fun _ hk => hk.2) (.slice Ao87 t13035.length co87)) (fun _ hk => hk.2) (.slice Ao88 t13038.length co88)) (fun _ hk => hk.2) (.int .i64 t13041)) (fun _ h_ => h_.1))) (Kd.R_base ho0) hb); have n1_ := Aside0.mk (Kd.R_elder' (by (with_reducible repeat (first | apply Kd.R_alloc | apply Kd.R_drewN | apply Kd.R_drew)); exact (Kd.R_mono (Kd.R_far (p := ⟨gb13042, 7, none⟩) (Kd.R_far (p := ⟨gb13042, 6, none⟩) (Kd.R_far (p := ⟨gb13042, 5, none⟩) (Kd.R_far (p := ⟨gb13042, 4, none⟩) (Kd.R_far (p := ⟨gb13042, 3, none⟩) (Kd.R_far (p := ⟨gb13042, 2, none⟩) (Kd.R_far (p := ⟨gb13042, 1, none⟩) (Kd.R_far (p := ⟨gb13042, 0, none⟩) (Kd.R_types HO13015.out BK13042.out (by decide)) (fun _ hk => hk.2) (.int .i64 t13030)) (fun _ hk => hk.2) (.string t13031)) (fun _ hk => hk.2) (.string t13032)) (fun _ hk => hk.2) (.int .i64 t13033)) (fun _ hk => hk.2) (.string t13034)) (fun _ hk => hk.2) (.slice Ao87 t13035.length co87)) (fun _ hk => hk.2) (.slice Ao88 t13038.length co88)) (fun _ hk => hk.2) (.int .i64 t13041)) (fun _ h_ => h_.1))) (Kd.R_base ho1) hb); have n2_ := Aside0.mk (Kd.R_elder' (by (with_reducible repeat (first | apply Kd.R_alloc | apply Kd.R_drewN | apply Kd.R_drew)); exact (Kd.R_mono (Kd.R_far (p := ⟨gb13042, 7, none⟩) (Kd.R_far (p := ⟨gb13042, 6, none⟩) (Kd.R_far (p := ⟨gb13042, 5, none⟩) (Kd.R_far (p := ⟨gb13042, 4, none⟩) (Kd.R_far (p := ⟨gb13042, 3, none⟩) (Kd.R_far (p := ⟨gb13042, 2, none⟩) (Kd.R_far (p := ⟨gb13042, 1, none⟩) (Kd.R_far (p := ⟨gb13042, 0, none⟩) (Kd.R_types HO13024.out BK13042.out (by decide)) (fun _ hk => hk.2) (.int .i64 t13030)) (fun _ hk => hk.2) (.string t13031)) (fun _ hk => hk.2) (.string t13032)) (fun _ hk => hk.2) (.int .i64 t13033)) (fun _ hk => hk.2) (.string t13034)) (fun _ hk => hk.2) (.slice Ao87 t13035.length co87)) (fun _ hk => hk.2) (.slice Ao88 t13038.length co88)) (fun _ hk => hk.2) (.int .i64 t13041)) (fun _ h_ => h_.1))) (Kd.R_base ho0) hb); have n3_ := Aside0.mk (Kd.R_elder' (by (with_reducible repeat (first | apply Kd.R_alloc | apply Kd.R_drewN | apply Kd.R_drew)); exact (Kd.R_mono (Kd.R_far (p := ⟨gb13042, 7, none⟩) (Kd.R_far (p := ⟨gb13042, 6, none⟩) (Kd.R_far (p := ⟨gb13042, 5, none⟩) (Kd.R_far (p := ⟨gb13042, 4, none⟩) (Kd.R_far (p := ⟨gb13042, 3, none⟩) (Kd.R_far (p := ⟨gb13042, 2, none⟩) (Kd.R_far (p := ⟨gb13042, 1, none⟩) (Kd.R_far (p := ⟨gb13042, 0, none⟩) (Kd.R_types HO13027.out BK13042.out (by decide)) (fun _ hk => hk.2) (.int .i64 t13030)) (fun _ hk => hk.2) (.string t13031)) (fun _ hk => hk.2) (.string t13032)) (fun _ hk => hk.2) (.int .i64 t13033)) (fun _ hk => hk.2) (.string t13034)) (fun _ hk => hk.2) (.slice Ao87 t13035.length co87)) (fun _ hk => hk.2) (.slice Ao88 t13038.length co88)) (fun _ hk => hk.2) (.int .i64 t13041)) (fun _ h_ => h_.1))) (Kd.R_base ho1) hb); have n4_ := Aside0.mk (Kd.R_elder' (by (with_reducible repeat (first | apply Kd.R_alloc | apply Kd.R_drewN | apply Kd.R_drew)); exact (Kd.R_mono (Kd.R_far (p := ⟨gb13042, 7, none⟩) (Kd.R_far (p := ⟨gb13042, 6, none⟩) (Kd.R_far (p := ⟨gb13042, 5, none⟩) (Kd.R_far (p := ⟨gb13042, 4, none⟩) (Kd.R_far (p := ⟨gb13042, 3, none⟩) (Kd.R_far (p := ⟨gb13042, 2, none⟩) (Kd.R_far (p := ⟨gb13042, 1, none⟩) (Kd.R_far (p := ⟨gb13042, 0, none⟩) (Kd.R_types HO13037.out BK13042.out (by decide)) (fun _ hk => hk.2) (.int .i64 t13030)) (fun _ hk => hk.2) (.string t13031)) (fun _ hk => hk.2) (.string t13032)) (fun _ hk => hk.2) (.int .i64 t13033)) (fun _ hk => hk.2) (.string t13034)) (fun _ hk => hk.2) (.slice Ao87 t13035.length co87)) (fun _ hk => hk.2) (.slice Ao88 t13038.length co88)) (fun _ hk => hk.2) (.int .i64 t13041)) (fun _ h_ => h_.1))) (Kd.R_base ho0) hb); have n5_ := Aside0.mk (Kd.R_elder' (by (with_reducible repeat (first | apply Kd.R_alloc | apply Kd.R_drewN | apply Kd.R_drew)); exact (Kd.R_mono (Kd.R_far (p := ⟨gb13042, 7, none⟩) (Kd.R_far (p := ⟨gb13042, 6, none⟩) (Kd.R_far (p := ⟨gb13042, 5, none⟩) (Kd.R_far (p := ⟨gb13042, 4, none⟩) (Kd.R_far (p := ⟨gb13042, 3, none⟩) (Kd.R_far (p := ⟨gb13042, 2, none⟩) (Kd.R_far (p := ⟨gb13042, 1, none⟩) (Kd.R_far (p := ⟨gb13042, 0, none⟩) (Kd.R_types HO13040.out BK13042.out (by decide)) (fun _ hk => hk.2) (.int .i64 t13030)) (fun _ hk => hk.2) (.string t13031)) (fun _ hk => hk.2) (.string t13032)) (fun _ hk => hk.2) (.int .i64 t13033)) (fun _ hk => hk.2) (.string t13034)) (fun _ hk => hk.2) (.slice Ao87 t13035.length co87)) (fun _ hk => hk.2) (.slice Ao88 t13038.length co88)) (fun _ hk => hk.2) (.int .i64 t13041)) (fun _ h_ => h_.1))) (Kd.R_base ho1) hb); have n6_ := Aside0.mk (Kd.R_lower (Kd.R_new' (Kd.R_new' (Kd.R_new' ho0 (Kd.R_lt (by (with_reducible repeat (first | apply Kd.R_alloc | apply Kd.R_drewN | apply Kd.R_drew)); exact (Kd.R_mono (Kd.R_far (p := ⟨gb13042, 7, none⟩) (Kd.R_far (p := ⟨gb13042, 6, none⟩) (Kd.R_far (p := ⟨gb13042, 5, none⟩) (Kd.R_far (p := ⟨gb13042, 4, none⟩) (Kd.R_far (p := ⟨gb13042, 3, none⟩) (Kd.R_far (p := ⟨gb13042, 2, none⟩) (Kd.R_far (p := ⟨gb13042, 1, none⟩) (Kd.R_far (p := ⟨gb13042, 0, none⟩) (Kd.R_types HO13012.out BK13042.out (by decide)) (fun _ hk => hk.2) (.int .i64 t13030)) (fun _ hk => hk.2) (.string t13031)) (fun _ hk => hk.2) (.string t13032)) (fun _ hk => hk.2) (.int .i64 t13033)) (fun _ hk => hk.2) (.string t13034)) (fun _ hk => hk.2) (.slice Ao87 t13035.length co87)) (fun _ hk => hk.2) (.slice Ao88 t13038.length co88)) (fun _ hk => hk.2) (.int .i64 t13041)) (fun _ h_ => h_.1))))) (Kd.R_lt (by (with_reducible repeat (first | apply Kd.R_alloc | apply Kd.R_drewN | apply Kd.R_drew)); exact (Kd.R_mono (Kd.R_far (p := ⟨gb13042, 7, none⟩) (Kd.R_far (p := ⟨gb13042, 6, none⟩) (Kd.R_far (p := ⟨gb13042, 5, none⟩) (Kd.R_far (p := ⟨gb13042, 4, none⟩) (Kd.R_far (p := ⟨gb13042, 3, none⟩) (Kd.R_far (p := ⟨gb13042, 2, none⟩) (Kd.R_far (p := ⟨gb13042, 1, none⟩) (Kd.R_far (p := ⟨gb13042, 0, none⟩) (Kd.R_types HO13024.out BK13042.out (by decide)) (fun _ hk => hk.2) (.int .i64 t13030)) (fun _ hk => hk.2) (.string t13031)) (fun _ hk => hk.2) (.string t13032)) (fun _ hk => hk.2) (.int .i64 t13033)) (fun _ hk => hk.2) (.string t13034)) (fun _ hk => hk.2) (.slice Ao87 t13035.length co87)) (fun _ hk => hk.2) (.slice Ao88 t13038.length co88)) (fun _ hk => hk.2) (.int .i64 t13041)) (fun _ h_ => h_.1))))) (Kd.R_lt (by (with_reducible repeat (first | apply Kd.R_alloc | apply Kd.R_drewN | apply Kd.R_drew)); exact (Kd.R_mono (Kd.R_far (p := ⟨gb13042, 7, none⟩) (Kd.R_far (p := ⟨gb13042, 6, none⟩) (Kd.R_far (p := ⟨gb13042, 5, none⟩) (Kd.R_far (p := ⟨gb13042, 4, none⟩) (Kd.R_far (p := ⟨gb13042, 3, none⟩) (Kd.R_far (p := ⟨gb13042, 2, none⟩) (Kd.R_far (p := ⟨gb13042, 1, none⟩) (Kd.R_far (p := ⟨gb13042, 0, none⟩) (Kd.R_types HO13037.out BK13042.out (by decide)) (fun _ hk => hk.2) (.int .i64 t13030)) (fun _ hk => hk.2) (.string t13031)) (fun _ hk => hk.2) (.string t13032)) (fun _ hk => hk.2) (.int .i64 t13033)) (fun _ hk => hk.2) (.string t13034)) (fun _ hk => hk.2) (.slice Ao87 t13035.length co87)) (fun _ hk => hk.2) (.slice Ao88 t13038.length co88)) (fun _ hk => hk.2) (.int .i64 t13041)) (fun _ h_ => h_.1))))) (below_size (by repeat (first | (with_reducible first | exact HB.out | apply below_alloc | apply pw_below_drewN | apply below_drew1 | refine below_set ?_ GE13001.out | refine below_set ?_ GE13002.out | refine below_set ?_ GE13042.out) | exact HB.out)))); have n7_ := Aside0.mk (Kd.R_lower (Kd.R_new' (Kd.R_new' (Kd.R_new' ho1 (Kd.R_lt (by (with_reducible repeat (first | apply Kd.R_alloc | apply Kd.R_drewN | apply Kd.R_drew)); exact (Kd.R_mono (Kd.R_far (p := ⟨gb13042, 7, none⟩) (Kd.R_far (p := ⟨gb13042, 6, none⟩) (Kd.R_far (p := ⟨gb13042, 5, none⟩) (Kd.R_far (p := ⟨gb13042, 4, none⟩) (Kd.R_far (p := ⟨gb13042, 3, none⟩) (Kd.R_far (p := ⟨gb13042, 2, none⟩) (Kd.R_far (p := ⟨gb13042, 1, none⟩) (Kd.R_far (p := ⟨gb13042, 0, none⟩) (Kd.R_types HO13015.out BK13042.out (by decide)) (fun _ hk => hk.2) (.int .i64 t13030)) (fun _ hk => hk.2) (.string t13031)) (fun _ hk => hk.2) (.string t13032)) (fun _ hk => hk.2) (.int .i64 t13033)) (fun _ hk => hk.2) (.string t13034)) (fun _ hk => hk.2) (.slice Ao87 t13035.length co87)) (fun _ hk => hk.2) (.slice Ao88 t13038.length co88)) (fun _ hk => hk.2) (.int .i64 t13041)) (fun _ h_ => h_.1))))) (Kd.R_lt (by (with_reducible repeat (first | apply Kd.R_alloc | apply Kd.R_drewN | apply Kd.R_drew)); exact (Kd.R_mono (Kd.R_far (p := ⟨gb13042, 7, none⟩) (Kd.R_far (p := ⟨gb13042, 6, none⟩) (Kd.R_far (p := ⟨gb13042, 5, none⟩) (Kd.R_far (p := ⟨gb13042, 4, none⟩) (Kd.R_far (p := ⟨gb13042, 3, none⟩) (Kd.R_far (p := ⟨gb13042, 2, none⟩) (Kd.R_far (p := ⟨gb13042, 1, none⟩) (Kd.R_far (p := ⟨gb13042, 0, none⟩) (Kd.R_types HO13027.out BK13042.out (by decide)) (fun _ hk => hk.2) (.int .i64 t13030)) (fun _ hk => hk.2) (.string t13031)) (fun _ hk => hk.2) (.string t13032)) (fun _ hk => hk.2) (.int .i64 t13033)) (fun _ hk => hk.2) (.string t13034)) (fun _ hk => hk.2) (.slice Ao87 t13035.length co87)) (fun _ hk => hk.2) (.slice Ao88 t13038.length co88)) (fun _ hk => hk.2) (.int .i64 t13041)) (fun _ h_ => h_.1))))) (Kd.R_lt (by (with_reducible repeat (first | apply Kd.R_alloc | apply Kd.R_drewN | apply Kd.R_drew)); exact (Kd.R_mono (Kd.R_far (p := ⟨gb13042, 7, none⟩) (Kd.R_far (p := ⟨gb13042, 6, none⟩) (Kd.R_far (p := ⟨gb13042, 5, none⟩) (Kd.R_far (p := ⟨gb13042, 4, none⟩) (Kd.R_far (p := ⟨gb13042, 3, none⟩) (Kd.R_far (p := ⟨gb13042, 2, none⟩) (Kd.R_far (p := ⟨gb13042, 1, none⟩) (Kd.R_far (p := ⟨gb13042, 0, none⟩) (Kd.R_types HO13040.out BK13042.out (by decide)) (fun _ hk => hk.2) (.int .i64 t13030)) (fun _ hk => hk.2) (.string t13031)) (fun _ hk => hk.2) (.string t13032)) (fun _ hk => hk.2) (.int .i64 t13033)) (fun _ hk => hk.2) (.string t13034)) (fun _ hk => hk.2) (.slice Ao87 t13035.length co87)) (fun _ hk => hk.2) (.slice Ao88 t13038.length co88)) (fun _ hk => hk.2) (.int .i64 t13041)) (fun _ h_ => h_.1))))) (below_size (by repeat (first | (with_reducible first | exact HB.out | apply below_alloc | apply pw_below_drewN | apply below_drew1 | refine below_set ?_ GE13001.out | refine below_set ?_ GE13002.out | refine below_set ?_ GE13042.out) | exact HB.out)))); have n8_ := Aside0.mk (blk_below (g := gb13001) (o := .cells #[.int .i64 a0_0, .string a0_1, .string a0_2, .int .i64 a0_3, .string a0_4, .slice A0_5 l0_5.length c0_5, .slice A0_6 l0_6.length c0_6, .int .i64 a0_7] 92 (0, 0)) (by (with_reducible repeat (first | refine blk_drewN ?_ _ | refine blk_drew ?_ | refine blk_alloc ?_ _)); refine blk_far ?_ NB13001_13042.out _; (with_reducible repeat (first | refine blk_drewN ?_ _ | refine blk_drew ?_ | refine blk_alloc ?_ _)); refine blk_far ?_ NB13001_13042.out _; (with_reducible repeat (first | refine blk_drewN ?_ _ | refine blk_drew ?_ | refine blk_alloc ?_ _)); refine blk_far ?_ NB13001_13042.out _; (with_reducible repeat (first | refine blk_drewN ?_ _ | refine blk_drew ?_ | refine blk_alloc ?_ _)); refine blk_far ?_ NB13001_13042.out _; (with_reducible repeat (first | refine blk_drewN ?_ _ | refine blk_drew ?_ | refine blk_alloc ?_ _)); refine blk_far ?_ NB13001_13042.out _; (with_reducible repeat (first | refine blk_drewN ?_ _ | refine blk_drew ?_ | refine blk_alloc ?_ _)); refine blk_far ?_ NB13001_13042.out _; (with_reducible repeat (first | refine blk_drewN ?_ _ | refine blk_drew ?_ | refine blk_alloc ?_ _)); refine blk_far ?_ NB13001_13042.out _; (with_reducible repeat (first | refine blk_drewN ?_ _ | refine blk_drew ?_ | refine blk_alloc ?_ _)); refine blk_far ?_ NB13001_13042.out _; (with_reducible repeat (first | refine blk_drewN ?_ _ | refine blk_drew ?_ | refine blk_alloc ?_ _)); exact BK13001.out) hb); have n9_ := Aside0.mk (blk_below (g := gb13002) (o := .cells #[.int .i64 a1_0, .string a1_1, .string a1_2, .int .i64 a1_3, .string a1_4, .slice A1_5 l1_5.length c1_5, .slice A1_6 l1_6.length c1_6, .int .i64 a1_7] 92 (0, 0)) (by (with_reducible repeat (first | refine blk_drewN ?_ _ | refine blk_drew ?_ | refine blk_alloc ?_ _)); refine blk_far ?_ NB13002_13042.out _; (with_reducible repeat (first | refine blk_drewN ?_ _ | refine blk_drew ?_ | refine blk_alloc ?_ _)); refine blk_far ?_ NB13002_13042.out _; (with_reducible repeat (first | refine blk_drewN ?_ _ | refine blk_drew ?_ | refine blk_alloc ?_ _)); refine blk_far ?_ NB13002_13042.out _; (with_reducible repeat (first | refine blk_drewN ?_ _ | refine blk_drew ?_ | refine blk_alloc ?_ _)); refine blk_far ?_ NB13002_13042.out _; (with_reducible repeat (first | refine blk_drewN ?_ _ | refine blk_drew ?_ | refine blk_alloc ?_ _)); refine blk_far ?_ NB13002_13042.out _; (with_reducible repeat (first | refine blk_drewN ?_ _ | refine blk_drew ?_ | refine blk_alloc ?_ _)); refine blk_far ?_ NB13002_13042.out _; (with_reducible repeat (first | refine blk_drewN ?_ _ | refine blk_drew ?_ | refine blk_alloc ?_ _)); refine blk_far ?_ NB13002_13042.out _; (with_reducible repeat (first | refine blk_drewN ?_ _ | refine blk_drew ?_ | refine blk_alloc ?_ _)); refine blk_far ?_ NB13002_13042.out _; (with_reducible repeat (first | refine blk_drewN ?_ _ | refine blk_drew ?_ | refine blk_alloc ?_ _)); exact BK13002.out) hb); have n10_ := Aside0.mk (blk_below (g := gb13042) (o := .cells #[.int .i64 t13030, .string t13031, .string t13032, .int .i64 t13033, .string t13034, .slice Ao87 t13035.length co87, .slice Ao88 t13038.length co88, .int .i64 t13041] 99 (0, 0)) (by (with_reducible repeat (first | refine blk_drewN ?_ _ | refine blk_drew ?_ | refine blk_alloc ?_ _)); refine blk_put (cs := #[.int .i64 t13030, .string t13031, .string t13032, .int .i64 t13033, .string t13034, .slice Ao87 t13035.length co87, .slice Ao88 t13038.length co88, .int .i64 0]) ?_ 7 _ rfl; (with_reducible repeat (first | refine blk_drewN ?_ _ | refine blk_drew ?_ | refine blk_alloc ?_ _)); refine blk_put (cs := #[.int .i64 t13030, .string t13031, .string t13032, .int .i64 t13033, .string t13034, .slice Ao87 t13035.length co87, .slice none 0 0, .int .i64 0]) ?_ 6 _ rfl; (with_reducible repeat (first | refine blk_drewN ?_ _ | refine blk_drew ?_ | refine blk_alloc ?_ _)); refine blk_put (cs := #[.int .i64 t13030, .string t13031, .string t13032, .int .i64 t13033, .string t13034, .slice none 0 0, .slice none 0 0, .int .i64 0]) ?_ 5 _ rfl; (with_reducible repeat (first | refine blk_drewN ?_ _ | refine blk_drew ?_ | refine blk_alloc ?_ _)); refine blk_put (cs := #[.int .i64 t13030, .string t13031, .string t13032, .int .i64 t13033, .string (⟨#[]⟩ : ByteArray), .slice none 0 0, .slice none 0 0, .int .i64 0]) ?_ 4 _ rfl; (with_reducible repeat (first | refine blk_drewN ?_ _ | refine blk_drew ?_ | refine blk_alloc ?_ _)); refine blk_put (cs := #[.int .i64 t13030, .string t13031, .string t13032, .int .i64 0, .string (⟨#[]⟩ : ByteArray), .slice none 0 0, .slice none 0 0, .int .i64 0]) ?_ 3 _ rfl; (with_reducible repeat (first | refine blk_drewN ?_ _ | refine blk_drew ?_ | refine blk_alloc ?_ _)); refine blk_put (cs := #[.int .i64 t13030, .string t13031, .string (⟨#[]⟩ : ByteArray), .int .i64 0, .string (⟨#[]⟩ : ByteArray), .slice none 0 0, .slice none 0 0, .int .i64 0]) ?_ 2 _ rfl; (with_reducible repeat (first | refine blk_drewN ?_ _ | refine blk_drew ?_ | refine blk_alloc ?_ _)); refine blk_put (cs := #[.int .i64 t13030, .string (⟨#[]⟩ : ByteArray), .string (⟨#[]⟩ : ByteArray), .int .i64 0, .string (⟨#[]⟩ : ByteArray), .slice none 0 0, .slice none 0 0, .int .i64 0]) ?_ 1 _ rfl; (with_reducible repeat (first | refine blk_drewN ?_ _ | refine blk_drew ?_ | refine blk_alloc ?_ _)); refine blk_put (cs := #[.int .i64 0, .string (⟨#[]⟩ : ByteArray), .string (⟨#[]⟩ : ByteArray), .int .i64 0, .string (⟨#[]⟩ : ByteArray), .slice none 0 0, .slice none 0 0, .int .i64 0]) ?_ 0 _ rfl; (with_reducible repeat (first | refine blk_drewN ?_ _ | refine blk_drew ?_ | refine blk_alloc ?_ _)); exact BK13042.out) hb); have n11_ := Aside0.mk (below_step (by repeat (first | (with_reducible first | exact HB.out | apply below_alloc | apply pw_below_drewN | apply below_drew1 | refine below_set ?_ GE13001.out | refine below_set ?_ GE13002.out | refine below_set ?_ GE13042.out) | exact HB.out)) hb); clear HO13012; clear HO13015; clear HO13024; clear HO13027; clear HO13037; clear HO13040; clear BK13001; clear BK13002; clear BK13042; clear HB; have HO13012 := n0_; have HO13015 := n1_; have HO13024 := n2_; have HO13027 := n3_; have HO13037 := n4_; have HO13040 := n5_; have HO13050 := n6_; have HO13053 := n7_; have BK13001 := n8_; have BK13002 := n9_; have BK13042 := n10_; have HB := n11_; clear n0_ n1_ n2_ n3_ n4_ n5_ n6_ n7_ n8_ n9_ n10_ n11_; (try clear hb); (try clear hb2); (try clear hk); (try clear hi); (try clear ho0); (try clear ho1)) | ((with_reducible refine gate_dst (N := 8) rfl ?_); refine box_event ?hg (N := 8) ?hd (cs := #[.int .i64 0, .string (⟨#[]⟩ : ByteArray), .string (⟨#[]⟩ : ByteArray), .int .i64 0, .string (⟨#[]⟩ : ByteArray), .slice none 0 0, .slice none 0 0, .int .i64 0]) (t := 99) ?hr ?_; (case hd => rfl); (case hg => rfl); (case hr => first | (go_simp; done) | (go_simp; rfl)); intro gb13055 hg w91 hbox hb; have n0_ := Aside0.mk (Kd.R_below (by (with_reducible repeat (first | apply Kd.R_alloc | apply Kd.R_drewN | apply Kd.R_drew)); exact HO13012.out) hb); have n1_ := Aside0.mk (Kd.R_below (by (with_reducible repeat (first | apply Kd.R_alloc | apply Kd.R_drewN | apply Kd.R_drew)); exact HO13015.out) hb); have n2_ := Aside0.mk (Kd.R_below (by (with_reducible repeat (first | apply Kd.R_alloc | apply Kd.R_drewN | apply Kd.R_drew)); exact HO13024.out) hb); have n3_ := Aside0.mk (Kd.R_below (by (with_reducible repeat (first | apply Kd.R_alloc | apply Kd.R_drewN | apply Kd.R_drew)); exact HO13027.out) hb); have n4_ := Aside0.mk (Kd.R_below (by (with_reducible repeat (first | apply Kd.R_alloc | apply Kd.R_drewN | apply Kd.R_drew)); exact HO13037.out) hb); have n5_ := Aside0.mk (Kd.R_below (by (with_reducible repeat (first | apply Kd.R_alloc | apply Kd.R_drewN | apply Kd.R_drew)); exact HO13040.out) hb); have n6_ := Aside0.mk (Kd.R_below (by (with_reducible repeat (first | apply Kd.R_alloc | apply Kd.R_drewN | apply Kd.R_drew)); exact HO13050.out) hb); have n7_ := Aside0.mk (Kd.R_below (by (with_reducible repeat (first | apply Kd.R_alloc | apply Kd.R_drewN | apply Kd.R_drew)); exact HO13053.out) hb); have n8_ := Aside0.mk (blk_below (g := gb13001) (o := .cells #[.int .i64 a0_0, .string a0_1, .string a0_2, .int .i64 a0_3, .string a0_4, .slice A0_5 l0_5.length c0_5, .slice A0_6 l0_6.length c0_6, .int .i64 a0_7] 92 (0, 0)) (by (with_reducible repeat (first | refine blk_drewN ?_ _ | refine blk_drew ?_ | refine blk_alloc ?_ _)); exact BK13001.out) hb); have n9_ := Aside0.mk (blk_below (g := gb13002) (o := .cells #[.int .i64 a1_0, .string a1_1, .string a1_2, .int .i64 a1_3, .string a1_4, .slice A1_5 l1_5.length c1_5, .slice A1_6 l1_6.length c1_6, .int .i64 a1_7] 92 (0, 0)) (by (with_reducible repeat (first | refine blk_drewN ?_ _ | refine blk_drew ?_ | refine blk_alloc ?_ _)); exact BK13002.out) hb); have n10_ := Aside0.mk (blk_below (g := gb13042) (o := .cells #[.int .i64 t13030, .string t13031, .string t13032, .int .i64 t13033, .string t13034, .slice Ao87 t13035.length co87, .slice Ao88 t13038.length co88, .int .i64 t13041] 99 (0, 0)) (by (with_reducible repeat (first | refine blk_drewN ?_ _ | refine blk_drew ?_ | refine blk_alloc ?_ _)); exact BK13042.out) hb); have n11_ := Aside0.mk (below_step (by repeat (first | (with_reducible first | exact HB.out | apply below_alloc | apply pw_below_drewN | apply below_drew1 | refine below_set ?_ GE13001.out | refine below_set ?_ GE13002.out | refine below_set ?_ GE13042.out) | exact HB.out)) hb); have n12_ := Aside0.mk (hbox); have n13_ := Aside0.mk ((by rw [hg]; exact (below_size (by repeat (first | (with_reducible first | exact HB.out | apply below_alloc | apply pw_below_drewN | apply below_drew1 | refine below_set ?_ GE13001.out | refine below_set ?_ GE13002.out | refine below_set ?_ GE13042.out) | exact HB.out))) : w.heap.size ≤ gb13055)); have n14_ := Aside0.mk ((by rw [hg]; exact (below_size (by repeat (first | (with_reducible first | exact HB.out | apply below_alloc | apply pw_below_drewN | apply below_drew1 | refine below_set ?_ GE13001.out | refine below_set ?_ GE13002.out | refine below_set ?_ GE13042.out) | exact HB.out))) : w.heap.size ≤ gb13055)); have n15_ := Aside0.mk ((by rw [hg]; exact Nat.ne_of_lt (blk_lt (g := gb13001) (o := .cells #[.int .i64 a0_0, .string a0_1, .string a0_2, .int .i64 a0_3, .string a0_4, .slice A0_5 l0_5.length c0_5, .slice A0_6 l0_6.length c0_6, .int .i64 a0_7] 92 (0, 0)) (by (with_reducible repeat (first | refine blk_drewN ?_ _ | refine blk_drew ?_ | refine blk_alloc ?_ _)); exact BK13001.out)) : gb13001 ≠ gb13055)); have n16_ := Aside0.mk ((by rw [hg]; exact Nat.ne_of_gt (blk_lt (g := gb13001) (o := .cells #[.int .i64 a0_0, .string a0_1, .string a0_2, .int .i64 a0_3, .string a0_4, .slice A0_5 l0_5.length c0_5, .slice A0_6 l0_6.length c0_6, .int .i64 a0_7] 92 (0, 0)) (by (with_reducible repeat (first | refine blk_drewN ?_ _ | refine blk_drew ?_ | refine blk_alloc ?_ _)); exact BK13001.out)) : gb13055 ≠ gb13001)); have n17_ := Aside0.mk ((by rw [hg]; exact Nat.ne_of_lt (blk_lt (g := gb13002) (o := .cells #[.int .i64 a1_0, .string a1_1, .string a1_2, .int .i64 a1_3, .string a1_4, .slice A1_5 l1_5.length c1_5, .slice A1_6 l1_6.length c1_6, .int .i64 a1_7] 92 (0, 0)) (by (with_reducible repeat (first | refine blk_drewN ?_ _ | refine blk_drew ?_ | refine blk_alloc ?_ _)); exact BK13002.out)) : gb13002 ≠ gb13055)); have n18_ := Aside0.mk ((by rw [hg]; exact Nat.ne_of_gt (blk_lt (g := gb13002) (o := .cells #[.int .i64 a1_0, .string a1_1, .string a1_2, .int .i64 a1_3, .string a1_4, .slice A1_5 l1_5.length c1_5, .slice A1_6 l1_6.length c1_6, .int .i64 a1_7] 92 (0, 0)) (by (with_reducible repeat (first | refine blk_drewN ?_ _ | refine blk_drew ?_ | refine blk_alloc ?_ _)); exact BK13002.out)) : gb13055 ≠ gb13002)); have n19_ := Aside0.mk ((by rw [hg]; exact Nat.ne_of_lt (blk_lt (g := gb13042) (o := .cells #[.int .i64 t13030, .string t13031, .string t13032, .int .i64 t13033, .string t13034, .slice Ao87 t13035.length co87, .slice Ao88 t13038.length co88, .int .i64 t13041] 99 (0, 0)) (by (with_reducible repeat (first | refine blk_drewN ?_ _ | refine blk_drew ?_ | refine blk_alloc ?_ _)); exact BK13042.out)) : gb13042 ≠ gb13055)); have n20_ := Aside0.mk ((by rw [hg]; exact Nat.ne_of_gt (blk_lt (g := gb13042) (o := .cells #[.int .i64 t13030, .string t13031, .string t13032, .int .i64 t13033, .string t13034, .slice Ao87 t13035.length co87, .slice Ao88 t13038.length co88, .int .i64 t13041] 99 (0, 0)) (by (with_reducible repeat (first | refine blk_drewN ?_ _ | refine blk_drew ?_ | refine blk_alloc ?_ _)); exact BK13042.out)) : gb13055 ≠ gb13042)); clear HO13012; clear HO13015; clear HO13024; clear HO13027; clear HO13037; clear HO13040; clear HO13050; clear HO13053; clear BK13001; clear BK13002; clear BK13042; clear HB; have HO13012 := n0_; have HO13015 := n1_; have HO13024 := n2_; have HO13027 := n3_; have HO13037 := n4_; have HO13040 := n5_; have HO13050 := n6_; have HO13053 := n7_; have BK13001 := n8_; have BK13002 := n9_; have BK13042 := n10_; have HB := n11_; have BK13055 := n12_; have GW13055 := n13_; have GE13055 := n14_; have NB13001_13055 := n15_; have NB13055_13001 := n16_; have NB13002_13055 := n17_; have NB13055_13002 := n18_; have NB13042_13055 := n19_; have NB13055_13042 := n20_; clear n0_ n1_ n2_ n3_ n4_ n5_ n6_ n7_ n8_ n9_ n10_ n11_ n12_ n13_ n14_ n15_ n16_ n17_ n18_ n19_ n20_; clear hb hbox hg; have hnb92 := NB13055_13001.out; have hnc92 := NB13001_13055.out; have hnb93 := NB13055_13002.out; have hnc93 := NB13002_13055.out; have hnb94 := NB13055_13042.out; have hnc94 := NB13042_13055.out; have hcz95_0 : w91.cell? ⟨gb13055, 0, none⟩ = some (.int .i64 0) := (blk_cell BK13055.out 0).trans rfl; have hcz95_1 : w91.cell? ⟨gb13055, 1, none⟩ = some (.string (⟨#[]⟩ : ByteArray)) := (blk_cell BK13055.out 1).trans rfl; have hcz95_2 : w91.cell? ⟨gb13055, 2, none⟩ = some (.string (⟨#[]⟩ : ByteArray)) := (blk_cell BK13055.out 2).trans rfl; have hcz95_3 : w91.cell? ⟨gb13055, 3, none⟩ = some (.int .i64 0) := (blk_cell BK13055.out 3).trans rfl; have hcz95_4 : w91.cell? ⟨gb13055, 4, none⟩ = some (.string (⟨#[]⟩ : ByteArray)) := (blk_cell BK13055.out 4).trans rfl; have hcz95_5 : w91.cell? ⟨gb13055, 5, none⟩ = some (.slice none 0 0) := (blk_cell BK13055.out 5).trans rfl; have hcz95_6 : w91.cell? ⟨gb13055, 6, none⟩ = some (.slice none 0 0) := (blk_cell BK13055.out 6).trans rfl; have hcz95_7 : w91.cell? ⟨gb13055, 7, none⟩ = some (.int .i64 0) := (blk_cell BK13055.out 7).trans rfl; have hfz95_0 := blk_frozen BK13055.out 0; have hfz95_1 := blk_frozen BK13055.out 1; have hfz95_2 := blk_frozen BK13055.out 2; have hfz95_3 := blk_frozen BK13055.out 3; have hfz95_4 := blk_frozen BK13055.out 4; have hfz95_5 := blk_frozen BK13055.out 5; have hfz95_6 := blk_frozen BK13055.out 6; have hfz95_7 := blk_frozen BK13055.out 7; obtain ⟨Ao96, co96, eo96⟩ := Kd.R_slice HO13050.out; subst eo96; obtain ⟨Ao97, co97, eo97⟩ := Kd.R_slice HO13053.out; subst eo97; have hcz98_0 : w91.cell? ⟨gb13042, 0, none⟩ = some (.int .i64 t13030) := (blk_cell BK13042.out 0).trans rfl; have hcz98_1 : w91.cell? ⟨gb13042, 1, none⟩ = some (.string t13031) := (blk_cell BK13042.out 1).trans rfl; have hcz98_2 : w91.cell? ⟨gb13042, 2, none⟩ = some (.string t13032) := (blk_cell BK13042.out 2).trans rfl; have hcz98_3 : w91.cell? ⟨gb13042, 3, none⟩ = some (.int .i64 t13033) := (blk_cell BK13042.out 3).trans rfl; have hcz98_4 : w91.cell? ⟨gb13042, 4, none⟩ = some (.string t13034) := (blk_cell BK13042.out 4).trans rfl; have hcz98_5 : w91.cell? ⟨gb13042, 5, none⟩ = some (.slice Ao87 t13035.length co87) := (blk_cell BK13042.out 5).trans rfl; have hcz98_6 : w91.cell? ⟨gb13042, 6, none⟩ = some (.slice Ao88 t13038.length co88) := (blk_cell BK13042.out 6).trans rfl; have hcz98_7 : w91.cell? ⟨gb13042, 7, none⟩ = some (.int .i64 t13041) := (blk_cell BK13042.out 7).trans rfl; have hfz98_0 := blk_frozen BK13042.out 0; have hfz98_1 := blk_frozen BK13042.out 1; have hfz98_2 := blk_frozen BK13042.out 2; have hfz98_3 := blk_frozen BK13042.out 3; have hfz98_4 := blk_frozen BK13042.out 4; have hfz98_5 := blk_frozen BK13042.out 5; have hfz98_6 := blk_frozen BK13042.out 6; have hfz98_7 := blk_frozen BK13042.out 7) | ((with_reducible refine gate_callee (f := 61) rfl ?_); refine goesL_ (some 31) rfl rfl Try.func61 (by kernel_rfl) rfl #[.agg #[.int .i64 t13030, .string t13031, .string t13032, .int .i64 t13033, .string t13034, .slice Ao87 t13035.length co87, .slice Ao88 t13038.length co88, .int .i64 t13041], .agg #[.int .i64 t13043, .string t13044, .string t13045, .int .i64 t13046, .string t13047, .slice Ao96 t13048.length co96, .slice Ao97 t13051.length co97, .int .i64 t13054]] rfl (by (try simp only [List.map_toArray, List.map_cons, List.map_nil]); first | done | rfl | (simp only [List.length_drop, List.length_take]; rfl)) ?_; (with_reducible refine (impl_EqualConstraint.calls k t13030 t13031 t13032 t13033 t13034 _ _ t13035 _ _ t13038 t13041 t13043 t13044 t13045 t13046 t13047 _ _ t13048 _ _ t13051 t13054 t13056 _ ?side1 ?side2 ?side3 ?side4 ?side5 ?side6 ?side7 ?side8 A24.out).mono ?_); (case side1 => refine (Kd.R_reads' (e := 97) (base := w.heap.size) (ok := fun k_ => (((True ∧ some k_ ≠ (.slice Ao76 t13010.length co76 : Value).ownBlock) ∧ some k_ ≠ (.slice Ao78 t13022.length co78 : Value).ownBlock) ∧ some k_ ≠ (.slice Ao96 t13048.length co96 : Value).ownBlock)) (n := t13035.length) (c := co87) ?_).2.2; exact (by (with_reducible repeat (first | apply Kd.R_alloc | apply Kd.R_drewN | apply Kd.R_drew)); exact (Kd.R_mono (Kd.R_far (p := ⟨gb13055, 7, none⟩) (Kd.R_far (p := ⟨gb13055, 6, none⟩) (Kd.R_far (p := ⟨gb13055, 5, none⟩) (Kd.R_far (p := ⟨gb13055, 4, none⟩) (Kd.R_far (p := ⟨gb13055, 3, none⟩) (Kd.R_far (p := ⟨gb13055, 2, none⟩) (Kd.R_far (p := ⟨gb13055, 1, none⟩) (Kd.R_far (p := ⟨gb13055, 0, none⟩) (Kd.R_types HO13037.out BK13055.out (by decide)) (fun _ hk => hk.2) (.int .i64 t13043)) (fun _ hk => hk.2) (.string t13044)) (fun _ hk => hk.2) (.string t13045)) (fun _ hk => hk.2) (.int .i64 t13046)) (fun _ hk => hk.2) (.string t13047)) (fun _ hk => hk.2) (.slice Ao96 t13048.length co96)) (fun _ hk => hk.2) (.slice Ao97 t13051.length co97)) (fun _ hk => hk.2) (.int .i64 t13054)) (fun _ h_ => h_.1)))); (case side2 => exact (Kd.R_reads' HO13037.out).2.1); (case side3 => refine (Kd.R_reads' (e := 3) (base := w.heap.size) (ok := fun k_ => (((True ∧ some k_ ≠ (.slice Ao77 t13013.length co77 : Value).ownBlock) ∧ some k_ ≠ (.slice Ao79 t13025.length co79 : Value).ownBlock) ∧ some k_ ≠ (.slice Ao97 t13051.length co97 : Value).ownBlock)) (n := t13038.length) (c := co88) ?_).2.2; exact (by (with_reducible repeat (first | apply Kd.R_alloc | apply Kd.R_drewN | apply Kd.R_drew)); exact (Kd.R_mono (Kd.R_far (p := ⟨gb13055, 7, none⟩) (Kd.R_far (p := ⟨gb13055, 6, none⟩) (Kd.R_far (p := ⟨gb13055, 5, none⟩) (Kd.R_far (p := ⟨gb13055, 4, none⟩) (Kd.R_far (p := ⟨gb13055, 3, none⟩) (Kd.R_far (p := ⟨gb13055, 2, none⟩) (Kd.R_far (p := ⟨gb13055, 1, none⟩) (Kd.R_far (p := ⟨gb13055, 0, none⟩) (Kd.R_types HO13040.out BK13055.out (by decide)) (fun _ hk => hk.2) (.int .i64 t13043)) (fun _ hk => hk.2) (.string t13044)) (fun _ hk => hk.2) (.string t13045)) (fun _ hk => hk.2) (.int .i64 t13046)) (fun _ hk => hk.2) (.string t13047)) (fun _ hk => hk.2) (.slice Ao96 t13048.length co96)) (fun _ hk => hk.2) (.slice Ao97 t13051.length co97)) (fun _ hk => hk.2) (.int .i64 t13054)) (fun _ h_ => h_.1)))); (case side4 => exact (Kd.R_reads' HO13040.out).2.1); (case side5 => refine (Kd.R_reads' (e := 97) (base := w.heap.size) (ok := fun k_ => (((True ∧ some k_ ≠ (.slice Ao76 t13010.length co76 : Value).ownBlock) ∧ some k_ ≠ (.slice Ao78 t13022.length co78 : Value).ownBlock) ∧ some k_ ≠ (.slice Ao87 t13035.length co87 : Value).ownBlock)) (n := t13048.length) (c := co96) ?_).2.2; exact (by (with_reducible repeat (first | apply Kd.R_alloc | apply Kd.R_drewN | apply Kd.R_drew)); exact (Kd.R_mono (Kd.R_far (p := ⟨gb13055, 7, none⟩) (Kd.R_far (p := ⟨gb13055, 6, none⟩) (Kd.R_far (p := ⟨gb13055, 5, none⟩) (Kd.R_far (p := ⟨gb13055, 4, none⟩) (Kd.R_far (p := ⟨gb13055, 3, none⟩) (Kd.R_far (p := ⟨gb13055, 2, none⟩) (Kd.R_far (p := ⟨gb13055, 1, none⟩) (Kd.R_far (p := ⟨gb13055, 0, none⟩) (Kd.R_types HO13050.out BK13055.out (by decide)) (fun _ hk => hk.2) (.int .i64 t13043)) (fun _ hk => hk.2) (.string t13044)) (fun _ hk => hk.2) (.string t13045)) (fun _ hk => hk.2) (.int .i64 t13046)) (fun _ hk => hk.2) (.string t13047)) (fun _ hk => hk.2) (.slice Ao96 t13048.length co96)) (fun _ hk => hk.2) (.slice Ao97 t13051.length co97)) (fun _ hk => hk.2) (.int .i64 t13054)) (fun _ h_ => h_.1)))); (case side6 => exact (Kd.R_reads' HO13050.out).2.1); (case side7 => refine (Kd.R_reads' (e := 3) (base := w.heap.size) (ok := fun k_ => (((True ∧ some k_ ≠ (.slice Ao77 t13013.length co77 : Value).ownBlock) ∧ some k_ ≠ (.slice Ao79 t13025.length co79 : Value).ownBlock) ∧ some k_ ≠ (.slice Ao88 t13038.length co88 : Value).ownBlock)) (n := t13051.length) (c := co97) ?_).2.2; exact (by (with_reducible repeat (first | apply Kd.R_alloc | apply Kd.R_drewN | apply Kd.R_drew)); exact (Kd.R_mono (Kd.R_far (p := ⟨gb13055, 7, none⟩) (Kd.R_far (p := ⟨gb13055, 6, none⟩) (Kd.R_far (p := ⟨gb13055, 5, none⟩) (Kd.R_far (p := ⟨gb13055, 4, none⟩) (Kd.R_far (p := ⟨gb13055, 3, none⟩) (Kd.R_far (p := ⟨gb13055, 2, none⟩) (Kd.R_far (p := ⟨gb13055, 1, none⟩) (Kd.R_far (p := ⟨gb13055, 0, none⟩) (Kd.R_types HO13053.out BK13055.out (by decide)) (fun _ hk => hk.2) (.int .i64 t13043)) (fun _ hk => hk.2) (.string t13044)) (fun _ hk => hk.2) (.string t13045)) (fun _ hk => hk.2) (.int .i64 t13046)) (fun _ hk => hk.2) (.string t13047)) (fun _ hk => hk.2) (.slice Ao96 t13048.length co96)) (fun _ hk => hk.2) (.slice Ao97 t13051.length co97)) (fun _ hk => hk.2) (.int .i64 t13054)) (fun _ h_ => h_.1)))); (case side8 => exact (Kd.R_reads' HO13053.out).2.1); rintro e w99 ⟨rfl, hb⟩; refine ⟨_, rfl, ?_⟩; have n0_ := Aside0.mk (Kd.R_below (by (with_reducible repeat (first | apply Kd.R_alloc | apply Kd.R_drewN | apply Kd.R_drew)); exact (Kd.R_mono (Kd.R_far (p := ⟨gb13055, 7, none⟩) (Kd.R_far (p := ⟨gb13055, 6, none⟩) (Kd.R_far (p := ⟨gb13055, 5, none⟩) (Kd.R_far (p := ⟨gb13055, 4, none⟩) (Kd.R_far (p := ⟨gb13055, 3, none⟩) (Kd.R_far (p := ⟨gb13055, 2, none⟩) (Kd.R_far (p := ⟨gb13055, 1, none⟩) (Kd.R_far (p := ⟨gb13055, 0, none⟩) (Kd.R_types HO13012.out BK13055.out (by decide)) (fun _ hk => hk.2) (.int .i64 t13043)) (fun _ hk => hk.2) (.string t13044)) (fun _ hk => hk.2) (.string t13045)) (fun _ hk => hk.2) (.int .i64 t13046)) (fun _ hk => hk.2) (.string t13047)) (fun _ hk => hk.2) (.slice Ao96 t13048.length co96)) (fun _ hk => hk.2) (.slice Ao97 t13051.length co97)) (fun _ hk => hk.2) (.int .i64 t13054)) (fun _ h_ => h_.1))) hb); have n1_ := Aside0.mk (Kd.R_below (by (with_reducible repeat (first | apply Kd.R_alloc | apply Kd.R_drewN | apply Kd.R_drew)); exact (Kd.R_mono (Kd.R_far (p := ⟨gb13055, 7, none⟩) (Kd.R_far (p := ⟨gb13055, 6, none⟩) (Kd.R_far (p := ⟨gb13055, 5, none⟩) (Kd.R_far (p := ⟨gb13055, 4, none⟩) (Kd.R_far (p := ⟨gb13055, 3, none⟩) (Kd.R_far (p := ⟨gb13055, 2, none⟩) (Kd.R_far (p := ⟨gb13055, 1, none⟩) (Kd.R_far (p := ⟨gb13055, 0, none⟩) (Kd.R_types HO13015.out BK13055.out (by decide)) (fun _ hk => hk.2) (.int .i64 t13043)) (fun _ hk => hk.2) (.string t13044)) (fun _ hk => hk.2) (.string t13045)) (fun _ hk => hk.2) (.int .i64 t13046)) (fun _ hk => hk.2) (.string t13047)) (fun _ hk => hk.2) (.slice Ao96 t13048.length co96)) (fun _ hk => hk.2) (.slice Ao97 t13051.length co97)) (fun _ hk => hk.2) (.int .i64 t13054)) (fun _ h_ => h_.1))) hb); have n2_ := Aside0.mk (Kd.R_below (by (with_reducible repeat (first | apply Kd.R_alloc | apply Kd.R_drewN | apply Kd.R_drew)); exact (Kd.R_mono (Kd.R_far (p := ⟨gb13055, 7, none⟩) (Kd.R_far (p := ⟨gb13055, 6, none⟩) (Kd.R_far (p := ⟨gb13055, 5, none⟩) (Kd.R_far (p := ⟨gb13055, 4, none⟩) (Kd.R_far (p := ⟨gb13055, 3, none⟩) (Kd.R_far (p := ⟨gb13055, 2, none⟩) (Kd.R_far (p := ⟨gb13055, 1, none⟩) (Kd.R_far (p := ⟨gb13055, 0, none⟩) (Kd.R_types HO13024.out BK13055.out (by decide)) (fun _ hk => hk.2) (.int .i64 t13043)) (fun _ hk => hk.2) (.string t13044)) (fun _ hk => hk.2) (.string t13045)) (fun _ hk => hk.2) (.int .i64 t13046)) (fun _ hk => hk.2) (.string t13047)) (fun _ hk => hk.2) (.slice Ao96 t13048.length co96)) (fun _ hk => hk.2) (.slice Ao97 t13051.length co97)) (fun _ hk => hk.2) (.int .i64 t13054)) (fun _ h_ => h_.1))) hb); have n3_ := Aside0.mk (Kd.R_below (by (with_reducible repeat (first | apply Kd.R_alloc | apply Kd.R_drewN | apply Kd.R_drew)); exact (Kd.R_mono (Kd.R_far (p := ⟨gb13055, 7, none⟩) (Kd.R_far (p := ⟨gb13055, 6, none⟩) (Kd.R_far (p := ⟨gb13055, 5, none⟩) (Kd.R_far (p := ⟨gb13055, 4, none⟩) (Kd.R_far (p := ⟨gb13055, 3, none⟩) (Kd.R_far (p := ⟨gb13055, 2, none⟩) (Kd.R_far (p := ⟨gb13055, 1, none⟩) (Kd.R_far (p := ⟨gb13055, 0, none⟩) (Kd.R_types HO13027.out BK13055.out (by decide)) (fun _ hk => hk.2) (.int .i64 t13043)) (fun _ hk => hk.2) (.string t13044)) (fun _ hk => hk.2) (.string t13045)) (fun _ hk => hk.2) (.int .i64 t13046)) (fun _ hk => hk.2) (.string t13047)) (fun _ hk => hk.2) (.slice Ao96 t13048.length co96)) (fun _ hk => hk.2) (.slice Ao97 t13051.length co97)) (fun _ hk => hk.2) (.int .i64 t13054)) (fun _ h_ => h_.1))) hb); have n4_ := Aside0.mk (Kd.R_below (by (with_reducible repeat (first | apply Kd.R_alloc | apply Kd.R_drewN | apply Kd.R_drew)); exact (Kd.R_mono (Kd.R_far (p := ⟨gb13055, 7, none⟩) (Kd.R_far (p := ⟨gb13055, 6, none⟩) (Kd.R_far (p := ⟨gb13055, 5, none⟩) (Kd.R_far (p := ⟨gb13055, 4, none⟩) (Kd.R_far (p := ⟨gb13055, 3, none⟩) (Kd.R_far (p := ⟨gb13055, 2, none⟩) (Kd.R_far (p := ⟨gb13055, 1, none⟩) (Kd.R_far (p := ⟨gb13055, 0, none⟩) (Kd.R_types HO13037.out BK13055.out (by decide)) (fun _ hk => hk.2) (.int .i64 t13043)) (fun _ hk => hk.2) (.string t13044)) (fun _ hk => hk.2) (.string t13045)) (fun _ hk => hk.2) (.int .i64 t13046)) (fun _ hk => hk.2) (.string t13047)) (fun _ hk => hk.2) (.slice Ao96 t13048.length co96)) (fun _ hk => hk.2) (.slice Ao97 t13051.length co97)) (fun _ hk => hk.2) (.int .i64 t13054)) (fun _ h_ => h_.1))) hb); have n5_ := Aside0.mk (Kd.R_below (by (with_reducible repeat (first | apply Kd.R_alloc | apply Kd.R_drewN | apply Kd.R_drew)); exact (Kd.R_mono (Kd.R_far (p := ⟨gb13055, 7, none⟩) (Kd.R_far (p := ⟨gb13055, 6, none⟩) (Kd.R_far (p := ⟨gb13055, 5, none⟩) (Kd.R_far (p := ⟨gb13055, 4, none⟩) (Kd.R_far (p := ⟨gb13055, 3, none⟩) (Kd.R_far (p := ⟨gb13055, 2, none⟩) (Kd.R_far (p := ⟨gb13055, 1, none⟩) (Kd.R_far (p := ⟨gb13055, 0, none⟩) (Kd.R_types HO13040.out BK13055.out (by decide)) (fun _ hk => hk.2) (.int .i64 t13043)) (fun _ hk => hk.2) (.string t13044)) (fun _ hk => hk.2) (.string t13045)) (fun _ hk => hk.2) (.int .i64 t13046)) (fun _ hk => hk.2) (.string t13047)) (fun _ hk => hk.2) (.slice Ao96 t13048.length co96)) (fun _ hk => hk.2) (.slice Ao97 t13051.length co97)) (fun _ hk => hk.2) (.int .i64 t13054)) (fun _ h_ => h_.1))) hb); have n6_ := Aside0.mk (Kd.R_below (by (with_reducible repeat (first | apply Kd.R_alloc | apply Kd.R_drewN | apply Kd.R_drew)); exact (Kd.R_mono (Kd.R_far (p := ⟨gb13055, 7, none⟩) (Kd.R_far (p := ⟨gb13055, 6, none⟩) (Kd.R_far (p := ⟨gb13055, 5, none⟩) (Kd.R_far (p := ⟨gb13055, 4, none⟩) (Kd.R_far (p := ⟨gb13055, 3, none⟩) (Kd.R_far (p := ⟨gb13055, 2, none⟩) (Kd.R_far (p := ⟨gb13055, 1, none⟩) (Kd.R_far (p := ⟨gb13055, 0, none⟩) (Kd.R_types HO13050.out BK13055.out (by decide)) (fun _ hk => hk.2) (.int .i64 t13043)) (fun _ hk => hk.2) (.string t13044)) (fun _ hk => hk.2) (.string t13045)) (fun _ hk => hk.2) (.int .i64 t13046)) (fun _ hk => hk.2) (.string t13047)) (fun _ hk => hk.2) (.slice Ao96 t13048.length co96)) (fun _ hk => hk.2) (.slice Ao97 t13051.length co97)) (fun _ hk => hk.2) (.int .i64 t13054)) (fun _ h_ => h_.1))) hb); have n7_ := Aside0.mk (Kd.R_below (by (with_reducible repeat (first | apply Kd.R_alloc | apply Kd.R_drewN | apply Kd.R_drew)); exact (Kd.R_mono (Kd.R_far (p := ⟨gb13055, 7, none⟩) (Kd.R_far (p := ⟨gb13055, 6, none⟩) (Kd.R_far (p := ⟨gb13055, 5, none⟩) (Kd.R_far (p := ⟨gb13055, 4, none⟩) (Kd.R_far (p := ⟨gb13055, 3, none⟩) (Kd.R_far (p := ⟨gb13055, 2, none⟩) (Kd.R_far (p := ⟨gb13055, 1, none⟩) (Kd.R_far (p := ⟨gb13055, 0, none⟩) (Kd.R_types HO13053.out BK13055.out (by decide)) (fun _ hk => hk.2) (.int .i64 t13043)) (fun _ hk => hk.2) (.string t13044)) (fun _ hk => hk.2) (.string t13045)) (fun _ hk => hk.2) (.int .i64 t13046)) (fun _ hk => hk.2) (.string t13047)) (fun _ hk => hk.2) (.slice Ao96 t13048.length co96)) (fun _ hk => hk.2) (.slice Ao97 t13051.length co97)) (fun _ hk => hk.2) (.int .i64 t13054)) (fun _ h_ => h_.1))) hb); have n8_ := Aside0.mk (blk_below (g := gb13001) (o := .cells #[.int .i64 a0_0, .string a0_1, .string a0_2, .int .i64 a0_3, .string a0_4, .slice A0_5 l0_5.length c0_5, .slice A0_6 l0_6.length c0_6, .int .i64 a0_7] 92 (0, 0)) (by (with_reducible repeat (first | refine blk_drewN ?_ _ | refine blk_drew ?_ | refine blk_alloc ?_ _)); refine blk_far ?_ NB13001_13055.out _; (with_reducible repeat (first | refine blk_drewN ?_ _ | refine blk_drew ?_ | refine blk_alloc ?_ _)); refine blk_far ?_ NB13001_13055.out _; (with_reducible repeat (first | refine blk_drewN ?_ _ | refine blk_drew ?_ | refine blk_alloc ?_ _)); refine blk_far ?_ NB13001_13055.out _; (with_reducible repeat (first | refine blk_drewN ?_ _ | refine blk_drew ?_ | refine blk_alloc ?_ _)); refine blk_far ?_ NB13001_13055.out _; (with_reducible repeat (first | refine blk_drewN ?_ _ | refine blk_drew ?_ | refine blk_alloc ?_ _)); refine blk_far ?_ NB13001_13055.out _; (with_reducible repeat (first | refine blk_drewN ?_ _ | refine blk_drew ?_ | refine blk_alloc ?_ _)); refine blk_far ?_ NB13001_13055.out _; (with_reducible repeat (first | refine blk_drewN ?_ _ | refine blk_drew ?_ | refine blk_alloc ?_ _)); refine blk_far ?_ NB13001_13055.out _; (with_reducible repeat (first | refine blk_drewN ?_ _ | refine blk_drew ?_ | refine blk_alloc ?_ _)); refine blk_far ?_ NB13001_13055.out _; (with_reducible repeat (first | refine blk_drewN ?_ _ | refine blk_drew ?_ | refine blk_alloc ?_ _)); exact BK13001.out) hb); have n9_ := Aside0.mk (blk_below (g := gb13002) (o := .cells #[.int .i64 a1_0, .string a1_1, .string a1_2, .int .i64 a1_3, .string a1_4, .slice A1_5 l1_5.length c1_5, .slice A1_6 l1_6.length c1_6, .int .i64 a1_7] 92 (0, 0)) (by (with_reducible repeat (first | refine blk_drewN ?_ _ | refine blk_drew ?_ | refine blk_alloc ?_ _)); refine blk_far ?_ NB13002_13055.out _; (with_reducible repeat (first | refine blk_drewN ?_ _ | refine blk_drew ?_ | refine blk_alloc ?_ _)); refine blk_far ?_ NB13002_13055.out _; (with_reducible repeat (first | refine blk_drewN ?_ _ | refine blk_drew ?_ | refine blk_alloc ?_ _)); refine blk_far ?_ NB13002_13055.out _; (with_reducible repeat (first | refine blk_drewN ?_ _ | refine blk_drew ?_ | refine blk_alloc ?_ _)); refine blk_far ?_ NB13002_13055.out _; (with_reducible repeat (first | refine blk_drewN ?_ _ | refine blk_drew ?_ | refine blk_alloc ?_ _)); refine blk_far ?_ NB13002_13055.out _; (with_reducible repeat (first | refine blk_drewN ?_ _ | refine blk_drew ?_ | refine blk_alloc ?_ _)); refine blk_far ?_ NB13002_13055.out _; (with_reducible repeat (first | refine blk_drewN ?_ _ | refine blk_drew ?_ | refine blk_alloc ?_ _)); refine blk_far ?_ NB13002_13055.out _; (with_reducible repeat (first | refine blk_drewN ?_ _ | refine blk_drew ?_ | refine blk_alloc ?_ _)); refine blk_far ?_ NB13002_13055.out _; (with_reducible repeat (first | refine blk_drewN ?_ _ | refine blk_drew ?_ | refine blk_alloc ?_ _)); exact BK13002.out) hb); have n10_ := Aside0.mk (blk_below (g := gb13042) (o := .cells #[.int .i64 t13030, .string t13031, .string t13032, .int .i64 t13033, .string t13034, .slice Ao87 t13035.length co87, .slice Ao88 t13038.length co88, .int .i64 t13041] 99 (0, 0)) (by (with_reducible repeat (first | refine blk_drewN ?_ _ | refine blk_drew ?_ | refine blk_alloc ?_ _)); refine blk_far ?_ NB13042_13055.out _; (with_reducible repeat (first | refine blk_drewN ?_ _ | refine blk_drew ?_ | refine blk_alloc ?_ _)); refine blk_far ?_ NB13042_13055.out _; (with_reducible repeat (first | refine blk_drewN ?_ _ | refine blk_drew ?_ | refine blk_alloc ?_ _)); refine blk_far ?_ NB13042_13055.out _; (with_reducible repeat (first | refine blk_drewN ?_ _ | refine blk_drew ?_ | refine blk_alloc ?_ _)); refine blk_far ?_ NB13042_13055.out _; (with_reducible repeat (first | refine blk_drewN ?_ _ | refine blk_drew ?_ | refine blk_alloc ?_ _)); refine blk_far ?_ NB13042_13055.out _; (with_reducible repeat (first | refine blk_drewN ?_ _ | refine blk_drew ?_ | refine blk_alloc ?_ _)); refine blk_far ?_ NB13042_13055.out _; (with_reducible repeat (first | refine blk_drewN ?_ _ | refine blk_drew ?_ | refine blk_alloc ?_ _)); refine blk_far ?_ NB13042_13055.out _; (with_reducible repeat (first | refine blk_drewN ?_ _ | refine blk_drew ?_ | refine blk_alloc ?_ _)); refine blk_far ?_ NB13042_13055.out _; (with_reducible repeat (first | refine blk_drewN ?_ _ | refine blk_drew ?_ | refine blk_alloc ?_ _)); exact BK13042.out) hb); have n11_ := Aside0.mk (blk_below (g := gb13055) (o := .cells #[.int .i64 t13043, .string t13044, .string t13045, .int .i64 t13046, .string t13047, .slice Ao96 t13048.length co96, .slice Ao97 t13051.length co97, .int .i64 t13054] 99 (0, 0)) (by (with_reducible repeat (first | refine blk_drewN ?_ _ | refine blk_drew ?_ | refine blk_alloc ?_ _)); refine blk_put (cs := #[.int .i64 t13043, .string t13044, .string t13045, .int .i64 t13046, .string t13047, .slice Ao96 t13048.length co96, .slice Ao97 t13051.length co97, .int .i64 0]) ?_ 7 _ rfl; (with_reducible repeat (first | refine blk_drewN ?_ _ | refine blk_drew ?_ | refine blk_alloc ?_ _)); refine blk_put (cs := #[.int .i64 t13043, .string t13044, .string t13045, .int .i64 t13046, .string t13047, .slice Ao96 t13048.length co96, .slice none 0 0, .int .i64 0]) ?_ 6 _ rfl; (with_reducible repeat (first | refine blk_drewN ?_ _ | refine blk_drew ?_ | refine blk_alloc ?_ _)); refine blk_put (cs := #[.int .i64 t13043, .string t13044, .string t13045, .int .i64 t13046, .string t13047, .slice none 0 0, .slice none 0 0, .int .i64 0]) ?_ 5 _ rfl; (with_reducible repeat (first | refine blk_drewN ?_ _ | refine blk_drew ?_ | refine blk_alloc ?_ _)); refine blk_put (cs := #[.int .i64 t13043, .string t13044, .string t13045, .int .i64 t13046, .string (⟨#[]⟩ : ByteArray), .slice none 0 0, .slice none 0 0, .int .i64 0]) ?_ 4 _ rfl; (with_reducible repeat (first | refine blk_drewN ?_ _ | refine blk_drew ?_ | refine blk_alloc ?_ _)); refine blk_put (cs := #[.int .i64 t13043, .string t13044, .string t13045, .int .i64 0, .string (⟨#[]⟩ : ByteArray), .slice none 0 0, .slice none 0 0, .int .i64 0]) ?_ 3 _ rfl; (with_reducible repeat (first | refine blk_drewN ?_ _ | refine blk_drew ?_ | refine blk_alloc ?_ _)); refine blk_put (cs := #[.int .i64 t13043, .string t13044, .string (⟨#[]⟩ : ByteArray), .int .i64 0, .string (⟨#[]⟩ : ByteArray), .slice none 0 0, .slice none 0 0, .int .i64 0]) ?_ 2 _ rfl; (with_reducible repeat (first | refine blk_drewN ?_ _ | refine blk_drew ?_ | refine blk_alloc ?_ _)); refine blk_put (cs := #[.int .i64 t13043, .string (⟨#[]⟩ : ByteArray), .string (⟨#[]⟩ : ByteArray), .int .i64 0, .string (⟨#[]⟩ : ByteArray), .slice none 0 0, .slice none 0 0, .int .i64 0]) ?_ 1 _ rfl; (with_reducible repeat (first | refine blk_drewN ?_ _ | refine blk_drew ?_ | refine blk_alloc ?_ _)); refine blk_put (cs := #[.int .i64 0, .string (⟨#[]⟩ : ByteArray), .string (⟨#[]⟩ : ByteArray), .int .i64 0, .string (⟨#[]⟩ : ByteArray), .slice none 0 0, .slice none 0 0, .int .i64 0]) ?_ 0 _ rfl; (with_reducible repeat (first | refine blk_drewN ?_ _ | refine blk_drew ?_ | refine blk_alloc ?_ _)); exact BK13055.out) hb); have n12_ := Aside0.mk (below_step (by repeat (first | (with_reducible first | exact HB.out | apply below_alloc | apply pw_below_drewN | apply below_drew1 | refine below_set ?_ GE13001.out | refine below_set ?_ GE13002.out | refine below_set ?_ GE13042.out | refine below_set ?_ GE13055.out) | exact HB.out)) hb); clear HO13012; clear HO13015; clear HO13024; clear HO13027; clear HO13037; clear HO13040; clear HO13050; clear HO13053; clear BK13001; clear BK13002; clear BK13042; clear BK13055; clear HB; have HO13012 := n0_; have HO13015 := n1_; have HO13024 := n2_; have HO13027 := n3_; have HO13037 := n4_; have HO13040 := n5_; have HO13050 := n6_; have HO13053 := n7_; have BK13001 := n8_; have BK13002 := n9_; have BK13042 := n10_; have BK13055 := n11_; have HB := n12_; clear n0_ n1_ n2_ n3_ n4_ n5_ n6_ n7_ n8_ n9_ n10_ n11_ n12_; (try clear hb); (try clear hb2); (try clear hk); (try clear hi)))
            have n0_ := Aside0.mk (Kd.R_drew HO13012.out)
            have n1_ := Aside0.mk (Kd.R_drew HO13015.out)
            have n2_ := Aside0.mk (Kd.R_drew HO13024.out)
            have n3_ := Aside0.mk (Kd.R_drew HO13027.out)
            have n4_ := Aside0.mk (Kd.R_drew HO13037.out)
            have n5_ := Aside0.mk (Kd.R_drew HO13040.out)
            have n6_ := Aside0.mk (Kd.R_drew HO13050.out)
            have n7_ := Aside0.mk (Kd.R_drew HO13053.out)
            have n8_ := Aside0.mk (blk_drew BK13001.out)
            have n9_ := Aside0.mk (blk_drew BK13002.out)
            have n10_ := Aside0.mk (blk_drew BK13042.out)
            have n11_ := Aside0.mk (blk_drew BK13055.out)
            have n12_ := Aside0.mk (below_drew1 HB.out)
            clear HO13012
            clear HO13015
            clear HO13024
            clear HO13027
            clear HO13037
            clear HO13040
            clear HO13050
            clear HO13053
            clear BK13001
            clear BK13002
            clear BK13042
            clear BK13055
            clear HB
            have HO13012 := n0_
            have HO13015 := n1_
            have HO13024 := n2_
            have HO13027 := n3_
            have HO13037 := n4_
            have HO13040 := n5_
            have HO13050 := n6_
            have HO13053 := n7_
            have BK13001 := n8_
            have BK13002 := n9_
            have BK13042 := n10_
            have BK13055 := n11_
            have HB := n12_
            clear n0_ n1_ n2_ n3_ n4_ n5_ n6_ n7_ n8_ n9_ n10_ n11_ n12_
            refine start_ (n := 5) (S := fun w' => w'.cell? ⟨gb13042, 0, none⟩ = some (.int .i64 t13030) ∧ w'.cell? ⟨gb13042, 1, none⟩ = some (.string t13031) ∧ w'.cell? ⟨gb13042, 2, none⟩ = some (.string t13032) ∧ w'.cell? ⟨gb13042, 3, none⟩ = some (.int .i64 t13033) ∧ w'.cell? ⟨gb13042, 4, none⟩ = some (.string t13034) ∧ w'.cell? ⟨gb13042, 5, none⟩ = some (.slice Ao87 t13035.length co87) ∧ w'.cell? ⟨gb13042, 6, none⟩ = some (.slice Ao88 t13038.length co88) ∧ w'.cell? ⟨gb13042, 7, none⟩ = some (.int .i64 t13041) ∧ w'.cell? ⟨gb13001, 0, none⟩ = some (.int .i64 a0_0) ∧ w'.cell? ⟨gb13001, 1, none⟩ = some (.string a0_1) ∧ w'.cell? ⟨gb13001, 2, none⟩ = some (.string a0_2) ∧ w'.cell? ⟨gb13001, 3, none⟩ = some (.int .i64 a0_3) ∧ w'.cell? ⟨gb13001, 4, none⟩ = some (.string a0_4) ∧ w'.cell? ⟨gb13001, 5, none⟩ = some (.slice A0_5 l0_5.length c0_5) ∧ w'.cell? ⟨gb13001, 6, none⟩ = some (.slice A0_6 l0_6.length c0_6) ∧ w'.cell? ⟨gb13001, 7, none⟩ = some (.int .i64 a0_7)) (ds := []) #[false, false, false, false, false] (by kernel_rfl) rfl rfl ⟨(blk_cell BK13042.out 0).trans rfl, (blk_cell BK13042.out 1).trans rfl, (blk_cell BK13042.out 2).trans rfl, (blk_cell BK13042.out 3).trans rfl, (blk_cell BK13042.out 4).trans rfl, (blk_cell BK13042.out 5).trans rfl, (blk_cell BK13042.out 6).trans rfl, (blk_cell BK13042.out 7).trans rfl, (blk_cell BK13001.out 0).trans rfl, (blk_cell BK13001.out 1).trans rfl, (blk_cell BK13001.out 2).trans rfl, (blk_cell BK13001.out 3).trans rfl, (blk_cell BK13001.out 4).trans rfl, (blk_cell BK13001.out 5).trans rfl, (blk_cell BK13001.out 6).trans rfl, (blk_cell BK13001.out 7).trans rfl⟩ (fun hHeld => ?_)
            generalize w99.drew = w100 at HO13012 HO13015 HO13024 HO13027 HO13037 HO13040 HO13050 HO13053 BK13001 BK13002 BK13042 BK13055 HB hHeld ⊢
            refine take_ (i := 0) (N := some 35) (v := ?_) (a' := ?_) #[true, false, false, false, false] rfl rfl (by kernel_rfl) (fun _ _ _ h => h) (Or.inl ⟨by rfl, ?_⟩) hHeld ?_ ?_
            rotate_left
            · rintro w' ⟨s0, s1, s2, s3, s4, s5, s6, s7, s8, s9, s10, s11, s12, s13, s14, s15⟩
              go_simp
              first | with_reducible rfl | (rw [if_neg (by omega)]; done)
            rotate_left
            · simp only [Act.put, List.setIfInBounds_toArray, List.set_cons_zero, List.set_cons_succ, i64_w, i32_w]
              rfl
            refine take_ (i := 1) (N := some 36) (v := ?_) (a' := ?_) #[true, true, false, false, false] rfl rfl (by kernel_rfl) (fun _ _ _ h => h) (Or.inl ⟨by rfl, ?_⟩) hHeld ?_ ?_
            rotate_left
            · rintro w' ⟨s0, s1, s2, s3, s4, s5, s6, s7, s8, s9, s10, s11, s12, s13, s14, s15⟩
              go_simp
              first | with_reducible rfl | (rw [if_neg (by omega)]; done)
            rotate_left
            · simp only [Act.put, List.setIfInBounds_toArray, List.set_cons_zero, List.set_cons_succ, i64_w, i32_w]
              rfl
            refine one_ (i := 2) (N := some 37) #[true, true, true, false, false] rfl rfl (by kernel_rfl) (by decide) (fun K hK => ?_)
            refine goes_ Try.func60 (by kernel_rfl) rfl #[.agg #[.int .i64 a0_0, .string a0_1, .string a0_2, .int .i64 a0_3, .string a0_4, .slice A0_5 l0_5.length c0_5, .slice A0_6 l0_6.length c0_6, .int .i64 a0_7]] (by rfl) rfl rfl (by (try simp only [List.map_toArray, List.map_cons, List.map_nil]); first | done | rfl | (simp only [List.length_drop, List.length_take]; rfl)) ?_
            with_reducible refine (laws_toConstraint.calls k a0_0 a0_1 a0_2 a0_3 a0_4 _ _ l0_5 _ _ l0_6 a0_7 t13057 t13058 t13059 t13060 t13061 t13062 t13065 t13068 _ ?side1 ?side2 ?side3 ?side4 A60.out).mono ?_
            (case side1 => repeat (first | exact (Kd.C_below HR0_5.out HB.out) | (with_reducible refine Kd.C_alloc ?_ _) | (with_reducible refine Kd.C_drewN ?_ _) | (with_reducible refine Kd.C_drew ?_)))
            (case side2 => exact HC0_5.out)
            (case side3 => repeat (first | exact (Kd.C_below HR0_6.out HB.out) | (with_reducible refine Kd.C_alloc ?_ _) | (with_reducible refine Kd.C_drewN ?_ _) | (with_reducible refine Kd.C_drew ?_)))
            (case side4 => exact HC0_6.out)
            rintro e w101 ⟨v13063, v13066, rfl, ho0, ho1, hb⟩
            refine ⟨_, rfl, ?_⟩
            have n0_ := Aside0.mk (Kd.R_elder' (by (with_reducible repeat (first | apply Kd.R_alloc | apply Kd.R_drewN | apply Kd.R_drew)); exact HO13012.out) (Kd.R_base ho0) hb)
            have n1_ := Aside0.mk (Kd.R_elder' (by (with_reducible repeat (first | apply Kd.R_alloc | apply Kd.R_drewN | apply Kd.R_drew)); exact HO13015.out) (Kd.R_base ho1) hb)
            have n2_ := Aside0.mk (Kd.R_elder' (by (with_reducible repeat (first | apply Kd.R_alloc | apply Kd.R_drewN | apply Kd.R_drew)); exact HO13024.out) (Kd.R_base ho0) hb)
            have n3_ := Aside0.mk (Kd.R_elder' (by (with_reducible repeat (first | apply Kd.R_alloc | apply Kd.R_drewN | apply Kd.R_drew)); exact HO13027.out) (Kd.R_base ho1) hb)
            have n4_ := Aside0.mk (Kd.R_elder' (by (with_reducible repeat (first | apply Kd.R_alloc | apply Kd.R_drewN | apply Kd.R_drew)); exact HO13037.out) (Kd.R_base ho0) hb)
            have n5_ := Aside0.mk (Kd.R_elder' (by (with_reducible repeat (first | apply Kd.R_alloc | apply Kd.R_drewN | apply Kd.R_drew)); exact HO13040.out) (Kd.R_base ho1) hb)
            have n6_ := Aside0.mk (Kd.R_elder' (by (with_reducible repeat (first | apply Kd.R_alloc | apply Kd.R_drewN | apply Kd.R_drew)); exact HO13050.out) (Kd.R_base ho0) hb)
            have n7_ := Aside0.mk (Kd.R_elder' (by (with_reducible repeat (first | apply Kd.R_alloc | apply Kd.R_drewN | apply Kd.R_drew)); exact HO13053.out) (Kd.R_base ho1) hb)
            have n8_ := Aside0.mk (Kd.R_lower (Kd.R_new' (Kd.R_new' (Kd.R_new' (Kd.R_new' ho0 (Kd.R_lt (by (with_reducible repeat (first | apply Kd.R_alloc | apply Kd.R_drewN | apply Kd.R_drew)); exact HO13012.out))) (Kd.R_lt (by (with_reducible repeat (first | apply Kd.R_alloc | apply Kd.R_drewN | apply Kd.R_drew)); exact HO13024.out))) (Kd.R_lt (by (with_reducible repeat (first | apply Kd.R_alloc | apply Kd.R_drewN | apply Kd.R_drew)); exact HO13037.out))) (Kd.R_lt (by (with_reducible repeat (first | apply Kd.R_alloc | apply Kd.R_drewN | apply Kd.R_drew)); exact HO13050.out))) (below_size (by repeat (first | (with_reducible first | exact HB.out | apply below_alloc | apply pw_below_drewN | apply below_drew1 | refine below_set ?_ GE13001.out | refine below_set ?_ GE13002.out | refine below_set ?_ GE13042.out | refine below_set ?_ GE13055.out) | exact HB.out))))
            have n9_ := Aside0.mk (Kd.R_lower (Kd.R_new' (Kd.R_new' (Kd.R_new' (Kd.R_new' ho1 (Kd.R_lt (by (with_reducible repeat (first | apply Kd.R_alloc | apply Kd.R_drewN | apply Kd.R_drew)); exact HO13015.out))) (Kd.R_lt (by (with_reducible repeat (first | apply Kd.R_alloc | apply Kd.R_drewN | apply Kd.R_drew)); exact HO13027.out))) (Kd.R_lt (by (with_reducible repeat (first | apply Kd.R_alloc | apply Kd.R_drewN | apply Kd.R_drew)); exact HO13040.out))) (Kd.R_lt (by (with_reducible repeat (first | apply Kd.R_alloc | apply Kd.R_drewN | apply Kd.R_drew)); exact HO13053.out))) (below_size (by repeat (first | (with_reducible first | exact HB.out | apply below_alloc | apply pw_below_drewN | apply below_drew1 | refine below_set ?_ GE13001.out | refine below_set ?_ GE13002.out | refine below_set ?_ GE13042.out | refine below_set ?_ GE13055.out) | exact HB.out))))
            have n10_ := Aside0.mk (blk_below (g := gb13001) (o := .cells #[.int .i64 a0_0, .string a0_1, .string a0_2, .int .i64 a0_3, .string a0_4, .slice A0_5 l0_5.length c0_5, .slice A0_6 l0_6.length c0_6, .int .i64 a0_7] 92 (0, 0)) (by (with_reducible repeat (first | refine blk_drewN ?_ _ | refine blk_drew ?_ | refine blk_alloc ?_ _)); exact BK13001.out) hb)
            have n11_ := Aside0.mk (blk_below (g := gb13002) (o := .cells #[.int .i64 a1_0, .string a1_1, .string a1_2, .int .i64 a1_3, .string a1_4, .slice A1_5 l1_5.length c1_5, .slice A1_6 l1_6.length c1_6, .int .i64 a1_7] 92 (0, 0)) (by (with_reducible repeat (first | refine blk_drewN ?_ _ | refine blk_drew ?_ | refine blk_alloc ?_ _)); exact BK13002.out) hb)
            have n12_ := Aside0.mk (blk_below (g := gb13042) (o := .cells #[.int .i64 t13030, .string t13031, .string t13032, .int .i64 t13033, .string t13034, .slice Ao87 t13035.length co87, .slice Ao88 t13038.length co88, .int .i64 t13041] 99 (0, 0)) (by (with_reducible repeat (first | refine blk_drewN ?_ _ | refine blk_drew ?_ | refine blk_alloc ?_ _)); exact BK13042.out) hb)
            have n13_ := Aside0.mk (blk_below (g := gb13055) (o := .cells #[.int .i64 t13043, .string t13044, .string t13045, .int .i64 t13046, .string t13047, .slice Ao96 t13048.length co96, .slice Ao97 t13051.length co97, .int .i64 t13054] 99 (0, 0)) (by (with_reducible repeat (first | refine blk_drewN ?_ _ | refine blk_drew ?_ | refine blk_alloc ?_ _)); exact BK13055.out) hb)
            have n14_ := Aside0.mk (below_step (by repeat (first | (with_reducible first | exact HB.out | apply below_alloc | apply pw_below_drewN | apply below_drew1 | refine below_set ?_ GE13001.out | refine below_set ?_ GE13002.out | refine below_set ?_ GE13042.out | refine below_set ?_ GE13055.out) | exact HB.out)) hb)
            clear HO13012
            clear HO13015
            clear HO13024
            clear HO13027
            clear HO13037
            clear HO13040
            clear HO13050
            clear HO13053
            clear BK13001
            clear BK13002
            clear BK13042
            clear BK13055
            clear HB
            have HO13012 := n0_
            have HO13015 := n1_
            have HO13024 := n2_
            have HO13027 := n3_
            have HO13037 := n4_
            have HO13040 := n5_
            have HO13050 := n6_
            have HO13053 := n7_
            have HO13064 := n8_
            have HO13067 := n9_
            have BK13001 := n10_
            have BK13002 := n11_
            have BK13042 := n12_
            have BK13055 := n13_
            have HB := n14_
            clear n0_ n1_ n2_ n3_ n4_ n5_ n6_ n7_ n8_ n9_ n10_ n11_ n12_ n13_ n14_
            (try clear hb)
            (try clear hb2)
            (try clear hk)
            (try clear hi)
            (try clear ho0)
            (try clear ho1)
            obtain ⟨Ao102, co102, eo102⟩ := Kd.R_slice HO13064.out
            (first | subst eo102 | (injection eo102 with f1_ f2_ f3_; have f4_ := f1_.symm; have f5_ := f3_.symm; clear f1_ f2_ f3_; subst f4_; subst f5_))
            obtain ⟨Ao103, co103, eo103⟩ := Kd.R_slice HO13067.out
            (first | subst eo103 | (injection eo103 with f1_ f2_ f3_; have f4_ := f1_.symm; have f5_ := f3_.symm; clear f1_ f2_ f3_; subst f4_; subst f5_))
            refine hK.out _ _ ⟨(blk_cell BK13042.out 0).trans rfl, (blk_cell BK13042.out 1).trans rfl, (blk_cell BK13042.out 2).trans rfl, (blk_cell BK13042.out 3).trans rfl, (blk_cell BK13042.out 4).trans rfl, (blk_cell BK13042.out 5).trans rfl, (blk_cell BK13042.out 6).trans rfl, (blk_cell BK13042.out 7).trans rfl, (blk_cell BK13001.out 0).trans rfl, (blk_cell BK13001.out 1).trans rfl, (blk_cell BK13001.out 2).trans rfl, (blk_cell BK13001.out 3).trans rfl, (blk_cell BK13001.out 4).trans rfl, (blk_cell BK13001.out 5).trans rfl, (blk_cell BK13001.out 6).trans rfl, (blk_cell BK13001.out 7).trans rfl⟩ (fun hHeld => ?_)
            clear hK K
            refine norm_ (a' := ?_) ?_ ?_
            rotate_left
            · show Act.put _ (some 37) _ = _
              simp only [Act.put, List.setIfInBounds_toArray, List.set_cons_zero, List.set_cons_succ, i64_w, i32_w]
              rfl
            refine one_ (i := 3) (N := some 38) #[true, true, true, true, false] rfl rfl (by kernel_rfl) (by decide) (fun K hK => ?_)
            refine goes_ Try.func62 (by kernel_rfl) rfl #[.agg #[.int .i64 t13030, .string t13031, .string t13032, .int .i64 t13033, .string t13034, .slice Ao87 t13035.length co87, .slice Ao88 t13038.length co88, .int .i64 t13041], .agg #[.int .i64 t13057, .string t13058, .string t13059, .int .i64 t13060, .string t13061, .slice Ao102 t13062.length co102, .slice Ao103 t13065.length co103, .int .i64 t13068]] (by rfl) rfl rfl (by (try simp only [List.map_toArray, List.map_cons, List.map_nil]); first | done | rfl | (simp only [List.length_drop, List.length_take]; rfl)) ?_
            with_reducible refine (laws_eqConstraint.calls k t13030 t13031 t13032 t13033 t13034 _ _ t13035 _ _ t13038 t13041 t13057 t13058 t13059 t13060 t13061 _ _ t13062 _ _ t13065 t13068 true _ ?side1 ?side2 ?side3 ?side4 ?side5 ?side6 ?side7 ?side8 A61.out).mono ?_
            (case side1 => repeat (first | exact (Kd.R_reads' HO13037.out).2.2 | (with_reducible refine Kd.C_alloc ?_ _) | (with_reducible refine Kd.C_drewN ?_ _) | (with_reducible refine Kd.C_drew ?_)))
            (case side2 => exact (Kd.R_reads' HO13037.out).2.1)
            (case side3 => repeat (first | exact (Kd.R_reads' HO13040.out).2.2 | (with_reducible refine Kd.C_alloc ?_ _) | (with_reducible refine Kd.C_drewN ?_ _) | (with_reducible refine Kd.C_drew ?_)))
            (case side4 => exact (Kd.R_reads' HO13040.out).2.1)
            (case side5 => repeat (first | exact (Kd.R_reads' HO13064.out).2.2 | (with_reducible refine Kd.C_alloc ?_ _) | (with_reducible refine Kd.C_drewN ?_ _) | (with_reducible refine Kd.C_drew ?_)))
            (case side6 => exact (Kd.R_reads' HO13064.out).2.1)
            (case side7 => repeat (first | exact (Kd.R_reads' HO13067.out).2.2 | (with_reducible refine Kd.C_alloc ?_ _) | (with_reducible refine Kd.C_drewN ?_ _) | (with_reducible refine Kd.C_drew ?_)))
            (case side8 => exact (Kd.R_reads' HO13067.out).2.1)
            rintro e w104 ⟨rfl, hb⟩
            refine ⟨_, rfl, ?_⟩
            have n0_ := Aside0.mk (Kd.R_below (by (with_reducible repeat (first | apply Kd.R_alloc | apply Kd.R_drewN | apply Kd.R_drew)); exact HO13012.out) hb)
            have n1_ := Aside0.mk (Kd.R_below (by (with_reducible repeat (first | apply Kd.R_alloc | apply Kd.R_drewN | apply Kd.R_drew)); exact HO13015.out) hb)
            have n2_ := Aside0.mk (Kd.R_below (by (with_reducible repeat (first | apply Kd.R_alloc | apply Kd.R_drewN | apply Kd.R_drew)); exact HO13024.out) hb)
            have n3_ := Aside0.mk (Kd.R_below (by (with_reducible repeat (first | apply Kd.R_alloc | apply Kd.R_drewN | apply Kd.R_drew)); exact HO13027.out) hb)
            have n4_ := Aside0.mk (Kd.R_below (by (with_reducible repeat (first | apply Kd.R_alloc | apply Kd.R_drewN | apply Kd.R_drew)); exact HO13037.out) hb)
            have n5_ := Aside0.mk (Kd.R_below (by (with_reducible repeat (first | apply Kd.R_alloc | apply Kd.R_drewN | apply Kd.R_drew)); exact HO13040.out) hb)
            have n6_ := Aside0.mk (Kd.R_below (by (with_reducible repeat (first | apply Kd.R_alloc | apply Kd.R_drewN | apply Kd.R_drew)); exact HO13050.out) hb)
            have n7_ := Aside0.mk (Kd.R_below (by (with_reducible repeat (first | apply Kd.R_alloc | apply Kd.R_drewN | apply Kd.R_drew)); exact HO13053.out) hb)
            have n8_ := Aside0.mk (Kd.R_below (by (with_reducible repeat (first | apply Kd.R_alloc | apply Kd.R_drewN | apply Kd.R_drew)); exact HO13064.out) hb)
            have n9_ := Aside0.mk (Kd.R_below (by (with_reducible repeat (first | apply Kd.R_alloc | apply Kd.R_drewN | apply Kd.R_drew)); exact HO13067.out) hb)
            have n10_ := Aside0.mk (blk_below (g := gb13001) (o := .cells #[.int .i64 a0_0, .string a0_1, .string a0_2, .int .i64 a0_3, .string a0_4, .slice A0_5 l0_5.length c0_5, .slice A0_6 l0_6.length c0_6, .int .i64 a0_7] 92 (0, 0)) (by (with_reducible repeat (first | refine blk_drewN ?_ _ | refine blk_drew ?_ | refine blk_alloc ?_ _)); exact BK13001.out) hb)
            have n11_ := Aside0.mk (blk_below (g := gb13002) (o := .cells #[.int .i64 a1_0, .string a1_1, .string a1_2, .int .i64 a1_3, .string a1_4, .slice A1_5 l1_5.length c1_5, .slice A1_6 l1_6.length c1_6, .int .i64 a1_7] 92 (0, 0)) (by (with_reducible repeat (first | refine blk_drewN ?_ _ | refine blk_drew ?_ | refine blk_alloc ?_ _)); exact BK13002.out) hb)
            have n12_ := Aside0.mk (blk_below (g := gb13042) (o := .cells #[.int .i64 t13030, .string t13031, .string t13032, .int .i64 t13033, .string t13034, .slice Ao87 t13035.length co87, .slice Ao88 t13038.length co88, .int .i64 t13041] 99 (0, 0)) (by (with_reducible repeat (first | refine blk_drewN ?_ _ | refine blk_drew ?_ | refine blk_alloc ?_ _)); exact BK13042.out) hb)
            have n13_ := Aside0.mk (blk_below (g := gb13055) (o := .cells #[.int .i64 t13043, .string t13044, .string t13045, .int .i64 t13046, .string t13047, .slice Ao96 t13048.length co96, .slice Ao97 t13051.length co97, .int .i64 t13054] 99 (0, 0)) (by (with_reducible repeat (first | refine blk_drewN ?_ _ | refine blk_drew ?_ | refine blk_alloc ?_ _)); exact BK13055.out) hb)
            have n14_ := Aside0.mk (below_step (by repeat (first | (with_reducible first | exact HB.out | apply below_alloc | apply pw_below_drewN | apply below_drew1 | refine below_set ?_ GE13001.out | refine below_set ?_ GE13002.out | refine below_set ?_ GE13042.out | refine below_set ?_ GE13055.out) | exact HB.out)) hb)
            clear HO13012
            clear HO13015
            clear HO13024
            clear HO13027
            clear HO13037
            clear HO13040
            clear HO13050
            clear HO13053
            clear HO13064
            clear HO13067
            clear BK13001
            clear BK13002
            clear BK13042
            clear BK13055
            clear HB
            have HO13012 := n0_
            have HO13015 := n1_
            have HO13024 := n2_
            have HO13027 := n3_
            have HO13037 := n4_
            have HO13040 := n5_
            have HO13050 := n6_
            have HO13053 := n7_
            have HO13064 := n8_
            have HO13067 := n9_
            have BK13001 := n10_
            have BK13002 := n11_
            have BK13042 := n12_
            have BK13055 := n13_
            have HB := n14_
            clear n0_ n1_ n2_ n3_ n4_ n5_ n6_ n7_ n8_ n9_ n10_ n11_ n12_ n13_ n14_
            (try clear hb)
            (try clear hb2)
            (try clear hk)
            (try clear hi)
            refine hK.out _ _ ⟨(blk_cell BK13042.out 0).trans rfl, (blk_cell BK13042.out 1).trans rfl, (blk_cell BK13042.out 2).trans rfl, (blk_cell BK13042.out 3).trans rfl, (blk_cell BK13042.out 4).trans rfl, (blk_cell BK13042.out 5).trans rfl, (blk_cell BK13042.out 6).trans rfl, (blk_cell BK13042.out 7).trans rfl, (blk_cell BK13001.out 0).trans rfl, (blk_cell BK13001.out 1).trans rfl, (blk_cell BK13001.out 2).trans rfl, (blk_cell BK13001.out 3).trans rfl, (blk_cell BK13001.out 4).trans rfl, (blk_cell BK13001.out 5).trans rfl, (blk_cell BK13001.out 6).trans rfl, (blk_cell BK13001.out 7).trans rfl⟩ (fun hHeld => ?_)
            clear hK K
            refine norm_ (a' := ?_) ?_ ?_
            rotate_left
            · show Act.put _ (some 38) _ = _
              simp only [Act.put, List.setIfInBounds_toArray, List.set_cons_zero, List.set_cons_succ, i64_w, i32_w]
              rfl
            refine pure_ (i := 4) (N := some 39) (v := ?_) (a' := ?_) #[true, true, true, true, true] rfl rfl (by kernel_rfl) (fun _ _ _ h => h) (Or.inl ⟨by rfl, ?_⟩) ?_ ?_
            rotate_left
            · intro w'
              go_simp
              first | with_reducible rfl | (rw [if_neg (by omega)]; done)
            rotate_left
            · simp only [Act.put, List.setIfInBounds_toArray, List.set_cons_zero, List.set_cons_succ, i64_w, i32_w]
              rfl
            refine done_ (by kernel_rfl) ?_
            try go_wp2
            have n0_ := Aside0.mk (Kd.R_drew HO13012.out)
            have n1_ := Aside0.mk (Kd.R_drew HO13015.out)
            have n2_ := Aside0.mk (Kd.R_drew HO13024.out)
            have n3_ := Aside0.mk (Kd.R_drew HO13027.out)
            have n4_ := Aside0.mk (Kd.R_drew HO13037.out)
            have n5_ := Aside0.mk (Kd.R_drew HO13040.out)
            have n6_ := Aside0.mk (Kd.R_drew HO13050.out)
            have n7_ := Aside0.mk (Kd.R_drew HO13053.out)
            have n8_ := Aside0.mk (Kd.R_drew HO13064.out)
            have n9_ := Aside0.mk (Kd.R_drew HO13067.out)
            have n10_ := Aside0.mk (blk_drew BK13001.out)
            have n11_ := Aside0.mk (blk_drew BK13002.out)
            have n12_ := Aside0.mk (blk_drew BK13042.out)
            have n13_ := Aside0.mk (blk_drew BK13055.out)
            have n14_ := Aside0.mk (below_drew1 HB.out)
            clear HO13012
            clear HO13015
            clear HO13024
            clear HO13027
            clear HO13037
            clear HO13040
            clear HO13050
            clear HO13053
            clear HO13064
            clear HO13067
            clear BK13001
            clear BK13002
            clear BK13042
            clear BK13055
            clear HB
            have HO13012 := n0_
            have HO13015 := n1_
            have HO13024 := n2_
            have HO13027 := n3_
            have HO13037 := n4_
            have HO13040 := n5_
            have HO13050 := n6_
            have HO13053 := n7_
            have HO13064 := n8_
            have HO13067 := n9_
            have BK13001 := n10_
            have BK13002 := n11_
            have BK13042 := n12_
            have BK13055 := n13_
            have HB := n14_
            clear n0_ n1_ n2_ n3_ n4_ n5_ n6_ n7_ n8_ n9_ n10_ n11_ n12_ n13_ n14_
            refine start_ (n := 5) (S := fun w' => w'.cell? ⟨gb13055, 0, none⟩ = some (.int .i64 t13043) ∧ w'.cell? ⟨gb13055, 1, none⟩ = some (.string t13044) ∧ w'.cell? ⟨gb13055, 2, none⟩ = some (.string t13045) ∧ w'.cell? ⟨gb13055, 3, none⟩ = some (.int .i64 t13046) ∧ w'.cell? ⟨gb13055, 4, none⟩ = some (.string t13047) ∧ w'.cell? ⟨gb13055, 5, none⟩ = some (.slice Ao96 t13048.length co96) ∧ w'.cell? ⟨gb13055, 6, none⟩ = some (.slice Ao97 t13051.length co97) ∧ w'.cell? ⟨gb13055, 7, none⟩ = some (.int .i64 t13054) ∧ w'.cell? ⟨gb13002, 0, none⟩ = some (.int .i64 a1_0) ∧ w'.cell? ⟨gb13002, 1, none⟩ = some (.string a1_1) ∧ w'.cell? ⟨gb13002, 2, none⟩ = some (.string a1_2) ∧ w'.cell? ⟨gb13002, 3, none⟩ = some (.int .i64 a1_3) ∧ w'.cell? ⟨gb13002, 4, none⟩ = some (.string a1_4) ∧ w'.cell? ⟨gb13002, 5, none⟩ = some (.slice A1_5 l1_5.length c1_5) ∧ w'.cell? ⟨gb13002, 6, none⟩ = some (.slice A1_6 l1_6.length c1_6) ∧ w'.cell? ⟨gb13002, 7, none⟩ = some (.int .i64 a1_7)) (ds := []) #[false, false, false, false, false] (by kernel_rfl) rfl rfl ⟨(blk_cell BK13055.out 0).trans rfl, (blk_cell BK13055.out 1).trans rfl, (blk_cell BK13055.out 2).trans rfl, (blk_cell BK13055.out 3).trans rfl, (blk_cell BK13055.out 4).trans rfl, (blk_cell BK13055.out 5).trans rfl, (blk_cell BK13055.out 6).trans rfl, (blk_cell BK13055.out 7).trans rfl, (blk_cell BK13002.out 0).trans rfl, (blk_cell BK13002.out 1).trans rfl, (blk_cell BK13002.out 2).trans rfl, (blk_cell BK13002.out 3).trans rfl, (blk_cell BK13002.out 4).trans rfl, (blk_cell BK13002.out 5).trans rfl, (blk_cell BK13002.out 6).trans rfl, (blk_cell BK13002.out 7).trans rfl⟩ (fun hHeld => ?_)
            generalize w104.drew = w105 at HO13012 HO13015 HO13024 HO13027 HO13037 HO13040 HO13050 HO13053 HO13064 HO13067 BK13001 BK13002 BK13042 BK13055 HB hHeld ⊢
            refine take_ (i := 0) (N := some 40) (v := ?_) (a' := ?_) #[true, false, false, false, false] rfl rfl (by kernel_rfl) (fun _ _ _ h => h) (Or.inl ⟨by rfl, ?_⟩) hHeld ?_ ?_
            rotate_left
            · rintro w' ⟨s0, s1, s2, s3, s4, s5, s6, s7, s8, s9, s10, s11, s12, s13, s14, s15⟩
              go_simp
              first | with_reducible rfl | (rw [if_neg (by omega)]; done)
            rotate_left
            · simp only [Act.put, List.setIfInBounds_toArray, List.set_cons_zero, List.set_cons_succ, i64_w, i32_w]
              rfl
            refine take_ (i := 1) (N := some 41) (v := ?_) (a' := ?_) #[true, true, false, false, false] rfl rfl (by kernel_rfl) (fun _ _ _ h => h) (Or.inl ⟨by rfl, ?_⟩) hHeld ?_ ?_
            rotate_left
            · rintro w' ⟨s0, s1, s2, s3, s4, s5, s6, s7, s8, s9, s10, s11, s12, s13, s14, s15⟩
              go_simp
              first | with_reducible rfl | (rw [if_neg (by omega)]; done)
            rotate_left
            · simp only [Act.put, List.setIfInBounds_toArray, List.set_cons_zero, List.set_cons_succ, i64_w, i32_w]
              rfl
            refine one_ (i := 2) (N := some 42) #[true, true, true, false, false] rfl rfl (by kernel_rfl) (by decide) (fun K hK => ?_)
            refine goes_ Try.func60 (by kernel_rfl) rfl #[.agg #[.int .i64 a1_0, .string a1_1, .string a1_2, .int .i64 a1_3, .string a1_4, .slice A1_5 l1_5.length c1_5, .slice A1_6 l1_6.length c1_6, .int .i64 a1_7]] (by rfl) rfl rfl (by (try simp only [List.map_toArray, List.map_cons, List.map_nil]); first | done | rfl | (simp only [List.length_drop, List.length_take]; rfl)) ?_
            with_reducible refine (laws_toConstraint.calls k a1_0 a1_1 a1_2 a1_3 a1_4 _ _ l1_5 _ _ l1_6 a1_7 t13070 t13071 t13072 t13073 t13074 t13075 t13078 t13081 _ ?side1 ?side2 ?side3 ?side4 A63.out).mono ?_
            (case side1 => repeat (first | exact (Kd.C_below HR1_5.out HB.out) | (with_reducible refine Kd.C_alloc ?_ _) | (with_reducible refine Kd.C_drewN ?_ _) | (with_reducible refine Kd.C_drew ?_)))
            (case side2 => exact HC1_5.out)
            (case side3 => repeat (first | exact (Kd.C_below HR1_6.out HB.out) | (with_reducible refine Kd.C_alloc ?_ _) | (with_reducible refine Kd.C_drewN ?_ _) | (with_reducible refine Kd.C_drew ?_)))
            (case side4 => exact HC1_6.out)
            rintro e w106 ⟨v13076, v13079, rfl, ho0, ho1, hb⟩
            refine ⟨_, rfl, ?_⟩
            have n0_ := Aside0.mk (Kd.R_elder' (by (with_reducible repeat (first | apply Kd.R_alloc | apply Kd.R_drewN | apply Kd.R_drew)); exact HO13012.out) (Kd.R_base ho0) hb)
            have n1_ := Aside0.mk (Kd.R_elder' (by (with_reducible repeat (first | apply Kd.R_alloc | apply Kd.R_drewN | apply Kd.R_drew)); exact HO13015.out) (Kd.R_base ho1) hb)
            have n2_ := Aside0.mk (Kd.R_elder' (by (with_reducible repeat (first | apply Kd.R_alloc | apply Kd.R_drewN | apply Kd.R_drew)); exact HO13024.out) (Kd.R_base ho0) hb)
            have n3_ := Aside0.mk (Kd.R_elder' (by (with_reducible repeat (first | apply Kd.R_alloc | apply Kd.R_drewN | apply Kd.R_drew)); exact HO13027.out) (Kd.R_base ho1) hb)
            have n4_ := Aside0.mk (Kd.R_elder' (by (with_reducible repeat (first | apply Kd.R_alloc | apply Kd.R_drewN | apply Kd.R_drew)); exact HO13037.out) (Kd.R_base ho0) hb)
            have n5_ := Aside0.mk (Kd.R_elder' (by (with_reducible repeat (first | apply Kd.R_alloc | apply Kd.R_drewN | apply Kd.R_drew)); exact HO13040.out) (Kd.R_base ho1) hb)
            have n6_ := Aside0.mk (Kd.R_elder' (by (with_reducible repeat (first | apply Kd.R_alloc | apply Kd.R_drewN | apply Kd.R_drew)); exact HO13050.out) (Kd.R_base ho0) hb)
            have n7_ := Aside0.mk (Kd.R_elder' (by (with_reducible repeat (first | apply Kd.R_alloc | apply Kd.R_drewN | apply Kd.R_drew)); exact HO13053.out) (Kd.R_base ho1) hb)
            have n8_ := Aside0.mk (Kd.R_elder' (by (with_reducible repeat (first | apply Kd.R_alloc | apply Kd.R_drewN | apply Kd.R_drew)); exact HO13064.out) (Kd.R_base ho0) hb)
            have n9_ := Aside0.mk (Kd.R_elder' (by (with_reducible repeat (first | apply Kd.R_alloc | apply Kd.R_drewN | apply Kd.R_drew)); exact HO13067.out) (Kd.R_base ho1) hb)
            have n10_ := Aside0.mk (Kd.R_lower (Kd.R_new' (Kd.R_new' (Kd.R_new' (Kd.R_new' (Kd.R_new' ho0 (Kd.R_lt (by (with_reducible repeat (first | apply Kd.R_alloc | apply Kd.R_drewN | apply Kd.R_drew)); exact HO13012.out))) (Kd.R_lt (by (with_reducible repeat (first | apply Kd.R_alloc | apply Kd.R_drewN | apply Kd.R_drew)); exact HO13024.out))) (Kd.R_lt (by (with_reducible repeat (first | apply Kd.R_alloc | apply Kd.R_drewN | apply Kd.R_drew)); exact HO13037.out))) (Kd.R_lt (by (with_reducible repeat (first | apply Kd.R_alloc | apply Kd.R_drewN | apply Kd.R_drew)); exact HO13050.out))) (Kd.R_lt (by (with_reducible repeat (first | apply Kd.R_alloc | apply Kd.R_drewN | apply Kd.R_drew)); exact HO13064.out))) (below_size (by repeat (first | (with_reducible first | exact HB.out | apply below_alloc | apply pw_below_drewN | apply below_drew1 | refine below_set ?_ GE13001.out | refine below_set ?_ GE13002.out | refine below_set ?_ GE13042.out | refine below_set ?_ GE13055.out) | exact HB.out))))
            have n11_ := Aside0.mk (Kd.R_lower (Kd.R_new' (Kd.R_new' (Kd.R_new' (Kd.R_new' (Kd.R_new' ho1 (Kd.R_lt (by (with_reducible repeat (first | apply Kd.R_alloc | apply Kd.R_drewN | apply Kd.R_drew)); exact HO13015.out))) (Kd.R_lt (by (with_reducible repeat (first | apply Kd.R_alloc | apply Kd.R_drewN | apply Kd.R_drew)); exact HO13027.out))) (Kd.R_lt (by (with_reducible repeat (first | apply Kd.R_alloc | apply Kd.R_drewN | apply Kd.R_drew)); exact HO13040.out))) (Kd.R_lt (by (with_reducible repeat (first | apply Kd.R_alloc | apply Kd.R_drewN | apply Kd.R_drew)); exact HO13053.out))) (Kd.R_lt (by (with_reducible repeat (first | apply Kd.R_alloc | apply Kd.R_drewN | apply Kd.R_drew)); exact HO13067.out))) (below_size (by repeat (first | (with_reducible first | exact HB.out | apply below_alloc | apply pw_below_drewN | apply below_drew1 | refine below_set ?_ GE13001.out | refine below_set ?_ GE13002.out | refine below_set ?_ GE13042.out | refine below_set ?_ GE13055.out) | exact HB.out))))
            have n12_ := Aside0.mk (blk_below (g := gb13001) (o := .cells #[.int .i64 a0_0, .string a0_1, .string a0_2, .int .i64 a0_3, .string a0_4, .slice A0_5 l0_5.length c0_5, .slice A0_6 l0_6.length c0_6, .int .i64 a0_7] 92 (0, 0)) (by (with_reducible repeat (first | refine blk_drewN ?_ _ | refine blk_drew ?_ | refine blk_alloc ?_ _)); exact BK13001.out) hb)
            have n13_ := Aside0.mk (blk_below (g := gb13002) (o := .cells #[.int .i64 a1_0, .string a1_1, .string a1_2, .int .i64 a1_3, .string a1_4, .slice A1_5 l1_5.length c1_5, .slice A1_6 l1_6.length c1_6, .int .i64 a1_7] 92 (0, 0)) (by (with_reducible repeat (first | refine blk_drewN ?_ _ | refine blk_drew ?_ | refine blk_alloc ?_ _)); exact BK13002.out) hb)
            have n14_ := Aside0.mk (blk_below (g := gb13042) (o := .cells #[.int .i64 t13030, .string t13031, .string t13032, .int .i64 t13033, .string t13034, .slice Ao87 t13035.length co87, .slice Ao88 t13038.length co88, .int .i64 t13041] 99 (0, 0)) (by (with_reducible repeat (first | refine blk_drewN ?_ _ | refine blk_drew ?_ | refine blk_alloc ?_ _)); exact BK13042.out) hb)
            have n15_ := Aside0.mk (blk_below (g := gb13055) (o := .cells #[.int .i64 t13043, .string t13044, .string t13045, .int .i64 t13046, .string t13047, .slice Ao96 t13048.length co96, .slice Ao97 t13051.length co97, .int .i64 t13054] 99 (0, 0)) (by (with_reducible repeat (first | refine blk_drewN ?_ _ | refine blk_drew ?_ | refine blk_alloc ?_ _)); exact BK13055.out) hb)
            have n16_ := Aside0.mk (below_step (by repeat (first | (with_reducible first | exact HB.out | apply below_alloc | apply pw_below_drewN | apply below_drew1 | refine below_set ?_ GE13001.out | refine below_set ?_ GE13002.out | refine below_set ?_ GE13042.out | refine below_set ?_ GE13055.out) | exact HB.out)) hb)
            clear HO13012
            clear HO13015
            clear HO13024
            clear HO13027
            clear HO13037
            clear HO13040
            clear HO13050
            clear HO13053
            clear HO13064
            clear HO13067
            clear BK13001
            clear BK13002
            clear BK13042
            clear BK13055
            clear HB
            have HO13012 := n0_
            have HO13015 := n1_
            have HO13024 := n2_
            have HO13027 := n3_
            have HO13037 := n4_
            have HO13040 := n5_
            have HO13050 := n6_
            have HO13053 := n7_
            have HO13064 := n8_
            have HO13067 := n9_
            have HO13077 := n10_
            have HO13080 := n11_
            have BK13001 := n12_
            have BK13002 := n13_
            have BK13042 := n14_
            have BK13055 := n15_
            have HB := n16_
            clear n0_ n1_ n2_ n3_ n4_ n5_ n6_ n7_ n8_ n9_ n10_ n11_ n12_ n13_ n14_ n15_ n16_
            (try clear hb)
            (try clear hb2)
            (try clear hk)
            (try clear hi)
            (try clear ho0)
            (try clear ho1)
            obtain ⟨Ao107, co107, eo107⟩ := Kd.R_slice HO13077.out
            (first | subst eo107 | (injection eo107 with f1_ f2_ f3_; have f4_ := f1_.symm; have f5_ := f3_.symm; clear f1_ f2_ f3_; subst f4_; subst f5_))
            obtain ⟨Ao108, co108, eo108⟩ := Kd.R_slice HO13080.out
            (first | subst eo108 | (injection eo108 with f1_ f2_ f3_; have f4_ := f1_.symm; have f5_ := f3_.symm; clear f1_ f2_ f3_; subst f4_; subst f5_))
            refine hK.out _ _ ⟨(blk_cell BK13055.out 0).trans rfl, (blk_cell BK13055.out 1).trans rfl, (blk_cell BK13055.out 2).trans rfl, (blk_cell BK13055.out 3).trans rfl, (blk_cell BK13055.out 4).trans rfl, (blk_cell BK13055.out 5).trans rfl, (blk_cell BK13055.out 6).trans rfl, (blk_cell BK13055.out 7).trans rfl, (blk_cell BK13002.out 0).trans rfl, (blk_cell BK13002.out 1).trans rfl, (blk_cell BK13002.out 2).trans rfl, (blk_cell BK13002.out 3).trans rfl, (blk_cell BK13002.out 4).trans rfl, (blk_cell BK13002.out 5).trans rfl, (blk_cell BK13002.out 6).trans rfl, (blk_cell BK13002.out 7).trans rfl⟩ (fun hHeld => ?_)
            clear hK K
            refine norm_ (a' := ?_) ?_ ?_
            rotate_left
            · show Act.put _ (some 42) _ = _
              simp only [Act.put, List.setIfInBounds_toArray, List.set_cons_zero, List.set_cons_succ, i64_w, i32_w]
              rfl
            refine one_ (i := 3) (N := some 43) #[true, true, true, true, false] rfl rfl (by kernel_rfl) (by decide) (fun K hK => ?_)
            refine goes_ Try.func62 (by kernel_rfl) rfl #[.agg #[.int .i64 t13043, .string t13044, .string t13045, .int .i64 t13046, .string t13047, .slice Ao96 t13048.length co96, .slice Ao97 t13051.length co97, .int .i64 t13054], .agg #[.int .i64 t13070, .string t13071, .string t13072, .int .i64 t13073, .string t13074, .slice Ao107 t13075.length co107, .slice Ao108 t13078.length co108, .int .i64 t13081]] (by rfl) rfl rfl (by (try simp only [List.map_toArray, List.map_cons, List.map_nil]); first | done | rfl | (simp only [List.length_drop, List.length_take]; rfl)) ?_
            with_reducible refine (laws_eqConstraint.calls k t13043 t13044 t13045 t13046 t13047 _ _ t13048 _ _ t13051 t13054 t13070 t13071 t13072 t13073 t13074 _ _ t13075 _ _ t13078 t13081 true _ ?side1 ?side2 ?side3 ?side4 ?side5 ?side6 ?side7 ?side8 A64.out).mono ?_
            (case side1 => repeat (first | exact (Kd.R_reads' HO13050.out).2.2 | (with_reducible refine Kd.C_alloc ?_ _) | (with_reducible refine Kd.C_drewN ?_ _) | (with_reducible refine Kd.C_drew ?_)))
            (case side2 => exact (Kd.R_reads' HO13050.out).2.1)
            (case side3 => repeat (first | exact (Kd.R_reads' HO13053.out).2.2 | (with_reducible refine Kd.C_alloc ?_ _) | (with_reducible refine Kd.C_drewN ?_ _) | (with_reducible refine Kd.C_drew ?_)))
            (case side4 => exact (Kd.R_reads' HO13053.out).2.1)
            (case side5 => repeat (first | exact (Kd.R_reads' HO13077.out).2.2 | (with_reducible refine Kd.C_alloc ?_ _) | (with_reducible refine Kd.C_drewN ?_ _) | (with_reducible refine Kd.C_drew ?_)))
            (case side6 => exact (Kd.R_reads' HO13077.out).2.1)
            (case side7 => repeat (first | exact (Kd.R_reads' HO13080.out).2.2 | (with_reducible refine Kd.C_alloc ?_ _) | (with_reducible refine Kd.C_drewN ?_ _) | (with_reducible refine Kd.C_drew ?_)))
            (case side8 => exact (Kd.R_reads' HO13080.out).2.1)
            rintro e w109 ⟨rfl, hb⟩
            refine ⟨_, rfl, ?_⟩
            have n0_ := Aside0.mk (Kd.R_below (by (with_reducible repeat (first | apply Kd.R_alloc | apply Kd.R_drewN | apply Kd.R_drew)); exact HO13012.out) hb)
            have n1_ := Aside0.mk (Kd.R_below (by (with_reducible repeat (first | apply Kd.R_alloc | apply Kd.R_drewN | apply Kd.R_drew)); exact HO13015.out) hb)
            have n2_ := Aside0.mk (Kd.R_below (by (with_reducible repeat (first | apply Kd.R_alloc | apply Kd.R_drewN | apply Kd.R_drew)); exact HO13024.out) hb)
            have n3_ := Aside0.mk (Kd.R_below (by (with_reducible repeat (first | apply Kd.R_alloc | apply Kd.R_drewN | apply Kd.R_drew)); exact HO13027.out) hb)
            have n4_ := Aside0.mk (Kd.R_below (by (with_reducible repeat (first | apply Kd.R_alloc | apply Kd.R_drewN | apply Kd.R_drew)); exact HO13037.out) hb)
            have n5_ := Aside0.mk (Kd.R_below (by (with_reducible repeat (first | apply Kd.R_alloc | apply Kd.R_drewN | apply Kd.R_drew)); exact HO13040.out) hb)
            have n6_ := Aside0.mk (Kd.R_below (by (with_reducible repeat (first | apply Kd.R_alloc | apply Kd.R_drewN | apply Kd.R_drew)); exact HO13050.out) hb)
            have n7_ := Aside0.mk (Kd.R_below (by (with_reducible repeat (first | apply Kd.R_alloc | apply Kd.R_drewN | apply Kd.R_drew)); exact HO13053.out) hb)
            have n8_ := Aside0.mk (Kd.R_below (by (with_reducible repeat (first | apply Kd.R_alloc | apply Kd.R_drewN | apply Kd.R_drew)); exact HO13064.out) hb)
            have n9_ := Aside0.mk (Kd.R_below (by (with_reducible repeat (first | apply Kd.R_alloc | apply Kd.R_drewN | apply Kd.R_drew)); exact HO13067.out) hb)
            have n10_ := Aside0.mk (Kd.R_below (by (with_reducible repeat (first | apply Kd.R_alloc | apply Kd.R_drewN | apply Kd.R_drew)); exact HO13077.out) hb)
            have n11_ := Aside0.mk (Kd.R_below (by (with_reducible repeat (first | apply Kd.R_alloc | apply Kd.R_drewN | apply Kd.R_drew)); exact HO13080.out) hb)
            have n12_ := Aside0.mk (blk_below (g := gb13001) (o := .cells #[.int .i64 a0_0, .string a0_1, .string a0_2, .int .i64 a0_3, .string a0_4, .slice A0_5 l0_5.length c0_5, .slice A0_6 l0_6.length c0_6, .int .i64 a0_7] 92 (0, 0)) (by (with_reducible repeat (first | refine blk_drewN ?_ _ | refine blk_drew ?_ | refine blk_alloc ?_ _)); exact BK13001.out) hb)
            have n13_ := Aside0.mk (blk_below (g := gb13002) (o := .cells #[.int .i64 a1_0, .string a1_1, .string a1_2, .int .i64 a1_3, .string a1_4, .slice A1_5 l1_5.length c1_5, .slice A1_6 l1_6.length c1_6, .int .i64 a1_7] 92 (0, 0)) (by (with_reducible repeat (first | refine blk_drewN ?_ _ | refine blk_drew ?_ | refine blk_alloc ?_ _)); exact BK13002.out) hb)
            have n14_ := Aside0.mk (blk_below (g := gb13042) (o := .cells #[.int .i64 t13030, .string t13031, .string t13032, .int .i64 t13033, .string t13034, .slice Ao87 t13035.length co87, .slice Ao88 t13038.length co88, .int .i64 t13041] 99 (0, 0)) (by (with_reducible repeat (first | refine blk_drewN ?_ _ | refine blk_drew ?_ | refine blk_alloc ?_ _)); exact BK13042.out) hb)
            have n15_ := Aside0.mk (blk_below (g := gb13055) (o := .cells #[.int .i64 t13043, .string t13044, .string t13045, .int .i64 t13046, .string t13047, .slice Ao96 t13048.length co96, .slice Ao97 t13051.length co97, .int .i64 t13054] 99 (0, 0)) (by (with_reducible repeat (first | refine blk_drewN ?_ _ | refine blk_drew ?_ | refine blk_alloc ?_ _)); exact BK13055.out) hb)
            have n16_ := Aside0.mk (below_step (by repeat (first | (with_reducible first | exact HB.out | apply below_alloc | apply pw_below_drewN | apply below_drew1 | refine below_set ?_ GE13001.out | refine below_set ?_ GE13002.out | refine below_set ?_ GE13042.out | refine below_set ?_ GE13055.out) | exact HB.out)) hb)
            clear HO13012
            clear HO13015
            clear HO13024
            clear HO13027
            clear HO13037
            clear HO13040
            clear HO13050
            clear HO13053
            clear HO13064
            clear HO13067
            clear HO13077
            clear HO13080
            clear BK13001
            clear BK13002
            clear BK13042
            clear BK13055
            clear HB
            have HO13012 := n0_
            have HO13015 := n1_
            have HO13024 := n2_
            have HO13027 := n3_
            have HO13037 := n4_
            have HO13040 := n5_
            have HO13050 := n6_
            have HO13053 := n7_
            have HO13064 := n8_
            have HO13067 := n9_
            have HO13077 := n10_
            have HO13080 := n11_
            have BK13001 := n12_
            have BK13002 := n13_
            have BK13042 := n14_
            have BK13055 := n15_
            have HB := n16_
            clear n0_ n1_ n2_ n3_ n4_ n5_ n6_ n7_ n8_ n9_ n10_ n11_ n12_ n13_ n14_ n15_ n16_
            (try clear hb)
            (try clear hb2)
            (try clear hk)
            (try clear hi)
            refine hK.out _ _ ⟨(blk_cell BK13055.out 0).trans rfl, (blk_cell BK13055.out 1).trans rfl, (blk_cell BK13055.out 2).trans rfl, (blk_cell BK13055.out 3).trans rfl, (blk_cell BK13055.out 4).trans rfl, (blk_cell BK13055.out 5).trans rfl, (blk_cell BK13055.out 6).trans rfl, (blk_cell BK13055.out 7).trans rfl, (blk_cell BK13002.out 0).trans rfl, (blk_cell BK13002.out 1).trans rfl, (blk_cell BK13002.out 2).trans rfl, (blk_cell BK13002.out 3).trans rfl, (blk_cell BK13002.out 4).trans rfl, (blk_cell BK13002.out 5).trans rfl, (blk_cell BK13002.out 6).trans rfl, (blk_cell BK13002.out 7).trans rfl⟩ (fun hHeld => ?_)
            clear hK K
            refine norm_ (a' := ?_) ?_ ?_
            rotate_left
            · show Act.put _ (some 43) _ = _
              simp only [Act.put, List.setIfInBounds_toArray, List.set_cons_zero, List.set_cons_succ, i64_w, i32_w]
              rfl
            refine pure_ (i := 4) (N := some 44) (v := ?_) (a' := ?_) #[true, true, true, true, true] rfl rfl (by kernel_rfl) (fun _ _ _ h => h) (Or.inl ⟨by rfl, ?_⟩) ?_ ?_
            rotate_left
            · intro w'
              go_simp
              first | with_reducible rfl | (rw [if_neg (by omega)]; done)
            rotate_left
            · simp only [Act.put, List.setIfInBounds_toArray, List.set_cons_zero, List.set_cons_succ, i64_w, i32_w]
              rfl
            refine done_ (by kernel_rfl) ?_
            try go_wp2
            go_ret
            exact ⟨by first | rfl | (simp [errW_none, errW_some] <;> rfl) | (simp [*, errW_none, errW_some] <;> rfl), by repeat (first | (with_reducible first | exact HB.out | apply below_alloc | apply pw_below_drewN | apply below_drew1 | refine below_set ?_ GE13001.out | refine below_set ?_ GE13002.out | refine below_set ?_ GE13042.out | refine below_set ?_ GE13055.out) | exact HB.out)⟩
          · replace c65 := Bool.eq_false_iff.mpr c65
            subst c65
            have H1 : (some false) = some r := by rw [if_neg (show ¬ (false = true) by decide)] at H; exact H
            clear H
            have H := H1
            clear H1
            exact absurd ((Option.some.inj H).trans HRT_.out) (by decide)
        · replace c62 := Bool.eq_false_iff.mpr c62
          subst c62
          have H1 : (some false) = some r := by rw [if_neg (show ¬ (false = true) by decide)] at H; exact H
          clear H
          have H := H1
          clear H1
          exact absurd ((Option.some.inj H).trans HRT_.out) (by decide)

end Go.Proofs.Ytkefiajemifklaa.A


namespace Go.Proofs.Ytkefiajemifklaa.Br
set_option linter.unusedVariables false
set_option linter.unusedSimpArgs false
open Go Go.Proofs.YtkefiajemifklaaW.PrintWords

/-- Whatever reads at type t, with at most n of fuel, is of kind d and well formed. -/
def BrN (P : Program) (n : Nat) (t : TypeId) {α : Type} (d : Kd α) (wf : α → Prop) : Prop :=
  ∀ (H : Type) (enc : TypeId × Value → H) (w : World) (base : Nat) (spare : Nat → Bool) (held : Bool) (m : Nat) (cs : List Value) (x : DataW H × List MemPlace),
    m ≤ n → DataW.trod enc P w base spare held m t cs = some x → ∃ a, d.K w a cs ∧ wf a
def Br (P : Program) (t : TypeId) {α : Type} (d : Kd α) (wf : α → Prop) : Prop := ∀ n, BrN P n t d wf

/-- The same of the fields of a struct, from offset o on. -/
def BF (P : Program) (n : Nat) (fs : List Field) (o : Nat) {α : Type} (d : Kd α) (wf : α → Prop) : Prop :=
  ∀ (H : Type) (enc : TypeId × Value → H) (w : World) (base : Nat) (spare : Nat → Bool) (held : Bool) (m : Nat) (cs : List Value) (xs : List (DataW H × List MemPlace)),
    m ≤ n → cs.length = d.sz → xs.length = fs.length →
    (∀ (i : Nat) (f : Field), fs[i]? = some f → DataW.trod enc P w base spare held m f.type ((cs.drop (f.offset - o)).take (P.cellsOf f.type)) = xs[i]?) → ∃ a, d.K w a cs ∧ wf a

theorem BrN.mono {P : Program} {n m : Nat} {t : TypeId} {α : Type} {d : Kd α} {wf : α → Prop} (h : BrN P n t d wf) (hm : m ≤ n) : BrN P m t d wf :=
  fun H enc w base spare held k cs x hk => h H enc w base spare held k cs x (Nat.le_trans hk hm)
theorem BrN.imp {P : Program} {n : Nat} {t : TypeId} {α : Type} {d : Kd α} {wf wf' : α → Prop} (h : BrN P n t d wf) (hi : ∀ a, wf a → wf' a) : BrN P n t d wf' :=
  fun H enc w base spare held k cs x hk hx => by
    obtain ⟨a, h1, h2⟩ := h H enc w base spare held k cs x hk hx
    exact ⟨a, h1, hi a h2⟩
theorem BrN.zero (P : Program) (t : TypeId) {α : Type} (d : Kd α) (wf : α → Prop) : BrN P 0 t d wf := by
  intro H enc w base spare held m cs x hm hx
  obtain rfl : m = 0 := by omega
  simp [DataW.trod] at hx

theorem br_int {P : Program} {t : TypeId} {k : IntKind} (ht : P.underlying t = some (.int k)) (n : Nat) : BrN P n t (Kd.int k) (fun a => (Lit.int k a).wf = true) := by
  intro H enc w base spare held m cs x _ hx
  obtain ⟨a, rfl, _, hw⟩ := DataW.trod_int ht hx
  exact ⟨a, rfl, hw⟩
theorem br_string {P : Program} {t : TypeId} (ht : P.underlying t = some .string) (n : Nat) : BrN P n t Kd.string (fun s => s.size ≤ 9223372036854775807) := by
  intro H enc w base spare held m cs x _ hx
  obtain ⟨a, rfl, _, hw⟩ := DataW.trod_string ht hx
  exact ⟨a, rfl, by simpa [maxLen] using hw⟩

theorem list_of_all {α : Type} {Q : Nat → α → Prop} (n : Nat) (h : ∀ i, i < n → ∃ a, Q i a) : ∃ l : List α, l.length = n ∧ ∀ i a, l[i]? = some a → Q i a := by
  induction n with
  | zero => exact ⟨[], rfl, fun i a h => by simp at h⟩
  | succ n ih =>
    obtain ⟨l, hl, hq⟩ := ih (fun i hi => h i (by omega))
    obtain ⟨a, ha⟩ := h n (by omega)
    refine ⟨l ++ [a], by simp [hl], fun i b hb => ?_⟩
    rcases Nat.lt_or_ge i l.length with hi | hi
    · rw [List.getElem?_append_left hi] at hb
      exact hq i b hb
    · rw [List.getElem?_append_right hi] at hb
      obtain ⟨h0, rfl⟩ : i - l.length = 0 ∧ a = b := by
        rcases Nat.eq_zero_or_pos (i - l.length) with h0 | h0
        · rw [h0] at hb; exact ⟨h0, by simpa using hb⟩
        · rw [List.getElem?_eq_none (by simp; omega)] at hb; simp at hb
      obtain rfl : i = n := by omega
      exact ha

theorem cells_at {w : World} {base : Nat} {a : Addr} {n : Nat} {cs : List Value} (h : w.cells? base a n = some cs) : cs.length = n ∧ ∀ i u, cs[i]? = some u → w.cell? (a.add i) = some u := by
  unfold World.cells? at h
  split at h
  · have hl := mapM_some_length h
    refine ⟨by simpa using hl, fun i u hu => ?_⟩
    have hi : i < n := by
      have := (List.getElem?_eq_some_iff.1 hu).1
      simp at hl
      omega
    have := mapM_some_get h i i (by simp [hi])
    rw [this, hu]
  · simp at h

theorem br_slice {P : Program} {t e : TypeId} {α : Type} {d : Kd α} {wf : α → Prop} {n : Nat} (ht : P.underlying t = some (.slice e)) (hs : P.cellsOf e = d.sz) (h : BrN P n e d wf) :
    BrN P (n + 1) t (Kd.slice e d) (fun l => l.length ≤ 9223372036854775807 ∧ ∀ a ∈ l, wf a) := by
  intro H enc w base spare held m cs x hm hx
  rcases DataW.trod_slice ht hx with ⟨rfl, _⟩ | ⟨a, len, cap, elems, rest, k, rfl, rfl, _, _, hl, hc, he, hg, _, _⟩
  · exact ⟨[], ⟨none, 0, rfl, Nat.le_refl _, Kd.C_nil d w⟩, by simp, by simp⟩
  · have hq : ∀ i, i < len → ∃ b, (∃ c, c.length = d.sz ∧ d.K w b c ∧ ∀ j u, c[j]? = some u → w.cell? (a.add (i * d.sz + j)) = some u) ∧ wf b := by
      intro i hi
      have g := hg i hi
      rw [List.getElem?_eq_getElem (by omega)] at g
      obtain ⟨c, hc1, hc2⟩ := Option.bind_eq_some_iff.1 g
      obtain ⟨b, hb, hw⟩ := h H enc w base spare held k c _ (by omega) hc2
      obtain ⟨h1, h2⟩ := cells_at hc1
      refine ⟨b, ⟨c, by rw [h1, hs], hb, fun j u hu => ?_⟩, hw⟩
      have := h2 j u hu
      rw [Addr.add_add, hs] at this
      exact this
    obtain ⟨l, hl1, hl2⟩ := list_of_all len hq
    have hlen : len ≤ 9223372036854775807 := by simp only [maxLen] at hc; omega
    refine ⟨l, ⟨some a, cap, by rw [hl1], by omega, rfl, by omega, fun _ => ⟨a, rfl, fun j p hp => (hl2 j p hp).1⟩⟩, by omega, fun b hb => ?_⟩
    obtain ⟨i, hi, rfl⟩ := List.mem_iff_getElem.1 hb
    exact (hl2 i _ (List.getElem?_eq_getElem hi)).2
theorem br_slice' {P : Program} {t e : TypeId} {α : Type} {d : Kd α} {wf : α → Prop} (ht : P.underlying t = some (.slice e)) (hs : P.cellsOf e = d.sz) (h : ∀ n, BrN P n e d wf) (n : Nat) :
    BrN P n t (Kd.slice e d) (fun l => l.length ≤ 9223372036854775807 ∧ ∀ a ∈ l, wf a) := (br_slice ht hs (h n)).mono (Nat.le_succ n)

theorem bf_one {P : Program} {n o : Nat} {f : Field} {α : Type} {d : Kd α} {wf : α → Prop} (ho : f.offset = o) (hs : P.cellsOf f.type = d.sz) (h : BrN P n f.type d wf) : BF P n [f] o d wf := by
  intro H enc w base spare held m cs xs hm hl hx hf
  have g := hf 0 f rfl
  rw [ho, Nat.sub_self, List.drop_zero, hs, ← hl, List.take_length, List.getElem?_eq_getElem (by simp at hx; omega)] at g
  exact h H enc w base spare held m cs _ hm g
theorem bf_cons {P : Program} {n o : Nat} {f : Field} {fs : List Field} {α β : Type} {d : Kd α} {d' : Kd β} {wf : α → Prop} {wf' : β → Prop} (ho : f.offset = o) (hs : P.cellsOf f.type = d.sz) (h : BrN P n f.type d wf)
    (hfs : BF P n fs (o + d.sz) d' wf') (hle : ∀ g ∈ fs, o + d.sz ≤ g.offset) : BF P n (f :: fs) o (Kd.pair d d') (fun x => wf x.1 ∧ wf' x.2) := by
  intro H enc w base spare held m cs xs hm hl hx hf
  have hl' : cs.length = d.sz + d'.sz := hl
  have g := hf 0 f rfl
  rw [ho, Nat.sub_self, List.drop_zero, hs, List.getElem?_eq_getElem (by simp at hx; omega)] at g
  obtain ⟨a, ha, hwa⟩ := h H enc w base spare held m _ _ hm g
  cases xs with
  | nil => simp at hx
  | cons y ys =>
    obtain ⟨b, hb, hwb⟩ := hfs H enc w base spare held m (cs.drop d.sz) ys hm (by rw [List.length_drop]; omega) (by simpa using hx) (fun i q hq => by
      have g2 := hf (i + 1) q (by simpa using hq)
      have hm : q ∈ fs := List.mem_of_getElem? hq
      have := hle q hm
      rw [List.drop_drop, show d.sz + (q.offset - (o + d.sz)) = q.offset - o by omega]
      simpa using g2)
    exact ⟨(a, b), ⟨cs.take d.sz, cs.drop d.sz, (List.take_append_drop _ _).symm, ha, hb⟩, hwa, hwb⟩
theorem br_struct {P : Program} {t : TypeId} {fs : Array Field} {α : Type} {d : Kd α} {wf : α → Prop} {n : Nat} (ht : P.underlying t = some (.struct fs)) (hs : P.cellsOf t = d.sz) (h : BF P n fs.toList 0 d wf) : BrN P (n + 1) t d wf := by
  intro H enc w base spare held m cs x hm hx
  obtain ⟨xs, k, rfl, _, hl, hxs, hf⟩ := DataW.trod_struct ht hx
  exact h H enc w base spare held k cs xs (by omega) (by rw [hl, hs]) (by simpa using hxs) (fun i f hi => by simpa using hf i f (by simpa using hi))
theorem br_struct' {P : Program} {t : TypeId} {fs : Array Field} {α : Type} {d : Kd α} {wf : α → Prop} (ht : P.underlying t = some (.struct fs)) (hs : P.cellsOf t = d.sz) (h : ∀ n, BF P n fs.toList 0 d wf) (n : Nat) : BrN P n t d wf :=
  (br_struct ht hs (h n)).mono (Nat.le_succ n)
theorem br_iso {P : Program} {n : Nat} {t : TypeId} {α β : Type} {d : Kd α} {wf : α → Prop} {f : β → α} (g : α → β) (hg : ∀ y, f (g y) = y) (h : BrN P n t d wf) : BrN P n t (Kd.iso d f) (fun x => wf (f x)) := by
  intro H enc w base spare held m cs x hm hx
  obtain ⟨a, h1, h2⟩ := h H enc w base spare held m cs x hm hx
  exact ⟨g a, by show d.K w (f (g a)) cs; rw [hg]; exact h1, by show wf (f (g a)); rw [hg]; exact h2⟩
/-- A type nested in itself. -/
theorem br_fix {P : Program} {t : TypeId} {α : Type} {F : Kd α → Kd α} {sz : Nat} {E : List Nat} {hs : ∀ n, (Kd.upto F sz E n).sz = sz} {hE : ∀ n q, q ∈ (Kd.upto F sz E n).E → q ∈ E} {wf : Nat → α → Prop}
    (h : ∀ n, BrN P n t (Kd.upto F sz E n) (wf n)) (n : Nat) : BrN P n t (Kd.fix F sz E hs hE) (fun a => ∃ k, wf k a) := by
  intro H enc w base spare held m cs x hm hx
  obtain ⟨a, h1, h2⟩ := h n H enc w base spare held m cs x hm hx
  exact ⟨a, ⟨n, h1⟩, n, h2⟩
theorem arr_of {xs : Array Value} {l : List Value} (h : xs.toList = l) : xs = l.toArray := by rw [← h]

end Go.Proofs.Ytkefiajemifklaa.Br


namespace Go.Proofs.Ytkefiajemifklaa.BtFnExactEqualConstraint
open Go Go.RowKit Go.Proofs.Ytkefiajemifklaa.A Go.Proofs.Ytkefiajemifklaa.Br Go.Proofs.YtkefiajemifklaaW.PrintWords
set_option linter.unusedVariables false
def wf90N : Nat → S90 → Prop
  | 0, _ => False
  | n + 1, x => ((Lit.int .i64 x.f0).wf = true) ∧ ((x.f1 : ByteArray).size ≤ 9223372036854775807) ∧ ((x.f2 : (List S90)).length ≤ 9223372036854775807 ∧ ∀ a ∈ x.f2, wf90N n a)
def wf90 (x : S90) : Prop := ∃ n, wf90N n x
theorem br90N : ∀ n, BrN Try.prog n 90 (Kd.upto F90 3 [90] n) (wf90N n)
  | 0 => BrN.zero _ _ _ _
  | n + 1 => by
    have ih := br90N n
    exact (br_iso (f := (fun x : S90 => (x.f0, x.f1, x.f2))) (fun y => ⟨y.1, y.2.1, y.2.2⟩) (fun _ => rfl) (br_struct Try.underlying90 (show Try.prog.cellsOf 90 = 3 by kernel_rfl) (bf_cons rfl (show Try.prog.cellsOf 3 = 1 by kernel_rfl) (br_int Try.underlying3 n) (bf_cons rfl (show Try.prog.cellsOf 9 = 1 by kernel_rfl) (br_string Try.underlying9 n) (bf_one rfl (show Try.prog.cellsOf 88 = 1 by kernel_rfl) ((br_slice Try.underlying88 (show Try.prog.cellsOf 90 = (Kd.upto F90 3 [90] n).sz by rw [sz90]; kernel_rfl) ih).mono (Nat.le_succ n))) (of_decide_eq_true (by kernel_rfl))) (of_decide_eq_true (by kernel_rfl))))).imp (fun _ h => h)
theorem br90 (n : Nat) : BrN Try.prog n 90 k90 wf90 := br_fix br90N n
end Go.Proofs.Ytkefiajemifklaa.BtFnExactEqualConstraint

namespace Go.Proofs.Ytkefiajemifklaa.Pure
open Go Go.RowKit Go.Proofs.Ytkefiajemifklaa.Br Go.Proofs.YtkefiajemifklaaW.PrintWords Go.Proofs.YtkefiajemifklaaW.PrintLast Go.Proofs.Ytkefiajemifklaa.A Go.Proofs.Ytkefiajemifklaa.Ext Go.Proofs.Ytkefiajemifklaa.BtFnExactEqualConstraint
set_option linter.unusedVariables false
def FnExactEqualConstraint.Pure : Prop := ∀ (a0_0 : Int) (a0_1 : ByteArray) (a0_2 : ByteArray) (a0_3 : Int) (a0_4 : ByteArray) (l0_5 : (List S90)) (l0_6 : (List Int)) (a0_7 : Int) (a1_0 : Int) (a1_1 : ByteArray) (a1_2 : ByteArray) (a1_3 : Int) (a1_4 : ByteArray) (l1_5 : (List S90)) (l1_6 : (List Int)) (a1_7 : Int), ((Lit.int .i64 a0_0).wf = true) → ((a0_1 : ByteArray).size ≤ 9223372036854775807) → ((a0_2 : ByteArray).size ≤ 9223372036854775807) → ((Lit.int .i64 a0_3).wf = true) → ((a0_4 : ByteArray).size ≤ 9223372036854775807) → ((l0_5 : (List S90)).length ≤ 9223372036854775807 ∧ ∀ a ∈ l0_5, wf90 a) → ((l0_6 : (List Int)).length ≤ 9223372036854775807 ∧ ∀ a ∈ l0_6, (Lit.int .i64 a).wf = true) → ((Lit.int .i64 a0_7).wf = true) → ((Lit.int .i64 a1_0).wf = true) → ((a1_1 : ByteArray).size ≤ 9223372036854775807) → ((a1_2 : ByteArray).size ≤ 9223372036854775807) → ((Lit.int .i64 a1_3).wf = true) → ((a1_4 : ByteArray).size ≤ 9223372036854775807) → ((l1_5 : (List S90)).length ≤ 9223372036854775807 ∧ ∀ a ∈ l1_5, wf90 a) → ((l1_6 : (List Int)).length ≤ 9223372036854775807 ∧ ∀ a ∈ l1_6, (Lit.int .i64 a).wf = true) → ((Lit.int .i64 a1_7).wf = true) → ∃ k, laws_FnExactEqualConstraint.f k a0_0 a0_1 a0_2 a0_3 a0_4 l0_5 l0_6 a0_7 a1_0 a1_1 a1_2 a1_3 a1_4 l1_5 l1_6 a1_7 = some true
end Go.Proofs.Ytkefiajemifklaa.Pure

namespace Go.Proofs.Ytkefiajemifklaa.Pl
set_option linter.unusedVariables false
set_option linter.unusedSimpArgs false
open Go.RowKit Go.Proofs.YtkefiajemifklaaW.PrintWords

/-- From some number of rounds on, it answers r. -/
def Evt {α : Type} (g : Nat → Option α) (r : α) : Prop := ∃ K, ∀ k, K ≤ k → g k = some r
section
variable {α β : Type}
theorem Evt.const {g : Option α} {r : α} (h : g = some r) : Evt (fun _ => g) r := ⟨0, fun _ _ => h⟩
theorem Evt.ret (r : α) : Evt (fun _ => some r) r := Evt.const rfl
theorem Evt.bind {g : Nat → Option α} {f : Nat → α → Option β} {a : α} {r : β} (hg : Evt g a) (hf : Evt (fun k => f k a) r) : Evt (fun k => (g k).bind (f k)) r := by
  obtain ⟨K, hK⟩ := hg
  obtain ⟨L, hL⟩ := hf
  exact ⟨max K L, fun k hk => by show (g k).bind (f k) = some r; rw [hK k (by omega)]; exact hL k (by omega)⟩
theorem Evt.bindc {g : Option α} {f : Nat → α → Option β} {a : α} {r : β} (hg : g = some a) (hf : Evt (fun k => f k a) r) : Evt (fun k => g.bind (f k)) r := Evt.bind (Evt.const hg) hf
theorem Evt.step {g : Nat → Option α} {r : α} (h : Evt (fun k => g (k + 1)) r) : Evt g r := by
  obtain ⟨K, hK⟩ := h
  exact ⟨K + 1, fun k hk => by
    obtain ⟨m, rfl⟩ : ∃ m, k = m + 1 := ⟨k - 1, by omega⟩
    exact hK m (by omega)⟩
theorem Evt.pos {c : Prop} [Decidable c] {t e : Nat → Option α} {r : α} (h : c) (ht : Evt t r) : Evt (fun k => if c then t k else e k) r := by
  obtain ⟨K, hK⟩ := ht
  exact ⟨K, fun k hk => (if_pos h).trans (hK k hk)⟩
theorem Evt.neg {c : Prop} [Decidable c] {t e : Nat → Option α} {r : α} (h : ¬ c) (ht : Evt e r) : Evt (fun k => if c then t k else e k) r := by
  obtain ⟨K, hK⟩ := ht
  exact ⟨K, fun k hk => (if_neg h).trans (hK k hk)⟩
theorem Evt.ite {c : Prop} [Decidable c] {t e : Nat → Option α} {x y : α} (ht : c → Evt t x) (he : ¬ c → Evt e y) : Evt (fun k => if c then t k else e k) (if c then x else y) := by
  by_cases h : c
  · rw [if_pos h]; exact Evt.pos h (ht h)
  · rw [if_neg h]; exact Evt.neg h (he h)
theorem Evt.get {g : Nat → Option α} {r : α} (h : Evt g r) : ∃ k, g k = some r := by
  obtain ⟨K, hK⟩ := h
  exact ⟨K, hK K (Nat.le_refl _)⟩
theorem Evt.of_eq {g g' : Nat → Option α} {r : α} (h : ∀ k, g k = g' k) (h' : Evt g' r) : Evt g r := by
  obtain ⟨K, hK⟩ := h'
  exact ⟨K, fun k hk => by rw [h]; exact hK k hk⟩
theorem Evt.cast {g : Nat → Option α} {r r' : α} (h : Evt g r) (e : r = r') : Evt g r' := e ▸ h
/-- A loop that counts up from 0 to n: what it answers at i is R i. -/
theorem Evt.up (l : Nat → Int → Option α) (n : Nat) (R : Nat → α) (hend : Evt (fun k => l k (n : Int)) (R n))
    (hstep : ∀ i : Nat, i < n → Evt (fun k => l k ((i + 1 : Nat) : Int)) (R (i + 1)) → Evt (fun k => l k (i : Int)) (R i)) : Evt (fun k => l k 0) (R 0) := by
  have h : ∀ d i : Nat, i + d = n → Evt (fun k => l k (i : Int)) (R i) := by
    intro d
    induction d with
    | zero => intro i hi; obtain rfl : i = n := by omega
              exact hend
    | succ d ih => intro i hi; exact hstep i (by omega) (ih (i + 1) (by omega))
  exact h n 0 (by omega)
end

theorem w64 {x : Int} (h : -9223372036854775808 ≤ x) (h' : x ≤ 9223372036854775807) : wrap64 x = x := by unfold wrap64; omega
/-- The counter's next value. -/
theorem w64s {i : Nat} (h : i < 9223372036854775807) : wrap64 ((i : Int) + 1) = ((i + 1 : Nat) : Int) := by
  rw [w64 (by omega) (by omega)]; omega

theorem bt0 (s : ByteArray) (i : Int) : 0 ≤ bt s i := (bt_range s i).1
theorem bt255 (s : ByteArray) (i : Int) : bt s i ≤ 255 := (bt_range s i).2
theorem bt_get (s : ByteArray) (i : Nat) (h : i < (bytesOf s).length) : bt s (i : Int) = (bytesOf s)[i] := by
  rw [← rd_bytesOf]
  simp [rd, h]
theorem bytesOf_inj {s t : ByteArray} (h : bytesOf s = bytesOf t) : s = t := by
  have h1 : s.data.toList = t.data.toList := by
    refine List.map_inj_right (f := fun b : UInt8 => (b.toNat : Int)) (fun x y hxy => ?_) |>.1 h
    exact UInt8.toNat_inj.1 (Int.ofNat_inj.1 hxy)
  cases s; cases t
  simp only [ByteArray.mk.injEq]
  exact Array.toList_inj.1 h1
theorem toList_eq_iff (s t : ByteArray) : s.toList = t.toList ↔ s = t := by
  rw [Lib.toList_data, Lib.toList_data]
  constructor
  · intro h
    cases s; cases t
    simp only [ByteArray.mk.injEq]
    exact Array.toList_inj.1 h
  · rintro rfl; rfl
theorem toList_nil_iff (s : ByteArray) : s.toList = ([] : List UInt8) ↔ s.size = 0 := by
  rw [Lib.toList_data, ← data_length, List.length_eq_zero_iff]
theorem mem_bytes (s : ByteArray) {c : Int} (h : c ∈ bytesOf s) : 0 ≤ c ∧ c ≤ 255 := by
  unfold bytesOf at h
  obtain ⟨b, _, rfl⟩ := List.mem_map.1 h
  have := b.toNat_lt
  omega
theorem bytesOf_append (s t : ByteArray) : bytesOf (s ++ t) = bytesOf s ++ bytesOf t := by
  simp [bytesOf, ByteArray.data_append]
theorem bytesOf_extract (s : ByteArray) (a b : Nat) : bytesOf (s.extract a b) = ((bytesOf s).drop a).take (b - a) := by
  have h := Lib.extract_toList s a b
  rw [Lib.toList_data] at h
  unfold bytesOf
  rw [h, List.map_take, List.map_drop]
theorem bytesOf_tail (s : ByteArray) (a : Nat) : bytesOf (s.extract a s.size) = (bytesOf s).drop a := by
  rw [bytesOf_extract, List.take_of_length_le]
  rw [List.length_drop, bytesOf_length]
  exact Nat.le_refl _

/-- A letter's number. -/
def ltI (c : Int) : Int := if 97 = c then 0 else if 98 = c then 1 else if 99 = c then 2 else -1
def varI (c : Int) : Int := if 88 = c then 0 else if 89 = c then 1 else if 90 = c then 2 else -1
def isVr (c : Int) : Bool := decide (88 ≤ c ∧ c ≤ 90)
theorem ix_abc : ∀ n : Nat, n < 256 → Lib.indexByte [97, 98, 99] n.toUInt8 = ltI (n : Int) := by decide +kernel
theorem ix_XYZ : ∀ n : Nat, n < 256 → Lib.indexByte [88, 89, 90] n.toUInt8 = varI (n : Int) := by decide +kernel
theorem varI_isVar (c : Int) : decide (varI c ≥ 0) = isVr c := by
  unfold varI isVr
  split
  · subst_vars; rfl
  · split
    · subst_vars; rfl
    · split
      · subst_vars; rfl
      · simp; omega
theorem ltI_nonneg (c : Int) : 0 ≤ ltI c ↔ (97 ≤ c ∧ c ≤ 99) := by
  unfold ltI
  split
  · subst_vars; simp
  · split
    · subst_vars; simp
    · split
      · subst_vars; simp
      · simp; omega
theorem ltI_le (c : Int) : ltI c ≤ 2 := by
  unfold ltI
  repeat' split
  all_goals omega
theorem ltI_ge (c : Int) : -1 ≤ ltI c := by
  unfold ltI
  repeat' split
  all_goals omega
theorem bt_abc0 : bt (⟨#[97, 98, 99]⟩ : ByteArray) 0 = 97 := by decide
theorem bt_abc1 : bt (⟨#[97, 98, 99]⟩ : ByteArray) 1 = 98 := by decide
theorem bt_abc2 : bt (⟨#[97, 98, 99]⟩ : ByteArray) 2 = 99 := by decide
theorem bt_XYZ0 : bt (⟨#[88, 89, 90]⟩ : ByteArray) 0 = 88 := by decide
theorem bt_XYZ1 : bt (⟨#[88, 89, 90]⟩ : ByteArray) 1 = 89 := by decide
theorem bt_XYZ2 : bt (⟨#[88, 89, 90]⟩ : ByteArray) 2 = 90 := by decide
theorem w64_a : wrap64 1 = 1 := by unfold wrap64; omega
theorem w64_b : wrap64 2 = 2 := by unfold wrap64; omega
theorem w64_c : wrap64 3 = 3 := by unfold wrap64; omega
theorem w64_1 : wrap64 (0 + 1) = 1 := by unfold wrap64; omega
theorem w64_2 : wrap64 (1 + 1) = 2 := by unfold wrap64; omega
theorem w64_3 : wrap64 (2 + 1) = 3 := by unfold wrap64; omega

theorem indexByte_nonneg (l : List UInt8) (c : UInt8) : 0 ≤ Lib.indexByte l c ↔ c ∈ l := by
  induction l with
  | nil => simp [Lib.indexByte]
  | cons b l ih =>
    unfold Lib.indexByte
    by_cases h : b = c
    · subst h; simp
    · have hb : (b == c) = false := by simpa using h
      rw [hb]
      have hge := Lib.indexByte_ge l c
      by_cases h2 : Lib.indexByte l c = -1
      · simp only [h2]
        simp
        refine ⟨fun e => h e.symm, fun hm => ?_⟩
        have := ih.2 hm
        omega
      · have h3 : (Lib.indexByte l c == -1) = false := by simpa using h2
        rw [h3]
        simp
        constructor
        · intro _; exact .inr (ih.1 (by omega))
        · rintro (e | hm)
          · exact absurd e.symm h
          · have := ih.2 hm; omega
theorem mem_data (s : ByteArray) (n : Nat) (hn : n < 256) : n.toUInt8 ∈ s.data.toList ↔ (n : Int) ∈ bytesOf s := by
  unfold bytesOf
  rw [List.mem_map]
  constructor
  · intro h
    exact ⟨_, h, by simp [Nat.mod_eq_of_lt hn]⟩
  · rintro ⟨b, hb, e⟩
    have e2 : b.toNat = n := by omega
    subst e2
    simpa using hb
theorem w64_sub {a : Int} {n : Nat} (ha : -1 ≤ a) (ha' : a ≤ 1048576) (hn : n ≤ 9223372036854775807) : wrap64 (a - (n : Int)) = a - (n : Int) := w64 (by omega) (by omega)
end Go.Proofs.Ytkefiajemifklaa.Pl

namespace Go.Proofs.Ytkefiajemifklaa.F
set_option linter.unusedVariables false
set_option linter.unusedSimpArgs false
open Go.RowKit Go.Proofs.YtkefiajemifklaaW.PrintWords Go.Proofs.Ytkefiajemifklaa.Pl Go.Proofs.Ytkefiajemifklaa.A Go.Proofs.Ytkefiajemifklaa.Ext

/-- From some numbers of rounds on, the depth's and the loop's. -/
def Evt2 {α : Type} (g : Nat → Nat → Option α) (r : α) : Prop := ∃ K, ∀ i j, K ≤ i → K ≤ j → g i j = some r
theorem Evt2.ret {α : Type} (r : α) : Evt2 (fun _ _ => some r) r := ⟨0, fun _ _ _ _ => rfl⟩
theorem Evt2.bind {α β : Type} {g : Nat → Option α} {f : Nat → Nat → α → Option β} {a : α} {r : β} (hg : Evt g a) (hf : Evt2 (fun i j => f i j a) r) : Evt2 (fun i j => (g i).bind (f i j)) r := by
  obtain ⟨K, hK⟩ := hg
  obtain ⟨L, hL⟩ := hf
  exact ⟨max K L, fun i j hi hj => by show (g i).bind (f i j) = some r; rw [hK i (by omega)]; exact hL i j (by omega) (by omega)⟩
theorem Evt2.bind2 {α β : Type} {g : Nat → Nat → Option α} {f : Nat → Nat → α → Option β} {a : α} {r : β} (hg : Evt2 g a) (hf : Evt2 (fun i j => f i j a) r) : Evt2 (fun i j => (g i j).bind (f i j)) r := by
  obtain ⟨K, hK⟩ := hg
  obtain ⟨L, hL⟩ := hf
  exact ⟨max K L, fun i j hi hj => by show (g i j).bind (f i j) = some r; rw [hK i j (by omega) (by omega)]; exact hL i j (by omega) (by omega)⟩
theorem Evt2.pos {α : Type} {c : Prop} [Decidable c] {t e : Nat → Nat → Option α} {r : α} (h : c) (ht : Evt2 t r) : Evt2 (fun i j => if c then t i j else e i j) r := by
  obtain ⟨K, hK⟩ := ht
  exact ⟨K, fun i j hi hj => by show (if c then t i j else e i j) = some r; rw [if_pos h]; exact hK i j hi hj⟩
theorem Evt2.neg {α : Type} {c : Prop} [Decidable c] {t e : Nat → Nat → Option α} {r : α} (h : ¬ c) (he : Evt2 e r) : Evt2 (fun i j => if c then t i j else e i j) r := by
  obtain ⟨K, hK⟩ := he
  exact ⟨K, fun i j hi hj => by show (if c then t i j else e i j) = some r; rw [if_neg h]; exact hK i j hi hj⟩
theorem Evt2.step {α : Type} {g : Nat → Nat → Option α} {r : α} (h : Evt2 (fun i j => g i (j + 1)) r) : Evt2 g r := by
  obtain ⟨K, hK⟩ := h
  refine ⟨K + 1, fun i j hi hj => ?_⟩
  obtain ⟨j, rfl⟩ : ∃ m, j = m + 1 := ⟨j - 1, by omega⟩
  exact hK i j (by omega) (by omega)
theorem Evt2.diag {α : Type} {g : Nat → Nat → Option α} {r : α} (h : Evt2 g r) : Evt (fun k => g k k) r := by
  obtain ⟨K, hK⟩ := h
  exact ⟨K, fun k hk => hK k k hk hk⟩
theorem Evt2.cast {α : Type} {g : Nat → Nat → Option α} {r r' : α} (h : Evt2 g r) (e : r = r') : Evt2 g r' := e ▸ h

/-- Lengths that a machine can hold, at every depth. -/
def RxOk : Nat → S90 → Prop
  | 0, _ => False
  | n + 1, x => x.f1.size ≤ 9223372036854775807 ∧ x.f2.length ≤ 9223372036854775807 ∧ ∀ a ∈ x.f2, RxOk n a
/-- A copy of what weighing lets through. -/
inductive Sm : S97 → Prop
  | mk (a : Int) (b : ByteArray) (l : List S97) (h : l.length ≤ 1048576) (hs : ∀ x ∈ l, Sm x) : Sm ⟨a, b, l⟩
theorem Sm.len {x : S97} (h : Sm x) : x.f2.length ≤ 1048576 := by cases h; assumption
theorem rxL_at (l : List S90) (i : Nat) (h : i < l.length) : rd_T90 l (i : Int) = l[i] := by simp [rd_T90, h]
theorem rxI_at (l : List S97) (i : Nat) (h : i < l.length) : rd_T97 l (i : Int) = l[i] := by simp [rd_T97, h]
theorem rx_eta (y : S97) : (⟨y.f0, y.f1, y.f2⟩ : S97) = y := by cases y; rfl
/-- Its copy. -/
def Cp (x : S90) (y : S97) : Prop := Sm y ∧ Evt (fun k => laws_toRegex.f k x.f0 x.f1 x.f2) (y.f0, y.f1, y.f2)
theorem copies (l : List S90) (h : ∀ x ∈ l, ∃ y, Cp x y) : ∃ ys : List S97, ys.length = l.length ∧ ∀ (i : Nat) (h : i < l.length) (h' : i < ys.length), Cp l[i] ys[i] := by
  induction l with
  | nil => exact ⟨[], rfl, fun i h => absurd h (by simp)⟩
  | cons x l ih =>
    obtain ⟨y, hy⟩ := h x (by simp)
    obtain ⟨ys, h1, h2⟩ := ih (fun z hz => h z (by simp [hz]))
    refine ⟨y :: ys, by simp [h1], fun i hi hi' => ?_⟩
    cases i with
    | zero => exact hy
    | succ i => exact h2 i (by simpa using hi) (by simpa using hi')
theorem toRegex_ev (a : Int) (b : ByteArray) (l : List S90) (hl : l.length ≤ 1048576) (h : ∀ x ∈ l, ∃ y, Cp x y) : ∃ y, Cp ⟨a, b, l⟩ y := by
  obtain ⟨ys, e, hc⟩ := copies l h
  refine ⟨⟨a, b, ys⟩, Sm.mk a b ys (by omega) (fun y hy => ?_), ?_⟩
  · obtain ⟨i, hi, rfl⟩ := List.mem_iff_getElem.1 hy
    exact (hc i (by omega) hi).1
  · refine Evt.step ?_
    simp only [laws_toRegex.f]
    refine Evt2.diag (g := fun i j => laws_toRegexG.f (fun _ => laws_toRegex.f i) j a b l) ?_
    simp only [laws_toRegexG.f, laws_toRegexSG.f]
    refine Evt2.bind2 (a := ys) (Evt2.pos (by omega) (Evt2.pos (by omega) ?_)) (Evt2.ret _)
    rw [Int.toNat_natCast]
    have hh : ∀ d i : Nat, i + d = l.length → Evt2 (fun p q => laws_toRegexSG.l0 (fun _ => laws_toRegex.f p) q l (ys.take i ++ List.replicate (l.length - i) z97) (i : Int)) ys := by
      intro d
      induction d with
      | zero =>
        intro i hi
        refine Evt2.step ?_
        simp only [laws_toRegexSG.l0]
        refine Evt2.neg (by omega) ((Evt2.ret _).cast ?_)
        rw [show l.length - i = 0 by omega, List.take_of_length_le (by omega)]
        simp
      | succ d ih =>
        intro i hi
        have hi' : i < l.length := by omega
        refine Evt2.step ?_
        simp only [laws_toRegexSG.l0]
        rw [rxL_at l i hi']
        refine Evt2.pos (by omega) (Evt2.pos (by omega) (Evt2.bind (hc i hi' (by omega)).2 (Evt2.pos (by simp; omega) ?_)))
        rw [Int.toNat_natCast, w64s (by omega)]
        have hx : (ys.take i).length = i := by rw [List.length_take]; omega
        have e2 : (ys.take i ++ List.replicate (l.length - i) z97).set i (ys[i]'(by omega)) = ys.take (i + 1) ++ List.replicate (l.length - (i + 1)) z97 := by
          rw [List.set_append_right _ _ (by omega), hx, Nat.sub_self, show l.length - i = (l.length - (i + 1)) + 1 by omega, List.replicate_succ, List.set_cons_zero, List.take_succ_eq_append_getElem (by omega), List.append_assoc]
          rfl
        simp only [rx_eta, e2]
        exact ih (i + 1) (by omega)
    simpa using hh l.length 0 (by omega)
theorem szRegex_ev : ∀ n (x : S90), RxOk n x → ∀ v : Int, 0 ≤ v → v ≤ 1048576 → ∃ t, Evt (fun k => laws_szRegex.f k x.f0 x.f1 x.f2 v) t ∧ (t = -1 ∨ (0 ≤ t ∧ t ≤ v ∧ ∃ y, Cp x y)) := by
  intro n
  induction n with
  | zero => intro x h; exact h.elim
  | succ n ih =>
    rintro ⟨a, b, l⟩ ⟨h1, h2, h3⟩ v hv hv'
    simp only at h1 h2 h3
    have hs : ∃ t, Evt2 (fun i j => laws_szRegexG.f (fun _ => laws_szRegex.f i) j a b l v) t ∧ (t = -1 ∨ (0 ≤ t ∧ t ≤ v ∧ ∃ y, Cp ⟨a, b, l⟩ y)) := by
      simp only [laws_szRegexG.f, laws_szRegexSG.f]
      rw [w64_sub (by omega) (by omega) h1]
      by_cases c1 : v - b.size < 0
      · exact ⟨-1, Evt2.pos c1 (Evt2.ret _), .inl rfl⟩
      rw [w64_sub (by omega) (by omega) h2]
      by_cases c2 : v - b.size - l.length < 0
      · exact ⟨-1, Evt2.neg c1 (Evt2.bind2 (Evt2.pos c2 (Evt2.ret _)) (Evt2.pos (by decide) (Evt2.ret _))), .inl rfl⟩
      have hh : ∀ d i : Nat, i + d = l.length → ∀ u : Int, 0 ≤ u → u ≤ 1048576 → ∃ t, Evt2 (fun p q => laws_szRegexSG.l0 (fun _ => laws_szRegex.f p) q l u (i : Int)) t ∧ (t = -1 ∨ (0 ≤ t ∧ t ≤ u ∧ ∀ x ∈ l.drop i, ∃ y, Cp x y)) := by
        intro d
        induction d with
        | zero =>
          intro i hi u hu hu'
          refine ⟨u, Evt2.step ?_, .inr ⟨hu, Int.le_refl _, ?_⟩⟩
          · simp only [laws_szRegexSG.l0]
            exact Evt2.neg (by omega) (Evt2.ret _)
          · rw [List.drop_of_length_le (by omega)]
            intro x hx
            cases hx
        | succ d ihd =>
          intro i hi u hu hu'
          have hi' : i < l.length := by omega
          obtain ⟨t, ht, hc⟩ := ih l[i] (h3 _ (List.getElem_mem hi')) u hu hu'
          by_cases c3 : t < 0
          · refine ⟨-1, Evt2.step ?_, .inl rfl⟩
            simp only [laws_szRegexSG.l0]
            rw [rxL_at l i hi']
            exact Evt2.pos (by omega) (Evt2.pos (by omega) (Evt2.bind ht (Evt2.pos c3 (Evt2.ret _))))
          · have hc' := hc.resolve_left (by omega)
            obtain ⟨t', ht', hc2⟩ := ihd (i + 1) (by omega) t (by omega) (by omega)
            refine ⟨t', Evt2.step ?_, ?_⟩
            · simp only [laws_szRegexSG.l0]
              rw [rxL_at l i hi', w64s (by omega)]
              exact Evt2.pos (by omega) (Evt2.pos (by omega) (Evt2.bind ht (Evt2.neg c3 ht')))
            · rcases hc2 with h4 | ⟨h4, h5, h6⟩
              · exact .inl h4
              · refine .inr ⟨h4, by omega, ?_⟩
                rw [List.drop_eq_getElem_cons hi']
                intro x hx
                rcases List.mem_cons.1 hx with rfl | hx
                · exact hc'.2.2
                · exact h6 x hx
      obtain ⟨t, ht, hc⟩ := hh l.length 0 (by omega) (v - b.size - l.length) (by omega) (by omega)
      by_cases c4 : t < 0
      · exact ⟨-1, Evt2.neg c1 (Evt2.bind2 (Evt2.neg c2 ht) (Evt2.pos c4 (Evt2.ret _))), .inl rfl⟩
      · have hc' := hc.resolve_left (by omega)
        refine ⟨t, Evt2.neg c1 (Evt2.bind2 (Evt2.neg c2 ht) (Evt2.neg c4 (Evt2.ret _))), .inr ⟨hc'.1, by omega, toRegex_ev a b l (by omega) (by simpa using hc'.2.2)⟩⟩
    obtain ⟨t, ht, hc⟩ := hs
    refine ⟨t, Evt.step ?_, hc⟩
    simp only [laws_szRegex.f]
    exact Evt2.diag ht

end Go.Proofs.Ytkefiajemifklaa.F


namespace Go.Proofs.Ytkefiajemifklaa.F
set_option linter.unusedVariables false
set_option linter.unusedSimpArgs false
open Go.RowKit Go.Proofs.YtkefiajemifklaaW.PrintWords Go.Proofs.Ytkefiajemifklaa.Pl Go.Proofs.Ytkefiajemifklaa.A Go.Proofs.Ytkefiajemifklaa.Ext

theorem eqRegex_ev (x : S97) (h : Sm x) : Evt (fun k => laws_eqRegex.f k x.f0 x.f1 x.f2 x.f0 x.f1 x.f2) true := by
  induction h with
  | mk a b l hl hs ih =>
    refine Evt.step ?_
    simp only [laws_eqRegex.f]
    refine Evt2.diag (g := fun i j => laws_eqRegexG.f (fun _ => laws_eqRegex.f i) j a b l a b l) ?_
    simp only [laws_eqRegexG.f, laws_eqRegexSG.f]
    refine Evt2.pos trivial (Evt2.pos trivial (Evt2.bind2 (a := true) (Evt2.pos trivial ?_) (Evt2.pos rfl (Evt2.ret _))))
    have hh : ∀ d i : Nat, i + d = l.length → Evt2 (fun p q => laws_eqRegexSG.l0 (fun _ => laws_eqRegex.f p) q l l (i : Int)) true := by
      intro d
      induction d with
      | zero =>
        intro i hi
        refine Evt2.step ?_
        simp only [laws_eqRegexSG.l0]
        exact Evt2.neg (by omega) (Evt2.ret _)
      | succ d ihd =>
        intro i hi
        have hi' : i < l.length := by omega
        refine Evt2.step ?_
        simp only [laws_eqRegexSG.l0]
        rw [rxI_at l i hi', w64s (by omega)]
        exact Evt2.pos (by omega) (Evt2.pos (by omega) (Evt2.pos (by omega) (Evt2.bind (ih _ (List.getElem_mem hi')) (Evt2.pos rfl (ihd (i + 1) (by omega))))))
    exact hh l.length 0 (by omega)
theorem equalRegex_ev (x : S97) (h : Sm x) : ∀ y : S97, ∃ q, Evt (fun k => spec_EqualRegex.f k x.f0 x.f1 x.f2 y.f0 y.f1 y.f2) q ∧ Evt (fun k => impl_EqualRegex.f k x.f0 x.f1 x.f2 y.f0 y.f1 y.f2) q := by
  induction h with
  | mk a b l hl hs ih =>
    rintro ⟨a', b', l'⟩
    have hbad : Evt (fun k => spec_EqualRegex.j0 k true a b l a' b' l') false := by
      refine Evt.step ?_
      simp only [spec_EqualRegex.j0]
      exact Evt.pos trivial (Evt.ret _)
    have hg : ∀ q, Evt2 (fun i j => impl_EqualRegexG.f (fun _ => impl_EqualRegex.f i) j a b l a' b' l') q → Evt (fun k => impl_EqualRegex.f k a b l a' b' l') q := by
      intro q h
      refine Evt.step ?_
      simp only [impl_EqualRegex.f]
      exact Evt2.diag h
    by_cases c1 : a = a'
    · by_cases c2 : b.toList = b'.toList
      · by_cases c3 : l.length = l'.length
        · have hh : ∀ d i : Nat, i + d = l.length → ∃ q, Evt (fun k => spec_EqualRegex.l0 k (i : Int) a b l a' b' l') q ∧ Evt2 (fun p s => impl_RegexG.l0 (fun _ => impl_EqualRegex.f p) s l' l (l.length : Int) (i : Int)) q := by
            intro d
            induction d with
            | zero =>
              intro i hi
              refine ⟨true, Evt.step ?_, Evt2.step ?_⟩
              · simp only [spec_EqualRegex.l0]
                exact Evt.neg (by omega) (Evt.ret _)
              · simp only [impl_RegexG.l0]
                exact Evt2.neg (by omega) (Evt2.ret _)
            | succ d ihd =>
              intro i hi
              have hi' : i < l.length := by omega
              have hj' : i < l'.length := by omega
              obtain ⟨q, q1, q2⟩ := ih _ (List.getElem_mem hi') l'[i]
              obtain ⟨q', q1', q2'⟩ := ihd (i + 1) (by omega)
              cases q with
              | true =>
                refine ⟨q', Evt.step ?_, Evt2.step ?_⟩
                · simp only [spec_EqualRegex.l0]
                  rw [rxI_at l i hi', rxI_at l' i hj', w64s (by omega)]
                  exact Evt.pos (by omega) (Evt.pos (by omega) (Evt.pos (by omega) (Evt.bind q1 (Evt.pos rfl q1'))))
                · simp only [impl_RegexG.l0]
                  rw [rxI_at l i hi', rxI_at l' i hj', w64s (by omega)]
                  exact Evt2.pos (by omega) (Evt2.pos (by omega) (Evt2.pos (by omega) (Evt2.pos (by omega) (Evt2.bind q2 (Evt2.pos rfl q2')))))
              | false =>
                refine ⟨false, Evt.step ?_, Evt2.step ?_⟩
                · simp only [spec_EqualRegex.l0]
                  rw [rxI_at l i hi', rxI_at l' i hj']
                  exact Evt.pos (by omega) (Evt.pos (by omega) (Evt.pos (by omega) (Evt.bind q1 (Evt.neg (by decide) (Evt.ret _)))))
                · simp only [impl_RegexG.l0]
                  rw [rxI_at l i hi', rxI_at l' i hj']
                  exact Evt2.pos (by omega) (Evt2.pos (by omega) (Evt2.pos (by omega) (Evt2.pos (by omega) (Evt2.bind q2 (Evt2.neg (by decide) (Evt2.ret _))))))
          obtain ⟨q, q1, q2⟩ := hh l.length 0 (by omega)
          refine ⟨q, Evt.step ?_, hg _ ?_⟩
          · simp only [spec_EqualRegex.f]
            refine Evt.pos c1 (Evt.pos c2 (Evt.step ?_))
            simp only [spec_EqualRegex.j0]
            exact Evt.neg (by simp [c3]) q1
          · simp only [impl_EqualRegexG.f, impl_RegexG.f]
            exact Evt2.pos c1 (Evt2.pos c2 (Evt2.bind2 (Evt2.pos (by omega) q2) (Evt2.ret _)))
        · refine ⟨false, Evt.step ?_, hg _ ?_⟩
          · simp only [spec_EqualRegex.f]
            have e : ((l.length : Int) != (l'.length : Int)) = true := bne_iff_ne.mpr (by omega)
            rw [e]
            exact Evt.pos c1 (Evt.pos c2 hbad)
          · simp only [impl_EqualRegexG.f, impl_RegexG.f]
            exact Evt2.pos c1 (Evt2.pos c2 (Evt2.bind2 (Evt2.neg (by omega) (Evt2.ret _)) (Evt2.ret _)))
      · refine ⟨false, Evt.step ?_, hg _ ?_⟩
        · simp only [spec_EqualRegex.f]
          exact Evt.pos c1 (Evt.neg c2 hbad)
        · simp only [impl_EqualRegexG.f]
          exact Evt2.pos c1 (Evt2.neg c2 (Evt2.ret _))
    · refine ⟨false, Evt.step ?_, hg _ ?_⟩
      · simp only [spec_EqualRegex.f]
        exact Evt.neg c1 hbad
      · simp only [impl_EqualRegexG.f]
        exact Evt2.neg c1 (Evt2.ret _)

end Go.Proofs.Ytkefiajemifklaa.F


namespace Go.Proofs.Ytkefiajemifklaa.F
set_option linter.unusedVariables false
set_option linter.unusedSimpArgs false
open Go.RowKit Go.Proofs.YtkefiajemifklaaW.PrintWords Go.Proofs.Ytkefiajemifklaa.Pl Go.Proofs.Ytkefiajemifklaa.A

theorem szIntS_eq (l : List Int) (a : Int) (ha : -1 ≤ a) (ha' : a ≤ 1048576) (hl : l.length ≤ 9223372036854775807) :
    ∃ t, laws_szIntS.f l a = some t ∧ (t = -1 ∨ (0 ≤ t ∧ t = a - l.length)) := by
  unfold laws_szIntS.f
  rw [w64_sub ha ha' hl]
  by_cases h1 : a - l.length < 0
  · exact ⟨-1, by rw [if_pos h1], .inl rfl⟩
  · rw [if_neg h1]; exact ⟨_, rfl, .inr ⟨by omega, rfl⟩⟩
theorem set_next (l : List Int) (i n : Nat) (hn : l.length = n) (hi : i < n) : (l.take i ++ List.replicate (n - i) 0).set i (rd l (i : Int)) = l.take (i + 1) ++ List.replicate (n - (i + 1)) 0 := by
  have hl : (l.take i).length = i := by rw [List.length_take]; omega
  have e : rd l (i : Int) = l[i] := by simp [rd, show i < l.length by omega]
  rw [List.set_append_right _ _ (by omega), hl, Nat.sub_self, show n - i = (n - (i + 1)) + 1 by omega, List.replicate_succ, List.set_cons_zero, List.take_succ_eq_append_getElem (by omega), e, List.append_assoc]
  rfl
theorem toIntS_ev (l : List Int) (hl : l.length ≤ 35184372088832) : Evt (fun k => laws_toIntS.f k l) l := by
  simp only [laws_toIntS.f]
  refine Evt.pos (by omega) (Evt.pos (by omega) ?_)
  rw [Int.toNat_natCast]
  have h : ∀ d i : Nat, i + d = l.length → Evt (fun k => laws_toIntS.l0 k l (l.take i ++ List.replicate (l.length - i) 0) (i : Int)) l := by
    intro d
    induction d with
    | zero =>
      intro i hi
      refine Evt.step ?_
      simp only [laws_toIntS.l0]
      refine Evt.neg (by omega) (Evt.const ?_)
      obtain rfl : i = l.length := by omega
      simp
    | succ d ih =>
      intro i hi
      refine Evt.step ?_
      simp only [laws_toIntS.l0]
      rw [w64s (by omega), Int.toNat_natCast, set_next l i l.length rfl (by omega)]
      exact Evt.pos (by omega) (Evt.pos (by omega) (Evt.pos (by simp; omega) (ih (i + 1) (by omega))))
  simpa using h l.length 0 (by omega)
theorem eqIntS_ev (l l' : List Int) (hl : l.length ≤ 9223372036854775807) : Evt (fun k => laws_eqIntS.f k l l') (decide (l = l')) := by
  simp only [laws_eqIntS.f]
  by_cases he : l.length = l'.length
  · refine Evt.pos (by omega) ?_
    have h := Evt.up (fun k i => laws_eqIntS.l0 k l l' i) l.length (fun i => decide (l.drop i = l'.drop i)) ?_ ?_
    · simpa using h
    · refine Evt.step ?_
      simp only [laws_eqIntS.l0]
      refine Evt.neg (by omega) (Evt.const ?_)
      rw [List.drop_of_length_le (Nat.le_refl _), List.drop_of_length_le (by omega)]
      rfl
    · intro i hi h
      refine Evt.step ?_
      simp only [laws_eqIntS.l0]
      have hi' : i < l'.length := by omega
      refine Evt.pos (by omega) (Evt.pos (by omega) (Evt.pos (by omega) ?_))
      rw [List.drop_eq_getElem_cons hi, List.drop_eq_getElem_cons hi', w64s (by omega)]
      have e1 : rd l (i : Int) = l[i] := by simp [rd, hi]
      have e2 : rd l' (i : Int) = l'[i] := by simp [rd, hi']
      rw [e1, e2]
      by_cases hc : l[i] = l'[i]
      · exact Evt.pos hc (h.cast (by rw [hc]; simp only [List.cons.injEq, true_and]))
      · exact Evt.neg hc (Evt.const (by rw [decide_eq_false (fun e => hc (List.cons.inj e).1)]))
  · refine Evt.neg (by omega) (Evt.const ?_)
    have : l ≠ l' := fun e => he (by rw [e])
    simp [this]

end Go.Proofs.Ytkefiajemifklaa.F


namespace Go.Proofs.Ytkefiajemifklaa.F
set_option linter.unusedVariables false
set_option linter.unusedSimpArgs false
open Go.RowKit Go.Proofs.YtkefiajemifklaaW.PrintWords Go.Proofs.Ytkefiajemifklaa.Pl Go.Proofs.Ytkefiajemifklaa.A

theorem rd_at (l : List Int) (i : Nat) (h : i < l.length) : rd l (i : Int) = l[i] := by simp [rd, h]
theorem l5Ints_ev (l l' : List Int) (hl : l.length ≤ 9223372036854775807) : Evt (fun k => spec_l5Ints.f k l l') (decide (l = l')) := by
  simp only [spec_l5Ints.f]
  by_cases he : l.length = l'.length
  · refine Evt.pos (by omega) ?_
    have h := Evt.up (fun k i => spec_l5Ints.l0 k l l' i) l.length (fun i => decide (l.drop i = l'.drop i)) ?_ ?_
    · simpa using h
    · refine Evt.step ?_
      simp only [spec_l5Ints.l0]
      refine Evt.neg (by omega) (Evt.const ?_)
      rw [List.drop_of_length_le (Nat.le_refl _), List.drop_of_length_le (by omega)]
      rfl
    · intro i hi h
      refine Evt.step ?_
      simp only [spec_l5Ints.l0]
      have hi' : i < l'.length := by omega
      refine Evt.pos (by omega) (Evt.pos (by omega) (Evt.pos (by omega) ?_))
      rw [List.drop_eq_getElem_cons hi, List.drop_eq_getElem_cons hi', w64s (by omega), rd_at l i hi, rd_at l' i hi']
      by_cases hc : l[i] = l'[i]
      · exact Evt.pos hc (h.cast (by rw [hc]; simp only [List.cons.injEq, true_and]))
      · exact Evt.neg hc (Evt.const (by rw [decide_eq_false (fun e => hc (List.cons.inj e).1)]))
  · refine Evt.neg (by omega) (Evt.const ?_)
    have : l ≠ l' := fun e => he (by rw [e])
    simp [this]
theorem slEq_ev (l l' : List Int) (hl : l.length ≤ 9223372036854775807) : Evt (fun k => slices_Equal_int_int.f k l l') (decide (l = l')) := by
  simp only [slices_Equal_int_int.f]
  by_cases he : l.length = l'.length
  · refine Evt.pos (by omega) ?_
    have h := Evt.up (fun k i => slices_Equal_int_int.l0 k l l' (l.length : Int) i) l.length (fun i => decide (l.drop i = l'.drop i)) ?_ ?_
    · simpa using h
    · refine Evt.step ?_
      simp only [slices_Equal_int_int.l0]
      refine Evt.neg (by omega) (Evt.const ?_)
      rw [List.drop_of_length_le (Nat.le_refl _), List.drop_of_length_le (by omega)]
      rfl
    · intro i hi h
      refine Evt.step ?_
      simp only [slices_Equal_int_int.l0]
      have hi' : i < l'.length := by omega
      refine Evt.pos (by omega) (Evt.pos (by omega) (Evt.pos (by omega) (Evt.pos (by omega) ?_)))
      rw [List.drop_eq_getElem_cons hi, List.drop_eq_getElem_cons hi', w64s (by omega), rd_at l i hi, rd_at l' i hi']
      by_cases hc : l[i] = l'[i]
      · exact Evt.pos hc (h.cast (by rw [hc]; simp only [List.cons.injEq, true_and]))
      · exact Evt.neg hc (Evt.const (by rw [decide_eq_false (fun e => hc (List.cons.inj e).1)]))
  · refine Evt.neg (by omega) (Evt.const ?_)
    have : l ≠ l' := fun e => he (by rw [e])
    simp [this]

end Go.Proofs.Ytkefiajemifklaa.F

