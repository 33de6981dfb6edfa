/- FnExactEqualProblem: what its proof needs, put together by this session's program wip/merge.py out of the texts that wip/xp.py printed and of this session's own. -/
import Derived.Test.YtpppopdmnejcfaaQFnExactEqualProblem2
import Derived.Shelf.Strings.OnBuilder
import Derived.Test.YtpppopdmnejcfaaProg
import Derived.Lib.Join
namespace Go.Proofs.Ytpppopdmnejcfaa.A
open Go.RowKit Go.Proofs.Ytpppopdmnejcfaa.Ext Go.Proofs.YtpppopdmnejcfaaW.PrintWords Go.Proofs.YtpppopdmnejcfaaW.PrintLast Go.Proofs.YtpppopdmnejcfaaW.PrintMore
attribute [local go_sem] max2_int min2_int max_two min_two max_three min_three max_four min_four   -- for this text's walks alone
set_option linter.unusedVariables false
set_option linter.unusedSimpArgs false

/-! ### spec_EqualConstraint: function 81 -/
def spec_EqualConstraint.f (k : Nat) (a0_0 : Int) (a0_1 : ByteArray) (a0_2 : ByteArray) (a0_3 : Int) (a0_4 : ByteArray) (l0_5 : List (S42)) (l0_6 : List Int) (a0_7 : Int) (a1_0 : Int) (a1_1 : ByteArray) (a1_2 : ByteArray) (a1_3 : Int) (a1_4 : ByteArray) (l1_5 : List (S42)) (l1_6 : List Int) (a1_7 : Int) : Option (Bool) := if a0_0 = a1_0 then (if a0_1.toList = a1_1.toList then (if a0_2.toList = a1_2.toList then ((spec_EqualRegex.f k a0_3 a0_4 l0_5 a1_3 a1_4 l1_5).bind fun t81003 => (if t81003 = true then ((spec_l5Ints.f k l0_6 l1_6).bind fun t81004 => (if t81004 = true then (some (a0_7 == a1_7)) else (some false))) else (some false))) else (some false)) else (some false)) else (some false)
theorem spec_EqualConstraint.mono : ∀ a0 a1 a2 a3 a4 a5 a6 a7 a8 a9 a10 a11 a12 a13 a14 a15 k, LeO (spec_EqualConstraint.f k a0 a1 a2 a3 a4 a5 a6 a7 a8 a9 a10 a11 a12 a13 a14 a15) (spec_EqualConstraint.f (k + 1) a0 a1 a2 a3 a4 a5 a6 a7 a8 a9 a10 a11 a12 a13 a14 a15) := by
  intro a0 a1 a2 a3 a4 a5 a6 a7 a8 a9 a10 a11 a12 a13 a14 a15 k
  unfold spec_EqualConstraint.f
  repeat' first
      | (with_reducible exact spec_EqualRegex.mono _ _ _ _ _ _ _)
      | (with_reducible exact spec_l5Ints.mono _ _ _)
      | (with_reducible exact LeO.refl _)
      | (with_reducible exact LeO.none _)
      | (with_reducible refine LeO.ite ?_ ?_)
      | (with_reducible refine LeO.bind ?_ (fun _ => ?_))
      | exact spec_EqualRegex.mono _ _ _ _ _ _ _
      | exact spec_l5Ints.mono _ _ _
      | exact LeO.none _
      | refine LeO.ite ?_ ?_
      | refine LeO.bind ?_ (fun _ => ?_)
set_option maxHeartbeats 8000000 in
set_option maxRecDepth 100000 in
theorem spec_EqualConstraint.calls (k : Nat) (a0_0 : Int) (a0_1 : ByteArray) (a0_2 : ByteArray) (a0_3 : Int) (a0_4 : ByteArray) (A0_5 : Option Addr) (c0_5 : Nat) (l0_5 : List (S42)) (A0_6 : Option Addr) (c0_6 : Nat) (l0_6 : List Int) (a0_7 : Int) (a1_0 : Int) (a1_1 : ByteArray) (a1_2 : ByteArray) (a1_3 : Int) (a1_4 : ByteArray) (A1_5 : Option Addr) (c1_5 : Nat) (l1_5 : List (S42)) (A1_6 : Option Addr) (c1_6 : Nat) (l1_6 : List Int) (a1_7 : Int) (r : Bool) (w : World) (hr0_5 : Kd.C k42 w A0_5 l0_5.length l0_5) (hc0_5 : l0_5.length ≤ c0_5) (hr0_6 : Kd.C (Kd.int .i64) w A0_6 l0_6.length l0_6) (hc0_6 : l0_6.length ≤ c0_6) (hr1_5 : Kd.C k42 w A1_5 l1_5.length l1_5) (hc1_5 : l1_5.length ≤ c1_5) (hr1_6 : Kd.C (Kd.int .i64) w A1_6 l1_6.length l1_6) (hc1_6 : l1_6.length ≤ c1_6) (h : spec_EqualConstraint.f k a0_0 a0_1 a0_2 a0_3 a0_4 l0_5 l0_6 a0_7 a1_0 a1_1 a1_2 a1_3 a1_4 l1_5 l1_6 a1_7 = some r) :
    Calls Try.prog 81 #[.agg #[.int .i64 a0_0, .string a0_1, .string a0_2, .int .i64 a0_3, .string a0_4, .slice A0_5 l0_5.length c0_5, .slice A0_6 l0_6.length c0_6, .int .i64 a0_7], .agg #[.int .i64 a1_0, .string a1_1, .string a1_2, .int .i64 a1_3, .string a1_4, .slice A1_5 l1_5.length c1_5, .slice A1_6 l1_6.length c1_6, .int .i64 a1_7]] w fun e w' => e = .returned (.bool r) ∧ Below w.heap.size w w' := by
  have hu44 := Try.underlying44
  have hu42 := Try.underlying42
  have HR0_5 := Aside0.mk hr0_5
  have HC0_5 := Aside0.mk hc0_5
  clear hr0_5 hc0_5
  have HR0_6 := Aside0.mk hr0_6
  have HC0_6 := Aside0.mk hc0_6
  clear hr0_6 hc0_6
  have HR1_5 := Aside0.mk hr1_5
  have HC1_5 := Aside0.mk hc1_5
  clear hr1_5 hc1_5
  have HR1_6 := Aside0.mk hr1_6
  have HC1_6 := Aside0.mk hc1_6
  clear hr1_6 hc1_6
  have HB := Aside0.mk (Below.refl w.heap.size w)
  have H : (if a0_0 = a1_0 then (if a0_1.toList = a1_1.toList then (if a0_2.toList = a1_2.toList then ((spec_EqualRegex.f k a0_3 a0_4 l0_5 a1_3 a1_4 l1_5).bind fun t81003 => (if t81003 = true then ((spec_l5Ints.f k l0_6 l1_6).bind fun t81004 => (if t81004 = true then (some (a0_7 == a1_7)) else (some false))) else (some false))) else (some false)) else (some false)) else (some false)) = some r := h
  clear h
  by_cases c3 : a0_0 = a1_0
  · rw [if_pos c3] at H
    have c3b0 : (a0_0 == a1_0) = true := beq_iff_eq.mpr c3
    have c3b1 : (a0_0 != a1_0) = false := bne_eq_false_iff_eq.mpr c3
    clear c3
    by_cases c4 : a0_1.toList = a1_1.toList
    · rw [if_pos c4] at H
      have c4b0 : (a0_1.toList == a1_1.toList) = true := beq_iff_eq.mpr c4
      have c4b1 : (a0_1.toList != a1_1.toList) = false := bne_eq_false_iff_eq.mpr c4
      clear c4
      by_cases c5 : a0_2.toList = a1_2.toList
      · rw [if_pos c5] at H
        have c5b0 : (a0_2.toList == a1_2.toList) = true := beq_iff_eq.mpr c5
        have c5b1 : (a0_2.toList != a1_2.toList) = false := bne_eq_false_iff_eq.mpr c5
        clear c5
        replace H := Option.bind_eq_some_iff.mp H
        obtain ⟨t81003, A60, H⟩ := H
        replace H : (if t81003 = true then ((spec_l5Ints.f k l0_6 l1_6).bind fun t81004 => (if t81004 = true then (some (a0_7 == a1_7)) else (some false))) else (some false)) = some r := H
        have A6 := Aside0.mk A60
        clear A60
        by_cases c7 : t81003 = true
        · subst c7
          have H1 : ((spec_l5Ints.f k l0_6 l1_6).bind fun t81004 => (if t81004 = true then (some (a0_7 == a1_7)) else (some false))) = some r := by rw [if_pos rfl] at H; exact H
          clear H
          have H := H1
          clear H1
          replace H := Option.bind_eq_some_iff.mp H
          obtain ⟨t81004, A80, H⟩ := H
          replace H : (if t81004 = true then (some (a0_7 == a1_7)) else (some false)) = some r := H
          have A8 := Aside0.mk A80
          clear A80
          by_cases c9 : t81004 = true
          · subst c9
            have H1 : (some (a0_7 == a1_7)) = some r := by rw [if_pos rfl] at H; exact H
            clear H
            have H := H1
            clear H1
            obtain rfl := Option.some.inj H
            go_enter Try.func81, Try.ntmps81
            go_wp2_with (first | ((with_reducible refine gate_dst (N := 2) rfl ?_); refine box_event ?hg (N := 2) ?hd (cs := #[.int .i64 a0_0, .string a0_1, .string a0_2, .int .i64 a0_3, .string a0_4, .slice A0_5 l0_5.length c0_5, .slice A0_6 l0_6.length c0_6, .int .i64 a0_7]) (t := 44) ?hr ?_; (case hd => rfl); (case hg => rfl); (case hr => first | (go_simp; done) | (go_simp; rfl)); intro gb81001 hg w10 hbox hb; have n0_ := Aside0.mk (below_step (by repeat (first | (with_reducible first | exact HB.out | apply below_alloc | apply pw_below_drewN | apply below_drew1) | exact HB.out)) hb); have n1_ := Aside0.mk (hbox); have n2_ := Aside0.mk ((by rw [hg]; exact (below_size (by repeat (first | (with_reducible first | exact HB.out | apply below_alloc | apply pw_below_drewN | apply below_drew1) | exact HB.out))) : w.heap.size ≤ gb81001)); have n3_ := Aside0.mk ((by rw [hg]; exact (below_size (by repeat (first | (with_reducible first | exact HB.out | apply below_alloc | apply pw_below_drewN | apply below_drew1) | exact HB.out))) : w.heap.size ≤ gb81001)); clear HB; have HB := n0_; have BK81001 := n1_; have GW81001 := n2_; have GE81001 := n3_; clear n0_ n1_ n2_ n3_; clear hb hbox hg) | ((with_reducible refine gate_dst (N := 3) rfl ?_); refine box_event ?hg (N := 3) ?hd (cs := #[.int .i64 a1_0, .string a1_1, .string a1_2, .int .i64 a1_3, .string a1_4, .slice A1_5 l1_5.length c1_5, .slice A1_6 l1_6.length c1_6, .int .i64 a1_7]) (t := 44) ?hr ?_; (case hd => rfl); (case hg => rfl); (case hr => first | (go_simp; done) | (go_simp; rfl)); intro gb81002 hg w11 hbox hb; have n0_ := Aside0.mk (blk_below (g := gb81001) (o := .cells #[.int .i64 a0_0, .string a0_1, .string a0_2, .int .i64 a0_3, .string a0_4, .slice A0_5 l0_5.length c0_5, .slice A0_6 l0_6.length c0_6, .int .i64 a0_7] 44 (0, 0)) (by (with_reducible repeat (first | refine blk_drewN ?_ _ | refine blk_drew ?_ | refine blk_alloc ?_ _)); exact BK81001.out) hb); have n1_ := Aside0.mk (below_step (by repeat (first | (with_reducible first | exact HB.out | apply below_alloc | apply pw_below_drewN | apply below_drew1 | refine below_set ?_ GE81001.out) | exact HB.out)) hb); have n2_ := Aside0.mk (hbox); have n3_ := Aside0.mk ((by rw [hg]; exact (below_size (by repeat (first | (with_reducible first | exact HB.out | apply below_alloc | apply pw_below_drewN | apply below_drew1 | refine below_set ?_ GE81001.out) | exact HB.out))) : w.heap.size ≤ gb81002)); have n4_ := Aside0.mk ((by rw [hg]; exact (below_size (by repeat (first | (with_reducible first | exact HB.out | apply below_alloc | apply pw_below_drewN | apply below_drew1 | refine below_set ?_ GE81001.out) | exact HB.out))) : w.heap.size ≤ gb81002)); have n5_ := Aside0.mk ((by rw [hg]; exact Nat.ne_of_lt (blk_lt (g := gb81001) (o := .cells #[.int .i64 a0_0, .string a0_1, .string a0_2, .int .i64 a0_3, .string a0_4, .slice A0_5 l0_5.length c0_5, .slice A0_6 l0_6.length c0_6, .int .i64 a0_7] 44 (0, 0)) (by (with_reducible repeat (first | refine blk_drewN ?_ _ | refine blk_drew ?_ | refine blk_alloc ?_ _)); exact BK81001.out)) : gb81001 ≠ gb81002)); have n6_ := Aside0.mk ((by rw [hg]; exact Nat.ne_of_gt (blk_lt (g := gb81001) (o := .cells #[.int .i64 a0_0, .string a0_1, .string a0_2, .int .i64 a0_3, .string a0_4, .slice A0_5 l0_5.length c0_5, .slice A0_6 l0_6.length c0_6, .int .i64 a0_7] 44 (0, 0)) (by (with_reducible repeat (first | refine blk_drewN ?_ _ | refine blk_drew ?_ | refine blk_alloc ?_ _)); exact BK81001.out)) : gb81002 ≠ gb81001)); clear BK81001; clear HB; have BK81001 := n0_; have HB := n1_; have BK81002 := n2_; have GW81002 := n3_; have GE81002 := n4_; have NB81001_81002 := n5_; have NB81002_81001 := n6_; clear n0_ n1_ n2_ n3_ n4_ n5_ n6_; clear hb hbox hg; have hnb12 := NB81001_81002.out; have hnc12 := NB81002_81001.out; have hcz13_0 : w11.cell? ⟨gb81001, 0, none⟩ = some (.int .i64 a0_0) := (blk_cell BK81001.out 0).trans rfl; have hcz13_1 : w11.cell? ⟨gb81001, 1, none⟩ = some (.string a0_1) := (blk_cell BK81001.out 1).trans rfl; have hcz13_2 : w11.cell? ⟨gb81001, 2, none⟩ = some (.string a0_2) := (blk_cell BK81001.out 2).trans rfl; have hcz13_3 : w11.cell? ⟨gb81001, 3, none⟩ = some (.int .i64 a0_3) := (blk_cell BK81001.out 3).trans rfl; have hcz13_4 : w11.cell? ⟨gb81001, 4, none⟩ = some (.string a0_4) := (blk_cell BK81001.out 4).trans rfl; have hcz13_5 : w11.cell? ⟨gb81001, 5, none⟩ = some (.slice A0_5 l0_5.length c0_5) := (blk_cell BK81001.out 5).trans rfl; have hcz13_6 : w11.cell? ⟨gb81001, 6, none⟩ = some (.slice A0_6 l0_6.length c0_6) := (blk_cell BK81001.out 6).trans rfl; have hcz13_7 : w11.cell? ⟨gb81001, 7, none⟩ = some (.int .i64 a0_7) := (blk_cell BK81001.out 7).trans rfl; have hfz13_0 := blk_frozen BK81001.out 0; have hfz13_1 := blk_frozen BK81001.out 1; have hfz13_2 := blk_frozen BK81001.out 2; have hfz13_3 := blk_frozen BK81001.out 3; have hfz13_4 := blk_frozen BK81001.out 4; have hfz13_5 := blk_frozen BK81001.out 5; have hfz13_6 := blk_frozen BK81001.out 6; have hfz13_7 := blk_frozen BK81001.out 7; have hcz14_0 : w11.cell? ⟨gb81002, 0, none⟩ = some (.int .i64 a1_0) := (blk_cell BK81002.out 0).trans rfl; have hcz14_1 : w11.cell? ⟨gb81002, 1, none⟩ = some (.string a1_1) := (blk_cell BK81002.out 1).trans rfl; have hcz14_2 : w11.cell? ⟨gb81002, 2, none⟩ = some (.string a1_2) := (blk_cell BK81002.out 2).trans rfl; have hcz14_3 : w11.cell? ⟨gb81002, 3, none⟩ = some (.int .i64 a1_3) := (blk_cell BK81002.out 3).trans rfl; have hcz14_4 : w11.cell? ⟨gb81002, 4, none⟩ = some (.string a1_4) := (blk_cell BK81002.out 4).trans rfl; have hcz14_5 : w11.cell? ⟨gb81002, 5, none⟩ = some (.slice A1_5 l1_5.length c1_5) := (blk_cell BK81002.out 5).trans rfl; have hcz14_6 : w11.cell? ⟨gb81002, 6, none⟩ = some (.slice A1_6 l1_6.length c1_6) := (blk_cell BK81002.out 6).trans rfl; have hcz14_7 : w11.cell? ⟨gb81002, 7, none⟩ = some (.int .i64 a1_7) := (blk_cell BK81002.out 7).trans rfl; have hfz14_0 := blk_frozen BK81002.out 0; have hfz14_1 := blk_frozen BK81002.out 1; have hfz14_2 := blk_frozen BK81002.out 2; have hfz14_3 := blk_frozen BK81002.out 3; have hfz14_4 := blk_frozen BK81002.out 4; have hfz14_5 := blk_frozen BK81002.out 5; have hfz14_6 := blk_frozen BK81002.out 6; have hfz14_7 := blk_frozen BK81002.out 7) | (go_at_call 160; (with_reducible refine (spec_EqualRegex.calls k a0_3 a0_4 _ _ l0_5 a1_3 a1_4 _ _ l1_5 true _ ?side1 ?side2 ?side3 ?side4 A6.out).mono ?_); (case side1 => repeat (first | exact (Kd.C_below HR0_5.out HB.out) | (with_reducible refine Kd.C_alloc ?_ _) | (with_reducible refine Kd.C_drewN ?_ _) | (with_reducible refine Kd.C_drew ?_))); (case side2 => exact HC0_5.out); (case side3 => repeat (first | exact (Kd.C_below HR1_5.out HB.out) | (with_reducible refine Kd.C_alloc ?_ _) | (with_reducible refine Kd.C_drewN ?_ _) | (with_reducible refine Kd.C_drew ?_))); (case side4 => exact HC1_5.out); rintro e w15 ⟨rfl, hb⟩; have n0_ := Aside0.mk (blk_below (g := gb81001) (o := .cells #[.int .i64 a0_0, .string a0_1, .string a0_2, .int .i64 a0_3, .string a0_4, .slice A0_5 l0_5.length c0_5, .slice A0_6 l0_6.length c0_6, .int .i64 a0_7] 44 (0, 0)) (by (with_reducible repeat (first | refine blk_drewN ?_ _ | refine blk_drew ?_ | refine blk_alloc ?_ _)); exact BK81001.out) hb); have n1_ := Aside0.mk (blk_below (g := gb81002) (o := .cells #[.int .i64 a1_0, .string a1_1, .string a1_2, .int .i64 a1_3, .string a1_4, .slice A1_5 l1_5.length c1_5, .slice A1_6 l1_6.length c1_6, .int .i64 a1_7] 44 (0, 0)) (by (with_reducible repeat (first | refine blk_drewN ?_ _ | refine blk_drew ?_ | refine blk_alloc ?_ _)); exact BK81002.out) hb); have n2_ := Aside0.mk (below_step (by repeat (first | (with_reducible first | exact HB.out | apply below_alloc | apply pw_below_drewN | apply below_drew1 | refine below_set ?_ GE81001.out | refine below_set ?_ GE81002.out) | exact HB.out)) hb); clear BK81001; clear BK81002; clear HB; have BK81001 := n0_; have BK81002 := n1_; have HB := n2_; clear n0_ n1_ n2_; (try clear hb); (try clear hb2); (try clear hk); (try clear hi); have hcz16_0 : w15.cell? ⟨gb81001, 0, none⟩ = some (.int .i64 a0_0) := (blk_cell BK81001.out 0).trans rfl; have hcz16_1 : w15.cell? ⟨gb81001, 1, none⟩ = some (.string a0_1) := (blk_cell BK81001.out 1).trans rfl; have hcz16_2 : w15.cell? ⟨gb81001, 2, none⟩ = some (.string a0_2) := (blk_cell BK81001.out 2).trans rfl; have hcz16_3 : w15.cell? ⟨gb81001, 3, none⟩ = some (.int .i64 a0_3) := (blk_cell BK81001.out 3).trans rfl; have hcz16_4 : w15.cell? ⟨gb81001, 4, none⟩ = some (.string a0_4) := (blk_cell BK81001.out 4).trans rfl; have hcz16_5 : w15.cell? ⟨gb81001, 5, none⟩ = some (.slice A0_5 l0_5.length c0_5) := (blk_cell BK81001.out 5).trans rfl; have hcz16_6 : w15.cell? ⟨gb81001, 6, none⟩ = some (.slice A0_6 l0_6.length c0_6) := (blk_cell BK81001.out 6).trans rfl; have hcz16_7 : w15.cell? ⟨gb81001, 7, none⟩ = some (.int .i64 a0_7) := (blk_cell BK81001.out 7).trans rfl; have hfz16_0 := blk_frozen BK81001.out 0; have hfz16_1 := blk_frozen BK81001.out 1; have hfz16_2 := blk_frozen BK81001.out 2; have hfz16_3 := blk_frozen BK81001.out 3; have hfz16_4 := blk_frozen BK81001.out 4; have hfz16_5 := blk_frozen BK81001.out 5; have hfz16_6 := blk_frozen BK81001.out 6; have hfz16_7 := blk_frozen BK81001.out 7; have hcz17_0 : w15.cell? ⟨gb81002, 0, none⟩ = some (.int .i64 a1_0) := (blk_cell BK81002.out 0).trans rfl; have hcz17_1 : w15.cell? ⟨gb81002, 1, none⟩ = some (.string a1_1) := (blk_cell BK81002.out 1).trans rfl; have hcz17_2 : w15.cell? ⟨gb81002, 2, none⟩ = some (.string a1_2) := (blk_cell BK81002.out 2).trans rfl; have hcz17_3 : w15.cell? ⟨gb81002, 3, none⟩ = some (.int .i64 a1_3) := (blk_cell BK81002.out 3).trans rfl; have hcz17_4 : w15.cell? ⟨gb81002, 4, none⟩ = some (.string a1_4) := (blk_cell BK81002.out 4).trans rfl; have hcz17_5 : w15.cell? ⟨gb81002, 5, none⟩ = some (.slice A1_5 l1_5.length c1_5) := (blk_cell BK81002.out 5).trans rfl; have hcz17_6 : w15.cell? ⟨gb81002, 6, none⟩ = some (.slice A1_6 l1_6.length c1_6) := (blk_cell BK81002.out 6).trans rfl; have hcz17_7 : w15.cell? ⟨gb81002, 7, none⟩ = some (.int .i64 a1_7) := (blk_cell BK81002.out 7).trans rfl; have hfz17_0 := blk_frozen BK81002.out 0; have hfz17_1 := blk_frozen BK81002.out 1; have hfz17_2 := blk_frozen BK81002.out 2; have hfz17_3 := blk_frozen BK81002.out 3; have hfz17_4 := blk_frozen BK81002.out 4; have hfz17_5 := blk_frozen BK81002.out 5; have hfz17_6 := blk_frozen BK81002.out 6; have hfz17_7 := blk_frozen BK81002.out 7) | (go_at_call 161; (with_reducible refine (spec_l5Ints.calls k _ _ l0_6 _ _ l1_6 true _ ?side1 ?side2 ?side3 ?side4 A8.out).mono ?_); (case side1 => repeat (first | exact (Kd.C_below HR0_6.out HB.out) | (with_reducible refine Kd.C_alloc ?_ _) | (with_reducible refine Kd.C_drewN ?_ _) | (with_reducible refine Kd.C_drew ?_))); (case side2 => exact HC0_6.out); (case side3 => repeat (first | exact (Kd.C_below HR1_6.out HB.out) | (with_reducible refine Kd.C_alloc ?_ _) | (with_reducible refine Kd.C_drewN ?_ _) | (with_reducible refine Kd.C_drew ?_))); (case side4 => exact HC1_6.out); rintro e w' ⟨rfl, ⟨nd, rfl⟩⟩))
            go_ret
            exact ⟨by first | rfl | (simp [errW_none, errW_some] <;> rfl) | (simp [*, errW_none, errW_some] <;> rfl), by repeat (first | (with_reducible first | exact HB.out | apply below_alloc | apply pw_below_drewN | apply below_drew1 | refine below_set ?_ GE81001.out | refine below_set ?_ GE81002.out) | exact HB.out)⟩
          · replace c9 := Bool.eq_false_iff.mpr c9
            subst c9
            have H1 : (some false) = some r := by rw [if_neg (show ¬ (false = true) by decide)] at H; exact H
            clear H
            have H := H1
            clear H1
            obtain rfl := Option.some.inj H
            go_enter Try.func81, Try.ntmps81
            go_wp2_with (first | ((with_reducible refine gate_dst (N := 2) rfl ?_); refine box_event ?hg (N := 2) ?hd (cs := #[.int .i64 a0_0, .string a0_1, .string a0_2, .int .i64 a0_3, .string a0_4, .slice A0_5 l0_5.length c0_5, .slice A0_6 l0_6.length c0_6, .int .i64 a0_7]) (t := 44) ?hr ?_; (case hd => rfl); (case hg => rfl); (case hr => first | (go_simp; done) | (go_simp; rfl)); intro gb81001 hg w18 hbox hb; have n0_ := Aside0.mk (below_step (by repeat (first | (with_reducible first | exact HB.out | apply below_alloc | apply pw_below_drewN | apply below_drew1) | exact HB.out)) hb); have n1_ := Aside0.mk (hbox); have n2_ := Aside0.mk ((by rw [hg]; exact (below_size (by repeat (first | (with_reducible first | exact HB.out | apply below_alloc | apply pw_below_drewN | apply below_drew1) | exact HB.out))) : w.heap.size ≤ gb81001)); have n3_ := Aside0.mk ((by rw [hg]; exact (below_size (by repeat (first | (with_reducible first | exact HB.out | apply below_alloc | apply pw_below_drewN | apply below_drew1) | exact HB.out))) : w.heap.size ≤ gb81001)); clear HB; have HB := n0_; have BK81001 := n1_; have GW81001 := n2_; have GE81001 := n3_; clear n0_ n1_ n2_ n3_; clear hb hbox hg) | ((with_reducible refine gate_dst (N := 3) rfl ?_); refine box_event ?hg (N := 3) ?hd (cs := #[.int .i64 a1_0, .string a1_1, .string a1_2, .int .i64 a1_3, .string a1_4, .slice A1_5 l1_5.length c1_5, .slice A1_6 l1_6.length c1_6, .int .i64 a1_7]) (t := 44) ?hr ?_; (case hd => rfl); (case hg => rfl); (case hr => first | (go_simp; done) | (go_simp; rfl)); intro gb81002 hg w19 hbox hb; have n0_ := Aside0.mk (blk_below (g := gb81001) (o := .cells #[.int .i64 a0_0, .string a0_1, .string a0_2, .int .i64 a0_3, .string a0_4, .slice A0_5 l0_5.length c0_5, .slice A0_6 l0_6.length c0_6, .int .i64 a0_7] 44 (0, 0)) (by (with_reducible repeat (first | refine blk_drewN ?_ _ | refine blk_drew ?_ | refine blk_alloc ?_ _)); exact BK81001.out) hb); have n1_ := Aside0.mk (below_step (by repeat (first | (with_reducible first | exact HB.out | apply below_alloc | apply pw_below_drewN | apply below_drew1 | refine below_set ?_ GE81001.out) | exact HB.out)) hb); have n2_ := Aside0.mk (hbox); have n3_ := Aside0.mk ((by rw [hg]; exact (below_size (by repeat (first | (with_reducible first | exact HB.out | apply below_alloc | apply pw_below_drewN | apply below_drew1 | refine below_set ?_ GE81001.out) | exact HB.out))) : w.heap.size ≤ gb81002)); have n4_ := Aside0.mk ((by rw [hg]; exact (below_size (by repeat (first | (with_reducible first | exact HB.out | apply below_alloc | apply pw_below_drewN | apply below_drew1 | refine below_set ?_ GE81001.out) | exact HB.out))) : w.heap.size ≤ gb81002)); have n5_ := Aside0.mk ((by rw [hg]; exact Nat.ne_of_lt (blk_lt (g := gb81001) (o := .cells #[.int .i64 a0_0, .string a0_1, .string a0_2, .int .i64 a0_3, .string a0_4, .slice A0_5 l0_5.length c0_5, .slice A0_6 l0_6.length c0_6, .int .i64 a0_7] 44 (0, 0)) (by (with_reducible repeat (first | refine blk_drewN ?_ _ | refine blk_drew ?_ | refine blk_alloc ?_ _)); exact BK81001.out)) : gb81001 ≠ gb81002)); have n6_ := Aside0.mk ((by rw [hg]; exact Nat.ne_of_gt (blk_lt (g := gb81001) (o := .cells #[.int .i64 a0_0, .string a0_1, .string a0_2, .int .i64 a0_3, .string a0_4, .slice A0_5 l0_5.length c0_5, .slice A0_6 l0_6.length c0_6, .int .i64 a0_7] 44 (0, 0)) (by (with_reducible repeat (first | refine blk_drewN ?_ _ | refine blk_drew ?_ | refine blk_alloc ?_ _)); exact BK81001.out)) : gb81002 ≠ gb81001)); clear BK81001; clear HB; have BK81001 := n0_; have HB := n1_; have BK81002 := n2_; have GW81002 := n3_; have GE81002 := n4_; have NB81001_81002 := n5_; have NB81002_81001 := n6_; clear n0_ n1_ n2_ n3_ n4_ n5_ n6_; clear hb hbox hg; have hnb20 := NB81001_81002.out; have hnc20 := NB81002_81001.out; have hcz21_0 : w19.cell? ⟨gb81001, 0, none⟩ = some (.int .i64 a0_0) := (blk_cell BK81001.out 0).trans rfl; have hcz21_1 : w19.cell? ⟨gb81001, 1, none⟩ = some (.string a0_1) := (blk_cell BK81001.out 1).trans rfl; have hcz21_2 : w19.cell? ⟨gb81001, 2, none⟩ = some (.string a0_2) := (blk_cell BK81001.out 2).trans rfl; have hcz21_3 : w19.cell? ⟨gb81001, 3, none⟩ = some (.int .i64 a0_3) := (blk_cell BK81001.out 3).trans rfl; have hcz21_4 : w19.cell? ⟨gb81001, 4, none⟩ = some (.string a0_4) := (blk_cell BK81001.out 4).trans rfl; have hcz21_5 : w19.cell? ⟨gb81001, 5, none⟩ = some (.slice A0_5 l0_5.length c0_5) := (blk_cell BK81001.out 5).trans rfl; have hcz21_6 : w19.cell? ⟨gb81001, 6, none⟩ = some (.slice A0_6 l0_6.length c0_6) := (blk_cell BK81001.out 6).trans rfl; have hcz21_7 : w19.cell? ⟨gb81001, 7, none⟩ = some (.int .i64 a0_7) := (blk_cell BK81001.out 7).trans rfl; have hfz21_0 := blk_frozen BK81001.out 0; have hfz21_1 := blk_frozen BK81001.out 1; have hfz21_2 := blk_frozen BK81001.out 2; have hfz21_3 := blk_frozen BK81001.out 3; have hfz21_4 := blk_frozen BK81001.out 4; have hfz21_5 := blk_frozen BK81001.out 5; have hfz21_6 := blk_frozen BK81001.out 6; have hfz21_7 := blk_frozen BK81001.out 7; have hcz22_0 : w19.cell? ⟨gb81002, 0, none⟩ = some (.int .i64 a1_0) := (blk_cell BK81002.out 0).trans rfl; have hcz22_1 : w19.cell? ⟨gb81002, 1, none⟩ = some (.string a1_1) := (blk_cell BK81002.out 1).trans rfl; have hcz22_2 : w19.cell? ⟨gb81002, 2, none⟩ = some (.string a1_2) := (blk_cell BK81002.out 2).trans rfl; have hcz22_3 : w19.cell? ⟨gb81002, 3, none⟩ = some (.int .i64 a1_3) := (blk_cell BK81002.out 3).trans rfl; have hcz22_4 : w19.cell? ⟨gb81002, 4, none⟩ = some (.string a1_4) := (blk_cell BK81002.out 4).trans rfl; have hcz22_5 : w19.cell? ⟨gb81002, 5, none⟩ = some (.slice A1_5 l1_5.length c1_5) := (blk_cell BK81002.out 5).trans rfl; have hcz22_6 : w19.cell? ⟨gb81002, 6, none⟩ = some (.slice A1_6 l1_6.length c1_6) := (blk_cell BK81002.out 6).trans rfl; have hcz22_7 : w19.cell? ⟨gb81002, 7, none⟩ = some (.int .i64 a1_7) := (blk_cell BK81002.out 7).trans rfl; have hfz22_0 := blk_frozen BK81002.out 0; have hfz22_1 := blk_frozen BK81002.out 1; have hfz22_2 := blk_frozen BK81002.out 2; have hfz22_3 := blk_frozen BK81002.out 3; have hfz22_4 := blk_frozen BK81002.out 4; have hfz22_5 := blk_frozen BK81002.out 5; have hfz22_6 := blk_frozen BK81002.out 6; have hfz22_7 := blk_frozen BK81002.out 7) | (go_at_call 160; (with_reducible refine (spec_EqualRegex.calls k a0_3 a0_4 _ _ l0_5 a1_3 a1_4 _ _ l1_5 true _ ?side1 ?side2 ?side3 ?side4 A6.out).mono ?_); (case side1 => repeat (first | exact (Kd.C_below HR0_5.out HB.out) | (with_reducible refine Kd.C_alloc ?_ _) | (with_reducible refine Kd.C_drewN ?_ _) | (with_reducible refine Kd.C_drew ?_))); (case side2 => exact HC0_5.out); (case side3 => repeat (first | exact (Kd.C_below HR1_5.out HB.out) | (with_reducible refine Kd.C_alloc ?_ _) | (with_reducible refine Kd.C_drewN ?_ _) | (with_reducible refine Kd.C_drew ?_))); (case side4 => exact HC1_5.out); rintro e w23 ⟨rfl, hb⟩; have n0_ := Aside0.mk (blk_below (g := gb81001) (o := .cells #[.int .i64 a0_0, .string a0_1, .string a0_2, .int .i64 a0_3, .string a0_4, .slice A0_5 l0_5.length c0_5, .slice A0_6 l0_6.length c0_6, .int .i64 a0_7] 44 (0, 0)) (by (with_reducible repeat (first | refine blk_drewN ?_ _ | refine blk_drew ?_ | refine blk_alloc ?_ _)); exact BK81001.out) hb); have n1_ := Aside0.mk (blk_below (g := gb81002) (o := .cells #[.int .i64 a1_0, .string a1_1, .string a1_2, .int .i64 a1_3, .string a1_4, .slice A1_5 l1_5.length c1_5, .slice A1_6 l1_6.length c1_6, .int .i64 a1_7] 44 (0, 0)) (by (with_reducible repeat (first | refine blk_drewN ?_ _ | refine blk_drew ?_ | refine blk_alloc ?_ _)); exact BK81002.out) hb); have n2_ := Aside0.mk (below_step (by repeat (first | (with_reducible first | exact HB.out | apply below_alloc | apply pw_below_drewN | apply below_drew1 | refine below_set ?_ GE81001.out | refine below_set ?_ GE81002.out) | exact HB.out)) hb); clear BK81001; clear BK81002; clear HB; have BK81001 := n0_; have BK81002 := n1_; have HB := n2_; clear n0_ n1_ n2_; (try clear hb); (try clear hb2); (try clear hk); (try clear hi); have hcz24_0 : w23.cell? ⟨gb81001, 0, none⟩ = some (.int .i64 a0_0) := (blk_cell BK81001.out 0).trans rfl; have hcz24_1 : w23.cell? ⟨gb81001, 1, none⟩ = some (.string a0_1) := (blk_cell BK81001.out 1).trans rfl; have hcz24_2 : w23.cell? ⟨gb81001, 2, none⟩ = some (.string a0_2) := (blk_cell BK81001.out 2).trans rfl; have hcz24_3 : w23.cell? ⟨gb81001, 3, none⟩ = some (.int .i64 a0_3) := (blk_cell BK81001.out 3).trans rfl; have hcz24_4 : w23.cell? ⟨gb81001, 4, none⟩ = some (.string a0_4) := (blk_cell BK81001.out 4).trans rfl; have hcz24_5 : w23.cell? ⟨gb81001, 5, none⟩ = some (.slice A0_5 l0_5.length c0_5) := (blk_cell BK81001.out 5).trans rfl; have hcz24_6 : w23.cell? ⟨gb81001, 6, none⟩ = some (.slice A0_6 l0_6.length c0_6) := (blk_cell BK81001.out 6).trans rfl; have hcz24_7 : w23.cell? ⟨gb81001, 7, none⟩ = some (.int .i64 a0_7) := (blk_cell BK81001.out 7).trans rfl; have hfz24_0 := blk_frozen BK81001.out 0; have hfz24_1 := blk_frozen BK81001.out 1; have hfz24_2 := blk_frozen BK81001.out 2; have hfz24_3 := blk_frozen BK81001.out 3; have hfz24_4 := blk_frozen BK81001.out 4; have hfz24_5 := blk_frozen BK81001.out 5; have hfz24_6 := blk_frozen BK81001.out 6; have hfz24_7 := blk_frozen BK81001.out 7; have hcz25_0 : w23.cell? ⟨gb81002, 0, none⟩ = some (.int .i64 a1_0) := (blk_cell BK81002.out 0).trans rfl; have hcz25_1 : w23.cell? ⟨gb81002, 1, none⟩ = some (.string a1_1) := (blk_cell BK81002.out 1).trans rfl; have hcz25_2 : w23.cell? ⟨gb81002, 2, none⟩ = some (.string a1_2) := (blk_cell BK81002.out 2).trans rfl; have hcz25_3 : w23.cell? ⟨gb81002, 3, none⟩ = some (.int .i64 a1_3) := (blk_cell BK81002.out 3).trans rfl; have hcz25_4 : w23.cell? ⟨gb81002, 4, none⟩ = some (.string a1_4) := (blk_cell BK81002.out 4).trans rfl; have hcz25_5 : w23.cell? ⟨gb81002, 5, none⟩ = some (.slice A1_5 l1_5.length c1_5) := (blk_cell BK81002.out 5).trans rfl; have hcz25_6 : w23.cell? ⟨gb81002, 6, none⟩ = some (.slice A1_6 l1_6.length c1_6) := (blk_cell BK81002.out 6).trans rfl; have hcz25_7 : w23.cell? ⟨gb81002, 7, none⟩ = some (.int .i64 a1_7) := (blk_cell BK81002.out 7).trans rfl; have hfz25_0 := blk_frozen BK81002.out 0; have hfz25_1 := blk_frozen BK81002.out 1; have hfz25_2 := blk_frozen BK81002.out 2; have hfz25_3 := blk_frozen BK81002.out 3; have hfz25_4 := blk_frozen BK81002.out 4; have hfz25_5 := blk_frozen BK81002.out 5; have hfz25_6 := blk_frozen BK81002.out 6; have hfz25_7 := blk_frozen BK81002.out 7) | (go_at_call 161; (with_reducible refine (spec_l5Ints.calls k _ _ l0_6 _ _ l1_6 false _ ?side1 ?side2 ?side3 ?side4 A8.out).mono ?_); (case side1 => repeat (first | exact (Kd.C_below HR0_6.out HB.out) | (with_reducible refine Kd.C_alloc ?_ _) | (with_reducible refine Kd.C_drewN ?_ _) | (with_reducible refine Kd.C_drew ?_))); (case side2 => exact HC0_6.out); (case side3 => repeat (first | exact (Kd.C_below HR1_6.out HB.out) | (with_reducible refine Kd.C_alloc ?_ _) | (with_reducible refine Kd.C_drewN ?_ _) | (with_reducible refine Kd.C_drew ?_))); (case side4 => exact HC1_6.out); rintro e w' ⟨rfl, ⟨nd, rfl⟩⟩))
            go_ret
            exact ⟨by first | rfl | (simp [errW_none, errW_some] <;> rfl) | (simp [*, errW_none, errW_some] <;> rfl), by repeat (first | (with_reducible first | exact HB.out | apply below_alloc | apply pw_below_drewN | apply below_drew1 | refine below_set ?_ GE81001.out | refine below_set ?_ GE81002.out) | exact HB.out)⟩
        · replace c7 := Bool.eq_false_iff.mpr c7
          subst c7
          have H1 : (some false) = some r := by rw [if_neg (show ¬ (false = true) by decide)] at H; exact H
          clear H
          have H := H1
          clear H1
          obtain rfl := Option.some.inj H
          go_enter Try.func81, Try.ntmps81
          go_wp2_with (first | ((with_reducible refine gate_dst (N := 2) rfl ?_); refine box_event ?hg (N := 2) ?hd (cs := #[.int .i64 a0_0, .string a0_1, .string a0_2, .int .i64 a0_3, .string a0_4, .slice A0_5 l0_5.length c0_5, .slice A0_6 l0_6.length c0_6, .int .i64 a0_7]) (t := 44) ?hr ?_; (case hd => rfl); (case hg => rfl); (case hr => first | (go_simp; done) | (go_simp; rfl)); intro gb81001 hg w26 hbox hb; have n0_ := Aside0.mk (below_step (by repeat (first | (with_reducible first | exact HB.out | apply below_alloc | apply pw_below_drewN | apply below_drew1) | exact HB.out)) hb); have n1_ := Aside0.mk (hbox); have n2_ := Aside0.mk ((by rw [hg]; exact (below_size (by repeat (first | (with_reducible first | exact HB.out | apply below_alloc | apply pw_below_drewN | apply below_drew1) | exact HB.out))) : w.heap.size ≤ gb81001)); have n3_ := Aside0.mk ((by rw [hg]; exact (below_size (by repeat (first | (with_reducible first | exact HB.out | apply below_alloc | apply pw_below_drewN | apply below_drew1) | exact HB.out))) : w.heap.size ≤ gb81001)); clear HB; have HB := n0_; have BK81001 := n1_; have GW81001 := n2_; have GE81001 := n3_; clear n0_ n1_ n2_ n3_; clear hb hbox hg) | ((with_reducible refine gate_dst (N := 3) rfl ?_); refine box_event ?hg (N := 3) ?hd (cs := #[.int .i64 a1_0, .string a1_1, .string a1_2, .int .i64 a1_3, .string a1_4, .slice A1_5 l1_5.length c1_5, .slice A1_6 l1_6.length c1_6, .int .i64 a1_7]) (t := 44) ?hr ?_; (case hd => rfl); (case hg => rfl); (case hr => first | (go_simp; done) | (go_simp; rfl)); intro gb81002 hg w27 hbox hb; have n0_ := Aside0.mk (blk_below (g := gb81001) (o := .cells #[.int .i64 a0_0, .string a0_1, .string a0_2, .int .i64 a0_3, .string a0_4, .slice A0_5 l0_5.length c0_5, .slice A0_6 l0_6.length c0_6, .int .i64 a0_7] 44 (0, 0)) (by (with_reducible repeat (first | refine blk_drewN ?_ _ | refine blk_drew ?_ | refine blk_alloc ?_ _)); exact BK81001.out) hb); have n1_ := Aside0.mk (below_step (by repeat (first | (with_reducible first | exact HB.out | apply below_alloc | apply pw_below_drewN | apply below_drew1 | refine below_set ?_ GE81001.out) | exact HB.out)) hb); have n2_ := Aside0.mk (hbox); have n3_ := Aside0.mk ((by rw [hg]; exact (below_size (by repeat (first | (with_reducible first | exact HB.out | apply below_alloc | apply pw_below_drewN | apply below_drew1 | refine below_set ?_ GE81001.out) | exact HB.out))) : w.heap.size ≤ gb81002)); have n4_ := Aside0.mk ((by rw [hg]; exact (below_size (by repeat (first | (with_reducible first | exact HB.out | apply below_alloc | apply pw_below_drewN | apply below_drew1 | refine below_set ?_ GE81001.out) | exact HB.out))) : w.heap.size ≤ gb81002)); have n5_ := Aside0.mk ((by rw [hg]; exact Nat.ne_of_lt (blk_lt (g := gb81001) (o := .cells #[.int .i64 a0_0, .string a0_1, .string a0_2, .int .i64 a0_3, .string a0_4, .slice A0_5 l0_5.length c0_5, .slice A0_6 l0_6.length c0_6, .int .i64 a0_7] 44 (0, 0)) (by (with_reducible repeat (first | refine blk_drewN ?_ _ | refine blk_drew ?_ | refine blk_alloc ?_ _)); exact BK81001.out)) : gb81001 ≠ gb81002)); have n6_ := Aside0.mk ((by rw [hg]; exact Nat.ne_of_gt (blk_lt (g := gb81001) (o := .cells #[.int .i64 a0_0, .string a0_1, .string a0_2, .int .i64 a0_3, .string a0_4, .slice A0_5 l0_5.length c0_5, .slice A0_6 l0_6.length c0_6, .int .i64 a0_7] 44 (0, 0)) (by (with_reducible repeat (first | refine blk_drewN ?_ _ | refine blk_drew ?_ | refine blk_alloc ?_ _)); exact BK81001.out)) : gb81002 ≠ gb81001)); clear BK81001; clear HB; have BK81001 := n0_; have HB := n1_; have BK81002 := n2_; have GW81002 := n3_; have GE81002 := n4_; have NB81001_81002 := n5_; have NB81002_81001 := n6_; clear n0_ n1_ n2_ n3_ n4_ n5_ n6_; clear hb hbox hg; have hnb28 := NB81001_81002.out; have hnc28 := NB81002_81001.out; have hcz29_0 : w27.cell? ⟨gb81001, 0, none⟩ = some (.int .i64 a0_0) := (blk_cell BK81001.out 0).trans rfl; have hcz29_1 : w27.cell? ⟨gb81001, 1, none⟩ = some (.string a0_1) := (blk_cell BK81001.out 1).trans rfl; have hcz29_2 : w27.cell? ⟨gb81001, 2, none⟩ = some (.string a0_2) := (blk_cell BK81001.out 2).trans rfl; have hcz29_3 : w27.cell? ⟨gb81001, 3, none⟩ = some (.int .i64 a0_3) := (blk_cell BK81001.out 3).trans rfl; have hcz29_4 : w27.cell? ⟨gb81001, 4, none⟩ = some (.string a0_4) := (blk_cell BK81001.out 4).trans rfl; have hcz29_5 : w27.cell? ⟨gb81001, 5, none⟩ = some (.slice A0_5 l0_5.length c0_5) := (blk_cell BK81001.out 5).trans rfl; have hcz29_6 : w27.cell? ⟨gb81001, 6, none⟩ = some (.slice A0_6 l0_6.length c0_6) := (blk_cell BK81001.out 6).trans rfl; have hcz29_7 : w27.cell? ⟨gb81001, 7, none⟩ = some (.int .i64 a0_7) := (blk_cell BK81001.out 7).trans rfl; have hfz29_0 := blk_frozen BK81001.out 0; have hfz29_1 := blk_frozen BK81001.out 1; have hfz29_2 := blk_frozen BK81001.out 2; have hfz29_3 := blk_frozen BK81001.out 3; have hfz29_4 := blk_frozen BK81001.out 4; have hfz29_5 := blk_frozen BK81001.out 5; have hfz29_6 := blk_frozen BK81001.out 6; have hfz29_7 := blk_frozen BK81001.out 7; have hcz30_0 : w27.cell? ⟨gb81002, 0, none⟩ = some (.int .i64 a1_0) := (blk_cell BK81002.out 0).trans rfl; have hcz30_1 : w27.cell? ⟨gb81002, 1, none⟩ = some (.string a1_1) := (blk_cell BK81002.out 1).trans rfl; have hcz30_2 : w27.cell? ⟨gb81002, 2, none⟩ = some (.string a1_2) := (blk_cell BK81002.out 2).trans rfl; have hcz30_3 : w27.cell? ⟨gb81002, 3, none⟩ = some (.int .i64 a1_3) := (blk_cell BK81002.out 3).trans rfl; have hcz30_4 : w27.cell? ⟨gb81002, 4, none⟩ = some (.string a1_4) := (blk_cell BK81002.out 4).trans rfl; have hcz30_5 : w27.cell? ⟨gb81002, 5, none⟩ = some (.slice A1_5 l1_5.length c1_5) := (blk_cell BK81002.out 5).trans rfl; have hcz30_6 : w27.cell? ⟨gb81002, 6, none⟩ = some (.slice A1_6 l1_6.length c1_6) := (blk_cell BK81002.out 6).trans rfl; have hcz30_7 : w27.cell? ⟨gb81002, 7, none⟩ = some (.int .i64 a1_7) := (blk_cell BK81002.out 7).trans rfl; have hfz30_0 := blk_frozen BK81002.out 0; have hfz30_1 := blk_frozen BK81002.out 1; have hfz30_2 := blk_frozen BK81002.out 2; have hfz30_3 := blk_frozen BK81002.out 3; have hfz30_4 := blk_frozen BK81002.out 4; have hfz30_5 := blk_frozen BK81002.out 5; have hfz30_6 := blk_frozen BK81002.out 6; have hfz30_7 := blk_frozen BK81002.out 7) | (go_at_call 160; (with_reducible refine (spec_EqualRegex.calls k a0_3 a0_4 _ _ l0_5 a1_3 a1_4 _ _ l1_5 false _ ?side1 ?side2 ?side3 ?side4 A6.out).mono ?_); (case side1 => repeat (first | exact (Kd.C_below HR0_5.out HB.out) | (with_reducible refine Kd.C_alloc ?_ _) | (with_reducible refine Kd.C_drewN ?_ _) | (with_reducible refine Kd.C_drew ?_))); (case side2 => exact HC0_5.out); (case side3 => repeat (first | exact (Kd.C_below HR1_5.out HB.out) | (with_reducible refine Kd.C_alloc ?_ _) | (with_reducible refine Kd.C_drewN ?_ _) | (with_reducible refine Kd.C_drew ?_))); (case side4 => exact HC1_5.out); rintro e w31 ⟨rfl, hb⟩; have n0_ := Aside0.mk (blk_below (g := gb81001) (o := .cells #[.int .i64 a0_0, .string a0_1, .string a0_2, .int .i64 a0_3, .string a0_4, .slice A0_5 l0_5.length c0_5, .slice A0_6 l0_6.length c0_6, .int .i64 a0_7] 44 (0, 0)) (by (with_reducible repeat (first | refine blk_drewN ?_ _ | refine blk_drew ?_ | refine blk_alloc ?_ _)); exact BK81001.out) hb); have n1_ := Aside0.mk (blk_below (g := gb81002) (o := .cells #[.int .i64 a1_0, .string a1_1, .string a1_2, .int .i64 a1_3, .string a1_4, .slice A1_5 l1_5.length c1_5, .slice A1_6 l1_6.length c1_6, .int .i64 a1_7] 44 (0, 0)) (by (with_reducible repeat (first | refine blk_drewN ?_ _ | refine blk_drew ?_ | refine blk_alloc ?_ _)); exact BK81002.out) hb); have n2_ := Aside0.mk (below_step (by repeat (first | (with_reducible first | exact HB.out | apply below_alloc | apply pw_below_drewN | apply below_drew1 | refine below_set ?_ GE81001.out | refine below_set ?_ GE81002.out) | exact HB.out)) hb); clear BK81001; clear BK81002; clear HB; have BK81001 := n0_; have BK81002 := n1_; have HB := n2_; clear n0_ n1_ n2_; (try clear hb); (try clear hb2); (try clear hk); (try clear hi)))
          go_ret
          exact ⟨by first | rfl | (simp [errW_none, errW_some] <;> rfl) | (simp [*, errW_none, errW_some] <;> rfl), by repeat (first | (with_reducible first | exact HB.out | apply below_alloc | apply pw_below_drewN | apply below_drew1 | refine below_set ?_ GE81001.out | refine below_set ?_ GE81002.out) | exact HB.out)⟩
      · rw [if_neg c5] at H
        have c5b0 : (a0_2.toList == a1_2.toList) = false := beq_eq_false_iff_ne.mpr c5
        have c5b1 : (a0_2.toList != a1_2.toList) = true := bne_iff_ne.mpr c5
        obtain rfl := Option.some.inj H
        go_enter Try.func81, Try.ntmps81
        go_wp2_with (first | ((with_reducible refine gate_dst (N := 2) rfl ?_); refine box_event ?hg (N := 2) ?hd (cs := #[.int .i64 a0_0, .string a0_1, .string a0_2, .int .i64 a0_3, .string a0_4, .slice A0_5 l0_5.length c0_5, .slice A0_6 l0_6.length c0_6, .int .i64 a0_7]) (t := 44) ?hr ?_; (case hd => rfl); (case hg => rfl); (case hr => first | (go_simp; done) | (go_simp; rfl)); intro gb81001 hg w32 hbox hb; have n0_ := Aside0.mk (below_step (by repeat (first | (with_reducible first | exact HB.out | apply below_alloc | apply pw_below_drewN | apply below_drew1) | exact HB.out)) hb); have n1_ := Aside0.mk (hbox); have n2_ := Aside0.mk ((by rw [hg]; exact (below_size (by repeat (first | (with_reducible first | exact HB.out | apply below_alloc | apply pw_below_drewN | apply below_drew1) | exact HB.out))) : w.heap.size ≤ gb81001)); have n3_ := Aside0.mk ((by rw [hg]; exact (below_size (by repeat (first | (with_reducible first | exact HB.out | apply below_alloc | apply pw_below_drewN | apply below_drew1) | exact HB.out))) : w.heap.size ≤ gb81001)); clear HB; have HB := n0_; have BK81001 := n1_; have GW81001 := n2_; have GE81001 := n3_; clear n0_ n1_ n2_ n3_; clear hb hbox hg) | ((with_reducible refine gate_dst (N := 3) rfl ?_); refine box_event ?hg (N := 3) ?hd (cs := #[.int .i64 a1_0, .string a1_1, .string a1_2, .int .i64 a1_3, .string a1_4, .slice A1_5 l1_5.length c1_5, .slice A1_6 l1_6.length c1_6, .int .i64 a1_7]) (t := 44) ?hr ?_; (case hd => rfl); (case hg => rfl); (case hr => first | (go_simp; done) | (go_simp; rfl)); intro gb81002 hg w33 hbox hb; have n0_ := Aside0.mk (blk_below (g := gb81001) (o := .cells #[.int .i64 a0_0, .string a0_1, .string a0_2, .int .i64 a0_3, .string a0_4, .slice A0_5 l0_5.length c0_5, .slice A0_6 l0_6.length c0_6, .int .i64 a0_7] 44 (0, 0)) (by (with_reducible repeat (first | refine blk_drewN ?_ _ | refine blk_drew ?_ | refine blk_alloc ?_ _)); exact BK81001.out) hb); have n1_ := Aside0.mk (below_step (by repeat (first | (with_reducible first | exact HB.out | apply below_alloc | apply pw_below_drewN | apply below_drew1 | refine below_set ?_ GE81001.out) | exact HB.out)) hb); have n2_ := Aside0.mk (hbox); have n3_ := Aside0.mk ((by rw [hg]; exact (below_size (by repeat (first | (with_reducible first | exact HB.out | apply below_alloc | apply pw_below_drewN | apply below_drew1 | refine below_set ?_ GE81001.out) | exact HB.out))) : w.heap.size ≤ gb81002)); have n4_ := Aside0.mk ((by rw [hg]; exact (below_size (by repeat (first | (with_reducible first | exact HB.out | apply below_alloc | apply pw_below_drewN | apply below_drew1 | refine below_set ?_ GE81001.out) | exact HB.out))) : w.heap.size ≤ gb81002)); have n5_ := Aside0.mk ((by rw [hg]; exact Nat.ne_of_lt (blk_lt (g := gb81001) (o := .cells #[.int .i64 a0_0, .string a0_1, .string a0_2, .int .i64 a0_3, .string a0_4, .slice A0_5 l0_5.length c0_5, .slice A0_6 l0_6.length c0_6, .int .i64 a0_7] 44 (0, 0)) (by (with_reducible repeat (first | refine blk_drewN ?_ _ | refine blk_drew ?_ | refine blk_alloc ?_ _)); exact BK81001.out)) : gb81001 ≠ gb81002)); have n6_ := Aside0.mk ((by rw [hg]; exact Nat.ne_of_gt (blk_lt (g := gb81001) (o := .cells #[.int .i64 a0_0, .string a0_1, .string a0_2, .int .i64 a0_3, .string a0_4, .slice A0_5 l0_5.length c0_5, .slice A0_6 l0_6.length c0_6, .int .i64 a0_7] 44 (0, 0)) (by (with_reducible repeat (first | refine blk_drewN ?_ _ | refine blk_drew ?_ | refine blk_alloc ?_ _)); exact BK81001.out)) : gb81002 ≠ gb81001)); clear BK81001; clear HB; have BK81001 := n0_; have HB := n1_; have BK81002 := n2_; have GW81002 := n3_; have GE81002 := n4_; have NB81001_81002 := n5_; have NB81002_81001 := n6_; clear n0_ n1_ n2_ n3_ n4_ n5_ n6_; clear hb hbox hg; have hnb34 := NB81001_81002.out; have hnc34 := NB81002_81001.out; have hcz35_0 : w33.cell? ⟨gb81001, 0, none⟩ = some (.int .i64 a0_0) := (blk_cell BK81001.out 0).trans rfl; have hcz35_1 : w33.cell? ⟨gb81001, 1, none⟩ = some (.string a0_1) := (blk_cell BK81001.out 1).trans rfl; have hcz35_2 : w33.cell? ⟨gb81001, 2, none⟩ = some (.string a0_2) := (blk_cell BK81001.out 2).trans rfl; have hcz35_3 : w33.cell? ⟨gb81001, 3, none⟩ = some (.int .i64 a0_3) := (blk_cell BK81001.out 3).trans rfl; have hcz35_4 : w33.cell? ⟨gb81001, 4, none⟩ = some (.string a0_4) := (blk_cell BK81001.out 4).trans rfl; have hcz35_5 : w33.cell? ⟨gb81001, 5, none⟩ = some (.slice A0_5 l0_5.length c0_5) := (blk_cell BK81001.out 5).trans rfl; have hcz35_6 : w33.cell? ⟨gb81001, 6, none⟩ = some (.slice A0_6 l0_6.length c0_6) := (blk_cell BK81001.out 6).trans rfl; have hcz35_7 : w33.cell? ⟨gb81001, 7, none⟩ = some (.int .i64 a0_7) := (blk_cell BK81001.out 7).trans rfl; have hfz35_0 := blk_frozen BK81001.out 0; have hfz35_1 := blk_frozen BK81001.out 1; have hfz35_2 := blk_frozen BK81001.out 2; have hfz35_3 := blk_frozen BK81001.out 3; have hfz35_4 := blk_frozen BK81001.out 4; have hfz35_5 := blk_frozen BK81001.out 5; have hfz35_6 := blk_frozen BK81001.out 6; have hfz35_7 := blk_frozen BK81001.out 7; have hcz36_0 : w33.cell? ⟨gb81002, 0, none⟩ = some (.int .i64 a1_0) := (blk_cell BK81002.out 0).trans rfl; have hcz36_1 : w33.cell? ⟨gb81002, 1, none⟩ = some (.string a1_1) := (blk_cell BK81002.out 1).trans rfl; have hcz36_2 : w33.cell? ⟨gb81002, 2, none⟩ = some (.string a1_2) := (blk_cell BK81002.out 2).trans rfl; have hcz36_3 : w33.cell? ⟨gb81002, 3, none⟩ = some (.int .i64 a1_3) := (blk_cell BK81002.out 3).trans rfl; have hcz36_4 : w33.cell? ⟨gb81002, 4, none⟩ = some (.string a1_4) := (blk_cell BK81002.out 4).trans rfl; have hcz36_5 : w33.cell? ⟨gb81002, 5, none⟩ = some (.slice A1_5 l1_5.length c1_5) := (blk_cell BK81002.out 5).trans rfl; have hcz36_6 : w33.cell? ⟨gb81002, 6, none⟩ = some (.slice A1_6 l1_6.length c1_6) := (blk_cell BK81002.out 6).trans rfl; have hcz36_7 : w33.cell? ⟨gb81002, 7, none⟩ = some (.int .i64 a1_7) := (blk_cell BK81002.out 7).trans rfl; have hfz36_0 := blk_frozen BK81002.out 0; have hfz36_1 := blk_frozen BK81002.out 1; have hfz36_2 := blk_frozen BK81002.out 2; have hfz36_3 := blk_frozen BK81002.out 3; have hfz36_4 := blk_frozen BK81002.out 4; have hfz36_5 := blk_frozen BK81002.out 5; have hfz36_6 := blk_frozen BK81002.out 6; have hfz36_7 := blk_frozen BK81002.out 7))
        go_ret
        exact ⟨by first | rfl | (simp [errW_none, errW_some] <;> rfl) | (simp [*, errW_none, errW_some] <;> rfl), by repeat (first | (with_reducible first | exact HB.out | apply below_alloc | apply pw_below_drewN | apply below_drew1 | refine below_set ?_ GE81001.out | refine below_set ?_ GE81002.out) | exact HB.out)⟩
    · rw [if_neg c4] at H
      have c4b0 : (a0_1.toList == a1_1.toList) = false := beq_eq_false_iff_ne.mpr c4
      have c4b1 : (a0_1.toList != a1_1.toList) = true := bne_iff_ne.mpr c4
      obtain rfl := Option.some.inj H
      go_enter Try.func81, Try.ntmps81
      go_wp2_with (first | ((with_reducible refine gate_dst (N := 2) rfl ?_); refine box_event ?hg (N := 2) ?hd (cs := #[.int .i64 a0_0, .string a0_1, .string a0_2, .int .i64 a0_3, .string a0_4, .slice A0_5 l0_5.length c0_5, .slice A0_6 l0_6.length c0_6, .int .i64 a0_7]) (t := 44) ?hr ?_; (case hd => rfl); (case hg => rfl); (case hr => first | (go_simp; done) | (go_simp; rfl)); intro gb81001 hg w37 hbox hb; have n0_ := Aside0.mk (below_step (by repeat (first | (with_reducible first | exact HB.out | apply below_alloc | apply pw_below_drewN | apply below_drew1) | exact HB.out)) hb); have n1_ := Aside0.mk (hbox); have n2_ := Aside0.mk ((by rw [hg]; exact (below_size (by repeat (first | (with_reducible first | exact HB.out | apply below_alloc | apply pw_below_drewN | apply below_drew1) | exact HB.out))) : w.heap.size ≤ gb81001)); have n3_ := Aside0.mk ((by rw [hg]; exact (below_size (by repeat (first | (with_reducible first | exact HB.out | apply below_alloc | apply pw_below_drewN | apply below_drew1) | exact HB.out))) : w.heap.size ≤ gb81001)); clear HB; have HB := n0_; have BK81001 := n1_; have GW81001 := n2_; have GE81001 := n3_; clear n0_ n1_ n2_ n3_; clear hb hbox hg) | ((with_reducible refine gate_dst (N := 3) rfl ?_); refine box_event ?hg (N := 3) ?hd (cs := #[.int .i64 a1_0, .string a1_1, .string a1_2, .int .i64 a1_3, .string a1_4, .slice A1_5 l1_5.length c1_5, .slice A1_6 l1_6.length c1_6, .int .i64 a1_7]) (t := 44) ?hr ?_; (case hd => rfl); (case hg => rfl); (case hr => first | (go_simp; done) | (go_simp; rfl)); intro gb81002 hg w38 hbox hb; have n0_ := Aside0.mk (blk_below (g := gb81001) (o := .cells #[.int .i64 a0_0, .string a0_1, .string a0_2, .int .i64 a0_3, .string a0_4, .slice A0_5 l0_5.length c0_5, .slice A0_6 l0_6.length c0_6, .int .i64 a0_7] 44 (0, 0)) (by (with_reducible repeat (first | refine blk_drewN ?_ _ | refine blk_drew ?_ | refine blk_alloc ?_ _)); exact BK81001.out) hb); have n1_ := Aside0.mk (below_step (by repeat (first | (with_reducible first | exact HB.out | apply below_alloc | apply pw_below_drewN | apply below_drew1 | refine below_set ?_ GE81001.out) | exact HB.out)) hb); have n2_ := Aside0.mk (hbox); have n3_ := Aside0.mk ((by rw [hg]; exact (below_size (by repeat (first | (with_reducible first | exact HB.out | apply below_alloc | apply pw_below_drewN | apply below_drew1 | refine below_set ?_ GE81001.out) | exact HB.out))) : w.heap.size ≤ gb81002)); have n4_ := Aside0.mk ((by rw [hg]; exact (below_size (by repeat (first | (with_reducible first | exact HB.out | apply below_alloc | apply pw_below_drewN | apply below_drew1 | refine below_set ?_ GE81001.out) | exact HB.out))) : w.heap.size ≤ gb81002)); have n5_ := Aside0.mk ((by rw [hg]; exact Nat.ne_of_lt (blk_lt (g := gb81001) (o := .cells #[.int .i64 a0_0, .string a0_1, .string a0_2, .int .i64 a0_3, .string a0_4, .slice A0_5 l0_5.length c0_5, .slice A0_6 l0_6.length c0_6, .int .i64 a0_7] 44 (0, 0)) (by (with_reducible repeat (first | refine blk_drewN ?_ _ | refine blk_drew ?_ | refine blk_alloc ?_ _)); exact BK81001.out)) : gb81001 ≠ gb81002)); have n6_ := Aside0.mk ((by rw [hg]; exact Nat.ne_of_gt (blk_lt (g := gb81001) (o := .cells #[.int .i64 a0_0, .string a0_1, .string a0_2, .int .i64 a0_3, .string a0_4, .slice A0_5 l0_5.length c0_5, .slice A0_6 l0_6.length c0_6, .int .i64 a0_7] 44 (0, 0)) (by (with_reducible repeat (first | refine blk_drewN ?_ _ | refine blk_drew ?_ | refine blk_alloc ?_ _)); exact BK81001.out)) : gb81002 ≠ gb81001)); clear BK81001; clear HB; have BK81001 := n0_; have HB := n1_; have BK81002 := n2_; have GW81002 := n3_; have GE81002 := n4_; have NB81001_81002 := n5_; have NB81002_81001 := n6_; clear n0_ n1_ n2_ n3_ n4_ n5_ n6_; clear hb hbox hg; have hnb39 := NB81001_81002.out; have hnc39 := NB81002_81001.out; have hcz40_0 : w38.cell? ⟨gb81001, 0, none⟩ = some (.int .i64 a0_0) := (blk_cell BK81001.out 0).trans rfl; have hcz40_1 : w38.cell? ⟨gb81001, 1, none⟩ = some (.string a0_1) := (blk_cell BK81001.out 1).trans rfl; have hcz40_2 : w38.cell? ⟨gb81001, 2, none⟩ = some (.string a0_2) := (blk_cell BK81001.out 2).trans rfl; have hcz40_3 : w38.cell? ⟨gb81001, 3, none⟩ = some (.int .i64 a0_3) := (blk_cell BK81001.out 3).trans rfl; have hcz40_4 : w38.cell? ⟨gb81001, 4, none⟩ = some (.string a0_4) := (blk_cell BK81001.out 4).trans rfl; have hcz40_5 : w38.cell? ⟨gb81001, 5, none⟩ = some (.slice A0_5 l0_5.length c0_5) := (blk_cell BK81001.out 5).trans rfl; have hcz40_6 : w38.cell? ⟨gb81001, 6, none⟩ = some (.slice A0_6 l0_6.length c0_6) := (blk_cell BK81001.out 6).trans rfl; have hcz40_7 : w38.cell? ⟨gb81001, 7, none⟩ = some (.int .i64 a0_7) := (blk_cell BK81001.out 7).trans rfl; have hfz40_0 := blk_frozen BK81001.out 0; have hfz40_1 := blk_frozen BK81001.out 1; have hfz40_2 := blk_frozen BK81001.out 2; have hfz40_3 := blk_frozen BK81001.out 3; have hfz40_4 := blk_frozen BK81001.out 4; have hfz40_5 := blk_frozen BK81001.out 5; have hfz40_6 := blk_frozen BK81001.out 6; have hfz40_7 := blk_frozen BK81001.out 7; have hcz41_0 : w38.cell? ⟨gb81002, 0, none⟩ = some (.int .i64 a1_0) := (blk_cell BK81002.out 0).trans rfl; have hcz41_1 : w38.cell? ⟨gb81002, 1, none⟩ = some (.string a1_1) := (blk_cell BK81002.out 1).trans rfl; have hcz41_2 : w38.cell? ⟨gb81002, 2, none⟩ = some (.string a1_2) := (blk_cell BK81002.out 2).trans rfl; have hcz41_3 : w38.cell? ⟨gb81002, 3, none⟩ = some (.int .i64 a1_3) := (blk_cell BK81002.out 3).trans rfl; have hcz41_4 : w38.cell? ⟨gb81002, 4, none⟩ = some (.string a1_4) := (blk_cell BK81002.out 4).trans rfl; have hcz41_5 : w38.cell? ⟨gb81002, 5, none⟩ = some (.slice A1_5 l1_5.length c1_5) := (blk_cell BK81002.out 5).trans rfl; have hcz41_6 : w38.cell? ⟨gb81002, 6, none⟩ = some (.slice A1_6 l1_6.length c1_6) := (blk_cell BK81002.out 6).trans rfl; have hcz41_7 : w38.cell? ⟨gb81002, 7, none⟩ = some (.int .i64 a1_7) := (blk_cell BK81002.out 7).trans rfl; have hfz41_0 := blk_frozen BK81002.out 0; have hfz41_1 := blk_frozen BK81002.out 1; have hfz41_2 := blk_frozen BK81002.out 2; have hfz41_3 := blk_frozen BK81002.out 3; have hfz41_4 := blk_frozen BK81002.out 4; have hfz41_5 := blk_frozen BK81002.out 5; have hfz41_6 := blk_frozen BK81002.out 6; have hfz41_7 := blk_frozen BK81002.out 7))
      go_ret
      exact ⟨by first | rfl | (simp [errW_none, errW_some] <;> rfl) | (simp [*, errW_none, errW_some] <;> rfl), by repeat (first | (with_reducible first | exact HB.out | apply below_alloc | apply pw_below_drewN | apply below_drew1 | refine below_set ?_ GE81001.out | refine below_set ?_ GE81002.out) | exact HB.out)⟩
  · rw [if_neg c3] at H
    have c3b0 : (a0_0 == a1_0) = false := beq_eq_false_iff_ne.mpr c3
    have c3b1 : (a0_0 != a1_0) = true := bne_iff_ne.mpr c3
    obtain rfl := Option.some.inj H
    go_enter Try.func81, Try.ntmps81
    go_wp2_with (first | ((with_reducible refine gate_dst (N := 2) rfl ?_); refine box_event ?hg (N := 2) ?hd (cs := #[.int .i64 a0_0, .string a0_1, .string a0_2, .int .i64 a0_3, .string a0_4, .slice A0_5 l0_5.length c0_5, .slice A0_6 l0_6.length c0_6, .int .i64 a0_7]) (t := 44) ?hr ?_; (case hd => rfl); (case hg => rfl); (case hr => first | (go_simp; done) | (go_simp; rfl)); intro gb81001 hg w42 hbox hb; have n0_ := Aside0.mk (below_step (by repeat (first | (with_reducible first | exact HB.out | apply below_alloc | apply pw_below_drewN | apply below_drew1) | exact HB.out)) hb); have n1_ := Aside0.mk (hbox); have n2_ := Aside0.mk ((by rw [hg]; exact (below_size (by repeat (first | (with_reducible first | exact HB.out | apply below_alloc | apply pw_below_drewN | apply below_drew1) | exact HB.out))) : w.heap.size ≤ gb81001)); have n3_ := Aside0.mk ((by rw [hg]; exact (below_size (by repeat (first | (with_reducible first | exact HB.out | apply below_alloc | apply pw_below_drewN | apply below_drew1) | exact HB.out))) : w.heap.size ≤ gb81001)); clear HB; have HB := n0_; have BK81001 := n1_; have GW81001 := n2_; have GE81001 := n3_; clear n0_ n1_ n2_ n3_; clear hb hbox hg) | ((with_reducible refine gate_dst (N := 3) rfl ?_); refine box_event ?hg (N := 3) ?hd (cs := #[.int .i64 a1_0, .string a1_1, .string a1_2, .int .i64 a1_3, .string a1_4, .slice A1_5 l1_5.length c1_5, .slice A1_6 l1_6.length c1_6, .int .i64 a1_7]) (t := 44) ?hr ?_; (case hd => rfl); (case hg => rfl); (case hr => first | (go_simp; done) | (go_simp; rfl)); intro gb81002 hg w43 hbox hb; have n0_ := Aside0.mk (blk_below (g := gb81001) (o := .cells #[.int .i64 a0_0, .string a0_1, .string a0_2, .int .i64 a0_3, .string a0_4, .slice A0_5 l0_5.length c0_5, .slice A0_6 l0_6.length c0_6, .int .i64 a0_7] 44 (0, 0)) (by (with_reducible repeat (first | refine blk_drewN ?_ _ | refine blk_drew ?_ | refine blk_alloc ?_ _)); exact BK81001.out) hb); have n1_ := Aside0.mk (below_step (by repeat (first | (with_reducible first | exact HB.out | apply below_alloc | apply pw_below_drewN | apply below_drew1 | refine below_set ?_ GE81001.out) | exact HB.out)) hb); have n2_ := Aside0.mk (hbox); have n3_ := Aside0.mk ((by rw [hg]; exact (below_size (by repeat (first | (with_reducible first | exact HB.out | apply below_alloc | apply pw_below_drewN | apply below_drew1 | refine below_set ?_ GE81001.out) | exact HB.out))) : w.heap.size ≤ gb81002)); have n4_ := Aside0.mk ((by rw [hg]; exact (below_size (by repeat (first | (with_reducible first | exact HB.out | apply below_alloc | apply pw_below_drewN | apply below_drew1 | refine below_set ?_ GE81001.out) | exact HB.out))) : w.heap.size ≤ gb81002)); have n5_ := Aside0.mk ((by rw [hg]; exact Nat.ne_of_lt (blk_lt (g := gb81001) (o := .cells #[.int .i64 a0_0, .string a0_1, .string a0_2, .int .i64 a0_3, .string a0_4, .slice A0_5 l0_5.length c0_5, .slice A0_6 l0_6.length c0_6, .int .i64 a0_7] 44 (0, 0)) (by (with_reducible repeat (first | refine blk_drewN ?_ _ | refine blk_drew ?_ | refine blk_alloc ?_ _)); exact BK81001.out)) : gb81001 ≠ gb81002)); have n6_ := Aside0.mk ((by rw [hg]; exact Nat.ne_of_gt (blk_lt (g := gb81001) (o := .cells #[.int .i64 a0_0, .string a0_1, .string a0_2, .int .i64 a0_3, .string a0_4, .slice A0_5 l0_5.length c0_5, .slice A0_6 l0_6.length c0_6, .int .i64 a0_7] 44 (0, 0)) (by (with_reducible repeat (first | refine blk_drewN ?_ _ | refine blk_drew ?_ | refine blk_alloc ?_ _)); exact BK81001.out)) : gb81002 ≠ gb81001)); clear BK81001; clear HB; have BK81001 := n0_; have HB := n1_; have BK81002 := n2_; have GW81002 := n3_; have GE81002 := n4_; have NB81001_81002 := n5_; have NB81002_81001 := n6_; clear n0_ n1_ n2_ n3_ n4_ n5_ n6_; clear hb hbox hg; have hnb44 := NB81001_81002.out; have hnc44 := NB81002_81001.out; have hcz45_0 : w43.cell? ⟨gb81001, 0, none⟩ = some (.int .i64 a0_0) := (blk_cell BK81001.out 0).trans rfl; have hcz45_1 : w43.cell? ⟨gb81001, 1, none⟩ = some (.string a0_1) := (blk_cell BK81001.out 1).trans rfl; have hcz45_2 : w43.cell? ⟨gb81001, 2, none⟩ = some (.string a0_2) := (blk_cell BK81001.out 2).trans rfl; have hcz45_3 : w43.cell? ⟨gb81001, 3, none⟩ = some (.int .i64 a0_3) := (blk_cell BK81001.out 3).trans rfl; have hcz45_4 : w43.cell? ⟨gb81001, 4, none⟩ = some (.string a0_4) := (blk_cell BK81001.out 4).trans rfl; have hcz45_5 : w43.cell? ⟨gb81001, 5, none⟩ = some (.slice A0_5 l0_5.length c0_5) := (blk_cell BK81001.out 5).trans rfl; have hcz45_6 : w43.cell? ⟨gb81001, 6, none⟩ = some (.slice A0_6 l0_6.length c0_6) := (blk_cell BK81001.out 6).trans rfl; have hcz45_7 : w43.cell? ⟨gb81001, 7, none⟩ = some (.int .i64 a0_7) := (blk_cell BK81001.out 7).trans rfl; have hfz45_0 := blk_frozen BK81001.out 0; have hfz45_1 := blk_frozen BK81001.out 1; have hfz45_2 := blk_frozen BK81001.out 2; have hfz45_3 := blk_frozen BK81001.out 3; have hfz45_4 := blk_frozen BK81001.out 4; have hfz45_5 := blk_frozen BK81001.out 5; have hfz45_6 := blk_frozen BK81001.out 6; have hfz45_7 := blk_frozen BK81001.out 7; have hcz46_0 : w43.cell? ⟨gb81002, 0, none⟩ = some (.int .i64 a1_0) := (blk_cell BK81002.out 0).trans rfl; have hcz46_1 : w43.cell? ⟨gb81002, 1, none⟩ = some (.string a1_1) := (blk_cell BK81002.out 1).trans rfl; have hcz46_2 : w43.cell? ⟨gb81002, 2, none⟩ = some (.string a1_2) := (blk_cell BK81002.out 2).trans rfl; have hcz46_3 : w43.cell? ⟨gb81002, 3, none⟩ = some (.int .i64 a1_3) := (blk_cell BK81002.out 3).trans rfl; have hcz46_4 : w43.cell? ⟨gb81002, 4, none⟩ = some (.string a1_4) := (blk_cell BK81002.out 4).trans rfl; have hcz46_5 : w43.cell? ⟨gb81002, 5, none⟩ = some (.slice A1_5 l1_5.length c1_5) := (blk_cell BK81002.out 5).trans rfl; have hcz46_6 : w43.cell? ⟨gb81002, 6, none⟩ = some (.slice A1_6 l1_6.length c1_6) := (blk_cell BK81002.out 6).trans rfl; have hcz46_7 : w43.cell? ⟨gb81002, 7, none⟩ = some (.int .i64 a1_7) := (blk_cell BK81002.out 7).trans rfl; have hfz46_0 := blk_frozen BK81002.out 0; have hfz46_1 := blk_frozen BK81002.out 1; have hfz46_2 := blk_frozen BK81002.out 2; have hfz46_3 := blk_frozen BK81002.out 3; have hfz46_4 := blk_frozen BK81002.out 4; have hfz46_5 := blk_frozen BK81002.out 5; have hfz46_6 := blk_frozen BK81002.out 6; have hfz46_7 := blk_frozen BK81002.out 7))
    go_ret
    exact ⟨by first | rfl | (simp [errW_none, errW_some] <;> rfl) | (simp [*, errW_none, errW_some] <;> rfl), by repeat (first | (with_reducible first | exact HB.out | apply below_alloc | apply pw_below_drewN | apply below_drew1 | refine below_set ?_ GE81001.out | refine below_set ?_ GE81002.out) | exact HB.out)⟩


end Go.Proofs.Ytpppopdmnejcfaa.A


namespace Go.Proofs.Ytpppopdmnejcfaa.A
open Go.RowKit Go.Proofs.Ytpppopdmnejcfaa.Ext Go.Proofs.YtpppopdmnejcfaaW.PrintWords Go.Proofs.YtpppopdmnejcfaaW.PrintLast Go.Proofs.YtpppopdmnejcfaaW.PrintMore
attribute [local go_sem] max2_int min2_int max_two min_two max_three min_three max_four min_four   -- for this text's walks alone
set_option linter.unusedVariables false
set_option linter.unusedSimpArgs false

/-! ### spec_EqualProblem: function 16 -/
def spec_EqualProblem.l0 : Nat → Int → List (S44) → List (S44) → Option (Bool)
  | 0, _, _, _ => none
  | k + 1, x5, x16002000, x16003000 => if x5 < (x16002000.length : Int) then (if 0 ≤ x5 then (if x5 < (x16003000.length : Int) then ((spec_EqualConstraint.f k ((rd_T44 x16002000 x5).f0) ((rd_T44 x16002000 x5).f1) ((rd_T44 x16002000 x5).f2) ((rd_T44 x16002000 x5).f3.f0) ((rd_T44 x16002000 x5).f3.f1) ((rd_T44 x16002000 x5).f3.f2) ((rd_T44 x16002000 x5).f4) ((rd_T44 x16002000 x5).f5) ((rd_T44 x16003000 x5).f0) ((rd_T44 x16003000 x5).f1) ((rd_T44 x16003000 x5).f2) ((rd_T44 x16003000 x5).f3.f0) ((rd_T44 x16003000 x5).f3.f1) ((rd_T44 x16003000 x5).f3.f2) ((rd_T44 x16003000 x5).f4) ((rd_T44 x16003000 x5).f5)).bind fun t16005 => (if t16005 = true then (spec_EqualProblem.l0 k (wrap64 (x5 + 1)) x16002000 x16003000) else (some false))) else (none)) else (none)) else (some true)
def spec_EqualProblem.f (k : Nat) (l0_0 : List (S44)) (l1_0 : List (S44)) : Option (Bool) := if (l0_0.length : Int) = (l1_0.length : Int) then (spec_EqualProblem.l0 k 0 l0_0 l1_0) else (some false)
theorem spec_EqualProblem.mono_l : ∀ k, (∀ y0 y1 y2, LeO (spec_EqualProblem.l0 k y0 y1 y2) (spec_EqualProblem.l0 (k + 1) y0 y1 y2))
  | 0 => fun _ _ _ r h => by simp [spec_EqualProblem.l0] at h
  | k + 1 => by
    have ih0 := spec_EqualProblem.mono_l k
    · intro y0 y1 y2
      unfold spec_EqualProblem.l0
      repeat' first
      | (with_reducible exact ih0 _ _ _)
      | (with_reducible exact spec_EqualConstraint.mono _ _ _ _ _ _ _ _ _ _ _ _ _ _ _ _ _)
      | (with_reducible exact LeO.refl _)
      | (with_reducible exact LeO.none _)
      | (with_reducible refine LeO.ite ?_ ?_)
      | (with_reducible refine LeO.bind ?_ (fun _ => ?_))
      | exact ih0 _ _ _
      | exact spec_EqualConstraint.mono _ _ _ _ _ _ _ _ _ _ _ _ _ _ _ _ _
      | exact LeO.none _
      | refine LeO.ite ?_ ?_
      | refine LeO.bind ?_ (fun _ => ?_)
theorem spec_EqualProblem.mono : ∀ a0 a1 k, LeO (spec_EqualProblem.f k a0 a1) (spec_EqualProblem.f (k + 1) a0 a1) := by
  intro a0 a1 k
  have ih0 := spec_EqualProblem.mono_l k
  unfold spec_EqualProblem.f
  repeat' first
      | (with_reducible exact ih0 _ _ _)
      | (with_reducible exact spec_EqualConstraint.mono _ _ _ _ _ _ _ _ _ _ _ _ _ _ _ _ _)
      | (with_reducible exact LeO.refl _)
      | (with_reducible exact LeO.none _)
      | (with_reducible refine LeO.ite ?_ ?_)
      | (with_reducible refine LeO.bind ?_ (fun _ => ?_))
      | exact ih0 _ _ _
      | exact spec_EqualConstraint.mono _ _ _ _ _ _ _ _ _ _ _ _ _ _ _ _ _
      | exact LeO.none _
      | refine LeO.ite ?_ ?_
      | refine LeO.bind ?_ (fun _ => ?_)
def spec_EqualProblem.T6 : Bool × List (List Nat × List Nat) := (true, [([], []), ([0], [0]), ([], []), ([1, 2], [1, 2]), ([3], [3]), ([], []), ([5], [5]), ([], []), ([6, 7], [6, 7]), ([8], [8]), ([4, 9], [4, 9]), ([10], [10])])
def spec_EqualProblem.B6 : List Nat := [0, 1, 0, 7, 15, 0, 32, 0, 224, 480, 1023, 2047]
theorem spec_EqualProblem.tab6 : rtab .any (opsOf Try.f16 6) = spec_EqualProblem.T6 := by kernel_rfl
theorem spec_EqualProblem.bits6 : waitsOk spec_EqualProblem.T6.2 spec_EqualProblem.B6 = true := by kernel_rfl
set_option maxHeartbeats 8000000 in
set_option maxRecDepth 100000 in
theorem spec_EqualProblem.calls (k : Nat) (A0_0 : Option Addr) (c0_0 : Nat) (l0_0 : List (S44)) (A1_0 : Option Addr) (c1_0 : Nat) (l1_0 : List (S44)) (r : Bool) (w : World) (hr0_0 : Kd.C k44 w A0_0 l0_0.length l0_0) (hc0_0 : l0_0.length ≤ c0_0) (hr1_0 : Kd.C k44 w A1_0 l1_0.length l1_0) (hc1_0 : l1_0.length ≤ c1_0) (h : spec_EqualProblem.f k l0_0 l1_0 = some r) :
    Calls Try.prog 16 #[.agg #[.slice A0_0 l0_0.length c0_0], .agg #[.slice A1_0 l1_0.length c1_0]] w fun e w' => e = .returned (.bool r) ∧ Below w.heap.size w w' := by
  have hu29 := Try.underlying29
  have hu44 := Try.underlying44
  have HR0_0 := Aside0.mk hr0_0
  have HC0_0 := Aside0.mk hc0_0
  clear hr0_0 hc0_0
  have HR1_0 := Aside0.mk hr1_0
  have HC1_0 := Aside0.mk hc1_0
  clear hr1_0 hc1_0
  have HB := Aside0.mk (Below.refl w.heap.size w)
  have H : (if (l0_0.length : Int) = (l1_0.length : Int) then (spec_EqualProblem.l0 k 0 l0_0 l1_0) else (some false)) = some r := h
  clear h
  by_cases c3 : (l0_0.length : Int) = (l1_0.length : Int)
  · rw [if_pos c3] at H
    have c3b0 : ((l0_0.length : Int) == (l1_0.length : Int)) = true := beq_iff_eq.mpr c3
    have c3b1 : ((l0_0.length : Int) != (l1_0.length : Int)) = false := bne_eq_false_iff_eq.mpr c3
    have c3b2 : (l0_0.length == l1_0.length) = true := by first | simpa using c3 | (simp at c3 ⊢; omega)
    clear c3
    have H' := Aside0.mk H
    clear H
    go_enter Try.func16, Try.ntmps16
    go_wp2_with (first | ((with_reducible refine gate_dst (N := 2) rfl ?_); refine box_event ?hg (N := 2) ?hd (cs := #[.slice A0_0 l0_0.length c0_0]) (t := 29) ?hr ?_; (case hd => rfl); (case hg => rfl); (case hr => first | (go_simp; done) | (go_simp; rfl)); intro gb16001 hg w4 hbox hb; have n0_ := Aside0.mk (below_step (by repeat (first | (with_reducible first | exact HB.out | apply below_alloc | apply pw_below_drewN | apply below_drew1) | exact HB.out)) hb); have n1_ := Aside0.mk (hbox); have n2_ := Aside0.mk ((by rw [hg]; exact (below_size (by repeat (first | (with_reducible first | exact HB.out | apply below_alloc | apply pw_below_drewN | apply below_drew1) | exact HB.out))) : w.heap.size ≤ gb16001)); have n3_ := Aside0.mk ((by rw [hg]; exact (below_size (by repeat (first | (with_reducible first | exact HB.out | apply below_alloc | apply pw_below_drewN | apply below_drew1) | exact HB.out))) : w.heap.size ≤ gb16001)); clear HB; have HB := n0_; have BK16001 := n1_; have GW16001 := n2_; have GE16001 := n3_; clear n0_ n1_ n2_ n3_; clear hb hbox hg) | ((with_reducible refine gate_dst (N := 3) rfl ?_); refine box_event ?hg (N := 3) ?hd (cs := #[.slice A1_0 l1_0.length c1_0]) (t := 29) ?hr ?_; (case hd => rfl); (case hg => rfl); (case hr => first | (go_simp; done) | (go_simp; rfl)); intro gb16002 hg w5 hbox hb; have n0_ := Aside0.mk (blk_below (g := gb16001) (o := .cells #[.slice A0_0 l0_0.length c0_0] 29 (0, 0)) (by (with_reducible repeat (first | refine blk_drewN ?_ _ | refine blk_drew ?_ | refine blk_alloc ?_ _)); exact BK16001.out) hb); have n1_ := Aside0.mk (below_step (by repeat (first | (with_reducible first | exact HB.out | apply below_alloc | apply pw_below_drewN | apply below_drew1 | refine below_set ?_ GE16001.out) | exact HB.out)) hb); have n2_ := Aside0.mk (hbox); have n3_ := Aside0.mk ((by rw [hg]; exact (below_size (by repeat (first | (with_reducible first | exact HB.out | apply below_alloc | apply pw_below_drewN | apply below_drew1 | refine below_set ?_ GE16001.out) | exact HB.out))) : w.heap.size ≤ gb16002)); have n4_ := Aside0.mk ((by rw [hg]; exact (below_size (by repeat (first | (with_reducible first | exact HB.out | apply below_alloc | apply pw_below_drewN | apply below_drew1 | refine below_set ?_ GE16001.out) | exact HB.out))) : w.heap.size ≤ gb16002)); have n5_ := Aside0.mk ((by rw [hg]; exact Nat.ne_of_lt (blk_lt (g := gb16001) (o := .cells #[.slice A0_0 l0_0.length c0_0] 29 (0, 0)) (by (with_reducible repeat (first | refine blk_drewN ?_ _ | refine blk_drew ?_ | refine blk_alloc ?_ _)); exact BK16001.out)) : gb16001 ≠ gb16002)); have n6_ := Aside0.mk ((by rw [hg]; exact Nat.ne_of_gt (blk_lt (g := gb16001) (o := .cells #[.slice A0_0 l0_0.length c0_0] 29 (0, 0)) (by (with_reducible repeat (first | refine blk_drewN ?_ _ | refine blk_drew ?_ | refine blk_alloc ?_ _)); exact BK16001.out)) : gb16002 ≠ gb16001)); clear BK16001; clear HB; have BK16001 := n0_; have HB := n1_; have BK16002 := n2_; have GW16002 := n3_; have GE16002 := n4_; have NB16001_16002 := n5_; have NB16002_16001 := n6_; clear n0_ n1_ n2_ n3_ n4_ n5_ n6_; clear hb hbox hg; have hnb6 := NB16001_16002.out; have hnc6 := NB16002_16001.out; have hcz7_0 : w5.cell? ⟨gb16001, 0, none⟩ = some (.slice A0_0 l0_0.length c0_0) := (blk_cell BK16001.out 0).trans rfl; have hfz7_0 := blk_frozen BK16001.out 0; have hcz8_0 : w5.cell? ⟨gb16002, 0, none⟩ = some (.slice A1_0 l1_0.length c1_0) := (blk_cell BK16002.out 0).trans rfl; have hfz8_0 := blk_frozen BK16002.out 0))
    first | go_loopg [5] k (fun kq v5 w' => ∃ (x5_1 : Int), v5 = .int .i64 x5_1 ∧ Aside0 (spec_EqualProblem.l0 kq x5_1 l0_0 l1_0 = some r) ∧ Aside0 (kq ≤ k) ∧ Aside0 (w'.heap[gb16001]? = some (.cells #[(.slice A0_0 l0_0.length c0_0)] 29 (0, 0))) ∧ Aside0 (w'.heap[gb16002]? = some (.cells #[(.slice A1_0 l1_0.length c1_0)] 29 (0, 0))) ∧ Aside0 (Below w.heap.size w w')) | (simp only [Act.put, List.setIfInBounds_toArray, List.set_cons_succ, List.set_cons_zero]; go_loopg [5] k (fun kq v5 w' => ∃ (x5_1 : Int), v5 = .int .i64 x5_1 ∧ Aside0 (spec_EqualProblem.l0 kq x5_1 l0_0 l1_0 = some r) ∧ Aside0 (kq ≤ k) ∧ Aside0 (w'.heap[gb16001]? = some (.cells #[(.slice A0_0 l0_0.length c0_0)] 29 (0, 0))) ∧ Aside0 (w'.heap[gb16002]? = some (.cells #[(.slice A1_0 l1_0.length c1_0)] 29 (0, 0))) ∧ Aside0 (Below w.heap.size w w')))
    case atStart => exact ⟨(0), (by first | rfl | (simp; done) | (simp [*]; done)), H', ⟨Nat.le_refl _⟩, ⟨by (with_reducible repeat (first | refine blk_drewN ?_ _ | refine blk_drew ?_ | refine blk_alloc ?_ _)); exact BK16001.out⟩, ⟨by (with_reducible repeat (first | refine blk_drewN ?_ _ | refine blk_drew ?_ | refine blk_alloc ?_ _)); exact BK16002.out⟩, ⟨by repeat (first | (with_reducible first | exact HB.out | apply below_alloc | apply pw_below_drewN | apply below_drew1 | refine below_set ?_ GE16001.out | refine below_set ?_ GE16002.out) | exact HB.out)⟩⟩
    case round =>
      clear H'
      try clear c1
      try clear p2
      try clear c3
      try clear c3b0
      try clear c3b1
      try clear c3b2
      try clear c6
      try clear hcz7_0
      try clear hcz8_0
      try clear hfz7_0
      try clear hfz8_0
      obtain ⟨x5_1, rfl, HA, HK1, BK16001, BK16002, HB⟩ := hrel
      cases gk with
      | zero => exact absurd HA.out (by simp [spec_EqualProblem.l0])
      | succ k1 =>
        have H := HA.out
        clear HA
        simp only [spec_EqualProblem.l0] at H
        by_cases c9 : x5_1 < (l0_0.length : Int)
        · rw [if_pos c9] at H
          have c9b0 : decide (x5_1 < (l0_0.length : Int)) = true := decide_eq_true c9
          clear c9
          by_cases c10 : 0 ≤ x5_1
          · rw [if_pos c10] at H
            have c10b0 : decide (0 ≤ x5_1) = true := decide_eq_true c10
            clear c10
            by_cases c11 : x5_1 < (l1_0.length : Int)
            · rw [if_pos c11] at H
              have c11b0 : decide (x5_1 < (l1_0.length : Int)) = true := decide_eq_true c11
              clear c11
              replace H := Option.bind_eq_some_iff.mp H
              obtain ⟨t16005, A120, H⟩ := H
              replace H : (if t16005 = true then (spec_EqualProblem.l0 k1 (wrap64 (x5_1 + 1)) l0_0 l1_0) else (some false)) = some r := H
              have A12 := Aside0.mk A120
              clear A120
              by_cases c13 : t16005 = true
              · subst c13
                have H1 : (spec_EqualProblem.l0 k1 (wrap64 (x5_1 + 1)) l0_0 l1_0) = some r := by rw [if_pos rfl] at H; exact H
                clear H
                have H := H1
                clear H1
                have H' := Aside0.mk H
                clear H
                have hnb14 := NB16001_16002.out
                have hnc14 := NB16002_16001.out
                have hcz15_0 : wr.cell? ⟨gb16001, 0, none⟩ = some (.slice A0_0 l0_0.length c0_0) := (blk_cell BK16001.out 0).trans rfl
                have hfz15_0 := blk_frozen BK16001.out 0
                try go_wp2
                have n0_ := Aside0.mk (blk_drew BK16001.out)
                have n1_ := Aside0.mk (blk_drew BK16002.out)
                have n2_ := Aside0.mk (below_drew1 HB.out)
                clear BK16001
                clear BK16002
                clear HB
                have BK16001 := n0_
                have BK16002 := n1_
                have HB := n2_
                clear n0_ n1_ n2_
                have p16003 : 0 ≤ (x5_1 : Int) := of_decide_eq_true (by first | (with_reducible assumption) | assumption)
                have q16003 : x5_1 < (l0_0.length : Int) := of_decide_eq_true (by first | (with_reducible assumption) | assumption)
                obtain ⟨ad16003, A16003_5, c16003_5, A16003_6, c16003_6, e16003, hx16003_0, hx16003_1, hx16003_2, hx16003_3, hx16003_4, hx16003_5, hx16003_6, hx16003_7, hl16003_5, hi16003_5, hl16003_6, hi16003_6⟩ := at_T44 HR0_0.out x5_1 p16003 q16003
                have hw16003_7 := hx16003_7
                have hw16003_6 := hx16003_6
                have hw16003_5 := hx16003_5
                have hw16003_4 := hx16003_4
                have hw16003_3 := hx16003_3
                have hw16003_2 := hx16003_2
                have hw16003_1 := hx16003_1
                have hw16003_0 := hx16003_0
                cases e16003
                replace hx16003_0 := (HB.out.cell (World.block_lt_of_cell? w _ hx16003_0)).trans hx16003_0
                replace hx16003_1 := (HB.out.cell (World.block_lt_of_cell? w _ hx16003_1)).trans hx16003_1
                replace hx16003_2 := (HB.out.cell (World.block_lt_of_cell? w _ hx16003_2)).trans hx16003_2
                replace hx16003_3 := (HB.out.cell (World.block_lt_of_cell? w _ hx16003_3)).trans hx16003_3
                replace hx16003_4 := (HB.out.cell (World.block_lt_of_cell? w _ hx16003_4)).trans hx16003_4
                replace hx16003_5 := (HB.out.cell (World.block_lt_of_cell? w _ hx16003_5)).trans hx16003_5
                replace hx16003_6 := (HB.out.cell (World.block_lt_of_cell? w _ hx16003_6)).trans hx16003_6
                replace hx16003_7 := (HB.out.cell (World.block_lt_of_cell? w _ hx16003_7)).trans hx16003_7
                have HR16003_5 := Aside0.mk hi16003_5
                have HC16003_5 := Aside0.mk hl16003_5
                clear hi16003_5 hl16003_5
                have HR16003_6 := Aside0.mk hi16003_6
                have HC16003_6 := Aside0.mk hl16003_6
                clear hi16003_6 hl16003_6
                replace p16003 := eq_true p16003
                replace q16003 := eq_true q16003
                have p16004 : 0 ≤ (x5_1 : Int) := of_decide_eq_true (by first | (with_reducible assumption) | assumption)
                have q16004 : x5_1 < (l1_0.length : Int) := of_decide_eq_true (by first | (with_reducible assumption) | assumption)
                obtain ⟨ad16004, A16004_5, c16004_5, A16004_6, c16004_6, e16004, hx16004_0, hx16004_1, hx16004_2, hx16004_3, hx16004_4, hx16004_5, hx16004_6, hx16004_7, hl16004_5, hi16004_5, hl16004_6, hi16004_6⟩ := at_T44 HR1_0.out x5_1 p16004 q16004
                have hw16004_7 := hx16004_7
                have hw16004_6 := hx16004_6
                have hw16004_5 := hx16004_5
                have hw16004_4 := hx16004_4
                have hw16004_3 := hx16004_3
                have hw16004_2 := hx16004_2
                have hw16004_1 := hx16004_1
                have hw16004_0 := hx16004_0
                cases e16004
                replace hx16004_0 := (HB.out.cell (World.block_lt_of_cell? w _ hx16004_0)).trans hx16004_0
                replace hx16004_1 := (HB.out.cell (World.block_lt_of_cell? w _ hx16004_1)).trans hx16004_1
                replace hx16004_2 := (HB.out.cell (World.block_lt_of_cell? w _ hx16004_2)).trans hx16004_2
                replace hx16004_3 := (HB.out.cell (World.block_lt_of_cell? w _ hx16004_3)).trans hx16004_3
                replace hx16004_4 := (HB.out.cell (World.block_lt_of_cell? w _ hx16004_4)).trans hx16004_4
                replace hx16004_5 := (HB.out.cell (World.block_lt_of_cell? w _ hx16004_5)).trans hx16004_5
                replace hx16004_6 := (HB.out.cell (World.block_lt_of_cell? w _ hx16004_6)).trans hx16004_6
                replace hx16004_7 := (HB.out.cell (World.block_lt_of_cell? w _ hx16004_7)).trans hx16004_7
                have HR16004_5 := Aside0.mk hi16004_5
                have HC16004_5 := Aside0.mk hl16004_5
                clear hi16004_5 hl16004_5
                have HR16004_6 := Aside0.mk hi16004_6
                have HC16004_6 := Aside0.mk hl16004_6
                clear hi16004_6 hl16004_6
                replace p16004 := eq_true p16004
                replace q16004 := eq_true q16004
                refine start_ (n := 12) (S := fun w' => w'.cell? ⟨gb16001, 0, none⟩ = some (.slice (some ad16003) l0_0.length c0_0) ∧ w'.cell? ⟨gb16002, 0, none⟩ = some (.slice (some ad16004) l1_0.length c1_0) ∧ w'.cell? (ad16003.add ((x5_1).toNat * 8)) = some (.int .i64 ((rd_T44 l0_0 x5_1).f0)) ∧ w'.cell? ⟨(ad16003.add ((x5_1).toNat * 8)).block, (ad16003.add ((x5_1).toNat * 8)).off + 1, none⟩ = some (.string ((rd_T44 l0_0 x5_1).f1)) ∧ w'.cell? ⟨(ad16003.add ((x5_1).toNat * 8)).block, (ad16003.add ((x5_1).toNat * 8)).off + 2, none⟩ = some (.string ((rd_T44 l0_0 x5_1).f2)) ∧ w'.cell? ⟨(ad16003.add ((x5_1).toNat * 8)).block, (ad16003.add ((x5_1).toNat * 8)).off + 3, none⟩ = some (.int .i64 ((rd_T44 l0_0 x5_1).f3.f0)) ∧ w'.cell? ⟨(ad16003.add ((x5_1).toNat * 8)).block, (ad16003.add ((x5_1).toNat * 8)).off + 4, none⟩ = some (.string ((rd_T44 l0_0 x5_1).f3.f1)) ∧ w'.cell? ⟨(ad16003.add ((x5_1).toNat * 8)).block, (ad16003.add ((x5_1).toNat * 8)).off + 5, none⟩ = some (.slice A16003_5 ((rd_T44 l0_0 x5_1).f3.f2).length c16003_5) ∧ w'.cell? ⟨(ad16003.add ((x5_1).toNat * 8)).block, (ad16003.add ((x5_1).toNat * 8)).off + 6, none⟩ = some (.slice A16003_6 ((rd_T44 l0_0 x5_1).f4).length c16003_6) ∧ w'.cell? ⟨(ad16003.add ((x5_1).toNat * 8)).block, (ad16003.add ((x5_1).toNat * 8)).off + 7, none⟩ = some (.int .i64 ((rd_T44 l0_0 x5_1).f5)) ∧ w'.cell? (ad16004.add ((x5_1).toNat * 8)) = some (.int .i64 ((rd_T44 l1_0 x5_1).f0)) ∧ w'.cell? ⟨(ad16004.add ((x5_1).toNat * 8)).block, (ad16004.add ((x5_1).toNat * 8)).off + 1, none⟩ = some (.string ((rd_T44 l1_0 x5_1).f1)) ∧ w'.cell? ⟨(ad16004.add ((x5_1).toNat * 8)).block, (ad16004.add ((x5_1).toNat * 8)).off + 2, none⟩ = some (.string ((rd_T44 l1_0 x5_1).f2)) ∧ w'.cell? ⟨(ad16004.add ((x5_1).toNat * 8)).block, (ad16004.add ((x5_1).toNat * 8)).off + 3, none⟩ = some (.int .i64 ((rd_T44 l1_0 x5_1).f3.f0)) ∧ w'.cell? ⟨(ad16004.add ((x5_1).toNat * 8)).block, (ad16004.add ((x5_1).toNat * 8)).off + 4, none⟩ = some (.string ((rd_T44 l1_0 x5_1).f3.f1)) ∧ w'.cell? ⟨(ad16004.add ((x5_1).toNat * 8)).block, (ad16004.add ((x5_1).toNat * 8)).off + 5, none⟩ = some (.slice A16004_5 ((rd_T44 l1_0 x5_1).f3.f2).length c16004_5) ∧ w'.cell? ⟨(ad16004.add ((x5_1).toNat * 8)).block, (ad16004.add ((x5_1).toNat * 8)).off + 6, none⟩ = some (.slice A16004_6 ((rd_T44 l1_0 x5_1).f4).length c16004_6) ∧ w'.cell? ⟨(ad16004.add ((x5_1).toNat * 8)).block, (ad16004.add ((x5_1).toNat * 8)).off + 7, none⟩ = some (.int .i64 ((rd_T44 l1_0 x5_1).f5))) (ds := []) #[false, false, false, false, false, false, false, false, false, false, false, false] (by kernel_rfl) rfl rfl ⟨(blk_cell BK16001.out 0).trans rfl, (blk_cell BK16002.out 0).trans rfl, ((HB.out.cell (World.block_lt_of_cell? w _ hw16003_0)).trans hw16003_0), ((HB.out.cell (World.block_lt_of_cell? w _ hw16003_1)).trans hw16003_1), ((HB.out.cell (World.block_lt_of_cell? w _ hw16003_2)).trans hw16003_2), ((HB.out.cell (World.block_lt_of_cell? w _ hw16003_3)).trans hw16003_3), ((HB.out.cell (World.block_lt_of_cell? w _ hw16003_4)).trans hw16003_4), ((HB.out.cell (World.block_lt_of_cell? w _ hw16003_5)).trans hw16003_5), ((HB.out.cell (World.block_lt_of_cell? w _ hw16003_6)).trans hw16003_6), ((HB.out.cell (World.block_lt_of_cell? w _ hw16003_7)).trans hw16003_7), ((HB.out.cell (World.block_lt_of_cell? w _ hw16004_0)).trans hw16004_0), ((HB.out.cell (World.block_lt_of_cell? w _ hw16004_1)).trans hw16004_1), ((HB.out.cell (World.block_lt_of_cell? w _ hw16004_2)).trans hw16004_2), ((HB.out.cell (World.block_lt_of_cell? w _ hw16004_3)).trans hw16004_3), ((HB.out.cell (World.block_lt_of_cell? w _ hw16004_4)).trans hw16004_4), ((HB.out.cell (World.block_lt_of_cell? w _ hw16004_5)).trans hw16004_5), ((HB.out.cell (World.block_lt_of_cell? w _ hw16004_6)).trans hw16004_6), ((HB.out.cell (World.block_lt_of_cell? w _ hw16004_7)).trans hw16004_7)⟩ (fun hHeld => ?_); refine with_tabW spec_EqualProblem.tab6 spec_EqualProblem.bits6 (fun HT_ HW_ => ?_)
                generalize wr.drew = w16 at BK16001 BK16002 HB HR16003_5 HR16003_6 HR16004_5 HR16004_6 hx16003_0 hx16003_1 hx16003_2 hx16003_3 hx16003_4 hx16003_5 hx16003_6 hx16003_7 hx16004_0 hx16004_1 hx16004_2 hx16004_3 hx16004_4 hx16004_5 hx16004_6 hx16004_7 hHeld ⊢
                refine pure_ (i := 0) (N := some 20) (v := ?_) (a' := ?_) #[true, false, false, false, false, false, false, false, false, false, false, false] rfl rfl (any_of HT_.out (by kernel_rfl)) (fun _ _ _ h => h) (Or.inl ⟨by rfl, ?_⟩) ?_ ?_
                rotate_left
                · intro w'
                  go_simp
                  first | with_reducible rfl | (rw [if_neg (by omega)]; done)
                rotate_left
                · simp only [Act.put, List.setIfInBounds_toArray, List.set_cons_zero, List.set_cons_succ, i64_w, i32_w]
                  rfl
                refine pure_ (i := 2) (N := some 22) (v := ?_) (a' := ?_) #[true, false, true, false, false, false, false, false, false, false, false, false] rfl rfl (any_of HT_.out (by kernel_rfl)) (fun _ _ _ h => h) (Or.inl ⟨by rfl, ?_⟩) ?_ ?_
                rotate_left
                · intro w'
                  go_simp
                  first | with_reducible rfl | (rw [if_neg (by omega)]; done)
                rotate_left
                · simp only [Act.put, List.setIfInBounds_toArray, List.set_cons_zero, List.set_cons_succ, i64_w, i32_w]
                  rfl
                refine pure_ (i := 5) (N := some 25) (v := ?_) (a' := ?_) #[true, false, true, false, false, true, false, false, false, false, false, false] rfl rfl (any_of HT_.out (by kernel_rfl)) (fun _ _ _ h => h) (Or.inl ⟨by rfl, ?_⟩) ?_ ?_
                rotate_left
                · intro w'
                  go_simp
                  first | with_reducible rfl | (rw [if_neg (by omega)]; done)
                rotate_left
                · simp only [Act.put, List.setIfInBounds_toArray, List.set_cons_zero, List.set_cons_succ, i64_w, i32_w]
                  rfl
                refine pure_ (i := 7) (N := some 27) (v := ?_) (a' := ?_) #[true, false, true, false, false, true, false, true, false, false, false, false] rfl rfl (any_of HT_.out (by kernel_rfl)) (fun _ _ _ h => h) (Or.inl ⟨by rfl, ?_⟩) ?_ ?_
                rotate_left
                · intro w'
                  go_simp
                  first | with_reducible rfl | (rw [if_neg (by omega)]; done)
                rotate_left
                · simp only [Act.put, List.setIfInBounds_toArray, List.set_cons_zero, List.set_cons_succ, i64_w, i32_w]
                  rfl
                refine take_ (i := 1) (N := some 21) (v := ?_) (a' := ?_) #[true, true, true, false, false, true, false, true, false, false, false, false] rfl rfl (take_ofW HT_.out HW_.out (by kernel_rfl)) (fun _ _ _ h => h) (Or.inl ⟨by rfl, ?_⟩) hHeld ?_ ?_
                rotate_left
                · rintro w' ⟨s0, s1, s2, s3, s4, s5, s6, s7, s8, s9, s10, s11, s12, s13, s14, s15, s16, s17⟩
                  go_simp
                  first | with_reducible rfl | (rw [if_neg (by omega)]; done)
                rotate_left
                · simp only [Act.put, List.setIfInBounds_toArray, List.set_cons_zero, List.set_cons_succ, i64_w, i32_w]
                  rfl
                refine pure_ (i := 3) (N := some 23) (v := ?_) (a' := ?_) #[true, true, true, true, false, true, false, true, false, false, false, false] rfl rfl (any_of HT_.out (by kernel_rfl)) (fun _ _ _ h => h) (Or.inl ⟨by rfl, ?_⟩) ?_ ?_
                rotate_left
                · intro w'
                  go_simp
                  first | with_reducible rfl | (rw [if_neg (by omega)]; done)
                rotate_left
                · simp only [Act.put, List.setIfInBounds_toArray, List.set_cons_zero, List.set_cons_succ, i64_w, i32_w]
                  rfl
                refine take_ (i := 4) (N := some 24) (v := ?_) (a' := ?_) #[true, true, true, true, true, true, false, true, false, false, false, false] rfl rfl (take_ofW HT_.out HW_.out (by kernel_rfl)) (fun _ _ _ h => h) (Or.inl ⟨by rfl, ?_⟩) hHeld ?_ ?_
                rotate_left
                · rintro w' ⟨s0, s1, s2, s3, s4, s5, s6, s7, s8, s9, s10, s11, s12, s13, s14, s15, s16, s17⟩
                  go_simp
                  first | with_reducible rfl | (rw [if_neg (by omega)]; done)
                rotate_left
                · simp only [Act.put, List.setIfInBounds_toArray, List.set_cons_zero, List.set_cons_succ, i64_w, i32_w]
                  rfl
                refine take_ (i := 6) (N := some 26) (v := ?_) (a' := ?_) #[true, true, true, true, true, true, true, true, false, false, false, false] rfl rfl (take_ofW HT_.out HW_.out (by kernel_rfl)) (fun _ _ _ h => h) (Or.inl ⟨by rfl, ?_⟩) hHeld ?_ ?_
                rotate_left
                · rintro w' ⟨s0, s1, s2, s3, s4, s5, s6, s7, s8, s9, s10, s11, s12, s13, s14, s15, s16, s17⟩
                  go_simp
                  first | with_reducible rfl | (rw [if_neg (by omega)]; done)
                rotate_left
                · simp only [Act.put, List.setIfInBounds_toArray, List.set_cons_zero, List.set_cons_succ, i64_w, i32_w]
                  rfl
                refine pure_ (i := 8) (N := some 28) (v := ?_) (a' := ?_) #[true, true, true, true, true, true, true, true, true, false, false, false] rfl rfl (any_of HT_.out (by kernel_rfl)) (fun _ _ _ h => h) (Or.inl ⟨by rfl, ?_⟩) ?_ ?_
                rotate_left
                · intro w'
                  go_simp
                  first | with_reducible rfl | (rw [if_neg (by omega)]; done)
                rotate_left
                · simp only [Act.put, List.setIfInBounds_toArray, List.set_cons_zero, List.set_cons_succ, i64_w, i32_w]
                  rfl
                refine take_ (i := 9) (N := some 29) (v := ?_) (a' := ?_) #[true, true, true, true, true, true, true, true, true, true, false, false] rfl rfl (take_ofW HT_.out HW_.out (by kernel_rfl)) (fun _ _ _ h => h) (Or.inl ⟨by rfl, ?_⟩) hHeld ?_ ?_
                rotate_left
                · rintro w' ⟨s0, s1, s2, s3, s4, s5, s6, s7, s8, s9, s10, s11, s12, s13, s14, s15, s16, s17⟩
                  go_simp
                  first | with_reducible rfl | (rw [if_neg (by omega)]; done)
                rotate_left
                · simp only [Act.put, List.setIfInBounds_toArray, List.set_cons_zero, List.set_cons_succ, i64_w, i32_w]
                  rfl
                refine one_ (i := 10) (N := some 30) #[true, true, true, true, true, true, true, true, true, true, true, false] rfl rfl (one_of HT_.out (by kernel_rfl)) (by decide) (fun K hK => ?_)
                refine goes_ Try.func81 (by kernel_rfl) rfl #[.agg #[.int .i64 ((rd_T44 l0_0 x5_1).f0), .string ((rd_T44 l0_0 x5_1).f1), .string ((rd_T44 l0_0 x5_1).f2), .int .i64 ((rd_T44 l0_0 x5_1).f3.f0), .string ((rd_T44 l0_0 x5_1).f3.f1), .slice A16003_5 ((rd_T44 l0_0 x5_1).f3.f2).length c16003_5, .slice A16003_6 ((rd_T44 l0_0 x5_1).f4).length c16003_6, .int .i64 ((rd_T44 l0_0 x5_1).f5)], .agg #[.int .i64 ((rd_T44 l1_0 x5_1).f0), .string ((rd_T44 l1_0 x5_1).f1), .string ((rd_T44 l1_0 x5_1).f2), .int .i64 ((rd_T44 l1_0 x5_1).f3.f0), .string ((rd_T44 l1_0 x5_1).f3.f1), .slice A16004_5 ((rd_T44 l1_0 x5_1).f3.f2).length c16004_5, .slice A16004_6 ((rd_T44 l1_0 x5_1).f4).length c16004_6, .int .i64 ((rd_T44 l1_0 x5_1).f5)]] (by rfl) rfl rfl (by (try simp only [List.map_toArray, List.map_cons, List.map_nil]); first | done | rfl | (simp only [List.length_drop, List.length_take]; rfl)) ?_
                with_reducible refine (spec_EqualConstraint.calls k1 ((rd_T44 l0_0 x5_1).f0) ((rd_T44 l0_0 x5_1).f1) ((rd_T44 l0_0 x5_1).f2) ((rd_T44 l0_0 x5_1).f3.f0) ((rd_T44 l0_0 x5_1).f3.f1) _ _ ((rd_T44 l0_0 x5_1).f3.f2) _ _ ((rd_T44 l0_0 x5_1).f4) ((rd_T44 l0_0 x5_1).f5) ((rd_T44 l1_0 x5_1).f0) ((rd_T44 l1_0 x5_1).f1) ((rd_T44 l1_0 x5_1).f2) ((rd_T44 l1_0 x5_1).f3.f0) ((rd_T44 l1_0 x5_1).f3.f1) _ _ ((rd_T44 l1_0 x5_1).f3.f2) _ _ ((rd_T44 l1_0 x5_1).f4) ((rd_T44 l1_0 x5_1).f5) true _ ?side1 ?side2 ?side3 ?side4 ?side5 ?side6 ?side7 ?side8 A12.out).mono ?_
                (case side1 => repeat (first | exact (Kd.C_below HR16003_5.out HB.out) | (with_reducible refine Kd.C_alloc ?_ _) | (with_reducible refine Kd.C_drewN ?_ _) | (with_reducible refine Kd.C_drew ?_)))
                (case side2 => exact HC16003_5.out)
                (case side3 => repeat (first | exact (Kd.C_below HR16003_6.out HB.out) | (with_reducible refine Kd.C_alloc ?_ _) | (with_reducible refine Kd.C_drewN ?_ _) | (with_reducible refine Kd.C_drew ?_)))
                (case side4 => exact HC16003_6.out)
                (case side5 => repeat (first | exact (Kd.C_below HR16004_5.out HB.out) | (with_reducible refine Kd.C_alloc ?_ _) | (with_reducible refine Kd.C_drewN ?_ _) | (with_reducible refine Kd.C_drew ?_)))
                (case side6 => exact HC16004_5.out)
                (case side7 => repeat (first | exact (Kd.C_below HR16004_6.out HB.out) | (with_reducible refine Kd.C_alloc ?_ _) | (with_reducible refine Kd.C_drewN ?_ _) | (with_reducible refine Kd.C_drew ?_)))
                (case side8 => exact HC16004_6.out)
                rintro e w17 ⟨rfl, hb⟩
                refine ⟨_, rfl, ?_⟩
                have n0_ := Aside0.mk (blk_below (g := gb16001) (o := .cells #[.slice (some ad16003) l0_0.length c0_0] 29 (0, 0)) (by (with_reducible repeat (first | refine blk_drewN ?_ _ | refine blk_drew ?_ | refine blk_alloc ?_ _)); exact BK16001.out) hb)
                have n1_ := Aside0.mk (blk_below (g := gb16002) (o := .cells #[.slice (some ad16004) l1_0.length c1_0] 29 (0, 0)) (by (with_reducible repeat (first | refine blk_drewN ?_ _ | refine blk_drew ?_ | refine blk_alloc ?_ _)); exact BK16002.out) hb)
                have n2_ := Aside0.mk (below_step (by repeat (first | (with_reducible first | exact HB.out | apply below_alloc | apply pw_below_drewN | apply below_drew1 | refine below_set ?_ GE16001.out | refine below_set ?_ GE16002.out) | exact HB.out)) hb)
                clear BK16001
                clear BK16002
                clear HB
                have BK16001 := n0_
                have BK16002 := n1_
                have HB := n2_
                clear n0_ n1_ n2_
                (try clear hb)
                (try clear hb2)
                (try clear hk)
                (try clear hi)
                refine hK.out _ _ ⟨(blk_cell BK16001.out 0).trans rfl, (blk_cell BK16002.out 0).trans rfl, ((HB.out.cell (World.block_lt_of_cell? w _ hw16003_0)).trans hw16003_0), ((HB.out.cell (World.block_lt_of_cell? w _ hw16003_1)).trans hw16003_1), ((HB.out.cell (World.block_lt_of_cell? w _ hw16003_2)).trans hw16003_2), ((HB.out.cell (World.block_lt_of_cell? w _ hw16003_3)).trans hw16003_3), ((HB.out.cell (World.block_lt_of_cell? w _ hw16003_4)).trans hw16003_4), ((HB.out.cell (World.block_lt_of_cell? w _ hw16003_5)).trans hw16003_5), ((HB.out.cell (World.block_lt_of_cell? w _ hw16003_6)).trans hw16003_6), ((HB.out.cell (World.block_lt_of_cell? w _ hw16003_7)).trans hw16003_7), ((HB.out.cell (World.block_lt_of_cell? w _ hw16004_0)).trans hw16004_0), ((HB.out.cell (World.block_lt_of_cell? w _ hw16004_1)).trans hw16004_1), ((HB.out.cell (World.block_lt_of_cell? w _ hw16004_2)).trans hw16004_2), ((HB.out.cell (World.block_lt_of_cell? w _ hw16004_3)).trans hw16004_3), ((HB.out.cell (World.block_lt_of_cell? w _ hw16004_4)).trans hw16004_4), ((HB.out.cell (World.block_lt_of_cell? w _ hw16004_5)).trans hw16004_5), ((HB.out.cell (World.block_lt_of_cell? w _ hw16004_6)).trans hw16004_6), ((HB.out.cell (World.block_lt_of_cell? w _ hw16004_7)).trans hw16004_7)⟩ (fun hHeld => ?_)
                clear hK K
                refine norm_ (a' := ?_) ?_ ?_
                rotate_left
                · show Act.put _ (some 30) _ = _
                  simp only [Act.put, List.setIfInBounds_toArray, List.set_cons_zero, List.set_cons_succ, i64_w, i32_w]
                  rfl
                refine pure_ (i := 11) (N := some 31) (v := ?_) (a' := ?_) #[true, true, true, true, true, true, true, true, true, true, true, true] rfl rfl (any_of HT_.out (by kernel_rfl)) (fun _ _ _ h => h) (Or.inl ⟨by rfl, ?_⟩) ?_ ?_
                rotate_left
                · intro w'
                  go_simp
                  first | with_reducible rfl | (rw [if_neg (by omega)]; done)
                rotate_left
                · simp only [Act.put, List.setIfInBounds_toArray, List.set_cons_zero, List.set_cons_succ, i64_w, i32_w]
                  rfl
                refine done_ (done_of HT_.out (by kernel_rfl)) ?_
                try go_wp2
                go_roundg k1
                case measure => have := HK1.out; omega
                case rel => exact ⟨(wrap64 (x5_1 + 1)), (by first | rfl | (simp; done) | (simp [*]; done)), H', ⟨by have := HK1.out; omega⟩, ⟨by (with_reducible repeat (first | refine blk_drewN ?_ _ | refine blk_drew ?_ | refine blk_alloc ?_ _)); exact BK16001.out⟩, ⟨by (with_reducible repeat (first | refine blk_drewN ?_ _ | refine blk_drew ?_ | refine blk_alloc ?_ _)); exact BK16002.out⟩, ⟨by repeat (first | (with_reducible first | exact HB.out | apply below_alloc | apply pw_below_drewN | apply below_drew1 | refine below_set ?_ GE16001.out | refine below_set ?_ GE16002.out) | exact HB.out)⟩⟩
              · replace c13 := Bool.eq_false_iff.mpr c13
                subst c13
                have H1 : (some false) = some r := by rw [if_neg (show ¬ (false = true) by decide)] at H; exact H
                clear H
                have H := H1
                clear H1
                obtain rfl := Option.some.inj H
                have hnb18 := NB16001_16002.out
                have hnc18 := NB16002_16001.out
                have hcz19_0 : wr.cell? ⟨gb16001, 0, none⟩ = some (.slice A0_0 l0_0.length c0_0) := (blk_cell BK16001.out 0).trans rfl
                have hfz19_0 := blk_frozen BK16001.out 0
                try go_wp2
                have n0_ := Aside0.mk (blk_drew BK16001.out)
                have n1_ := Aside0.mk (blk_drew BK16002.out)
                have n2_ := Aside0.mk (below_drew1 HB.out)
                clear BK16001
                clear BK16002
                clear HB
                have BK16001 := n0_
                have BK16002 := n1_
                have HB := n2_
                clear n0_ n1_ n2_
                have p16003 : 0 ≤ (x5_1 : Int) := of_decide_eq_true (by first | (with_reducible assumption) | assumption)
                have q16003 : x5_1 < (l0_0.length : Int) := of_decide_eq_true (by first | (with_reducible assumption) | assumption)
                obtain ⟨ad16003, A16003_5, c16003_5, A16003_6, c16003_6, e16003, hx16003_0, hx16003_1, hx16003_2, hx16003_3, hx16003_4, hx16003_5, hx16003_6, hx16003_7, hl16003_5, hi16003_5, hl16003_6, hi16003_6⟩ := at_T44 HR0_0.out x5_1 p16003 q16003
                have hw16003_7 := hx16003_7
                have hw16003_6 := hx16003_6
                have hw16003_5 := hx16003_5
                have hw16003_4 := hx16003_4
                have hw16003_3 := hx16003_3
                have hw16003_2 := hx16003_2
                have hw16003_1 := hx16003_1
                have hw16003_0 := hx16003_0
                cases e16003
                replace hx16003_0 := (HB.out.cell (World.block_lt_of_cell? w _ hx16003_0)).trans hx16003_0
                replace hx16003_1 := (HB.out.cell (World.block_lt_of_cell? w _ hx16003_1)).trans hx16003_1
                replace hx16003_2 := (HB.out.cell (World.block_lt_of_cell? w _ hx16003_2)).trans hx16003_2
                replace hx16003_3 := (HB.out.cell (World.block_lt_of_cell? w _ hx16003_3)).trans hx16003_3
                replace hx16003_4 := (HB.out.cell (World.block_lt_of_cell? w _ hx16003_4)).trans hx16003_4
                replace hx16003_5 := (HB.out.cell (World.block_lt_of_cell? w _ hx16003_5)).trans hx16003_5
                replace hx16003_6 := (HB.out.cell (World.block_lt_of_cell? w _ hx16003_6)).trans hx16003_6
                replace hx16003_7 := (HB.out.cell (World.block_lt_of_cell? w _ hx16003_7)).trans hx16003_7
                have HR16003_5 := Aside0.mk hi16003_5
                have HC16003_5 := Aside0.mk hl16003_5
                clear hi16003_5 hl16003_5
                have HR16003_6 := Aside0.mk hi16003_6
                have HC16003_6 := Aside0.mk hl16003_6
                clear hi16003_6 hl16003_6
                replace p16003 := eq_true p16003
                replace q16003 := eq_true q16003
                have p16004 : 0 ≤ (x5_1 : Int) := of_decide_eq_true (by first | (with_reducible assumption) | assumption)
                have q16004 : x5_1 < (l1_0.length : Int) := of_decide_eq_true (by first | (with_reducible assumption) | assumption)
                obtain ⟨ad16004, A16004_5, c16004_5, A16004_6, c16004_6, e16004, hx16004_0, hx16004_1, hx16004_2, hx16004_3, hx16004_4, hx16004_5, hx16004_6, hx16004_7, hl16004_5, hi16004_5, hl16004_6, hi16004_6⟩ := at_T44 HR1_0.out x5_1 p16004 q16004
                have hw16004_7 := hx16004_7
                have hw16004_6 := hx16004_6
                have hw16004_5 := hx16004_5
                have hw16004_4 := hx16004_4
                have hw16004_3 := hx16004_3
                have hw16004_2 := hx16004_2
                have hw16004_1 := hx16004_1
                have hw16004_0 := hx16004_0
                cases e16004
                replace hx16004_0 := (HB.out.cell (World.block_lt_of_cell? w _ hx16004_0)).trans hx16004_0
                replace hx16004_1 := (HB.out.cell (World.block_lt_of_cell? w _ hx16004_1)).trans hx16004_1
                replace hx16004_2 := (HB.out.cell (World.block_lt_of_cell? w _ hx16004_2)).trans hx16004_2
                replace hx16004_3 := (HB.out.cell (World.block_lt_of_cell? w _ hx16004_3)).trans hx16004_3
                replace hx16004_4 := (HB.out.cell (World.block_lt_of_cell? w _ hx16004_4)).trans hx16004_4
                replace hx16004_5 := (HB.out.cell (World.block_lt_of_cell? w _ hx16004_5)).trans hx16004_5
                replace hx16004_6 := (HB.out.cell (World.block_lt_of_cell? w _ hx16004_6)).trans hx16004_6
                replace hx16004_7 := (HB.out.cell (World.block_lt_of_cell? w _ hx16004_7)).trans hx16004_7
                have HR16004_5 := Aside0.mk hi16004_5
                have HC16004_5 := Aside0.mk hl16004_5
                clear hi16004_5 hl16004_5
                have HR16004_6 := Aside0.mk hi16004_6
                have HC16004_6 := Aside0.mk hl16004_6
                clear hi16004_6 hl16004_6
                replace p16004 := eq_true p16004
                replace q16004 := eq_true q16004
                refine start_ (n := 12) (S := fun w' => w'.cell? ⟨gb16001, 0, none⟩ = some (.slice (some ad16003) l0_0.length c0_0) ∧ w'.cell? ⟨gb16002, 0, none⟩ = some (.slice (some ad16004) l1_0.length c1_0) ∧ w'.cell? (ad16003.add ((x5_1).toNat * 8)) = some (.int .i64 ((rd_T44 l0_0 x5_1).f0)) ∧ w'.cell? ⟨(ad16003.add ((x5_1).toNat * 8)).block, (ad16003.add ((x5_1).toNat * 8)).off + 1, none⟩ = some (.string ((rd_T44 l0_0 x5_1).f1)) ∧ w'.cell? ⟨(ad16003.add ((x5_1).toNat * 8)).block, (ad16003.add ((x5_1).toNat * 8)).off + 2, none⟩ = some (.string ((rd_T44 l0_0 x5_1).f2)) ∧ w'.cell? ⟨(ad16003.add ((x5_1).toNat * 8)).block, (ad16003.add ((x5_1).toNat * 8)).off + 3, none⟩ = some (.int .i64 ((rd_T44 l0_0 x5_1).f3.f0)) ∧ w'.cell? ⟨(ad16003.add ((x5_1).toNat * 8)).block, (ad16003.add ((x5_1).toNat * 8)).off + 4, none⟩ = some (.string ((rd_T44 l0_0 x5_1).f3.f1)) ∧ w'.cell? ⟨(ad16003.add ((x5_1).toNat * 8)).block, (ad16003.add ((x5_1).toNat * 8)).off + 5, none⟩ = some (.slice A16003_5 ((rd_T44 l0_0 x5_1).f3.f2).length c16003_5) ∧ w'.cell? ⟨(ad16003.add ((x5_1).toNat * 8)).block, (ad16003.add ((x5_1).toNat * 8)).off + 6, none⟩ = some (.slice A16003_6 ((rd_T44 l0_0 x5_1).f4).length c16003_6) ∧ w'.cell? ⟨(ad16003.add ((x5_1).toNat * 8)).block, (ad16003.add ((x5_1).toNat * 8)).off + 7, none⟩ = some (.int .i64 ((rd_T44 l0_0 x5_1).f5)) ∧ w'.cell? (ad16004.add ((x5_1).toNat * 8)) = some (.int .i64 ((rd_T44 l1_0 x5_1).f0)) ∧ w'.cell? ⟨(ad16004.add ((x5_1).toNat * 8)).block, (ad16004.add ((x5_1).toNat * 8)).off + 1, none⟩ = some (.string ((rd_T44 l1_0 x5_1).f1)) ∧ w'.cell? ⟨(ad16004.add ((x5_1).toNat * 8)).block, (ad16004.add ((x5_1).toNat * 8)).off + 2, none⟩ = some (.string ((rd_T44 l1_0 x5_1).f2)) ∧ w'.cell? ⟨(ad16004.add ((x5_1).toNat * 8)).block, (ad16004.add ((x5_1).toNat * 8)).off + 3, none⟩ = some (.int .i64 ((rd_T44 l1_0 x5_1).f3.f0)) ∧ w'.cell? ⟨(ad16004.add ((x5_1).toNat * 8)).block, (ad16004.add ((x5_1).toNat * 8)).off + 4, none⟩ = some (.string ((rd_T44 l1_0 x5_1).f3.f1)) ∧ w'.cell? ⟨(ad16004.add ((x5_1).toNat * 8)).block, (ad16004.add ((x5_1).toNat * 8)).off + 5, none⟩ = some (.slice A16004_5 ((rd_T44 l1_0 x5_1).f3.f2).length c16004_5) ∧ w'.cell? ⟨(ad16004.add ((x5_1).toNat * 8)).block, (ad16004.add ((x5_1).toNat * 8)).off + 6, none⟩ = some (.slice A16004_6 ((rd_T44 l1_0 x5_1).f4).length c16004_6) ∧ w'.cell? ⟨(ad16004.add ((x5_1).toNat * 8)).block, (ad16004.add ((x5_1).toNat * 8)).off + 7, none⟩ = some (.int .i64 ((rd_T44 l1_0 x5_1).f5))) (ds := []) #[false, false, false, false, false, false, false, false, false, false, false, false] (by kernel_rfl) rfl rfl ⟨(blk_cell BK16001.out 0).trans rfl, (blk_cell BK16002.out 0).trans rfl, ((HB.out.cell (World.block_lt_of_cell? w _ hw16003_0)).trans hw16003_0), ((HB.out.cell (World.block_lt_of_cell? w _ hw16003_1)).trans hw16003_1), ((HB.out.cell (World.block_lt_of_cell? w _ hw16003_2)).trans hw16003_2), ((HB.out.cell (World.block_lt_of_cell? w _ hw16003_3)).trans hw16003_3), ((HB.out.cell (World.block_lt_of_cell? w _ hw16003_4)).trans hw16003_4), ((HB.out.cell (World.block_lt_of_cell? w _ hw16003_5)).trans hw16003_5), ((HB.out.cell (World.block_lt_of_cell? w _ hw16003_6)).trans hw16003_6), ((HB.out.cell (World.block_lt_of_cell? w _ hw16003_7)).trans hw16003_7), ((HB.out.cell (World.block_lt_of_cell? w _ hw16004_0)).trans hw16004_0), ((HB.out.cell (World.block_lt_of_cell? w _ hw16004_1)).trans hw16004_1), ((HB.out.cell (World.block_lt_of_cell? w _ hw16004_2)).trans hw16004_2), ((HB.out.cell (World.block_lt_of_cell? w _ hw16004_3)).trans hw16004_3), ((HB.out.cell (World.block_lt_of_cell? w _ hw16004_4)).trans hw16004_4), ((HB.out.cell (World.block_lt_of_cell? w _ hw16004_5)).trans hw16004_5), ((HB.out.cell (World.block_lt_of_cell? w _ hw16004_6)).trans hw16004_6), ((HB.out.cell (World.block_lt_of_cell? w _ hw16004_7)).trans hw16004_7)⟩ (fun hHeld => ?_); refine with_tabW spec_EqualProblem.tab6 spec_EqualProblem.bits6 (fun HT_ HW_ => ?_)
                generalize wr.drew = w20 at BK16001 BK16002 HB HR16003_5 HR16003_6 HR16004_5 HR16004_6 hx16003_0 hx16003_1 hx16003_2 hx16003_3 hx16003_4 hx16003_5 hx16003_6 hx16003_7 hx16004_0 hx16004_1 hx16004_2 hx16004_3 hx16004_4 hx16004_5 hx16004_6 hx16004_7 hHeld ⊢
                refine pure_ (i := 0) (N := some 20) (v := ?_) (a' := ?_) #[true, false, false, false, false, false, false, false, false, false, false, false] rfl rfl (any_of HT_.out (by kernel_rfl)) (fun _ _ _ h => h) (Or.inl ⟨by rfl, ?_⟩) ?_ ?_
                rotate_left
                · intro w'
                  go_simp
                  first | with_reducible rfl | (rw [if_neg (by omega)]; done)
                rotate_left
                · simp only [Act.put, List.setIfInBounds_toArray, List.set_cons_zero, List.set_cons_succ, i64_w, i32_w]
                  rfl
                refine pure_ (i := 2) (N := some 22) (v := ?_) (a' := ?_) #[true, false, true, false, false, false, false, false, false, false, false, false] rfl rfl (any_of HT_.out (by kernel_rfl)) (fun _ _ _ h => h) (Or.inl ⟨by rfl, ?_⟩) ?_ ?_
                rotate_left
                · intro w'
                  go_simp
                  first | with_reducible rfl | (rw [if_neg (by omega)]; done)
                rotate_left
                · simp only [Act.put, List.setIfInBounds_toArray, List.set_cons_zero, List.set_cons_succ, i64_w, i32_w]
                  rfl
                refine pure_ (i := 5) (N := some 25) (v := ?_) (a' := ?_) #[true, false, true, false, false, true, false, false, false, false, false, false] rfl rfl (any_of HT_.out (by kernel_rfl)) (fun _ _ _ h => h) (Or.inl ⟨by rfl, ?_⟩) ?_ ?_
                rotate_left
                · intro w'
                  go_simp
                  first | with_reducible rfl | (rw [if_neg (by omega)]; done)
                rotate_left
                · simp only [Act.put, List.setIfInBounds_toArray, List.set_cons_zero, List.set_cons_succ, i64_w, i32_w]
                  rfl
                refine pure_ (i := 7) (N := some 27) (v := ?_) (a' := ?_) #[true, false, true, false, false, true, false, true, false, false, false, false] rfl rfl (any_of HT_.out (by kernel_rfl)) (fun _ _ _ h => h) (Or.inl ⟨by rfl, ?_⟩) ?_ ?_
                rotate_left
                · intro w'
                  go_simp
                  first | with_reducible rfl | (rw [if_neg (by omega)]; done)
                rotate_left
                · simp only [Act.put, List.setIfInBounds_toArray, List.set_cons_zero, List.set_cons_succ, i64_w, i32_w]
                  rfl
                refine take_ (i := 1) (N := some 21) (v := ?_) (a' := ?_) #[true, true, true, false, false, true, false, true, false, false, false, false] rfl rfl (take_ofW HT_.out HW_.out (by kernel_rfl)) (fun _ _ _ h => h) (Or.inl ⟨by rfl, ?_⟩) hHeld ?_ ?_
                rotate_left
                · rintro w' ⟨s0, s1, s2, s3, s4, s5, s6, s7, s8, s9, s10, s11, s12, s13, s14, s15, s16, s17⟩
                  go_simp
                  first | with_reducible rfl | (rw [if_neg (by omega)]; done)
                rotate_left
                · simp only [Act.put, List.setIfInBounds_toArray, List.set_cons_zero, List.set_cons_succ, i64_w, i32_w]
                  rfl
                refine pure_ (i := 3) (N := some 23) (v := ?_) (a' := ?_) #[true, true, true, true, false, true, false, true, false, false, false, false] rfl rfl (any_of HT_.out (by kernel_rfl)) (fun _ _ _ h => h) (Or.inl ⟨by rfl, ?_⟩) ?_ ?_
                rotate_left
                · intro w'
                  go_simp
                  first | with_reducible rfl | (rw [if_neg (by omega)]; done)
                rotate_left
                · simp only [Act.put, List.setIfInBounds_toArray, List.set_cons_zero, List.set_cons_succ, i64_w, i32_w]
                  rfl
                refine take_ (i := 4) (N := some 24) (v := ?_) (a' := ?_) #[true, true, true, true, true, true, false, true, false, false, false, false] rfl rfl (take_ofW HT_.out HW_.out (by kernel_rfl)) (fun _ _ _ h => h) (Or.inl ⟨by rfl, ?_⟩) hHeld ?_ ?_
                rotate_left
                · rintro w' ⟨s0, s1, s2, s3, s4, s5, s6, s7, s8, s9, s10, s11, s12, s13, s14, s15, s16, s17⟩
                  go_simp
                  first | with_reducible rfl | (rw [if_neg (by omega)]; done)
                rotate_left
                · simp only [Act.put, List.setIfInBounds_toArray, List.set_cons_zero, List.set_cons_succ, i64_w, i32_w]
                  rfl
                refine take_ (i := 6) (N := some 26) (v := ?_) (a' := ?_) #[true, true, true, true, true, true, true, true, false, false, false, false] rfl rfl (take_ofW HT_.out HW_.out (by kernel_rfl)) (fun _ _ _ h => h) (Or.inl ⟨by rfl, ?_⟩) hHeld ?_ ?_
                rotate_left
                · rintro w' ⟨s0, s1, s2, s3, s4, s5, s6, s7, s8, s9, s10, s11, s12, s13, s14, s15, s16, s17⟩
                  go_simp
                  first | with_reducible rfl | (rw [if_neg (by omega)]; done)
                rotate_left
                · simp only [Act.put, List.setIfInBounds_toArray, List.set_cons_zero, List.set_cons_succ, i64_w, i32_w]
                  rfl
                refine pure_ (i := 8) (N := some 28) (v := ?_) (a' := ?_) #[true, true, true, true, true, true, true, true, true, false, false, false] rfl rfl (any_of HT_.out (by kernel_rfl)) (fun _ _ _ h => h) (Or.inl ⟨by rfl, ?_⟩) ?_ ?_
                rotate_left
                · intro w'
                  go_simp
                  first | with_reducible rfl | (rw [if_neg (by omega)]; done)
                rotate_left
                · simp only [Act.put, List.setIfInBounds_toArray, List.set_cons_zero, List.set_cons_succ, i64_w, i32_w]
                  rfl
                refine take_ (i := 9) (N := some 29) (v := ?_) (a' := ?_) #[true, true, true, true, true, true, true, true, true, true, false, false] rfl rfl (take_ofW HT_.out HW_.out (by kernel_rfl)) (fun _ _ _ h => h) (Or.inl ⟨by rfl, ?_⟩) hHeld ?_ ?_
                rotate_left
                · rintro w' ⟨s0, s1, s2, s3, s4, s5, s6, s7, s8, s9, s10, s11, s12, s13, s14, s15, s16, s17⟩
                  go_simp
                  first | with_reducible rfl | (rw [if_neg (by omega)]; done)
                rotate_left
                · simp only [Act.put, List.setIfInBounds_toArray, List.set_cons_zero, List.set_cons_succ, i64_w, i32_w]
                  rfl
                refine one_ (i := 10) (N := some 30) #[true, true, true, true, true, true, true, true, true, true, true, false] rfl rfl (one_of HT_.out (by kernel_rfl)) (by decide) (fun K hK => ?_)
                refine goes_ Try.func81 (by kernel_rfl) rfl #[.agg #[.int .i64 ((rd_T44 l0_0 x5_1).f0), .string ((rd_T44 l0_0 x5_1).f1), .string ((rd_T44 l0_0 x5_1).f2), .int .i64 ((rd_T44 l0_0 x5_1).f3.f0), .string ((rd_T44 l0_0 x5_1).f3.f1), .slice A16003_5 ((rd_T44 l0_0 x5_1).f3.f2).length c16003_5, .slice A16003_6 ((rd_T44 l0_0 x5_1).f4).length c16003_6, .int .i64 ((rd_T44 l0_0 x5_1).f5)], .agg #[.int .i64 ((rd_T44 l1_0 x5_1).f0), .string ((rd_T44 l1_0 x5_1).f1), .string ((rd_T44 l1_0 x5_1).f2), .int .i64 ((rd_T44 l1_0 x5_1).f3.f0), .string ((rd_T44 l1_0 x5_1).f3.f1), .slice A16004_5 ((rd_T44 l1_0 x5_1).f3.f2).length c16004_5, .slice A16004_6 ((rd_T44 l1_0 x5_1).f4).length c16004_6, .int .i64 ((rd_T44 l1_0 x5_1).f5)]] (by rfl) rfl rfl (by (try simp only [List.map_toArray, List.map_cons, List.map_nil]); first | done | rfl | (simp only [List.length_drop, List.length_take]; rfl)) ?_
                with_reducible refine (spec_EqualConstraint.calls k1 ((rd_T44 l0_0 x5_1).f0) ((rd_T44 l0_0 x5_1).f1) ((rd_T44 l0_0 x5_1).f2) ((rd_T44 l0_0 x5_1).f3.f0) ((rd_T44 l0_0 x5_1).f3.f1) _ _ ((rd_T44 l0_0 x5_1).f3.f2) _ _ ((rd_T44 l0_0 x5_1).f4) ((rd_T44 l0_0 x5_1).f5) ((rd_T44 l1_0 x5_1).f0) ((rd_T44 l1_0 x5_1).f1) ((rd_T44 l1_0 x5_1).f2) ((rd_T44 l1_0 x5_1).f3.f0) ((rd_T44 l1_0 x5_1).f3.f1) _ _ ((rd_T44 l1_0 x5_1).f3.f2) _ _ ((rd_T44 l1_0 x5_1).f4) ((rd_T44 l1_0 x5_1).f5) false _ ?side1 ?side2 ?side3 ?side4 ?side5 ?side6 ?side7 ?side8 A12.out).mono ?_
                (case side1 => repeat (first | exact (Kd.C_below HR16003_5.out HB.out) | (with_reducible refine Kd.C_alloc ?_ _) | (with_reducible refine Kd.C_drewN ?_ _) | (with_reducible refine Kd.C_drew ?_)))
                (case side2 => exact HC16003_5.out)
                (case side3 => repeat (first | exact (Kd.C_below HR16003_6.out HB.out) | (with_reducible refine Kd.C_alloc ?_ _) | (with_reducible refine Kd.C_drewN ?_ _) | (with_reducible refine Kd.C_drew ?_)))
                (case side4 => exact HC16003_6.out)
                (case side5 => repeat (first | exact (Kd.C_below HR16004_5.out HB.out) | (with_reducible refine Kd.C_alloc ?_ _) | (with_reducible refine Kd.C_drewN ?_ _) | (with_reducible refine Kd.C_drew ?_)))
                (case side6 => exact HC16004_5.out)
                (case side7 => repeat (first | exact (Kd.C_below HR16004_6.out HB.out) | (with_reducible refine Kd.C_alloc ?_ _) | (with_reducible refine Kd.C_drewN ?_ _) | (with_reducible refine Kd.C_drew ?_)))
                (case side8 => exact HC16004_6.out)
                rintro e w21 ⟨rfl, hb⟩
                refine ⟨_, rfl, ?_⟩
                have n0_ := Aside0.mk (blk_below (g := gb16001) (o := .cells #[.slice (some ad16003) l0_0.length c0_0] 29 (0, 0)) (by (with_reducible repeat (first | refine blk_drewN ?_ _ | refine blk_drew ?_ | refine blk_alloc ?_ _)); exact BK16001.out) hb)
                have n1_ := Aside0.mk (blk_below (g := gb16002) (o := .cells #[.slice (some ad16004) l1_0.length c1_0] 29 (0, 0)) (by (with_reducible repeat (first | refine blk_drewN ?_ _ | refine blk_drew ?_ | refine blk_alloc ?_ _)); exact BK16002.out) hb)
                have n2_ := Aside0.mk (below_step (by repeat (first | (with_reducible first | exact HB.out | apply below_alloc | apply pw_below_drewN | apply below_drew1 | refine below_set ?_ GE16001.out | refine below_set ?_ GE16002.out) | exact HB.out)) hb)
                clear BK16001
                clear BK16002
                clear HB
                have BK16001 := n0_
                have BK16002 := n1_
                have HB := n2_
                clear n0_ n1_ n2_
                (try clear hb)
                (try clear hb2)
                (try clear hk)
                (try clear hi)
                refine hK.out _ _ ⟨(blk_cell BK16001.out 0).trans rfl, (blk_cell BK16002.out 0).trans rfl, ((HB.out.cell (World.block_lt_of_cell? w _ hw16003_0)).trans hw16003_0), ((HB.out.cell (World.block_lt_of_cell? w _ hw16003_1)).trans hw16003_1), ((HB.out.cell (World.block_lt_of_cell? w _ hw16003_2)).trans hw16003_2), ((HB.out.cell (World.block_lt_of_cell? w _ hw16003_3)).trans hw16003_3), ((HB.out.cell (World.block_lt_of_cell? w _ hw16003_4)).trans hw16003_4), ((HB.out.cell (World.block_lt_of_cell? w _ hw16003_5)).trans hw16003_5), ((HB.out.cell (World.block_lt_of_cell? w _ hw16003_6)).trans hw16003_6), ((HB.out.cell (World.block_lt_of_cell? w _ hw16003_7)).trans hw16003_7), ((HB.out.cell (World.block_lt_of_cell? w _ hw16004_0)).trans hw16004_0), ((HB.out.cell (World.block_lt_of_cell? w _ hw16004_1)).trans hw16004_1), ((HB.out.cell (World.block_lt_of_cell? w _ hw16004_2)).trans hw16004_2), ((HB.out.cell (World.block_lt_of_cell? w _ hw16004_3)).trans hw16004_3), ((HB.out.cell (World.block_lt_of_cell? w _ hw16004_4)).trans hw16004_4), ((HB.out.cell (World.block_lt_of_cell? w _ hw16004_5)).trans hw16004_5), ((HB.out.cell (World.block_lt_of_cell? w _ hw16004_6)).trans hw16004_6), ((HB.out.cell (World.block_lt_of_cell? w _ hw16004_7)).trans hw16004_7)⟩ (fun hHeld => ?_)
                clear hK K
                refine norm_ (a' := ?_) ?_ ?_
                rotate_left
                · show Act.put _ (some 30) _ = _
                  simp only [Act.put, List.setIfInBounds_toArray, List.set_cons_zero, List.set_cons_succ, i64_w, i32_w]
                  rfl
                refine pure_ (i := 11) (N := some 31) (v := ?_) (a' := ?_) #[true, true, true, true, true, true, true, true, true, true, true, true] rfl rfl (any_of HT_.out (by kernel_rfl)) (fun _ _ _ h => h) (Or.inl ⟨by rfl, ?_⟩) ?_ ?_
                rotate_left
                · intro w'
                  go_simp
                  first | with_reducible rfl | (rw [if_neg (by omega)]; done)
                rotate_left
                · simp only [Act.put, List.setIfInBounds_toArray, List.set_cons_zero, List.set_cons_succ, i64_w, i32_w]
                  rfl
                refine done_ (done_of HT_.out (by kernel_rfl)) ?_
                try go_wp2
                go_ret
                exact ⟨by first | rfl | (simp [errW_none, errW_some] <;> rfl) | (simp [*, errW_none, errW_some] <;> rfl), by repeat (first | (with_reducible first | exact HB.out | apply below_alloc | apply pw_below_drewN | apply below_drew1 | refine below_set ?_ GE16001.out | refine below_set ?_ GE16002.out) | exact HB.out)⟩
            · rw [if_neg c11] at H
              exact absurd H (by simp)
          · rw [if_neg c10] at H
            exact absurd H (by simp)
        · rw [if_neg c9] at H
          have c9b0 : decide (x5_1 < (l0_0.length : Int)) = false := decide_eq_false c9
          clear c9
          obtain rfl := Option.some.inj H
          have hnb22 := NB16001_16002.out
          have hnc22 := NB16002_16001.out
          have hcz23_0 : wr.cell? ⟨gb16001, 0, none⟩ = some (.slice A0_0 l0_0.length c0_0) := (blk_cell BK16001.out 0).trans rfl
          have hfz23_0 := blk_frozen BK16001.out 0
          go_wp2
          go_ret
          exact ⟨by first | rfl | (simp [errW_none, errW_some] <;> rfl) | (simp [*, errW_none, errW_some] <;> rfl), by repeat (first | (with_reducible first | exact HB.out | apply below_alloc | apply pw_below_drewN | apply below_drew1 | refine below_set ?_ GE16001.out | refine below_set ?_ GE16002.out) | exact HB.out)⟩
  · rw [if_neg c3] at H
    have c3b0 : ((l0_0.length : Int) == (l1_0.length : Int)) = false := beq_eq_false_iff_ne.mpr c3
    have c3b1 : ((l0_0.length : Int) != (l1_0.length : Int)) = true := bne_iff_ne.mpr c3
    have c3b2 : (l0_0.length == l1_0.length) = false := by first | simpa using c3 | (simp at c3 ⊢; omega)
    obtain rfl := Option.some.inj H
    go_enter Try.func16, Try.ntmps16
    go_wp2_with (first | ((with_reducible refine gate_dst (N := 2) rfl ?_); refine box_event ?hg (N := 2) ?hd (cs := #[.slice A0_0 l0_0.length c0_0]) (t := 29) ?hr ?_; (case hd => rfl); (case hg => rfl); (case hr => first | (go_simp; done) | (go_simp; rfl)); intro gb16001 hg w24 hbox hb; have n0_ := Aside0.mk (below_step (by repeat (first | (with_reducible first | exact HB.out | apply below_alloc | apply pw_below_drewN | apply below_drew1) | exact HB.out)) hb); have n1_ := Aside0.mk (hbox); have n2_ := Aside0.mk ((by rw [hg]; exact (below_size (by repeat (first | (with_reducible first | exact HB.out | apply below_alloc | apply pw_below_drewN | apply below_drew1) | exact HB.out))) : w.heap.size ≤ gb16001)); have n3_ := Aside0.mk ((by rw [hg]; exact (below_size (by repeat (first | (with_reducible first | exact HB.out | apply below_alloc | apply pw_below_drewN | apply below_drew1) | exact HB.out))) : w.heap.size ≤ gb16001)); clear HB; have HB := n0_; have BK16001 := n1_; have GW16001 := n2_; have GE16001 := n3_; clear n0_ n1_ n2_ n3_; clear hb hbox hg) | ((with_reducible refine gate_dst (N := 3) rfl ?_); refine box_event ?hg (N := 3) ?hd (cs := #[.slice A1_0 l1_0.length c1_0]) (t := 29) ?hr ?_; (case hd => rfl); (case hg => rfl); (case hr => first | (go_simp; done) | (go_simp; rfl)); intro gb16002 hg w25 hbox hb; have n0_ := Aside0.mk (blk_below (g := gb16001) (o := .cells #[.slice A0_0 l0_0.length c0_0] 29 (0, 0)) (by (with_reducible repeat (first | refine blk_drewN ?_ _ | refine blk_drew ?_ | refine blk_alloc ?_ _)); exact BK16001.out) hb); have n1_ := Aside0.mk (below_step (by repeat (first | (with_reducible first | exact HB.out | apply below_alloc | apply pw_below_drewN | apply below_drew1 | refine below_set ?_ GE16001.out) | exact HB.out)) hb); have n2_ := Aside0.mk (hbox); have n3_ := Aside0.mk ((by rw [hg]; exact (below_size (by repeat (first | (with_reducible first | exact HB.out | apply below_alloc | apply pw_below_drewN | apply below_drew1 | refine below_set ?_ GE16001.out) | exact HB.out))) : w.heap.size ≤ gb16002)); have n4_ := Aside0.mk ((by rw [hg]; exact (below_size (by repeat (first | (with_reducible first | exact HB.out | apply below_alloc | apply pw_below_drewN | apply below_drew1 | refine below_set ?_ GE16001.out) | exact HB.out))) : w.heap.size ≤ gb16002)); have n5_ := Aside0.mk ((by rw [hg]; exact Nat.ne_of_lt (blk_lt (g := gb16001) (o := .cells #[.slice A0_0 l0_0.length c0_0] 29 (0, 0)) (by (with_reducible repeat (first | refine blk_drewN ?_ _ | refine blk_drew ?_ | refine blk_alloc ?_ _)); exact BK16001.out)) : gb16001 ≠ gb16002)); have n6_ := Aside0.mk ((by rw [hg]; exact Nat.ne_of_gt (blk_lt (g := gb16001) (o := .cells #[.slice A0_0 l0_0.length c0_0] 29 (0, 0)) (by (with_reducible repeat (first | refine blk_drewN ?_ _ | refine blk_drew ?_ | refine blk_alloc ?_ _)); exact BK16001.out)) : gb16002 ≠ gb16001)); clear BK16001; clear HB; have BK16001 := n0_; have HB := n1_; have BK16002 := n2_; have GW16002 := n3_; have GE16002 := n4_; have NB16001_16002 := n5_; have NB16002_16001 := n6_; clear n0_ n1_ n2_ n3_ n4_ n5_ n6_; clear hb hbox hg; have hnb26 := NB16001_16002.out; have hnc26 := NB16002_16001.out; have hcz27_0 : w25.cell? ⟨gb16001, 0, none⟩ = some (.slice A0_0 l0_0.length c0_0) := (blk_cell BK16001.out 0).trans rfl; have hfz27_0 := blk_frozen BK16001.out 0; have hcz28_0 : w25.cell? ⟨gb16002, 0, none⟩ = some (.slice A1_0 l1_0.length c1_0) := (blk_cell BK16002.out 0).trans rfl; have hfz28_0 := blk_frozen BK16002.out 0))
    go_ret
    exact ⟨by first | rfl | (simp [errW_none, errW_some] <;> rfl) | (simp [*, errW_none, errW_some] <;> rfl), by repeat (first | (with_reducible first | exact HB.out | apply below_alloc | apply pw_below_drewN | apply below_drew1 | refine below_set ?_ GE16001.out | refine below_set ?_ GE16002.out) | exact HB.out)⟩


end Go.Proofs.Ytpppopdmnejcfaa.A


namespace Go.Proofs.Ytpppopdmnejcfaa.A
open Go.RowKit Go.Proofs.Ytpppopdmnejcfaa.Ext Go.Proofs.YtpppopdmnejcfaaW.PrintWords Go.Proofs.YtpppopdmnejcfaaW.PrintLast Go.Proofs.YtpppopdmnejcfaaW.PrintMore
attribute [local go_sem] max2_int min2_int max_two min_two max_three min_three max_four min_four   -- for this text's walks alone
set_option linter.unusedVariables false
set_option linter.unusedSimpArgs false

/-! ### slices_Equal_int_int: function 127 -/
def slices_Equal_int_int.l0 : Nat → List Int → List Int → Int → Int → Option (Bool)
  | 0, _, _, _, _ => none
  | k + 1, x0, x1, x12, x13 => if x13 < x12 then (if 0 ≤ x13 then (if x13 < (x0.length : Int) then (if x13 < (x1.length : Int) then (if (rd x0 x13) = (rd x1 x13) then (slices_Equal_int_int.l0 k x0 x1 x12 (wrap64 (x13 + 1))) else (some false)) else (none)) else (none)) else (none)) else (some true)
def slices_Equal_int_int.f (k : Nat) (l0 : List Int) (l1 : List Int) : Option (Bool) := if (l0.length : Int) = (l1.length : Int) then (slices_Equal_int_int.l0 k l0 l1 (l0.length : Int) 0) else (some false)
theorem slices_Equal_int_int.mono_l : ∀ k, (∀ y0 y1 y2 y3, LeO (slices_Equal_int_int.l0 k y0 y1 y2 y3) (slices_Equal_int_int.l0 (k + 1) y0 y1 y2 y3))
  | 0 => fun _ _ _ _ r h => by simp [slices_Equal_int_int.l0] at h
  | k + 1 => by
    have ih0 := slices_Equal_int_int.mono_l k
    · intro y0 y1 y2 y3
      unfold slices_Equal_int_int.l0
      repeat' first
      | (with_reducible exact ih0 _ _ _ _)
      | (with_reducible exact LeO.refl _)
      | (with_reducible exact LeO.none _)
      | (with_reducible refine LeO.ite ?_ ?_)
      | (with_reducible refine LeO.bind ?_ (fun _ => ?_))
      | exact ih0 _ _ _ _
      | exact LeO.none _
      | refine LeO.ite ?_ ?_
      | refine LeO.bind ?_ (fun _ => ?_)
theorem slices_Equal_int_int.mono : ∀ a0 a1 k, LeO (slices_Equal_int_int.f k a0 a1) (slices_Equal_int_int.f (k + 1) a0 a1) := by
  intro a0 a1 k
  have ih0 := slices_Equal_int_int.mono_l k
  unfold slices_Equal_int_int.f
  repeat' first
      | (with_reducible exact ih0 _ _ _ _)
      | (with_reducible exact LeO.refl _)
      | (with_reducible exact LeO.none _)
      | (with_reducible refine LeO.ite ?_ ?_)
      | (with_reducible refine LeO.bind ?_ (fun _ => ?_))
      | exact ih0 _ _ _ _
      | exact LeO.none _
      | refine LeO.ite ?_ ?_
      | refine LeO.bind ?_ (fun _ => ?_)
set_option maxHeartbeats 8000000 in
set_option maxRecDepth 100000 in
theorem slices_Equal_int_int.calls (k : Nat) (A0 : Option Addr) (c0 : Nat) (l0 : List Int) (A1 : Option Addr) (c1 : Nat) (l1 : List Int) (r : Bool) (w : World) (hr0 : Kd.C (Kd.int .i64) w A0 l0.length l0) (hc0 : l0.length ≤ c0) (hr1 : Kd.C (Kd.int .i64) w A1 l1.length l1) (hc1 : l1.length ≤ c1) (h : slices_Equal_int_int.f k l0 l1 = some r) :
    Calls Try.prog 127 #[.slice A0 l0.length c0, .slice A1 l1.length c1] w fun e w' => e = .returned (.bool r) ∧ Drawn0 w w' := by
  have HR0 := Aside0.mk hr0
  have HC0 := Aside0.mk hc0
  clear hr0 hc0
  have HR1 := Aside0.mk hr1
  have HC1 := Aside0.mk hc1
  clear hr1 hc1
  have H : (if (l0.length : Int) = (l1.length : Int) then (slices_Equal_int_int.l0 k l0 l1 (l0.length : Int) 0) else (some false)) = some r := h
  clear h
  by_cases c3 : (l0.length : Int) = (l1.length : Int)
  · rw [if_pos c3] at H
    have c3b0 : ((l0.length : Int) == (l1.length : Int)) = true := beq_iff_eq.mpr c3
    have c3b1 : ((l0.length : Int) != (l1.length : Int)) = false := bne_eq_false_iff_eq.mpr c3
    have c3b2 : (l0.length == l1.length) = true := by first | simpa using c3 | (simp at c3 ⊢; omega)
    clear c3
    have H' := Aside0.mk H
    clear H
    go_enter Try.func127, Try.ntmps127
    go_wp2
    repeat (go_quiet (fail); try go_wp2)
    first | go_loopg [13] k (fun kq v13 w' => ∃ (x13_1 : Int), v13 = .int .i64 x13_1 ∧ Aside0 (slices_Equal_int_int.l0 kq l0 l1 (l0.length : Int) x13_1 = some r) ∧ Aside0 (kq ≤ k) ∧ Drawn0 w w') | (simp only [Act.put, List.setIfInBounds_toArray, List.set_cons_succ, List.set_cons_zero]; go_loopg [13] k (fun kq v13 w' => ∃ (x13_1 : Int), v13 = .int .i64 x13_1 ∧ Aside0 (slices_Equal_int_int.l0 kq l0 l1 (l0.length : Int) x13_1 = some r) ∧ Aside0 (kq ≤ k) ∧ Drawn0 w w'))
    case atStart => exact ⟨(0), (by first | rfl | (simp; done) | (simp [*]; done)), H', ⟨Nat.le_refl _⟩, by repeat (first | exact Drawn0.refl _ | apply Drawn0.step)⟩
    case round =>
      clear H'
      try clear c1
      try clear p2
      try clear c3
      try clear c3b0
      try clear c3b1
      try clear c3b2
      obtain ⟨x13_1, rfl, HA, HK1, ⟨m1, rfl⟩⟩ := hrel
      cases gk with
      | zero => exact absurd HA.out (by simp [slices_Equal_int_int.l0])
      | succ k1 =>
        have H := HA.out
        clear HA
        simp only [slices_Equal_int_int.l0] at H
        by_cases c4 : x13_1 < (l0.length : Int)
        · rw [if_pos c4] at H
          have c4b0 : decide (x13_1 < (l0.length : Int)) = true := decide_eq_true c4
          clear c4
          by_cases c5 : 0 ≤ x13_1
          · rw [if_pos c5] at H
            have c5b0 : decide (0 ≤ x13_1) = true := decide_eq_true c5
            clear c5
            by_cases c6 : x13_1 < (l0.length : Int)
            · rw [if_pos c6] at H
              have c6b0 : decide (x13_1 < (l0.length : Int)) = true := decide_eq_true c6
              clear c6
              by_cases c7 : x13_1 < (l1.length : Int)
              · rw [if_pos c7] at H
                have c7b0 : decide (x13_1 < (l1.length : Int)) = true := decide_eq_true c7
                clear c7
                by_cases c8 : (rd l0 x13_1) = (rd l1 x13_1)
                · rw [if_pos c8] at H
                  have c8b0 : ((rd l0 x13_1) == (rd l1 x13_1)) = true := beq_iff_eq.mpr c8
                  have c8b1 : ((rd l0 x13_1) != (rd l1 x13_1)) = false := bne_eq_false_iff_eq.mpr c8
                  clear c8
                  have H' := Aside0.mk H
                  clear H
                  have p127001 : 0 ≤ (x13_1 : Int) := of_decide_eq_true (by first | (with_reducible assumption) | assumption)
                  have q127001 : x13_1 < (l0.length : Int) := of_decide_eq_true (by first | (with_reducible assumption) | assumption)
                  obtain ⟨ad127001, e127001, hx127001_0⟩ := Kd.at_int HR0.out x13_1 p127001 q127001
                  cases e127001
                  replace p127001 := eq_true p127001
                  replace q127001 := eq_true q127001
                  have p127002 : 0 ≤ (x13_1 : Int) := of_decide_eq_true (by first | (with_reducible assumption) | assumption)
                  have q127002 : x13_1 < (l1.length : Int) := of_decide_eq_true (by first | (with_reducible assumption) | assumption)
                  obtain ⟨ad127002, e127002, hx127002_0⟩ := Kd.at_int HR1.out x13_1 p127002 q127002
                  cases e127002
                  replace p127002 := eq_true p127002
                  replace q127002 := eq_true q127002
                  go_wp2
                  repeat (go_quiet (fail); try go_wp2)
                  go_roundg k1
                  case measure => have := HK1.out; omega
                  case rel => exact ⟨(wrap64 (x13_1 + 1)), (by first | rfl | (simp; done) | (simp [*]; done)), H', ⟨by have := HK1.out; omega⟩, by repeat (first | exact Drawn0.refl _ | apply Drawn0.step)⟩
                · rw [if_neg c8] at H
                  have c8b0 : ((rd l0 x13_1) == (rd l1 x13_1)) = false := beq_eq_false_iff_ne.mpr c8
                  have c8b1 : ((rd l0 x13_1) != (rd l1 x13_1)) = true := bne_iff_ne.mpr c8
                  obtain rfl := Option.some.inj H
                  have p127001 : 0 ≤ (x13_1 : Int) := of_decide_eq_true (by first | (with_reducible assumption) | assumption)
                  have q127001 : x13_1 < (l0.length : Int) := of_decide_eq_true (by first | (with_reducible assumption) | assumption)
                  obtain ⟨ad127001, e127001, hx127001_0⟩ := Kd.at_int HR0.out x13_1 p127001 q127001
                  cases e127001
                  replace p127001 := eq_true p127001
                  replace q127001 := eq_true q127001
                  have p127002 : 0 ≤ (x13_1 : Int) := of_decide_eq_true (by first | (with_reducible assumption) | assumption)
                  have q127002 : x13_1 < (l1.length : Int) := of_decide_eq_true (by first | (with_reducible assumption) | assumption)
                  obtain ⟨ad127002, e127002, hx127002_0⟩ := Kd.at_int HR1.out x13_1 p127002 q127002
                  cases e127002
                  replace p127002 := eq_true p127002
                  replace q127002 := eq_true q127002
                  go_wp2
                  repeat (go_quiet (fail); try go_wp2)
                  go_ret
                  exact ⟨by first | rfl | (simp; done) | (simp [*]; done), by repeat (first | exact Drawn0.refl _ | apply Drawn0.step)⟩
              · rw [if_neg c7] at H
                exact absurd H (by simp)
            · rw [if_neg c6] at H
              exact absurd H (by simp)
          · rw [if_neg c5] at H
            exact absurd H (by simp)
        · rw [if_neg c4] at H
          have c4b0 : decide (x13_1 < (l0.length : Int)) = false := decide_eq_false c4
          clear c4
          obtain rfl := Option.some.inj H
          go_wp2
          repeat (go_quiet (fail); try go_wp2)
          go_ret
          exact ⟨by first | rfl | (simp; done) | (simp [*]; done), by repeat (first | exact Drawn0.refl _ | apply Drawn0.step)⟩
  · rw [if_neg c3] at H
    have c3b0 : ((l0.length : Int) == (l1.length : Int)) = false := beq_eq_false_iff_ne.mpr c3
    have c3b1 : ((l0.length : Int) != (l1.length : Int)) = true := bne_iff_ne.mpr c3
    have c3b2 : (l0.length == l1.length) = false := by first | simpa using c3 | (simp at c3 ⊢; omega)
    obtain rfl := Option.some.inj H
    go_enter Try.func127, Try.ntmps127
    go_wp2
    repeat (go_quiet (fail); try go_wp2)
    go_ret
    exact ⟨by first | rfl | (simp; done) | (simp [*]; done), by repeat (first | exact Drawn0.refl _ | apply Drawn0.step)⟩


end Go.Proofs.Ytpppopdmnejcfaa.A


namespace Go.Proofs.Ytpppopdmnejcfaa.Ext
set_option linter.unusedVariables false
set_option linter.unusedSimpArgs false
open Go.RowKit Go.Proofs.YtpppopdmnejcfaaW.PrintWords Go.Proofs.YtpppopdmnejcfaaW.PrintLast

theorem goesF_ {P : Program} {ops : Array Oper} {Q : Exit → Act → World → Prop} {rest : List Oper} {oi : Oper} {a : Act} {w : World} (N : Option Tmp) (hd : oi.dst = N) (hg : oi.guard = none) {f : FuncId} {fn : Func} {as_ : Array Operand} {ts : Array TypeId} {c : Operand} (hf : P.funcs[f]? = some fn) (hname : (fn.name == "runtime.NumGoroutine") = false) (hb : fn.body.isSome = true) (args : Array Value)
    (hop : oi.op = .call { callee := .value c, args := as_, argTypes := ts }) (hc : a.eval c = .func (.func f) #[] #[]) (hargs : as_.map a.eval = args)
    (h : Calls P f args w fun e w' => ∃ v, e = .returned v ∧ wpList P ops Q rest (a.put N v) w') : wpList P ops Q (oi :: rest) a w := by
  refine wpList_plain hg fun K hK => ?_
  have he := enters_ hf hname hb args w
  have hrun : (execOp a.eval oi).run P w = .ok (.enter f args) w := by
    unfold execOp
    rw [hop]
    simp [hc, resolve, Deferred.ofValue, invoke, hargs, he]
  unfold Oper.wp
  rw [hrun, Oper.upon_enter]
  refine h.mono fun e w'' hh => ?_
  obtain ⟨v, rfl, hk⟩ := hh
  subst hd
  exact hK _ _ hk

end Go.Proofs.Ytpppopdmnejcfaa.Ext


namespace Go.Proofs.Ytpppopdmnejcfaa.A
open Go.RowKit Go.Proofs.Ytpppopdmnejcfaa.Ext Go.Proofs.YtpppopdmnejcfaaW.PrintWords Go.Proofs.YtpppopdmnejcfaaW.PrintLast Go.Proofs.YtpppopdmnejcfaaW.PrintMore
attribute [local go_sem] max2_int min2_int max_two min_two max_three min_three max_four min_four   -- for this text's walks alone
set_option linter.unusedVariables false
set_option linter.unusedSimpArgs false

/-! ### impl_Regex: function 193 -/
def impl_RegexG.l0 (gF : Nat → Int → ByteArray → List (S42) → Int → ByteArray → List (S42) → Option (Bool)) : Nat → List (S42) → List (S42) → Int → Int → Option (Bool)
  | 0, _, _, _, _ => none
  | k + 1, x1, x15, x16, x17 => if x17 < x16 then (if 0 ≤ x17 then (if x17 < (x15.length : Int) then (if x17 < (x1.length : Int) then ((gF k ((rd_T42 x15 x17).f0) ((rd_T42 x15 x17).f1) ((rd_T42 x15 x17).f2) ((rd_T42 x1 x17).f0) ((rd_T42 x1 x17).f1) ((rd_T42 x1 x17).f2)).bind fun t193005 => (if t193005 = true then (impl_RegexG.l0 gF k x1 x15 x16 (wrap64 (x17 + 1))) else (some false))) else (none)) else (none)) else (none)) else (some true)
def impl_RegexG.f (gF : Nat → Int → ByteArray → List (S42) → Int → ByteArray → List (S42) → Option (Bool)) (k : Nat) (l0 : List (S42)) (l1 : List (S42)) : Option (Bool) := if (l0.length : Int) = (l1.length : Int) then (impl_RegexG.l0 gF k l1 l0 (l0.length : Int) 0) else (some false)
theorem impl_RegexG.mono_l (gF : Nat → Int → ByteArray → List (S42) → Int → ByteArray → List (S42) → Option (Bool)) (gM : ∀ a0 a1 a2 a3 a4 a5 k, LeO (gF k a0 a1 a2 a3 a4 a5) (gF (k + 1) a0 a1 a2 a3 a4 a5)) : ∀ k, (∀ y0 y1 y2 y3, LeO (impl_RegexG.l0 gF k y0 y1 y2 y3) (impl_RegexG.l0 gF (k + 1) y0 y1 y2 y3))
  | 0 => fun _ _ _ _ r h => by simp [impl_RegexG.l0] at h
  | k + 1 => by
    have ih0 := impl_RegexG.mono_l gF gM k
    · intro y0 y1 y2 y3
      unfold impl_RegexG.l0
      repeat' first
      | (with_reducible exact ih0 _ _ _ _)
      | (with_reducible exact gM _ _ _ _ _ _ _)
      | (with_reducible exact LeO.refl _)
      | (with_reducible exact LeO.none _)
      | (with_reducible refine LeO.ite ?_ ?_)
      | (with_reducible refine LeO.bind ?_ (fun _ => ?_))
      | exact ih0 _ _ _ _
      | exact gM _ _ _ _ _ _ _
      | exact LeO.none _
      | refine LeO.ite ?_ ?_
      | refine LeO.bind ?_ (fun _ => ?_)
theorem impl_RegexG.mono (gF : Nat → Int → ByteArray → List (S42) → Int → ByteArray → List (S42) → Option (Bool)) (gM : ∀ a0 a1 a2 a3 a4 a5 k, LeO (gF k a0 a1 a2 a3 a4 a5) (gF (k + 1) a0 a1 a2 a3 a4 a5)) : ∀ a0 a1 k, LeO (impl_RegexG.f gF k a0 a1) (impl_RegexG.f gF (k + 1) a0 a1) := by
  intro a0 a1 k
  have ih0 := impl_RegexG.mono_l gF gM k
  unfold impl_RegexG.f
  repeat' first
      | (with_reducible exact ih0 _ _ _ _)
      | (with_reducible exact gM _ _ _ _ _ _ _)
      | (with_reducible exact LeO.refl _)
      | (with_reducible exact LeO.none _)
      | (with_reducible refine LeO.ite ?_ ?_)
      | (with_reducible refine LeO.bind ?_ (fun _ => ?_))
      | exact ih0 _ _ _ _
      | exact gM _ _ _ _ _ _ _
      | exact LeO.none _
      | refine LeO.ite ?_ ?_
      | refine LeO.bind ?_ (fun _ => ?_)
set_option maxHeartbeats 8000000 in
set_option maxRecDepth 100000 in
theorem impl_RegexG.calls (gF : Nat → Int → ByteArray → List (S42) → Int → ByteArray → List (S42) → Option (Bool)) (gC : ∀ (k : Nat) (a0_0 : Int) (a0_1 : ByteArray) (A0_2 : Option Addr) (c0_2 : Nat) (l0_2 : List (S42)) (a1_0 : Int) (a1_1 : ByteArray) (A1_2 : Option Addr) (c1_2 : Nat) (l1_2 : List (S42)) (r : Bool) (w : World) (hr0_2 : Kd.C k42 w A0_2 l0_2.length l0_2) (hc0_2 : l0_2.length ≤ c0_2) (hr1_2 : Kd.C k42 w A1_2 l1_2.length l1_2) (hc1_2 : l1_2.length ≤ c1_2) (h : gF k a0_0 a0_1 l0_2 a1_0 a1_1 l1_2 = some r), Calls Try.prog 162 #[.agg #[.int .i64 a0_0, .string a0_1, .slice A0_2 l0_2.length c0_2], .agg #[.int .i64 a1_0, .string a1_1, .slice A1_2 l1_2.length c1_2]] w fun e w' => e = .returned (.bool r) ∧ Below w.heap.size w w') (k : Nat) (A0 : Option Addr) (c0 : Nat) (l0 : List (S42)) (A1 : Option Addr) (c1 : Nat) (l1 : List (S42)) (r : Bool) (w : World) (hr0 : Kd.C k42 w A0 l0.length l0) (hc0 : l0.length ≤ c0) (hr1 : Kd.C k42 w A1 l1.length l1) (hc1 : l1.length ≤ c1) (h : impl_RegexG.f gF k l0 l1 = some r) :
    Calls Try.prog 193 #[.slice A0 l0.length c0, .slice A1 l1.length c1, .func (.func 162) #[] #[]] w fun e w' => e = .returned (.bool r) ∧ Below w.heap.size w w' := by
  have hu42 := Try.underlying42
  have HR0 := Aside0.mk hr0
  have HC0 := Aside0.mk hc0
  clear hr0 hc0
  have HR1 := Aside0.mk hr1
  have HC1 := Aside0.mk hc1
  clear hr1 hc1
  have HB := Aside0.mk (Below.refl w.heap.size w)
  have H : (if (l0.length : Int) = (l1.length : Int) then (impl_RegexG.l0 gF k l1 l0 (l0.length : Int) 0) else (some false)) = some r := h
  clear h
  by_cases c3 : (l0.length : Int) = (l1.length : Int)
  · rw [if_pos c3] at H
    have c3b0 : ((l0.length : Int) == (l1.length : Int)) = true := beq_iff_eq.mpr c3
    have c3b1 : ((l0.length : Int) != (l1.length : Int)) = false := bne_eq_false_iff_eq.mpr c3
    have c3b2 : (l0.length == l1.length) = true := by first | simpa using c3 | (simp at c3 ⊢; omega)
    clear c3
    have H' := Aside0.mk H
    clear H
    go_enter Try.func193, Try.ntmps193
    go_wp2
    first | go_loopg [17] k (fun kq v17 w' => ∃ (x17_1 : Int), v17 = .int .i64 x17_1 ∧ Aside0 (impl_RegexG.l0 gF kq l1 l0 (l0.length : Int) x17_1 = some r) ∧ Aside0 (kq ≤ k) ∧ Aside0 (Below w.heap.size w w')) | (simp only [Act.put, List.setIfInBounds_toArray, List.set_cons_succ, List.set_cons_zero]; go_loopg [17] k (fun kq v17 w' => ∃ (x17_1 : Int), v17 = .int .i64 x17_1 ∧ Aside0 (impl_RegexG.l0 gF kq l1 l0 (l0.length : Int) x17_1 = some r) ∧ Aside0 (kq ≤ k) ∧ Aside0 (Below w.heap.size w w')))
    case atStart => exact ⟨(0), (by first | rfl | (simp; done) | (simp [*]; done)), H', ⟨Nat.le_refl _⟩, ⟨by repeat (first | (with_reducible first | exact HB.out | apply below_alloc | apply pw_below_drewN | apply below_drew1) | exact HB.out)⟩⟩
    case round =>
      clear H'
      try clear c1
      try clear p2
      try clear c3
      try clear c3b0
      try clear c3b1
      try clear c3b2
      obtain ⟨x17_1, rfl, HA, HK1, HB⟩ := hrel
      cases gk with
      | zero => exact absurd HA.out (by simp [impl_RegexG.l0])
      | succ k1 =>
        have H := HA.out
        clear HA
        simp only [impl_RegexG.l0] at H
        by_cases c4 : x17_1 < (l0.length : Int)
        · rw [if_pos c4] at H
          have c4b0 : decide (x17_1 < (l0.length : Int)) = true := decide_eq_true c4
          clear c4
          by_cases c5 : 0 ≤ x17_1
          · rw [if_pos c5] at H
            have c5b0 : decide (0 ≤ x17_1) = true := decide_eq_true c5
            clear c5
            by_cases c6 : x17_1 < (l0.length : Int)
            · rw [if_pos c6] at H
              have c6b0 : decide (x17_1 < (l0.length : Int)) = true := decide_eq_true c6
              clear c6
              by_cases c7 : x17_1 < (l1.length : Int)
              · rw [if_pos c7] at H
                have c7b0 : decide (x17_1 < (l1.length : Int)) = true := decide_eq_true c7
                clear c7
                replace H := Option.bind_eq_some_iff.mp H
                obtain ⟨t193005, A80, H⟩ := H
                replace H : (if t193005 = true then (impl_RegexG.l0 gF k1 l1 l0 (l0.length : Int) (wrap64 (x17_1 + 1))) else (some false)) = some r := H
                have A8 := Aside0.mk A80
                clear A80
                by_cases c9 : t193005 = true
                · subst c9
                  have H1 : (impl_RegexG.l0 gF k1 l1 l0 (l0.length : Int) (wrap64 (x17_1 + 1))) = some r := by rw [if_pos rfl] at H; exact H
                  clear H
                  have H := H1
                  clear H1
                  have H' := Aside0.mk H
                  clear H
                  have p193001 : 0 ≤ (x17_1 : Int) := of_decide_eq_true (by first | (with_reducible assumption) | assumption)
                  have q193001 : x17_1 < (l0.length : Int) := of_decide_eq_true (by first | (with_reducible assumption) | assumption)
                  obtain ⟨ad193001, A193001_2, c193001_2, e193001, hx193001_0, hx193001_1, hx193001_2, hl193001_2, hi193001_2⟩ := at_T42 HR0.out x17_1 p193001 q193001
                  cases e193001
                  replace hx193001_0 := (HB.out.cell (World.block_lt_of_cell? w _ hx193001_0)).trans hx193001_0
                  replace hx193001_1 := (HB.out.cell (World.block_lt_of_cell? w _ hx193001_1)).trans hx193001_1
                  replace hx193001_2 := (HB.out.cell (World.block_lt_of_cell? w _ hx193001_2)).trans hx193001_2
                  have HR193001_2 := Aside0.mk hi193001_2
                  have HC193001_2 := Aside0.mk hl193001_2
                  clear hi193001_2 hl193001_2
                  replace p193001 := eq_true p193001
                  replace q193001 := eq_true q193001
                  go_wp2_with (first | ((with_reducible refine gate_dst (N := 8) rfl ?_); refine box_event ?hg (N := 8) ?hd (cs := #[.int .i64 0, .string (⟨#[]⟩ : ByteArray), .slice none 0 0]) (t := 42) ?hr ?_; (case hd => rfl); (case hg => rfl); (case hr => first | (go_simp; done) | (go_simp; rfl)); intro gb193002 hg w10 hbox hb; have n0_ := Aside0.mk (below_step (by repeat (first | (with_reducible first | exact HB.out | apply below_alloc | apply pw_below_drewN | apply below_drew1) | exact HB.out)) hb); have n1_ := Aside0.mk (hbox); have n2_ := Aside0.mk ((by rw [hg]; exact (below_size (by repeat (first | (with_reducible first | exact HB.out | apply below_alloc | apply pw_below_drewN | apply below_drew1) | exact HB.out))) : w.heap.size ≤ gb193002)); have n3_ := Aside0.mk ((by rw [hg]; exact (below_size (by repeat (first | (with_reducible first | exact HB.out | apply below_alloc | apply pw_below_drewN | apply below_drew1) | exact HB.out))) : w.heap.size ≤ gb193002)); clear HB; have HB := n0_; have BK193002 := n1_; have GW193002 := n2_; have GE193002 := n3_; clear n0_ n1_ n2_ n3_; clear hb hbox hg; have hcz11_0 : w10.cell? ⟨gb193002, 0, none⟩ = some (.int .i64 0) := (blk_cell BK193002.out 0).trans rfl; have hcz11_1 : w10.cell? ⟨gb193002, 1, none⟩ = some (.string (⟨#[]⟩ : ByteArray)) := (blk_cell BK193002.out 1).trans rfl; have hcz11_2 : w10.cell? ⟨gb193002, 2, none⟩ = some (.slice none 0 0) := (blk_cell BK193002.out 2).trans rfl; have hfz11_0 := blk_frozen BK193002.out 0; have hfz11_1 := blk_frozen BK193002.out 1; have hfz11_2 := blk_frozen BK193002.out 2; have p193003 : 0 ≤ (x17_1 : Int) := of_decide_eq_true (by first | (with_reducible assumption) | assumption); have q193003 : x17_1 < (l1.length : Int) := of_decide_eq_true (by first | (with_reducible assumption) | assumption); obtain ⟨ad193003, A193003_2, c193003_2, e193003, hx193003_0, hx193003_1, hx193003_2, hl193003_2, hi193003_2⟩ := at_T42 HR1.out x17_1 p193003 q193003; cases e193003; have hn193003_0 : ad193003.block ≠ gb193002 := Nat.ne_of_lt (Nat.lt_of_lt_of_le (by have := World.block_lt_of_cell? _ _ hx193003_0; first | rwa [add_block] at this | exact this) GW193002.out); have hn193003_1 : ad193003.block ≠ gb193002 := Nat.ne_of_lt (Nat.lt_of_lt_of_le (by have := World.block_lt_of_cell? _ _ hx193003_0; first | rwa [add_block] at this | exact this) GW193002.out); have hn193003_2 : ad193003.block ≠ gb193002 := Nat.ne_of_lt (Nat.lt_of_lt_of_le (by have := World.block_lt_of_cell? _ _ hx193003_0; first | rwa [add_block] at this | exact this) GW193002.out); replace hx193003_0 := (HB.out.cell (World.block_lt_of_cell? w _ hx193003_0)).trans hx193003_0; replace hx193003_1 := (HB.out.cell (World.block_lt_of_cell? w _ hx193003_1)).trans hx193003_1; replace hx193003_2 := (HB.out.cell (World.block_lt_of_cell? w _ hx193003_2)).trans hx193003_2; have HR193003_2 := Aside0.mk hi193003_2; have HC193003_2 := Aside0.mk hl193003_2; clear hi193003_2 hl193003_2; replace hx193003_0 := (cell_far (p := ⟨gb193002, 0, none⟩) (by first | (rw [add_block]; exact hn193003_0) | (show (Addr.add _ _).block ≠ _; rw [add_block]; exact hn193003_0) | exact hn193003_0) (.int .i64 ((rd_T42 l0 x17_1).f0))).trans hx193003_0; replace hx193003_1 := (cell_far (p := ⟨gb193002, 0, none⟩) (by first | (rw [add_block]; exact hn193003_0) | (show (Addr.add _ _).block ≠ _; rw [add_block]; exact hn193003_0) | exact hn193003_0) (.int .i64 ((rd_T42 l0 x17_1).f0))).trans hx193003_1; replace hx193003_2 := (cell_far (p := ⟨gb193002, 0, none⟩) (by first | (rw [add_block]; exact hn193003_0) | (show (Addr.add _ _).block ≠ _; rw [add_block]; exact hn193003_0) | exact hn193003_0) (.int .i64 ((rd_T42 l0 x17_1).f0))).trans hx193003_2; replace hx193003_0 := (cell_far (p := ⟨gb193002, 1, none⟩) (by first | (rw [add_block]; exact hn193003_1) | (show (Addr.add _ _).block ≠ _; rw [add_block]; exact hn193003_1) | exact hn193003_1) (.string ((rd_T42 l0 x17_1).f1))).trans hx193003_0; replace hx193003_1 := (cell_far (p := ⟨gb193002, 1, none⟩) (by first | (rw [add_block]; exact hn193003_1) | (show (Addr.add _ _).block ≠ _; rw [add_block]; exact hn193003_1) | exact hn193003_1) (.string ((rd_T42 l0 x17_1).f1))).trans hx193003_1; replace hx193003_2 := (cell_far (p := ⟨gb193002, 1, none⟩) (by first | (rw [add_block]; exact hn193003_1) | (show (Addr.add _ _).block ≠ _; rw [add_block]; exact hn193003_1) | exact hn193003_1) (.string ((rd_T42 l0 x17_1).f1))).trans hx193003_2; replace hx193003_0 := (cell_far (p := ⟨gb193002, 2, none⟩) (by first | (rw [add_block]; exact hn193003_2) | (show (Addr.add _ _).block ≠ _; rw [add_block]; exact hn193003_2) | exact hn193003_2) (.slice A193001_2 ((rd_T42 l0 x17_1).f2).length c193001_2)).trans hx193003_0; replace hx193003_1 := (cell_far (p := ⟨gb193002, 2, none⟩) (by first | (rw [add_block]; exact hn193003_2) | (show (Addr.add _ _).block ≠ _; rw [add_block]; exact hn193003_2) | exact hn193003_2) (.slice A193001_2 ((rd_T42 l0 x17_1).f2).length c193001_2)).trans hx193003_1; replace hx193003_2 := (cell_far (p := ⟨gb193002, 2, none⟩) (by first | (rw [add_block]; exact hn193003_2) | (show (Addr.add _ _).block ≠ _; rw [add_block]; exact hn193003_2) | exact hn193003_2) (.slice A193001_2 ((rd_T42 l0 x17_1).f2).length c193001_2)).trans hx193003_2; clear hn193003_0; clear hn193003_1; clear hn193003_2; replace p193003 := eq_true p193003; replace q193003 := eq_true q193003) | ((with_reducible refine gate_dst (N := 9) rfl ?_); refine box_event ?hg (N := 9) ?hd (cs := #[.int .i64 0, .string (⟨#[]⟩ : ByteArray), .slice none 0 0]) (t := 42) ?hr ?_; (case hd => rfl); (case hg => rfl); (case hr => first | (go_simp; done) | (go_simp; rfl)); intro gb193004 hg w12 hbox hb; have n0_ := Aside0.mk (blk_below (g := gb193002) (o := .cells #[.int .i64 ((rd_T42 l0 x17_1).f0), .string ((rd_T42 l0 x17_1).f1), .slice A193001_2 ((rd_T42 l0 x17_1).f2).length c193001_2] 42 (0, 0)) (by (with_reducible repeat (first | refine blk_drewN ?_ _ | refine blk_drew ?_ | refine blk_alloc ?_ _)); refine blk_put (cs := #[.int .i64 ((rd_T42 l0 x17_1).f0), .string ((rd_T42 l0 x17_1).f1), .slice none 0 0]) ?_ 2 _ rfl; (with_reducible repeat (first | refine blk_drewN ?_ _ | refine blk_drew ?_ | refine blk_alloc ?_ _)); refine blk_put (cs := #[.int .i64 ((rd_T42 l0 x17_1).f0), .string (⟨#[]⟩ : ByteArray), .slice none 0 0]) ?_ 1 _ rfl; (with_reducible repeat (first | refine blk_drewN ?_ _ | refine blk_drew ?_ | refine blk_alloc ?_ _)); refine blk_put (cs := #[.int .i64 0, .string (⟨#[]⟩ : ByteArray), .slice none 0 0]) ?_ 0 _ rfl; (with_reducible repeat (first | refine blk_drewN ?_ _ | refine blk_drew ?_ | refine blk_alloc ?_ _)); exact BK193002.out) hb); have n1_ := Aside0.mk (below_step (by repeat (first | (with_reducible first | exact HB.out | apply below_alloc | apply pw_below_drewN | apply below_drew1 | refine below_set ?_ GE193002.out) | exact HB.out)) hb); have n2_ := Aside0.mk (hbox); have n3_ := Aside0.mk ((by rw [hg]; exact (below_size (by repeat (first | (with_reducible first | exact HB.out | apply below_alloc | apply pw_below_drewN | apply below_drew1 | refine below_set ?_ GE193002.out) | exact HB.out))) : w.heap.size ≤ gb193004)); have n4_ := Aside0.mk ((by rw [hg]; exact (below_size (by repeat (first | (with_reducible first | exact HB.out | apply below_alloc | apply pw_below_drewN | apply below_drew1 | refine below_set ?_ GE193002.out) | exact HB.out))) : w.heap.size ≤ gb193004)); have n5_ := Aside0.mk ((by rw [hg]; exact Nat.ne_of_lt (blk_lt (g := gb193002) (o := .cells #[.int .i64 ((rd_T42 l0 x17_1).f0), .string ((rd_T42 l0 x17_1).f1), .slice A193001_2 ((rd_T42 l0 x17_1).f2).length c193001_2] 42 (0, 0)) (by (with_reducible repeat (first | refine blk_drewN ?_ _ | refine blk_drew ?_ | refine blk_alloc ?_ _)); refine blk_put (cs := #[.int .i64 ((rd_T42 l0 x17_1).f0), .string ((rd_T42 l0 x17_1).f1), .slice none 0 0]) ?_ 2 _ rfl; (with_reducible repeat (first | refine blk_drewN ?_ _ | refine blk_drew ?_ | refine blk_alloc ?_ _)); refine blk_put (cs := #[.int .i64 ((rd_T42 l0 x17_1).f0), .string (⟨#[]⟩ : ByteArray), .slice none 0 0]) ?_ 1 _ rfl; (with_reducible repeat (first | refine blk_drewN ?_ _ | refine blk_drew ?_ | refine blk_alloc ?_ _)); refine blk_put (cs := #[.int .i64 0, .string (⟨#[]⟩ : ByteArray), .slice none 0 0]) ?_ 0 _ rfl; (with_reducible repeat (first | refine blk_drewN ?_ _ | refine blk_drew ?_ | refine blk_alloc ?_ _)); exact BK193002.out)) : gb193002 ≠ gb193004)); have n6_ := Aside0.mk ((by rw [hg]; exact Nat.ne_of_gt (blk_lt (g := gb193002) (o := .cells #[.int .i64 ((rd_T42 l0 x17_1).f0), .string ((rd_T42 l0 x17_1).f1), .slice A193001_2 ((rd_T42 l0 x17_1).f2).length c193001_2] 42 (0, 0)) (by (with_reducible repeat (first | refine blk_drewN ?_ _ | refine blk_drew ?_ | refine blk_alloc ?_ _)); refine blk_put (cs := #[.int .i64 ((rd_T42 l0 x17_1).f0), .string ((rd_T42 l0 x17_1).f1), .slice none 0 0]) ?_ 2 _ rfl; (with_reducible repeat (first | refine blk_drewN ?_ _ | refine blk_drew ?_ | refine blk_alloc ?_ _)); refine blk_put (cs := #[.int .i64 ((rd_T42 l0 x17_1).f0), .string (⟨#[]⟩ : ByteArray), .slice none 0 0]) ?_ 1 _ rfl; (with_reducible repeat (first | refine blk_drewN ?_ _ | refine blk_drew ?_ | refine blk_alloc ?_ _)); refine blk_put (cs := #[.int .i64 0, .string (⟨#[]⟩ : ByteArray), .slice none 0 0]) ?_ 0 _ rfl; (with_reducible repeat (first | refine blk_drewN ?_ _ | refine blk_drew ?_ | refine blk_alloc ?_ _)); exact BK193002.out)) : gb193004 ≠ gb193002)); clear BK193002; clear HB; have BK193002 := n0_; have HB := n1_; have BK193004 := n2_; have GW193004 := n3_; have GE193004 := n4_; have NB193002_193004 := n5_; have NB193004_193002 := n6_; clear n0_ n1_ n2_ n3_ n4_ n5_ n6_; clear hb hbox hg; have hnb13 := NB193004_193002.out; have hnc13 := NB193002_193004.out; have hcz14_0 : w12.cell? ⟨gb193004, 0, none⟩ = some (.int .i64 0) := (blk_cell BK193004.out 0).trans rfl; have hcz14_1 : w12.cell? ⟨gb193004, 1, none⟩ = some (.string (⟨#[]⟩ : ByteArray)) := (blk_cell BK193004.out 1).trans rfl; have hcz14_2 : w12.cell? ⟨gb193004, 2, none⟩ = some (.slice none 0 0) := (blk_cell BK193004.out 2).trans rfl; have hfz14_0 := blk_frozen BK193004.out 0; have hfz14_1 := blk_frozen BK193004.out 1; have hfz14_2 := blk_frozen BK193004.out 2; have hcz15_0 : w12.cell? ⟨gb193002, 0, none⟩ = some (.int .i64 ((rd_T42 l0 x17_1).f0)) := (blk_cell BK193002.out 0).trans rfl; have hcz15_1 : w12.cell? ⟨gb193002, 1, none⟩ = some (.string ((rd_T42 l0 x17_1).f1)) := (blk_cell BK193002.out 1).trans rfl; have hcz15_2 : w12.cell? ⟨gb193002, 2, none⟩ = some (.slice A193001_2 ((rd_T42 l0 x17_1).f2).length c193001_2) := (blk_cell BK193002.out 2).trans rfl; have hfz15_0 := blk_frozen BK193002.out 0; have hfz15_1 := blk_frozen BK193002.out 1; have hfz15_2 := blk_frozen BK193002.out 2) | ((with_reducible refine gate_dst (N := 29) rfl ?_); refine goesF_ (some 29) rfl rfl Try.func162 (by kernel_rfl) rfl #[.agg #[.int .i64 ((rd_T42 l0 x17_1).f0), .string ((rd_T42 l0 x17_1).f1), .slice A193001_2 ((rd_T42 l0 x17_1).f2).length c193001_2], .agg #[.int .i64 ((rd_T42 l1 x17_1).f0), .string ((rd_T42 l1 x17_1).f1), .slice A193003_2 ((rd_T42 l1 x17_1).f2).length c193003_2]] rfl (by first | rfl | (go_simp; done)) (by (try simp only [List.map_toArray, List.map_cons, List.map_nil]); first | done | rfl | (simp only [List.length_drop, List.length_take]; rfl)) ?_; (with_reducible refine (gC k1 ((rd_T42 l0 x17_1).f0) ((rd_T42 l0 x17_1).f1) _ _ ((rd_T42 l0 x17_1).f2) ((rd_T42 l1 x17_1).f0) ((rd_T42 l1 x17_1).f1) _ _ ((rd_T42 l1 x17_1).f2) true _ ?side1 ?side2 ?side3 ?side4 A8.out).mono ?_); (case side1 => exact Kd.C_below HR193001_2.out (by repeat (first | (with_reducible first | exact HB.out | apply below_alloc | apply pw_below_drewN | apply below_drew1 | refine below_set ?_ GE193002.out | refine below_set ?_ GE193004.out) | exact HB.out))); (case side2 => exact HC193001_2.out); (case side3 => exact Kd.C_below HR193003_2.out (by repeat (first | (with_reducible first | exact HB.out | apply below_alloc | apply pw_below_drewN | apply below_drew1 | refine below_set ?_ GE193002.out | refine below_set ?_ GE193004.out) | exact HB.out))); (case side4 => exact HC193003_2.out); rintro e w16 ⟨rfl, hb⟩; refine ⟨_, rfl, ?_⟩; have n0_ := Aside0.mk (blk_below (g := gb193002) (o := .cells #[.int .i64 ((rd_T42 l0 x17_1).f0), .string ((rd_T42 l0 x17_1).f1), .slice A193001_2 ((rd_T42 l0 x17_1).f2).length c193001_2] 42 (0, 0)) (by (with_reducible repeat (first | refine blk_drewN ?_ _ | refine blk_drew ?_ | refine blk_alloc ?_ _)); refine blk_far ?_ NB193002_193004.out _; (with_reducible repeat (first | refine blk_drewN ?_ _ | refine blk_drew ?_ | refine blk_alloc ?_ _)); refine blk_far ?_ NB193002_193004.out _; (with_reducible repeat (first | refine blk_drewN ?_ _ | refine blk_drew ?_ | refine blk_alloc ?_ _)); refine blk_far ?_ NB193002_193004.out _; (with_reducible repeat (first | refine blk_drewN ?_ _ | refine blk_drew ?_ | refine blk_alloc ?_ _)); exact BK193002.out) hb); have n1_ := Aside0.mk (blk_below (g := gb193004) (o := .cells #[.int .i64 ((rd_T42 l1 x17_1).f0), .string ((rd_T42 l1 x17_1).f1), .slice A193003_2 ((rd_T42 l1 x17_1).f2).length c193003_2] 42 (0, 0)) (by (with_reducible repeat (first | refine blk_drewN ?_ _ | refine blk_drew ?_ | refine blk_alloc ?_ _)); refine blk_put (cs := #[.int .i64 ((rd_T42 l1 x17_1).f0), .string ((rd_T42 l1 x17_1).f1), .slice none 0 0]) ?_ 2 _ rfl; (with_reducible repeat (first | refine blk_drewN ?_ _ | refine blk_drew ?_ | refine blk_alloc ?_ _)); refine blk_put (cs := #[.int .i64 ((rd_T42 l1 x17_1).f0), .string (⟨#[]⟩ : ByteArray), .slice none 0 0]) ?_ 1 _ rfl; (with_reducible repeat (first | refine blk_drewN ?_ _ | refine blk_drew ?_ | refine blk_alloc ?_ _)); refine blk_put (cs := #[.int .i64 0, .string (⟨#[]⟩ : ByteArray), .slice none 0 0]) ?_ 0 _ rfl; (with_reducible repeat (first | refine blk_drewN ?_ _ | refine blk_drew ?_ | refine blk_alloc ?_ _)); exact BK193004.out) hb); have n2_ := Aside0.mk (below_step (by repeat (first | (with_reducible first | exact HB.out | apply below_alloc | apply pw_below_drewN | apply below_drew1 | refine below_set ?_ GE193002.out | refine below_set ?_ GE193004.out) | exact HB.out)) hb); clear BK193002; clear BK193004; clear HB; have BK193002 := n0_; have BK193004 := n1_; have HB := n2_; clear n0_ n1_ n2_; (try clear hb); (try clear hb2); (try clear hk); (try clear hi)))
                  go_roundg k1
                  case measure => have := HK1.out; omega
                  case rel => exact ⟨(wrap64 (x17_1 + 1)), (by first | rfl | (simp; done) | (simp [*]; done)), H', ⟨by have := HK1.out; omega⟩, ⟨by repeat (first | (with_reducible first | exact HB.out | apply below_alloc | apply pw_below_drewN | apply below_drew1 | refine below_set ?_ GE193002.out | refine below_set ?_ GE193004.out) | exact HB.out)⟩⟩
                · replace c9 := Bool.eq_false_iff.mpr c9
                  subst c9
                  have H1 : (some false) = some r := by rw [if_neg (show ¬ (false = true) by decide)] at H; exact H
                  clear H
                  have H := H1
                  clear H1
                  obtain rfl := Option.some.inj H
                  have p193001 : 0 ≤ (x17_1 : Int) := of_decide_eq_true (by first | (with_reducible assumption) | assumption)
                  have q193001 : x17_1 < (l0.length : Int) := of_decide_eq_true (by first | (with_reducible assumption) | assumption)
                  obtain ⟨ad193001, A193001_2, c193001_2, e193001, hx193001_0, hx193001_1, hx193001_2, hl193001_2, hi193001_2⟩ := at_T42 HR0.out x17_1 p193001 q193001
                  cases e193001
                  replace hx193001_0 := (HB.out.cell (World.block_lt_of_cell? w _ hx193001_0)).trans hx193001_0
                  replace hx193001_1 := (HB.out.cell (World.block_lt_of_cell? w _ hx193001_1)).trans hx193001_1
                  replace hx193001_2 := (HB.out.cell (World.block_lt_of_cell? w _ hx193001_2)).trans hx193001_2
                  have HR193001_2 := Aside0.mk hi193001_2
                  have HC193001_2 := Aside0.mk hl193001_2
                  clear hi193001_2 hl193001_2
                  replace p193001 := eq_true p193001
                  replace q193001 := eq_true q193001
                  go_wp2_with (first | ((with_reducible refine gate_dst (N := 8) rfl ?_); refine box_event ?hg (N := 8) ?hd (cs := #[.int .i64 0, .string (⟨#[]⟩ : ByteArray), .slice none 0 0]) (t := 42) ?hr ?_; (case hd => rfl); (case hg => rfl); (case hr => first | (go_simp; done) | (go_simp; rfl)); intro gb193002 hg w17 hbox hb; have n0_ := Aside0.mk (below_step (by repeat (first | (with_reducible first | exact HB.out | apply below_alloc | apply pw_below_drewN | apply below_drew1) | exact HB.out)) hb); have n1_ := Aside0.mk (hbox); have n2_ := Aside0.mk ((by rw [hg]; exact (below_size (by repeat (first | (with_reducible first | exact HB.out | apply below_alloc | apply pw_below_drewN | apply below_drew1) | exact HB.out))) : w.heap.size ≤ gb193002)); have n3_ := Aside0.mk ((by rw [hg]; exact (below_size (by repeat (first | (with_reducible first | exact HB.out | apply below_alloc | apply pw_below_drewN | apply below_drew1) | exact HB.out))) : w.heap.size ≤ gb193002)); clear HB; have HB := n0_; have BK193002 := n1_; have GW193002 := n2_; have GE193002 := n3_; clear n0_ n1_ n2_ n3_; clear hb hbox hg; have hcz18_0 : w17.cell? ⟨gb193002, 0, none⟩ = some (.int .i64 0) := (blk_cell BK193002.out 0).trans rfl; have hcz18_1 : w17.cell? ⟨gb193002, 1, none⟩ = some (.string (⟨#[]⟩ : ByteArray)) := (blk_cell BK193002.out 1).trans rfl; have hcz18_2 : w17.cell? ⟨gb193002, 2, none⟩ = some (.slice none 0 0) := (blk_cell BK193002.out 2).trans rfl; have hfz18_0 := blk_frozen BK193002.out 0; have hfz18_1 := blk_frozen BK193002.out 1; have hfz18_2 := blk_frozen BK193002.out 2; have p193003 : 0 ≤ (x17_1 : Int) := of_decide_eq_true (by first | (with_reducible assumption) | assumption); have q193003 : x17_1 < (l1.length : Int) := of_decide_eq_true (by first | (with_reducible assumption) | assumption); obtain ⟨ad193003, A193003_2, c193003_2, e193003, hx193003_0, hx193003_1, hx193003_2, hl193003_2, hi193003_2⟩ := at_T42 HR1.out x17_1 p193003 q193003; cases e193003; have hn193003_0 : ad193003.block ≠ gb193002 := Nat.ne_of_lt (Nat.lt_of_lt_of_le (by have := World.block_lt_of_cell? _ _ hx193003_0; first | rwa [add_block] at this | exact this) GW193002.out); have hn193003_1 : ad193003.block ≠ gb193002 := Nat.ne_of_lt (Nat.lt_of_lt_of_le (by have := World.block_lt_of_cell? _ _ hx193003_0; first | rwa [add_block] at this | exact this) GW193002.out); have hn193003_2 : ad193003.block ≠ gb193002 := Nat.ne_of_lt (Nat.lt_of_lt_of_le (by have := World.block_lt_of_cell? _ _ hx193003_0; first | rwa [add_block] at this | exact this) GW193002.out); replace hx193003_0 := (HB.out.cell (World.block_lt_of_cell? w _ hx193003_0)).trans hx193003_0; replace hx193003_1 := (HB.out.cell (World.block_lt_of_cell? w _ hx193003_1)).trans hx193003_1; replace hx193003_2 := (HB.out.cell (World.block_lt_of_cell? w _ hx193003_2)).trans hx193003_2; have HR193003_2 := Aside0.mk hi193003_2; have HC193003_2 := Aside0.mk hl193003_2; clear hi193003_2 hl193003_2; replace hx193003_0 := (cell_far (p := ⟨gb193002, 0, none⟩) (by first | (rw [add_block]; exact hn193003_0) | (show (Addr.add _ _).block ≠ _; rw [add_block]; exact hn193003_0) | exact hn193003_0) (.int .i64 ((rd_T42 l0 x17_1).f0))).trans hx193003_0; replace hx193003_1 := (cell_far (p := ⟨gb193002, 0, none⟩) (by first | (rw [add_block]; exact hn193003_0) | (show (Addr.add _ _).block ≠ _; rw [add_block]; exact hn193003_0) | exact hn193003_0) (.int .i64 ((rd_T42 l0 x17_1).f0))).trans hx193003_1; replace hx193003_2 := (cell_far (p := ⟨gb193002, 0, none⟩) (by first | (rw [add_block]; exact hn193003_0) | (show (Addr.add _ _).block ≠ _; rw [add_block]; exact hn193003_0) | exact hn193003_0) (.int .i64 ((rd_T42 l0 x17_1).f0))).trans hx193003_2; replace hx193003_0 := (cell_far (p := ⟨gb193002, 1, none⟩) (by first | (rw [add_block]; exact hn193003_1) | (show (Addr.add _ _).block ≠ _; rw [add_block]; exact hn193003_1) | exact hn193003_1) (.string ((rd_T42 l0 x17_1).f1))).trans hx193003_0; replace hx193003_1 := (cell_far (p := ⟨gb193002, 1, none⟩) (by first | (rw [add_block]; exact hn193003_1) | (show (Addr.add _ _).block ≠ _; rw [add_block]; exact hn193003_1) | exact hn193003_1) (.string ((rd_T42 l0 x17_1).f1))).trans hx193003_1; replace hx193003_2 := (cell_far (p := ⟨gb193002, 1, none⟩) (by first | (rw [add_block]; exact hn193003_1) | (show (Addr.add _ _).block ≠ _; rw [add_block]; exact hn193003_1) | exact hn193003_1) (.string ((rd_T42 l0 x17_1).f1))).trans hx193003_2; replace hx193003_0 := (cell_far (p := ⟨gb193002, 2, none⟩) (by first | (rw [add_block]; exact hn193003_2) | (show (Addr.add _ _).block ≠ _; rw [add_block]; exact hn193003_2) | exact hn193003_2) (.slice A193001_2 ((rd_T42 l0 x17_1).f2).length c193001_2)).trans hx193003_0; replace hx193003_1 := (cell_far (p := ⟨gb193002, 2, none⟩) (by first | (rw [add_block]; exact hn193003_2) | (show (Addr.add _ _).block ≠ _; rw [add_block]; exact hn193003_2) | exact hn193003_2) (.slice A193001_2 ((rd_T42 l0 x17_1).f2).length c193001_2)).trans hx193003_1; replace hx193003_2 := (cell_far (p := ⟨gb193002, 2, none⟩) (by first | (rw [add_block]; exact hn193003_2) | (show (Addr.add _ _).block ≠ _; rw [add_block]; exact hn193003_2) | exact hn193003_2) (.slice A193001_2 ((rd_T42 l0 x17_1).f2).length c193001_2)).trans hx193003_2; clear hn193003_0; clear hn193003_1; clear hn193003_2; replace p193003 := eq_true p193003; replace q193003 := eq_true q193003) | ((with_reducible refine gate_dst (N := 9) rfl ?_); refine box_event ?hg (N := 9) ?hd (cs := #[.int .i64 0, .string (⟨#[]⟩ : ByteArray), .slice none 0 0]) (t := 42) ?hr ?_; (case hd => rfl); (case hg => rfl); (case hr => first | (go_simp; done) | (go_simp; rfl)); intro gb193004 hg w19 hbox hb; have n0_ := Aside0.mk (blk_below (g := gb193002) (o := .cells #[.int .i64 ((rd_T42 l0 x17_1).f0), .string ((rd_T42 l0 x17_1).f1), .slice A193001_2 ((rd_T42 l0 x17_1).f2).length c193001_2] 42 (0, 0)) (by (with_reducible repeat (first | refine blk_drewN ?_ _ | refine blk_drew ?_ | refine blk_alloc ?_ _)); refine blk_put (cs := #[.int .i64 ((rd_T42 l0 x17_1).f0), .string ((rd_T42 l0 x17_1).f1), .slice none 0 0]) ?_ 2 _ rfl; (with_reducible repeat (first | refine blk_drewN ?_ _ | refine blk_drew ?_ | refine blk_alloc ?_ _)); refine blk_put (cs := #[.int .i64 ((rd_T42 l0 x17_1).f0), .string (⟨#[]⟩ : ByteArray), .slice none 0 0]) ?_ 1 _ rfl; (with_reducible repeat (first | refine blk_drewN ?_ _ | refine blk_drew ?_ | refine blk_alloc ?_ _)); refine blk_put (cs := #[.int .i64 0, .string (⟨#[]⟩ : ByteArray), .slice none 0 0]) ?_ 0 _ rfl; (with_reducible repeat (first | refine blk_drewN ?_ _ | refine blk_drew ?_ | refine blk_alloc ?_ _)); exact BK193002.out) hb); have n1_ := Aside0.mk (below_step (by repeat (first | (with_reducible first | exact HB.out | apply below_alloc | apply pw_below_drewN | apply below_drew1 | refine below_set ?_ GE193002.out) | exact HB.out)) hb); have n2_ := Aside0.mk (hbox); have n3_ := Aside0.mk ((by rw [hg]; exact (below_size (by repeat (first | (with_reducible first | exact HB.out | apply below_alloc | apply pw_below_drewN | apply below_drew1 | refine below_set ?_ GE193002.out) | exact HB.out))) : w.heap.size ≤ gb193004)); have n4_ := Aside0.mk ((by rw [hg]; exact (below_size (by repeat (first | (with_reducible first | exact HB.out | apply below_alloc | apply pw_below_drewN | apply below_drew1 | refine below_set ?_ GE193002.out) | exact HB.out))) : w.heap.size ≤ gb193004)); have n5_ := Aside0.mk ((by rw [hg]; exact Nat.ne_of_lt (blk_lt (g := gb193002) (o := .cells #[.int .i64 ((rd_T42 l0 x17_1).f0), .string ((rd_T42 l0 x17_1).f1), .slice A193001_2 ((rd_T42 l0 x17_1).f2).length c193001_2] 42 (0, 0)) (by (with_reducible repeat (first | refine blk_drewN ?_ _ | refine blk_drew ?_ | refine blk_alloc ?_ _)); refine blk_put (cs := #[.int .i64 ((rd_T42 l0 x17_1).f0), .string ((rd_T42 l0 x17_1).f1), .slice none 0 0]) ?_ 2 _ rfl; (with_reducible repeat (first | refine blk_drewN ?_ _ | refine blk_drew ?_ | refine blk_alloc ?_ _)); refine blk_put (cs := #[.int .i64 ((rd_T42 l0 x17_1).f0), .string (⟨#[]⟩ : ByteArray), .slice none 0 0]) ?_ 1 _ rfl; (with_reducible repeat (first | refine blk_drewN ?_ _ | refine blk_drew ?_ | refine blk_alloc ?_ _)); refine blk_put (cs := #[.int .i64 0, .string (⟨#[]⟩ : ByteArray), .slice none 0 0]) ?_ 0 _ rfl; (with_reducible repeat (first | refine blk_drewN ?_ _ | refine blk_drew ?_ | refine blk_alloc ?_ _)); exact BK193002.out)) : gb193002 ≠ gb193004)); have n6_ := Aside0.mk ((by rw [hg]; exact Nat.ne_of_gt (blk_lt (g := gb193002) (o := .cells #[.int .i64 ((rd_T42 l0 x17_1).f0), .string ((rd_T42 l0 x17_1).f1), .slice A193001_2 ((rd_T42 l0 x17_1).f2).length c193001_2] 42 (0, 0)) (by (with_reducible repeat (first | refine blk_drewN ?_ _ | refine blk_drew ?_ | refine blk_alloc ?_ _)); refine blk_put (cs := #[.int .i64 ((rd_T42 l0 x17_1).f0), .string ((rd_T42 l0 x17_1).f1), .slice none 0 0]) ?_ 2 _ rfl; (with_reducible repeat (first | refine blk_drewN ?_ _ | refine blk_drew ?_ | refine blk_alloc ?_ _)); refine blk_put (cs := #[.int .i64 ((rd_T42 l0 x17_1).f0), .string (⟨#[]⟩ : ByteArray), .slice none 0 0]) ?_ 1 _ rfl; (with_reducible repeat (first | refine blk_drewN ?_ _ | refine blk_drew ?_ | refine blk_alloc ?_ _)); refine blk_put (cs := #[.int .i64 0, .string (⟨#[]⟩ : ByteArray), .slice none 0 0]) ?_ 0 _ rfl; (with_reducible repeat (first | refine blk_drewN ?_ _ | refine blk_drew ?_ | refine blk_alloc ?_ _)); exact BK193002.out)) : gb193004 ≠ gb193002)); clear BK193002; clear HB; have BK193002 := n0_; have HB := n1_; have BK193004 := n2_; have GW193004 := n3_; have GE193004 := n4_; have NB193002_193004 := n5_; have NB193004_193002 := n6_; clear n0_ n1_ n2_ n3_ n4_ n5_ n6_; clear hb hbox hg; have hnb20 := NB193004_193002.out; have hnc20 := NB193002_193004.out; have hcz21_0 : w19.cell? ⟨gb193004, 0, none⟩ = some (.int .i64 0) := (blk_cell BK193004.out 0).trans rfl; have hcz21_1 : w19.cell? ⟨gb193004, 1, none⟩ = some (.string (⟨#[]⟩ : ByteArray)) := (blk_cell BK193004.out 1).trans rfl; have hcz21_2 : w19.cell? ⟨gb193004, 2, none⟩ = some (.slice none 0 0) := (blk_cell BK193004.out 2).trans rfl; have hfz21_0 := blk_frozen BK193004.out 0; have hfz21_1 := blk_frozen BK193004.out 1; have hfz21_2 := blk_frozen BK193004.out 2; have hcz22_0 : w19.cell? ⟨gb193002, 0, none⟩ = some (.int .i64 ((rd_T42 l0 x17_1).f0)) := (blk_cell BK193002.out 0).trans rfl; have hcz22_1 : w19.cell? ⟨gb193002, 1, none⟩ = some (.string ((rd_T42 l0 x17_1).f1)) := (blk_cell BK193002.out 1).trans rfl; have hcz22_2 : w19.cell? ⟨gb193002, 2, none⟩ = some (.slice A193001_2 ((rd_T42 l0 x17_1).f2).length c193001_2) := (blk_cell BK193002.out 2).trans rfl; have hfz22_0 := blk_frozen BK193002.out 0; have hfz22_1 := blk_frozen BK193002.out 1; have hfz22_2 := blk_frozen BK193002.out 2) | ((with_reducible refine gate_dst (N := 29) rfl ?_); refine goesF_ (some 29) rfl rfl Try.func162 (by kernel_rfl) rfl #[.agg #[.int .i64 ((rd_T42 l0 x17_1).f0), .string ((rd_T42 l0 x17_1).f1), .slice A193001_2 ((rd_T42 l0 x17_1).f2).length c193001_2], .agg #[.int .i64 ((rd_T42 l1 x17_1).f0), .string ((rd_T42 l1 x17_1).f1), .slice A193003_2 ((rd_T42 l1 x17_1).f2).length c193003_2]] rfl (by first | rfl | (go_simp; done)) (by (try simp only [List.map_toArray, List.map_cons, List.map_nil]); first | done | rfl | (simp only [List.length_drop, List.length_take]; rfl)) ?_; (with_reducible refine (gC k1 ((rd_T42 l0 x17_1).f0) ((rd_T42 l0 x17_1).f1) _ _ ((rd_T42 l0 x17_1).f2) ((rd_T42 l1 x17_1).f0) ((rd_T42 l1 x17_1).f1) _ _ ((rd_T42 l1 x17_1).f2) false _ ?side1 ?side2 ?side3 ?side4 A8.out).mono ?_); (case side1 => exact Kd.C_below HR193001_2.out (by repeat (first | (with_reducible first | exact HB.out | apply below_alloc | apply pw_below_drewN | apply below_drew1 | refine below_set ?_ GE193002.out | refine below_set ?_ GE193004.out) | exact HB.out))); (case side2 => exact HC193001_2.out); (case side3 => exact Kd.C_below HR193003_2.out (by repeat (first | (with_reducible first | exact HB.out | apply below_alloc | apply pw_below_drewN | apply below_drew1 | refine below_set ?_ GE193002.out | refine below_set ?_ GE193004.out) | exact HB.out))); (case side4 => exact HC193003_2.out); rintro e w23 ⟨rfl, hb⟩; refine ⟨_, rfl, ?_⟩; have n0_ := Aside0.mk (blk_below (g := gb193002) (o := .cells #[.int .i64 ((rd_T42 l0 x17_1).f0), .string ((rd_T42 l0 x17_1).f1), .slice A193001_2 ((rd_T42 l0 x17_1).f2).length c193001_2] 42 (0, 0)) (by (with_reducible repeat (first | refine blk_drewN ?_ _ | refine blk_drew ?_ | refine blk_alloc ?_ _)); refine blk_far ?_ NB193002_193004.out _; (with_reducible repeat (first | refine blk_drewN ?_ _ | refine blk_drew ?_ | refine blk_alloc ?_ _)); refine blk_far ?_ NB193002_193004.out _; (with_reducible repeat (first | refine blk_drewN ?_ _ | refine blk_drew ?_ | refine blk_alloc ?_ _)); refine blk_far ?_ NB193002_193004.out _; (with_reducible repeat (first | refine blk_drewN ?_ _ | refine blk_drew ?_ | refine blk_alloc ?_ _)); exact BK193002.out) hb); have n1_ := Aside0.mk (blk_below (g := gb193004) (o := .cells #[.int .i64 ((rd_T42 l1 x17_1).f0), .string ((rd_T42 l1 x17_1).f1), .slice A193003_2 ((rd_T42 l1 x17_1).f2).length c193003_2] 42 (0, 0)) (by (with_reducible repeat (first | refine blk_drewN ?_ _ | refine blk_drew ?_ | refine blk_alloc ?_ _)); refine blk_put (cs := #[.int .i64 ((rd_T42 l1 x17_1).f0), .string ((rd_T42 l1 x17_1).f1), .slice none 0 0]) ?_ 2 _ rfl; (with_reducible repeat (first | refine blk_drewN ?_ _ | refine blk_drew ?_ | refine blk_alloc ?_ _)); refine blk_put (cs := #[.int .i64 ((rd_T42 l1 x17_1).f0), .string (⟨#[]⟩ : ByteArray), .slice none 0 0]) ?_ 1 _ rfl; (with_reducible repeat (first | refine blk_drewN ?_ _ | refine blk_drew ?_ | refine blk_alloc ?_ _)); refine blk_put (cs := #[.int .i64 0, .string (⟨#[]⟩ : ByteArray), .slice none 0 0]) ?_ 0 _ rfl; (with_reducible repeat (first | refine blk_drewN ?_ _ | refine blk_drew ?_ | refine blk_alloc ?_ _)); exact BK193004.out) hb); have n2_ := Aside0.mk (below_step (by repeat (first | (with_reducible first | exact HB.out | apply below_alloc | apply pw_below_drewN | apply below_drew1 | refine below_set ?_ GE193002.out | refine below_set ?_ GE193004.out) | exact HB.out)) hb); clear BK193002; clear BK193004; clear HB; have BK193002 := n0_; have BK193004 := n1_; have HB := n2_; clear n0_ n1_ n2_; (try clear hb); (try clear hb2); (try clear hk); (try clear hi)))
                  go_ret
                  exact ⟨by first | rfl | (simp [errW_none, errW_some] <;> rfl) | (simp [*, errW_none, errW_some] <;> rfl), by repeat (first | (with_reducible first | exact HB.out | apply below_alloc | apply pw_below_drewN | apply below_drew1 | refine below_set ?_ GE193002.out | refine below_set ?_ GE193004.out) | exact HB.out)⟩
              · rw [if_neg c7] at H
                exact absurd H (by simp)
            · rw [if_neg c6] at H
              exact absurd H (by simp)
          · rw [if_neg c5] at H
            exact absurd H (by simp)
        · rw [if_neg c4] at H
          have c4b0 : decide (x17_1 < (l0.length : Int)) = false := decide_eq_false c4
          clear c4
          obtain rfl := Option.some.inj H
          go_wp2
          go_ret
          exact ⟨by first | rfl | (simp [errW_none, errW_some] <;> rfl) | (simp [*, errW_none, errW_some] <;> rfl), by repeat (first | (with_reducible first | exact HB.out | apply below_alloc | apply pw_below_drewN | apply below_drew1) | exact HB.out)⟩
  · rw [if_neg c3] at H
    have c3b0 : ((l0.length : Int) == (l1.length : Int)) = false := beq_eq_false_iff_ne.mpr c3
    have c3b1 : ((l0.length : Int) != (l1.length : Int)) = true := bne_iff_ne.mpr c3
    have c3b2 : (l0.length == l1.length) = false := by first | simpa using c3 | (simp at c3 ⊢; omega)
    obtain rfl := Option.some.inj H
    go_enter Try.func193, Try.ntmps193
    go_wp2
    go_ret
    exact ⟨by first | rfl | (simp [errW_none, errW_some] <;> rfl) | (simp [*, errW_none, errW_some] <;> rfl), by repeat (first | (with_reducible first | exact HB.out | apply below_alloc | apply pw_below_drewN | apply below_drew1) | exact HB.out)⟩
theorem impl_RegexG.mono_lg (gF gF2 : Nat → Int → ByteArray → List (S42) → Int → ByteArray → List (S42) → Option (Bool)) (hg : ∀ b0 b1 b2 b3 b4 b5 k, LeO (gF k b0 b1 b2 b3 b4 b5) (gF2 k b0 b1 b2 b3 b4 b5)) : ∀ k, (∀ y0 y1 y2 y3, LeO (impl_RegexG.l0 gF k y0 y1 y2 y3) (impl_RegexG.l0 gF2 k y0 y1 y2 y3))
  | 0 => fun _ _ _ _ r h => by simp [impl_RegexG.l0] at h
  | k + 1 => by
    have ih0 := impl_RegexG.mono_lg gF gF2 hg k
    · intro y0 y1 y2 y3
      unfold impl_RegexG.l0
      repeat' first
      | (with_reducible exact ih0 _ _ _ _)
      | (with_reducible exact hg _ _ _ _ _ _ _)
      | (with_reducible exact LeO.refl _)
      | (with_reducible exact LeO.none _)
      | (with_reducible refine LeO.ite ?_ ?_)
      | (with_reducible refine LeO.bind ?_ (fun _ => ?_))
      | exact ih0 _ _ _ _
      | exact hg _ _ _ _ _ _ _
      | exact LeO.none _
      | refine LeO.ite ?_ ?_
      | refine LeO.bind ?_ (fun _ => ?_)
theorem impl_RegexG.monog (gF gF2 : Nat → Int → ByteArray → List (S42) → Int → ByteArray → List (S42) → Option (Bool)) (hg : ∀ b0 b1 b2 b3 b4 b5 k, LeO (gF k b0 b1 b2 b3 b4 b5) (gF2 k b0 b1 b2 b3 b4 b5)) : ∀ a0 a1 k, LeO (impl_RegexG.f gF k a0 a1) (impl_RegexG.f gF2 k a0 a1) := by
  intro a0 a1 k
  have ih0 := impl_RegexG.mono_lg gF gF2 hg k
  unfold impl_RegexG.f
  repeat' first
      | (with_reducible exact ih0 _ _ _ _)
      | (with_reducible exact hg _ _ _ _ _ _ _)
      | (with_reducible exact LeO.refl _)
      | (with_reducible exact LeO.none _)
      | (with_reducible refine LeO.ite ?_ ?_)
      | (with_reducible refine LeO.bind ?_ (fun _ => ?_))
      | exact ih0 _ _ _ _
      | exact hg _ _ _ _ _ _ _
      | exact LeO.none _
      | refine LeO.ite ?_ ?_
      | refine LeO.bind ?_ (fun _ => ?_)
/-! ### impl_EqualRegex: function 162 -/
def impl_EqualRegexG.f (gF : Nat → Int → ByteArray → List (S42) → Int → ByteArray → List (S42) → Option (Bool)) (k : Nat) (a0_0 : Int) (a0_1 : ByteArray) (l0_2 : List (S42)) (a1_0 : Int) (a1_1 : ByteArray) (l1_2 : List (S42)) : Option (Bool) := if a0_0 = a1_0 then (if a0_1.toList = a1_1.toList then ((impl_RegexG.f gF k l0_2 l1_2).bind fun t162003 => (some t162003)) else (some false)) else (some false)
theorem impl_EqualRegexG.mono (gF : Nat → Int → ByteArray → List (S42) → Int → ByteArray → List (S42) → Option (Bool)) (gM : ∀ a0 a1 a2 a3 a4 a5 k, LeO (gF k a0 a1 a2 a3 a4 a5) (gF (k + 1) a0 a1 a2 a3 a4 a5)) : ∀ a0 a1 a2 a3 a4 a5 k, LeO (impl_EqualRegexG.f gF k a0 a1 a2 a3 a4 a5) (impl_EqualRegexG.f gF (k + 1) a0 a1 a2 a3 a4 a5) := by
  intro a0 a1 a2 a3 a4 a5 k
  unfold impl_EqualRegexG.f
  repeat' first
      | (with_reducible exact impl_RegexG.mono gF gM _ _ _)
      | (with_reducible exact LeO.refl _)
      | (with_reducible exact LeO.none _)
      | (with_reducible refine LeO.ite ?_ ?_)
      | (with_reducible refine LeO.bind ?_ (fun _ => ?_))
      | exact impl_RegexG.mono gF gM _ _ _
      | exact LeO.none _
      | refine LeO.ite ?_ ?_
      | refine LeO.bind ?_ (fun _ => ?_)
set_option maxHeartbeats 8000000 in
set_option maxRecDepth 100000 in
theorem impl_EqualRegexG.calls (gF : Nat → Int → ByteArray → List (S42) → Int → ByteArray → List (S42) → Option (Bool)) (gC : ∀ (k : Nat) (a0_0 : Int) (a0_1 : ByteArray) (A0_2 : Option Addr) (c0_2 : Nat) (l0_2 : List (S42)) (a1_0 : Int) (a1_1 : ByteArray) (A1_2 : Option Addr) (c1_2 : Nat) (l1_2 : List (S42)) (r : Bool) (w : World) (hr0_2 : Kd.C k42 w A0_2 l0_2.length l0_2) (hc0_2 : l0_2.length ≤ c0_2) (hr1_2 : Kd.C k42 w A1_2 l1_2.length l1_2) (hc1_2 : l1_2.length ≤ c1_2) (h : gF k a0_0 a0_1 l0_2 a1_0 a1_1 l1_2 = some r), Calls Try.prog 162 #[.agg #[.int .i64 a0_0, .string a0_1, .slice A0_2 l0_2.length c0_2], .agg #[.int .i64 a1_0, .string a1_1, .slice A1_2 l1_2.length c1_2]] w fun e w' => e = .returned (.bool r) ∧ Below w.heap.size w w') (k : Nat) (a0_0 : Int) (a0_1 : ByteArray) (A0_2 : Option Addr) (c0_2 : Nat) (l0_2 : List (S42)) (a1_0 : Int) (a1_1 : ByteArray) (A1_2 : Option Addr) (c1_2 : Nat) (l1_2 : List (S42)) (r : Bool) (w : World) (hr0_2 : Kd.C k42 w A0_2 l0_2.length l0_2) (hc0_2 : l0_2.length ≤ c0_2) (hr1_2 : Kd.C k42 w A1_2 l1_2.length l1_2) (hc1_2 : l1_2.length ≤ c1_2) (h : impl_EqualRegexG.f gF k a0_0 a0_1 l0_2 a1_0 a1_1 l1_2 = some r) :
    Calls Try.prog 162 #[.agg #[.int .i64 a0_0, .string a0_1, .slice A0_2 l0_2.length c0_2], .agg #[.int .i64 a1_0, .string a1_1, .slice A1_2 l1_2.length c1_2]] w fun e w' => e = .returned (.bool r) ∧ Below w.heap.size w w' := by
  have hu42 := Try.underlying42
  have HR0_2 := Aside0.mk hr0_2
  have HC0_2 := Aside0.mk hc0_2
  clear hr0_2 hc0_2
  have HR1_2 := Aside0.mk hr1_2
  have HC1_2 := Aside0.mk hc1_2
  clear hr1_2 hc1_2
  have HB := Aside0.mk (Below.refl w.heap.size w)
  have H : (if a0_0 = a1_0 then (if a0_1.toList = a1_1.toList then ((impl_RegexG.f gF k l0_2 l1_2).bind fun t162003 => (some t162003)) else (some false)) else (some false)) = some r := h
  clear h
  by_cases c3 : a0_0 = a1_0
  · rw [if_pos c3] at H
    have c3b0 : (a0_0 == a1_0) = true := beq_iff_eq.mpr c3
    have c3b1 : (a0_0 != a1_0) = false := bne_eq_false_iff_eq.mpr c3
    clear c3
    by_cases c4 : a0_1.toList = a1_1.toList
    · rw [if_pos c4] at H
      have c4b0 : (a0_1.toList == a1_1.toList) = true := beq_iff_eq.mpr c4
      have c4b1 : (a0_1.toList != a1_1.toList) = false := bne_eq_false_iff_eq.mpr c4
      clear c4
      replace H := Option.bind_eq_some_iff.mp H
      obtain ⟨t162003, A50, H⟩ := H
      replace H : (some t162003) = some r := H
      have A5 := Aside0.mk A50
      clear A50
      obtain rfl := Option.some.inj H
      go_enter Try.func162, Try.ntmps162
      go_wp2_with (first | ((with_reducible refine gate_dst (N := 2) rfl ?_); refine box_event ?hg (N := 2) ?hd (cs := #[.int .i64 a0_0, .string a0_1, .slice A0_2 l0_2.length c0_2]) (t := 42) ?hr ?_; (case hd => rfl); (case hg => rfl); (case hr => first | (go_simp; done) | (go_simp; rfl)); intro gb162001 hg w6 hbox hb; have n0_ := Aside0.mk (below_step (by repeat (first | (with_reducible first | exact HB.out | apply below_alloc | apply pw_below_drewN | apply below_drew1) | exact HB.out)) hb); have n1_ := Aside0.mk (hbox); have n2_ := Aside0.mk ((by rw [hg]; exact (below_size (by repeat (first | (with_reducible first | exact HB.out | apply below_alloc | apply pw_below_drewN | apply below_drew1) | exact HB.out))) : w.heap.size ≤ gb162001)); have n3_ := Aside0.mk ((by rw [hg]; exact (below_size (by repeat (first | (with_reducible first | exact HB.out | apply below_alloc | apply pw_below_drewN | apply below_drew1) | exact HB.out))) : w.heap.size ≤ gb162001)); clear HB; have HB := n0_; have BK162001 := n1_; have GW162001 := n2_; have GE162001 := n3_; clear n0_ n1_ n2_ n3_; clear hb hbox hg) | ((with_reducible refine gate_dst (N := 3) rfl ?_); refine box_event ?hg (N := 3) ?hd (cs := #[.int .i64 a1_0, .string a1_1, .slice A1_2 l1_2.length c1_2]) (t := 42) ?hr ?_; (case hd => rfl); (case hg => rfl); (case hr => first | (go_simp; done) | (go_simp; rfl)); intro gb162002 hg w7 hbox hb; have n0_ := Aside0.mk (blk_below (g := gb162001) (o := .cells #[.int .i64 a0_0, .string a0_1, .slice A0_2 l0_2.length c0_2] 42 (0, 0)) (by (with_reducible repeat (first | refine blk_drewN ?_ _ | refine blk_drew ?_ | refine blk_alloc ?_ _)); exact BK162001.out) hb); have n1_ := Aside0.mk (below_step (by repeat (first | (with_reducible first | exact HB.out | apply below_alloc | apply pw_below_drewN | apply below_drew1 | refine below_set ?_ GE162001.out) | exact HB.out)) hb); have n2_ := Aside0.mk (hbox); have n3_ := Aside0.mk ((by rw [hg]; exact (below_size (by repeat (first | (with_reducible first | exact HB.out | apply below_alloc | apply pw_below_drewN | apply below_drew1 | refine below_set ?_ GE162001.out) | exact HB.out))) : w.heap.size ≤ gb162002)); have n4_ := Aside0.mk ((by rw [hg]; exact (below_size (by repeat (first | (with_reducible first | exact HB.out | apply below_alloc | apply pw_below_drewN | apply below_drew1 | refine below_set ?_ GE162001.out) | exact HB.out))) : w.heap.size ≤ gb162002)); have n5_ := Aside0.mk ((by rw [hg]; exact Nat.ne_of_lt (blk_lt (g := gb162001) (o := .cells #[.int .i64 a0_0, .string a0_1, .slice A0_2 l0_2.length c0_2] 42 (0, 0)) (by (with_reducible repeat (first | refine blk_drewN ?_ _ | refine blk_drew ?_ | refine blk_alloc ?_ _)); exact BK162001.out)) : gb162001 ≠ gb162002)); have n6_ := Aside0.mk ((by rw [hg]; exact Nat.ne_of_gt (blk_lt (g := gb162001) (o := .cells #[.int .i64 a0_0, .string a0_1, .slice A0_2 l0_2.length c0_2] 42 (0, 0)) (by (with_reducible repeat (first | refine blk_drewN ?_ _ | refine blk_drew ?_ | refine blk_alloc ?_ _)); exact BK162001.out)) : gb162002 ≠ gb162001)); clear BK162001; clear HB; have BK162001 := n0_; have HB := n1_; have BK162002 := n2_; have GW162002 := n3_; have GE162002 := n4_; have NB162001_162002 := n5_; have NB162002_162001 := n6_; clear n0_ n1_ n2_ n3_ n4_ n5_ n6_; clear hb hbox hg; have hnb8 := NB162001_162002.out; have hnc8 := NB162002_162001.out; have hcz9_0 : w7.cell? ⟨gb162001, 0, none⟩ = some (.int .i64 a0_0) := (blk_cell BK162001.out 0).trans rfl; have hcz9_1 : w7.cell? ⟨gb162001, 1, none⟩ = some (.string a0_1) := (blk_cell BK162001.out 1).trans rfl; have hcz9_2 : w7.cell? ⟨gb162001, 2, none⟩ = some (.slice A0_2 l0_2.length c0_2) := (blk_cell BK162001.out 2).trans rfl; have hfz9_0 := blk_frozen BK162001.out 0; have hfz9_1 := blk_frozen BK162001.out 1; have hfz9_2 := blk_frozen BK162001.out 2; have hcz10_0 : w7.cell? ⟨gb162002, 0, none⟩ = some (.int .i64 a1_0) := (blk_cell BK162002.out 0).trans rfl; have hcz10_1 : w7.cell? ⟨gb162002, 1, none⟩ = some (.string a1_1) := (blk_cell BK162002.out 1).trans rfl; have hcz10_2 : w7.cell? ⟨gb162002, 2, none⟩ = some (.slice A1_2 l1_2.length c1_2) := (blk_cell BK162002.out 2).trans rfl; have hfz10_0 := blk_frozen BK162002.out 0; have hfz10_1 := blk_frozen BK162002.out 1; have hfz10_2 := blk_frozen BK162002.out 2) | (go_at_call 193; (with_reducible refine (impl_RegexG.calls gF gC k _ _ l0_2 _ _ l1_2 t162003 _ ?side1 ?side2 ?side3 ?side4 A5.out).mono ?_); (case side1 => repeat (first | exact (Kd.C_below HR0_2.out HB.out) | (with_reducible refine Kd.C_alloc ?_ _) | (with_reducible refine Kd.C_drewN ?_ _) | (with_reducible refine Kd.C_drew ?_))); (case side2 => exact HC0_2.out); (case side3 => repeat (first | exact (Kd.C_below HR1_2.out HB.out) | (with_reducible refine Kd.C_alloc ?_ _) | (with_reducible refine Kd.C_drewN ?_ _) | (with_reducible refine Kd.C_drew ?_))); (case side4 => exact HC1_2.out); rintro e w11 ⟨rfl, hb⟩; have n0_ := Aside0.mk (blk_below (g := gb162001) (o := .cells #[.int .i64 a0_0, .string a0_1, .slice A0_2 l0_2.length c0_2] 42 (0, 0)) (by (with_reducible repeat (first | refine blk_drewN ?_ _ | refine blk_drew ?_ | refine blk_alloc ?_ _)); exact BK162001.out) hb); have n1_ := Aside0.mk (blk_below (g := gb162002) (o := .cells #[.int .i64 a1_0, .string a1_1, .slice A1_2 l1_2.length c1_2] 42 (0, 0)) (by (with_reducible repeat (first | refine blk_drewN ?_ _ | refine blk_drew ?_ | refine blk_alloc ?_ _)); exact BK162002.out) hb); have n2_ := Aside0.mk (below_step (by repeat (first | (with_reducible first | exact HB.out | apply below_alloc | apply pw_below_drewN | apply below_drew1 | refine below_set ?_ GE162001.out | refine below_set ?_ GE162002.out) | exact HB.out)) hb); clear BK162001; clear BK162002; clear HB; have BK162001 := n0_; have BK162002 := n1_; have HB := n2_; clear n0_ n1_ n2_; (try clear hb); (try clear hb2); (try clear hk); (try clear hi)))
      go_ret
      exact ⟨by first | rfl | (simp [errW_none, errW_some] <;> rfl) | (simp [*, errW_none, errW_some] <;> rfl), by repeat (first | (with_reducible first | exact HB.out | apply below_alloc | apply pw_below_drewN | apply below_drew1 | refine below_set ?_ GE162001.out | refine below_set ?_ GE162002.out) | exact HB.out)⟩
    · rw [if_neg c4] at H
      have c4b0 : (a0_1.toList == a1_1.toList) = false := beq_eq_false_iff_ne.mpr c4
      have c4b1 : (a0_1.toList != a1_1.toList) = true := bne_iff_ne.mpr c4
      obtain rfl := Option.some.inj H
      go_enter Try.func162, Try.ntmps162
      go_wp2_with (first | ((with_reducible refine gate_dst (N := 2) rfl ?_); refine box_event ?hg (N := 2) ?hd (cs := #[.int .i64 a0_0, .string a0_1, .slice A0_2 l0_2.length c0_2]) (t := 42) ?hr ?_; (case hd => rfl); (case hg => rfl); (case hr => first | (go_simp; done) | (go_simp; rfl)); intro gb162001 hg w12 hbox hb; have n0_ := Aside0.mk (below_step (by repeat (first | (with_reducible first | exact HB.out | apply below_alloc | apply pw_below_drewN | apply below_drew1) | exact HB.out)) hb); have n1_ := Aside0.mk (hbox); have n2_ := Aside0.mk ((by rw [hg]; exact (below_size (by repeat (first | (with_reducible first | exact HB.out | apply below_alloc | apply pw_below_drewN | apply below_drew1) | exact HB.out))) : w.heap.size ≤ gb162001)); have n3_ := Aside0.mk ((by rw [hg]; exact (below_size (by repeat (first | (with_reducible first | exact HB.out | apply below_alloc | apply pw_below_drewN | apply below_drew1) | exact HB.out))) : w.heap.size ≤ gb162001)); clear HB; have HB := n0_; have BK162001 := n1_; have GW162001 := n2_; have GE162001 := n3_; clear n0_ n1_ n2_ n3_; clear hb hbox hg) | ((with_reducible refine gate_dst (N := 3) rfl ?_); refine box_event ?hg (N := 3) ?hd (cs := #[.int .i64 a1_0, .string a1_1, .slice A1_2 l1_2.length c1_2]) (t := 42) ?hr ?_; (case hd => rfl); (case hg => rfl); (case hr => first | (go_simp; done) | (go_simp; rfl)); intro gb162002 hg w13 hbox hb; have n0_ := Aside0.mk (blk_below (g := gb162001) (o := .cells #[.int .i64 a0_0, .string a0_1, .slice A0_2 l0_2.length c0_2] 42 (0, 0)) (by (with_reducible repeat (first | refine blk_drewN ?_ _ | refine blk_drew ?_ | refine blk_alloc ?_ _)); exact BK162001.out) hb); have n1_ := Aside0.mk (below_step (by repeat (first | (with_reducible first | exact HB.out | apply below_alloc | apply pw_below_drewN | apply below_drew1 | refine below_set ?_ GE162001.out) | exact HB.out)) hb); have n2_ := Aside0.mk (hbox); have n3_ := Aside0.mk ((by rw [hg]; exact (below_size (by repeat (first | (with_reducible first | exact HB.out | apply below_alloc | apply pw_below_drewN | apply below_drew1 | refine below_set ?_ GE162001.out) | exact HB.out))) : w.heap.size ≤ gb162002)); have n4_ := Aside0.mk ((by rw [hg]; exact (below_size (by repeat (first | (with_reducible first | exact HB.out | apply below_alloc | apply pw_below_drewN | apply below_drew1 | refine below_set ?_ GE162001.out) | exact HB.out))) : w.heap.size ≤ gb162002)); have n5_ := Aside0.mk ((by rw [hg]; exact Nat.ne_of_lt (blk_lt (g := gb162001) (o := .cells #[.int .i64 a0_0, .string a0_1, .slice A0_2 l0_2.length c0_2] 42 (0, 0)) (by (with_reducible repeat (first | refine blk_drewN ?_ _ | refine blk_drew ?_ | refine blk_alloc ?_ _)); exact BK162001.out)) : gb162001 ≠ gb162002)); have n6_ := Aside0.mk ((by rw [hg]; exact Nat.ne_of_gt (blk_lt (g := gb162001) (o := .cells #[.int .i64 a0_0, .string a0_1, .slice A0_2 l0_2.length c0_2] 42 (0, 0)) (by (with_reducible repeat (first | refine blk_drewN ?_ _ | refine blk_drew ?_ | refine blk_alloc ?_ _)); exact BK162001.out)) : gb162002 ≠ gb162001)); clear BK162001; clear HB; have BK162001 := n0_; have HB := n1_; have BK162002 := n2_; have GW162002 := n3_; have GE162002 := n4_; have NB162001_162002 := n5_; have NB162002_162001 := n6_; clear n0_ n1_ n2_ n3_ n4_ n5_ n6_; clear hb hbox hg; have hnb14 := NB162001_162002.out; have hnc14 := NB162002_162001.out; have hcz15_0 : w13.cell? ⟨gb162001, 0, none⟩ = some (.int .i64 a0_0) := (blk_cell BK162001.out 0).trans rfl; have hcz15_1 : w13.cell? ⟨gb162001, 1, none⟩ = some (.string a0_1) := (blk_cell BK162001.out 1).trans rfl; have hcz15_2 : w13.cell? ⟨gb162001, 2, none⟩ = some (.slice A0_2 l0_2.length c0_2) := (blk_cell BK162001.out 2).trans rfl; have hfz15_0 := blk_frozen BK162001.out 0; have hfz15_1 := blk_frozen BK162001.out 1; have hfz15_2 := blk_frozen BK162001.out 2; have hcz16_0 : w13.cell? ⟨gb162002, 0, none⟩ = some (.int .i64 a1_0) := (blk_cell BK162002.out 0).trans rfl; have hcz16_1 : w13.cell? ⟨gb162002, 1, none⟩ = some (.string a1_1) := (blk_cell BK162002.out 1).trans rfl; have hcz16_2 : w13.cell? ⟨gb162002, 2, none⟩ = some (.slice A1_2 l1_2.length c1_2) := (blk_cell BK162002.out 2).trans rfl; have hfz16_0 := blk_frozen BK162002.out 0; have hfz16_1 := blk_frozen BK162002.out 1; have hfz16_2 := blk_frozen BK162002.out 2))
      go_ret
      exact ⟨by first | rfl | (simp [errW_none, errW_some] <;> rfl) | (simp [*, errW_none, errW_some] <;> rfl), by repeat (first | (with_reducible first | exact HB.out | apply below_alloc | apply pw_below_drewN | apply below_drew1 | refine below_set ?_ GE162001.out | refine below_set ?_ GE162002.out) | exact HB.out)⟩
  · rw [if_neg c3] at H
    have c3b0 : (a0_0 == a1_0) = false := beq_eq_false_iff_ne.mpr c3
    have c3b1 : (a0_0 != a1_0) = true := bne_iff_ne.mpr c3
    obtain rfl := Option.some.inj H
    go_enter Try.func162, Try.ntmps162
    go_wp2_with (first | ((with_reducible refine gate_dst (N := 2) rfl ?_); refine box_event ?hg (N := 2) ?hd (cs := #[.int .i64 a0_0, .string a0_1, .slice A0_2 l0_2.length c0_2]) (t := 42) ?hr ?_; (case hd => rfl); (case hg => rfl); (case hr => first | (go_simp; done) | (go_simp; rfl)); intro gb162001 hg w17 hbox hb; have n0_ := Aside0.mk (below_step (by repeat (first | (with_reducible first | exact HB.out | apply below_alloc | apply pw_below_drewN | apply below_drew1) | exact HB.out)) hb); have n1_ := Aside0.mk (hbox); have n2_ := Aside0.mk ((by rw [hg]; exact (below_size (by repeat (first | (with_reducible first | exact HB.out | apply below_alloc | apply pw_below_drewN | apply below_drew1) | exact HB.out))) : w.heap.size ≤ gb162001)); have n3_ := Aside0.mk ((by rw [hg]; exact (below_size (by repeat (first | (with_reducible first | exact HB.out | apply below_alloc | apply pw_below_drewN | apply below_drew1) | exact HB.out))) : w.heap.size ≤ gb162001)); clear HB; have HB := n0_; have BK162001 := n1_; have GW162001 := n2_; have GE162001 := n3_; clear n0_ n1_ n2_ n3_; clear hb hbox hg) | ((with_reducible refine gate_dst (N := 3) rfl ?_); refine box_event ?hg (N := 3) ?hd (cs := #[.int .i64 a1_0, .string a1_1, .slice A1_2 l1_2.length c1_2]) (t := 42) ?hr ?_; (case hd => rfl); (case hg => rfl); (case hr => first | (go_simp; done) | (go_simp; rfl)); intro gb162002 hg w18 hbox hb; have n0_ := Aside0.mk (blk_below (g := gb162001) (o := .cells #[.int .i64 a0_0, .string a0_1, .slice A0_2 l0_2.length c0_2] 42 (0, 0)) (by (with_reducible repeat (first | refine blk_drewN ?_ _ | refine blk_drew ?_ | refine blk_alloc ?_ _)); exact BK162001.out) hb); have n1_ := Aside0.mk (below_step (by repeat (first | (with_reducible first | exact HB.out | apply below_alloc | apply pw_below_drewN | apply below_drew1 | refine below_set ?_ GE162001.out) | exact HB.out)) hb); have n2_ := Aside0.mk (hbox); have n3_ := Aside0.mk ((by rw [hg]; exact (below_size (by repeat (first | (with_reducible first | exact HB.out | apply below_alloc | apply pw_below_drewN | apply below_drew1 | refine below_set ?_ GE162001.out) | exact HB.out))) : w.heap.size ≤ gb162002)); have n4_ := Aside0.mk ((by rw [hg]; exact (below_size (by repeat (first | (with_reducible first | exact HB.out | apply below_alloc | apply pw_below_drewN | apply below_drew1 | refine below_set ?_ GE162001.out) | exact HB.out))) : w.heap.size ≤ gb162002)); have n5_ := Aside0.mk ((by rw [hg]; exact Nat.ne_of_lt (blk_lt (g := gb162001) (o := .cells #[.int .i64 a0_0, .string a0_1, .slice A0_2 l0_2.length c0_2] 42 (0, 0)) (by (with_reducible repeat (first | refine blk_drewN ?_ _ | refine blk_drew ?_ | refine blk_alloc ?_ _)); exact BK162001.out)) : gb162001 ≠ gb162002)); have n6_ := Aside0.mk ((by rw [hg]; exact Nat.ne_of_gt (blk_lt (g := gb162001) (o := .cells #[.int .i64 a0_0, .string a0_1, .slice A0_2 l0_2.length c0_2] 42 (0, 0)) (by (with_reducible repeat (first | refine blk_drewN ?_ _ | refine blk_drew ?_ | refine blk_alloc ?_ _)); exact BK162001.out)) : gb162002 ≠ gb162001)); clear BK162001; clear HB; have BK162001 := n0_; have HB := n1_; have BK162002 := n2_; have GW162002 := n3_; have GE162002 := n4_; have NB162001_162002 := n5_; have NB162002_162001 := n6_; clear n0_ n1_ n2_ n3_ n4_ n5_ n6_; clear hb hbox hg; have hnb19 := NB162001_162002.out; have hnc19 := NB162002_162001.out; have hcz20_0 : w18.cell? ⟨gb162001, 0, none⟩ = some (.int .i64 a0_0) := (blk_cell BK162001.out 0).trans rfl; have hcz20_1 : w18.cell? ⟨gb162001, 1, none⟩ = some (.string a0_1) := (blk_cell BK162001.out 1).trans rfl; have hcz20_2 : w18.cell? ⟨gb162001, 2, none⟩ = some (.slice A0_2 l0_2.length c0_2) := (blk_cell BK162001.out 2).trans rfl; have hfz20_0 := blk_frozen BK162001.out 0; have hfz20_1 := blk_frozen BK162001.out 1; have hfz20_2 := blk_frozen BK162001.out 2; have hcz21_0 : w18.cell? ⟨gb162002, 0, none⟩ = some (.int .i64 a1_0) := (blk_cell BK162002.out 0).trans rfl; have hcz21_1 : w18.cell? ⟨gb162002, 1, none⟩ = some (.string a1_1) := (blk_cell BK162002.out 1).trans rfl; have hcz21_2 : w18.cell? ⟨gb162002, 2, none⟩ = some (.slice A1_2 l1_2.length c1_2) := (blk_cell BK162002.out 2).trans rfl; have hfz21_0 := blk_frozen BK162002.out 0; have hfz21_1 := blk_frozen BK162002.out 1; have hfz21_2 := blk_frozen BK162002.out 2))
    go_ret
    exact ⟨by first | rfl | (simp [errW_none, errW_some] <;> rfl) | (simp [*, errW_none, errW_some] <;> rfl), by repeat (first | (with_reducible first | exact HB.out | apply below_alloc | apply pw_below_drewN | apply below_drew1 | refine below_set ?_ GE162001.out | refine below_set ?_ GE162002.out) | exact HB.out)⟩
theorem impl_EqualRegexG.monog (gF gF2 : Nat → Int → ByteArray → List (S42) → Int → ByteArray → List (S42) → Option (Bool)) (hg : ∀ b0 b1 b2 b3 b4 b5 k, LeO (gF k b0 b1 b2 b3 b4 b5) (gF2 k b0 b1 b2 b3 b4 b5)) : ∀ a0 a1 a2 a3 a4 a5 k, LeO (impl_EqualRegexG.f gF k a0 a1 a2 a3 a4 a5) (impl_EqualRegexG.f gF2 k a0 a1 a2 a3 a4 a5) := by
  intro a0 a1 a2 a3 a4 a5 k
  unfold impl_EqualRegexG.f
  repeat' first
      | (with_reducible exact impl_RegexG.monog gF gF2 hg _ _ _)
      | (with_reducible exact LeO.refl _)
      | (with_reducible exact LeO.none _)
      | (with_reducible refine LeO.ite ?_ ?_)
      | (with_reducible refine LeO.bind ?_ (fun _ => ?_))
      | exact impl_RegexG.monog gF gF2 hg _ _ _
      | exact LeO.none _
      | refine LeO.ite ?_ ?_
      | refine LeO.bind ?_ (fun _ => ?_)

def impl_EqualRegex.f : Nat → Int → ByteArray → List (S42) → Int → ByteArray → List (S42) → Option (Bool)
  | 0, _, _, _, _, _, _ => none
  | K + 1, a0_, a1_, a2_, a3_, a4_, a5_ => impl_EqualRegexG.f (fun _ => impl_EqualRegex.f K) K a0_ a1_ a2_ a3_ a4_ a5_
theorem impl_EqualRegex.mono : ∀ a0 a1 a2 a3 a4 a5 k, LeO (impl_EqualRegex.f k a0 a1 a2 a3 a4 a5) (impl_EqualRegex.f (k + 1) a0 a1 a2 a3 a4 a5) := by
  intro a0_ a1_ a2_ a3_ a4_ a5_ k
  induction k generalizing a0_ a1_ a2_ a3_ a4_ a5_ with
  | zero => exact LeO.none _
  | succ K ih =>
    intro r h
    have h1 := impl_EqualRegexG.monog (fun _ => impl_EqualRegex.f K) (fun _ => impl_EqualRegex.f (K + 1)) (fun a0_ a1_ a2_ a3_ a4_ a5_ k => ih a0_ a1_ a2_ a3_ a4_ a5_) a0_ a1_ a2_ a3_ a4_ a5_ K r h
    exact impl_EqualRegexG.mono (fun _ => impl_EqualRegex.f (K + 1)) (fun a0_ a1_ a2_ a3_ a4_ a5_ k => LeO.refl _) a0_ a1_ a2_ a3_ a4_ a5_ K r h1
theorem impl_EqualRegex.calls (k : Nat) (a0_0 : Int) (a0_1 : ByteArray) (A0_2 : Option Addr) (c0_2 : Nat) (l0_2 : List (S42)) (a1_0 : Int) (a1_1 : ByteArray) (A1_2 : Option Addr) (c1_2 : Nat) (l1_2 : List (S42)) (r : Bool) (w : World) (hr0_2 : Kd.C k42 w A0_2 l0_2.length l0_2) (hc0_2 : l0_2.length ≤ c0_2) (hr1_2 : Kd.C k42 w A1_2 l1_2.length l1_2) (hc1_2 : l1_2.length ≤ c1_2) (h : impl_EqualRegex.f k a0_0 a0_1 l0_2 a1_0 a1_1 l1_2 = some r) :
    Calls Try.prog 162 #[.agg #[.int .i64 a0_0, .string a0_1, .slice A0_2 l0_2.length c0_2], .agg #[.int .i64 a1_0, .string a1_1, .slice A1_2 l1_2.length c1_2]] w fun e w' => e = .returned (.bool r) ∧ Below w.heap.size w w' := by
  induction k generalizing a0_0 a0_1 A0_2 c0_2 l0_2 a1_0 a1_1 A1_2 c1_2 l1_2 r w hr0_2 hc0_2 hr1_2 hc1_2 with
  | zero => exact absurd h (by simp [impl_EqualRegex.f])
  | succ K ih => exact impl_EqualRegexG.calls (fun _ => impl_EqualRegex.f K) (fun k a0_0 a0_1 A0_2 c0_2 l0_2 a1_0 a1_1 A1_2 c1_2 l1_2 r w hr0_2 hc0_2 hr1_2 hc1_2 h => ih a0_0 a0_1 A0_2 c0_2 l0_2 a1_0 a1_1 A1_2 c1_2 l1_2 r w hr0_2 hc0_2 hr1_2 hc1_2 h) K a0_0 a0_1 A0_2 c0_2 l0_2 a1_0 a1_1 A1_2 c1_2 l1_2 r w hr0_2 hc0_2 hr1_2 hc1_2 h
def impl_Regex.f (k : Nat) (l0 : List (S42)) (l1 : List (S42)) : Option (Bool) := impl_RegexG.f impl_EqualRegex.f k l0 l1
theorem impl_Regex.mono : ∀ a0 a1 k, LeO (impl_Regex.f k a0 a1) (impl_Regex.f (k + 1) a0 a1) := impl_RegexG.mono impl_EqualRegex.f impl_EqualRegex.mono
theorem impl_Regex.calls (k : Nat) (A0 : Option Addr) (c0 : Nat) (l0 : List (S42)) (A1 : Option Addr) (c1 : Nat) (l1 : List (S42)) (r : Bool) (w : World) (hr0 : Kd.C k42 w A0 l0.length l0) (hc0 : l0.length ≤ c0) (hr1 : Kd.C k42 w A1 l1.length l1) (hc1 : l1.length ≤ c1) (h : impl_Regex.f k l0 l1 = some r) :
    Calls Try.prog 193 #[.slice A0 l0.length c0, .slice A1 l1.length c1, .func (.func 162) #[] #[]] w fun e w' => e = .returned (.bool r) ∧ Below w.heap.size w w' := impl_RegexG.calls impl_EqualRegex.f impl_EqualRegex.calls k A0 c0 l0 A1 c1 l1 r w hr0 hc0 hr1 hc1 h


end Go.Proofs.Ytpppopdmnejcfaa.A


namespace Go.Proofs
open Go.Shelf
def Try.lays156_ren : Go.Shelf.Ren := ⟨fun | 156 => 181 | 165 => 199 | 166 => 200 | 169 => 201 | 240 => 210 | 241 => 211 | 276 => 216 | 277 => 217 | n => n, fun | 31 => 165 | 9 => 9 | 3 => 3 | 4 => 4 | 0 => 0 | 20 => 20 | 72 => 197 | 76 => 201 | 70 => 195 | 37 => 81 | 75 => 200 | 127 => 217 | 164 => 221 | 5 => 5 | 80 => 203 | n => n, fun | n => n⟩
theorem Try.lays156 : Go.Proofs.Lays.n156 Try.prog Try.lays156_ren := {
  mixed := by kernel_rfl
  f156 := Try.func181.trans (congrArg some (by kernel_rfl))
  f165 := Try.func199.trans (congrArg some (by kernel_rfl))
  f166 := Try.func200.trans (congrArg some (by kernel_rfl))
  f169 := Try.func201.trans (congrArg some (by kernel_rfl))
  f240 := Try.func210.trans (congrArg some (by kernel_rfl))
  f241 := Try.func211.trans (congrArg some (by kernel_rfl))
  f276 := Try.func216.trans (congrArg some (by kernel_rfl))
  f277 := Try.func217.trans (congrArg some (by kernel_rfl))
  t0 := Try.underlying0
  a0 := Try.isAgg0
  z0 := Try.sizeOf0
  v0 := Try.zeroValue0
  t3 := Try.underlying3
  a3 := Try.isAgg3
  z3 := Try.sizeOf3
  v3 := Try.zeroValue3
  t4 := Try.underlying4
  a4 := Try.isAgg4
  z4 := Try.sizeOf4
  v4 := Try.zeroValue4
  t9 := Try.underlying9
  a9 := Try.isAgg9
  z9 := Try.sizeOf9
  v9 := Try.zeroValue9
  t20 := Try.underlying20
  a20 := Try.isAgg20
  z20 := Try.sizeOf20
  v20 := Try.zeroValue20
  t31 := Try.underlying165
  a31 := Try.isAgg165
  z31 := Try.sizeOf165
  v31 := Try.zeroValue165
  t37 := Try.underlying81
  a37 := Try.isAgg81
  z37 := Try.sizeOf81
  v37 := Try.zeroValue81
  t70 := Try.underlying195
  a70 := Try.isAgg195
  z70 := Try.sizeOf195
  v70 := Try.zeroValue195
  t72 := Try.underlying197
  a72 := Try.isAgg197
  z72 := Try.sizeOf197
  v72 := Try.zeroValue197
  t75 := Try.underlying200
  a75 := Try.isAgg200
  z75 := Try.sizeOf200
  v75 := Try.zeroValue200
  t76 := Try.underlying201
  a76 := Try.isAgg201
  z76 := Try.sizeOf201
  v76 := Try.zeroValue201
  t127 := Try.underlying217
  a127 := Try.isAgg217
  z127 := Try.sizeOf217
  v127 := Try.zeroValue217
  t164 := Try.underlying221
  a164 := Try.isAgg221
  z164 := Try.sizeOf221
  v164 := Try.zeroValue221 }
theorem Try.Builder_Extra_156 : Builder.Extra Try.prog Try.lays156_ren := {
  sizeBuilder := by kernel_rfl
  liesBuilder := by kernel_rfl
  t5 := Try.underlying5
  a5 := Try.isAgg5
  z5 := Try.sizeOf5
  v5 := Try.zeroValue5
  infoByte := by kernel_rfl
  cellsByte := by kernel_rfl
  sizeByte := by kernel_rfl
  neB5 := by decide }

end Go.Proofs


namespace Go.Proofs.Ytpppopdmnejcfaa.Ext
set_option linter.unusedVariables false
set_option linter.unusedSimpArgs false
open Go Go.RowKit Go.Proofs Go.Proofs.YtpppopdmnejcfaaW.PrintWords

-- EXT strings.Join making
def joinB (l : List ByteArray) (s : ByteArray) : ByteArray := ⟨(Lib.join (l.map (·.data.toList)) s.data.toList).toArray⟩
def strings_Join.f (l0 : List ByteArray) (a1 : ByteArray) : Option ByteArray :=
  if l0.length ≤ 140737488355328 ∧ (Lib.join (l0.map (·.data.toList)) a1.data.toList).length ≤ 140737488355328 then some (joinB l0 a1) else none
theorem cell_spot {w : World} {a : Addr} {v : Value} (h : w.cell? a = some v) : a.spot = none ∧ a.block < w.heap.size := by
  unfold World.cell? at h
  split at h
  · next hb =>
    constructor
    · split at h
      · cases h
      · next hs => simpa using hs
    · exact (Array.getElem?_eq_some_iff.1 hb).1
  · cases h
theorem strings_Join.calls (A0 : Option Addr) (c0 : Nat) (l0 : List ByteArray) (a1 : ByteArray) (r : ByteArray) (w : World) (hr0 : Kd.C Kd.string w A0 l0.length l0) (hc0 : l0.length ≤ c0) (h : strings_Join.f l0 a1 = some r) :
    Calls Try.prog 181 #[.slice A0 l0.length c0, .string a1] w fun e w' => e = .returned (.string r) ∧ Below w.heap.size w w' := by
  unfold strings_Join.f at h
  split at h
  · next hh =>
    obtain rfl := Option.some.inj h
    by_cases hn : 0 < l0.length
    · obtain ⟨ad, rfl, hcell⟩ := hr0.2.2 hn
      have hcs : ∀ (j : Nat) x, l0[j]? = some x → w.cell? (ad.add j) = some (.string x) := by
        intro j x hj
        obtain ⟨c, _, hk, hc⟩ := hcell j x hj
        obtain rfl : c = [.string x] := hk
        have := hc 0 _ rfl
        rwa [show Kd.string.sz = 1 from rfl, Nat.mul_one, Nat.add_zero] at this
      have h0 := hcs 0 l0[0] (List.getElem?_eq_getElem hn)
      obtain ⟨hs, hb⟩ := cell_spot h0
      obtain ⟨bk, o, sp⟩ := ad
      have hs' : sp = none := by simpa [Addr.add] using hs
      subst hs'
      refine Any.strings_Join Try.lays156 Try.Builder_Extra_156 bk o c0 l0 a1 w (fun j x hj => ?_) (by simpa [Addr.add] using hb) hh.1 hc0 hh.2
      have := hcs j x hj
      unfold Addr.add at this
      split at this
      · next h0 => subst h0; simpa using this
      · exact this
    · obtain rfl : l0 = [] := List.length_eq_zero_iff.1 (by omega)
      refine (Any.strings_Join_none Try.lays156 Try.Builder_Extra_156 A0 c0 a1 w).mono ?_
      rintro e w' ⟨rfl, rfl⟩
      exact ⟨rfl, Below.refl _ _⟩
  · cases h

end Go.Proofs.Ytpppopdmnejcfaa.Ext


namespace Go.Proofs.Ytpppopdmnejcfaa.A
open Go.RowKit Go.Proofs.Ytpppopdmnejcfaa.Ext Go.Proofs.YtpppopdmnejcfaaW.PrintWords Go.Proofs.YtpppopdmnejcfaaW.PrintLast Go.Proofs.YtpppopdmnejcfaaW.PrintMore
attribute [local go_sem] max2_int min2_int max_two min_two max_three min_three max_four min_four   -- for this text's walks alone
set_option linter.unusedVariables false
set_option linter.unusedSimpArgs false

/-! ### impl_EqualConstraint: function 84 -/
def impl_EqualConstraint.f (k : Nat) (a0_0 : Int) (a0_1 : ByteArray) (a0_2 : ByteArray) (a0_3 : Int) (a0_4 : ByteArray) (l0_5 : List (S42)) (l0_6 : List Int) (a0_7 : Int) (a1_0 : Int) (a1_1 : ByteArray) (a1_2 : ByteArray) (a1_3 : Int) (a1_4 : ByteArray) (l1_5 : List (S42)) (l1_6 : List Int) (a1_7 : Int) : Option (Bool) := if a0_0 = a1_0 then (if a0_1.toList = a1_1.toList then (if a0_2.toList = a1_2.toList then ((impl_EqualRegex.f k a0_3 a0_4 l0_5 a1_3 a1_4 l1_5).bind fun t84003 => (if t84003 = true then ((slices_Equal_int_int.f k l0_6 l1_6).bind fun t84004 => (if t84004 = true then (some (a0_7 == a1_7)) else (some false))) else (some false))) else (some false)) else (some false)) else (some false)
theorem impl_EqualConstraint.mono : ∀ a0 a1 a2 a3 a4 a5 a6 a7 a8 a9 a10 a11 a12 a13 a14 a15 k, LeO (impl_EqualConstraint.f k a0 a1 a2 a3 a4 a5 a6 a7 a8 a9 a10 a11 a12 a13 a14 a15) (impl_EqualConstraint.f (k + 1) a0 a1 a2 a3 a4 a5 a6 a7 a8 a9 a10 a11 a12 a13 a14 a15) := by
  intro a0 a1 a2 a3 a4 a5 a6 a7 a8 a9 a10 a11 a12 a13 a14 a15 k
  unfold impl_EqualConstraint.f
  repeat' first
      | (with_reducible exact impl_EqualRegex.mono _ _ _ _ _ _ _)
      | (with_reducible exact slices_Equal_int_int.mono _ _ _)
      | (with_reducible exact LeO.refl _)
      | (with_reducible exact LeO.none _)
      | (with_reducible refine LeO.ite ?_ ?_)
      | (with_reducible refine LeO.bind ?_ (fun _ => ?_))
      | exact impl_EqualRegex.mono _ _ _ _ _ _ _
      | exact slices_Equal_int_int.mono _ _ _
      | exact LeO.none _
      | refine LeO.ite ?_ ?_
      | refine LeO.bind ?_ (fun _ => ?_)
set_option maxHeartbeats 8000000 in
set_option maxRecDepth 100000 in
theorem impl_EqualConstraint.calls (k : Nat) (a0_0 : Int) (a0_1 : ByteArray) (a0_2 : ByteArray) (a0_3 : Int) (a0_4 : ByteArray) (A0_5 : Option Addr) (c0_5 : Nat) (l0_5 : List (S42)) (A0_6 : Option Addr) (c0_6 : Nat) (l0_6 : List Int) (a0_7 : Int) (a1_0 : Int) (a1_1 : ByteArray) (a1_2 : ByteArray) (a1_3 : Int) (a1_4 : ByteArray) (A1_5 : Option Addr) (c1_5 : Nat) (l1_5 : List (S42)) (A1_6 : Option Addr) (c1_6 : Nat) (l1_6 : List Int) (a1_7 : Int) (r : Bool) (w : World) (hr0_5 : Kd.C k42 w A0_5 l0_5.length l0_5) (hc0_5 : l0_5.length ≤ c0_5) (hr0_6 : Kd.C (Kd.int .i64) w A0_6 l0_6.length l0_6) (hc0_6 : l0_6.length ≤ c0_6) (hr1_5 : Kd.C k42 w A1_5 l1_5.length l1_5) (hc1_5 : l1_5.length ≤ c1_5) (hr1_6 : Kd.C (Kd.int .i64) w A1_6 l1_6.length l1_6) (hc1_6 : l1_6.length ≤ c1_6) (h : impl_EqualConstraint.f k a0_0 a0_1 a0_2 a0_3 a0_4 l0_5 l0_6 a0_7 a1_0 a1_1 a1_2 a1_3 a1_4 l1_5 l1_6 a1_7 = some r) :
    Calls Try.prog 84 #[.agg #[.int .i64 a0_0, .string a0_1, .string a0_2, .int .i64 a0_3, .string a0_4, .slice A0_5 l0_5.length c0_5, .slice A0_6 l0_6.length c0_6, .int .i64 a0_7], .agg #[.int .i64 a1_0, .string a1_1, .string a1_2, .int .i64 a1_3, .string a1_4, .slice A1_5 l1_5.length c1_5, .slice A1_6 l1_6.length c1_6, .int .i64 a1_7]] w fun e w' => e = .returned (.bool r) ∧ Below w.heap.size w w' := by
  have hu44 := Try.underlying44
  have hu42 := Try.underlying42
  have HR0_5 := Aside0.mk hr0_5
  have HC0_5 := Aside0.mk hc0_5
  clear hr0_5 hc0_5
  have HR0_6 := Aside0.mk hr0_6
  have HC0_6 := Aside0.mk hc0_6
  clear hr0_6 hc0_6
  have HR1_5 := Aside0.mk hr1_5
  have HC1_5 := Aside0.mk hc1_5
  clear hr1_5 hc1_5
  have HR1_6 := Aside0.mk hr1_6
  have HC1_6 := Aside0.mk hc1_6
  clear hr1_6 hc1_6
  have HB := Aside0.mk (Below.refl w.heap.size w)
  have H : (if a0_0 = a1_0 then (if a0_1.toList = a1_1.toList then (if a0_2.toList = a1_2.toList then ((impl_EqualRegex.f k a0_3 a0_4 l0_5 a1_3 a1_4 l1_5).bind fun t84003 => (if t84003 = true then ((slices_Equal_int_int.f k l0_6 l1_6).bind fun t84004 => (if t84004 = true then (some (a0_7 == a1_7)) else (some false))) else (some false))) else (some false)) else (some false)) else (some false)) = some r := h
  clear h
  by_cases c3 : a0_0 = a1_0
  · rw [if_pos c3] at H
    have c3b0 : (a0_0 == a1_0) = true := beq_iff_eq.mpr c3
    have c3b1 : (a0_0 != a1_0) = false := bne_eq_false_iff_eq.mpr c3
    clear c3
    by_cases c4 : a0_1.toList = a1_1.toList
    · rw [if_pos c4] at H
      have c4b0 : (a0_1.toList == a1_1.toList) = true := beq_iff_eq.mpr c4
      have c4b1 : (a0_1.toList != a1_1.toList) = false := bne_eq_false_iff_eq.mpr c4
      clear c4
      by_cases c5 : a0_2.toList = a1_2.toList
      · rw [if_pos c5] at H
        have c5b0 : (a0_2.toList == a1_2.toList) = true := beq_iff_eq.mpr c5
        have c5b1 : (a0_2.toList != a1_2.toList) = false := bne_eq_false_iff_eq.mpr c5
        clear c5
        replace H := Option.bind_eq_some_iff.mp H
        obtain ⟨t84003, A60, H⟩ := H
        replace H : (if t84003 = true then ((slices_Equal_int_int.f k l0_6 l1_6).bind fun t84004 => (if t84004 = true then (some (a0_7 == a1_7)) else (some false))) else (some false)) = some r := H
        have A6 := Aside0.mk A60
        clear A60
        by_cases c7 : t84003 = true
        · subst c7
          have H1 : ((slices_Equal_int_int.f k l0_6 l1_6).bind fun t84004 => (if t84004 = true then (some (a0_7 == a1_7)) else (some false))) = some r := by rw [if_pos rfl] at H; exact H
          clear H
          have H := H1
          clear H1
          replace H := Option.bind_eq_some_iff.mp H
          obtain ⟨t84004, A80, H⟩ := H
          replace H : (if t84004 = true then (some (a0_7 == a1_7)) else (some false)) = some r := H
          have A8 := Aside0.mk A80
          clear A80
          by_cases c9 : t84004 = true
          · subst c9
            have H1 : (some (a0_7 == a1_7)) = some r := by rw [if_pos rfl] at H; exact H
            clear H
            have H := H1
            clear H1
            obtain rfl := Option.some.inj H
            go_enter Try.func84, Try.ntmps84
            go_wp2_with (first | ((with_reducible refine gate_dst (N := 2) rfl ?_); refine box_event ?hg (N := 2) ?hd (cs := #[.int .i64 a0_0, .string a0_1, .string a0_2, .int .i64 a0_3, .string a0_4, .slice A0_5 l0_5.length c0_5, .slice A0_6 l0_6.length c0_6, .int .i64 a0_7]) (t := 44) ?hr ?_; (case hd => rfl); (case hg => rfl); (case hr => first | (go_simp; done) | (go_simp; rfl)); intro gb84001 hg w10 hbox hb; have n0_ := Aside0.mk (below_step (by repeat (first | (with_reducible first | exact HB.out | apply below_alloc | apply pw_below_drewN | apply below_drew1) | exact HB.out)) hb); have n1_ := Aside0.mk (hbox); have n2_ := Aside0.mk ((by rw [hg]; exact (below_size (by repeat (first | (with_reducible first | exact HB.out | apply below_alloc | apply pw_below_drewN | apply below_drew1) | exact HB.out))) : w.heap.size ≤ gb84001)); have n3_ := Aside0.mk ((by rw [hg]; exact (below_size (by repeat (first | (with_reducible first | exact HB.out | apply below_alloc | apply pw_below_drewN | apply below_drew1) | exact HB.out))) : w.heap.size ≤ gb84001)); clear HB; have HB := n0_; have BK84001 := n1_; have GW84001 := n2_; have GE84001 := n3_; clear n0_ n1_ n2_ n3_; clear hb hbox hg) | ((with_reducible refine gate_dst (N := 3) rfl ?_); refine box_event ?hg (N := 3) ?hd (cs := #[.int .i64 a1_0, .string a1_1, .string a1_2, .int .i64 a1_3, .string a1_4, .slice A1_5 l1_5.length c1_5, .slice A1_6 l1_6.length c1_6, .int .i64 a1_7]) (t := 44) ?hr ?_; (case hd => rfl); (case hg => rfl); (case hr => first | (go_simp; done) | (go_simp; rfl)); intro gb84002 hg w11 hbox hb; have n0_ := Aside0.mk (blk_below (g := gb84001) (o := .cells #[.int .i64 a0_0, .string a0_1, .string a0_2, .int .i64 a0_3, .string a0_4, .slice A0_5 l0_5.length c0_5, .slice A0_6 l0_6.length c0_6, .int .i64 a0_7] 44 (0, 0)) (by (with_reducible repeat (first | refine blk_drewN ?_ _ | refine blk_drew ?_ | refine blk_alloc ?_ _)); exact BK84001.out) hb); have n1_ := Aside0.mk (below_step (by repeat (first | (with_reducible first | exact HB.out | apply below_alloc | apply pw_below_drewN | apply below_drew1 | refine below_set ?_ GE84001.out) | exact HB.out)) hb); have n2_ := Aside0.mk (hbox); have n3_ := Aside0.mk ((by rw [hg]; exact (below_size (by repeat (first | (with_reducible first | exact HB.out | apply below_alloc | apply pw_below_drewN | apply below_drew1 | refine below_set ?_ GE84001.out) | exact HB.out))) : w.heap.size ≤ gb84002)); have n4_ := Aside0.mk ((by rw [hg]; exact (below_size (by repeat (first | (with_reducible first | exact HB.out | apply below_alloc | apply pw_below_drewN | apply below_drew1 | refine below_set ?_ GE84001.out) | exact HB.out))) : w.heap.size ≤ gb84002)); have n5_ := Aside0.mk ((by rw [hg]; exact Nat.ne_of_lt (blk_lt (g := gb84001) (o := .cells #[.int .i64 a0_0, .string a0_1, .string a0_2, .int .i64 a0_3, .string a0_4, .slice A0_5 l0_5.length c0_5, .slice A0_6 l0_6.length c0_6, .int .i64 a0_7] 44 (0, 0)) (by (with_reducible repeat (first | refine blk_drewN ?_ _ | refine blk_drew ?_ | refine blk_alloc ?_ _)); exact BK84001.out)) : gb84001 ≠ gb84002)); have n6_ := Aside0.mk ((by rw [hg]; exact Nat.ne_of_gt (blk_lt (g := gb84001) (o := .cells #[.int .i64 a0_0, .string a0_1, .string a0_2, .int .i64 a0_3, .string a0_4, .slice A0_5 l0_5.length c0_5, .slice A0_6 l0_6.length c0_6, .int .i64 a0_7] 44 (0, 0)) (by (with_reducible repeat (first | refine blk_drewN ?_ _ | refine blk_drew ?_ | refine blk_alloc ?_ _)); exact BK84001.out)) : gb84002 ≠ gb84001)); clear BK84001; clear HB; have BK84001 := n0_; have HB := n1_; have BK84002 := n2_; have GW84002 := n3_; have GE84002 := n4_; have NB84001_84002 := n5_; have NB84002_84001 := n6_; clear n0_ n1_ n2_ n3_ n4_ n5_ n6_; clear hb hbox hg; have hnb12 := NB84001_84002.out; have hnc12 := NB84002_84001.out; have hcz13_0 : w11.cell? ⟨gb84001, 0, none⟩ = some (.int .i64 a0_0) := (blk_cell BK84001.out 0).trans rfl; have hcz13_1 : w11.cell? ⟨gb84001, 1, none⟩ = some (.string a0_1) := (blk_cell BK84001.out 1).trans rfl; have hcz13_2 : w11.cell? ⟨gb84001, 2, none⟩ = some (.string a0_2) := (blk_cell BK84001.out 2).trans rfl; have hcz13_3 : w11.cell? ⟨gb84001, 3, none⟩ = some (.int .i64 a0_3) := (blk_cell BK84001.out 3).trans rfl; have hcz13_4 : w11.cell? ⟨gb84001, 4, none⟩ = some (.string a0_4) := (blk_cell BK84001.out 4).trans rfl; have hcz13_5 : w11.cell? ⟨gb84001, 5, none⟩ = some (.slice A0_5 l0_5.length c0_5) := (blk_cell BK84001.out 5).trans rfl; have hcz13_6 : w11.cell? ⟨gb84001, 6, none⟩ = some (.slice A0_6 l0_6.length c0_6) := (blk_cell BK84001.out 6).trans rfl; have hcz13_7 : w11.cell? ⟨gb84001, 7, none⟩ = some (.int .i64 a0_7) := (blk_cell BK84001.out 7).trans rfl; have hfz13_0 := blk_frozen BK84001.out 0; have hfz13_1 := blk_frozen BK84001.out 1; have hfz13_2 := blk_frozen BK84001.out 2; have hfz13_3 := blk_frozen BK84001.out 3; have hfz13_4 := blk_frozen BK84001.out 4; have hfz13_5 := blk_frozen BK84001.out 5; have hfz13_6 := blk_frozen BK84001.out 6; have hfz13_7 := blk_frozen BK84001.out 7; have hcz14_0 : w11.cell? ⟨gb84002, 0, none⟩ = some (.int .i64 a1_0) := (blk_cell BK84002.out 0).trans rfl; have hcz14_1 : w11.cell? ⟨gb84002, 1, none⟩ = some (.string a1_1) := (blk_cell BK84002.out 1).trans rfl; have hcz14_2 : w11.cell? ⟨gb84002, 2, none⟩ = some (.string a1_2) := (blk_cell BK84002.out 2).trans rfl; have hcz14_3 : w11.cell? ⟨gb84002, 3, none⟩ = some (.int .i64 a1_3) := (blk_cell BK84002.out 3).trans rfl; have hcz14_4 : w11.cell? ⟨gb84002, 4, none⟩ = some (.string a1_4) := (blk_cell BK84002.out 4).trans rfl; have hcz14_5 : w11.cell? ⟨gb84002, 5, none⟩ = some (.slice A1_5 l1_5.length c1_5) := (blk_cell BK84002.out 5).trans rfl; have hcz14_6 : w11.cell? ⟨gb84002, 6, none⟩ = some (.slice A1_6 l1_6.length c1_6) := (blk_cell BK84002.out 6).trans rfl; have hcz14_7 : w11.cell? ⟨gb84002, 7, none⟩ = some (.int .i64 a1_7) := (blk_cell BK84002.out 7).trans rfl; have hfz14_0 := blk_frozen BK84002.out 0; have hfz14_1 := blk_frozen BK84002.out 1; have hfz14_2 := blk_frozen BK84002.out 2; have hfz14_3 := blk_frozen BK84002.out 3; have hfz14_4 := blk_frozen BK84002.out 4; have hfz14_5 := blk_frozen BK84002.out 5; have hfz14_6 := blk_frozen BK84002.out 6; have hfz14_7 := blk_frozen BK84002.out 7) | (go_at_call 162; (with_reducible refine (impl_EqualRegex.calls k a0_3 a0_4 _ _ l0_5 a1_3 a1_4 _ _ l1_5 true _ ?side1 ?side2 ?side3 ?side4 A6.out).mono ?_); (case side1 => repeat (first | exact (Kd.C_below HR0_5.out HB.out) | (with_reducible refine Kd.C_alloc ?_ _) | (with_reducible refine Kd.C_drewN ?_ _) | (with_reducible refine Kd.C_drew ?_))); (case side2 => exact HC0_5.out); (case side3 => repeat (first | exact (Kd.C_below HR1_5.out HB.out) | (with_reducible refine Kd.C_alloc ?_ _) | (with_reducible refine Kd.C_drewN ?_ _) | (with_reducible refine Kd.C_drew ?_))); (case side4 => exact HC1_5.out); rintro e w15 ⟨rfl, hb⟩; have n0_ := Aside0.mk (blk_below (g := gb84001) (o := .cells #[.int .i64 a0_0, .string a0_1, .string a0_2, .int .i64 a0_3, .string a0_4, .slice A0_5 l0_5.length c0_5, .slice A0_6 l0_6.length c0_6, .int .i64 a0_7] 44 (0, 0)) (by (with_reducible repeat (first | refine blk_drewN ?_ _ | refine blk_drew ?_ | refine blk_alloc ?_ _)); exact BK84001.out) hb); have n1_ := Aside0.mk (blk_below (g := gb84002) (o := .cells #[.int .i64 a1_0, .string a1_1, .string a1_2, .int .i64 a1_3, .string a1_4, .slice A1_5 l1_5.length c1_5, .slice A1_6 l1_6.length c1_6, .int .i64 a1_7] 44 (0, 0)) (by (with_reducible repeat (first | refine blk_drewN ?_ _ | refine blk_drew ?_ | refine blk_alloc ?_ _)); exact BK84002.out) hb); have n2_ := Aside0.mk (below_step (by repeat (first | (with_reducible first | exact HB.out | apply below_alloc | apply pw_below_drewN | apply below_drew1 | refine below_set ?_ GE84001.out | refine below_set ?_ GE84002.out) | exact HB.out)) hb); clear BK84001; clear BK84002; clear HB; have BK84001 := n0_; have BK84002 := n1_; have HB := n2_; clear n0_ n1_ n2_; (try clear hb); (try clear hb2); (try clear hk); (try clear hi); have hcz16_0 : w15.cell? ⟨gb84001, 0, none⟩ = some (.int .i64 a0_0) := (blk_cell BK84001.out 0).trans rfl; have hcz16_1 : w15.cell? ⟨gb84001, 1, none⟩ = some (.string a0_1) := (blk_cell BK84001.out 1).trans rfl; have hcz16_2 : w15.cell? ⟨gb84001, 2, none⟩ = some (.string a0_2) := (blk_cell BK84001.out 2).trans rfl; have hcz16_3 : w15.cell? ⟨gb84001, 3, none⟩ = some (.int .i64 a0_3) := (blk_cell BK84001.out 3).trans rfl; have hcz16_4 : w15.cell? ⟨gb84001, 4, none⟩ = some (.string a0_4) := (blk_cell BK84001.out 4).trans rfl; have hcz16_5 : w15.cell? ⟨gb84001, 5, none⟩ = some (.slice A0_5 l0_5.length c0_5) := (blk_cell BK84001.out 5).trans rfl; have hcz16_6 : w15.cell? ⟨gb84001, 6, none⟩ = some (.slice A0_6 l0_6.length c0_6) := (blk_cell BK84001.out 6).trans rfl; have hcz16_7 : w15.cell? ⟨gb84001, 7, none⟩ = some (.int .i64 a0_7) := (blk_cell BK84001.out 7).trans rfl; have hfz16_0 := blk_frozen BK84001.out 0; have hfz16_1 := blk_frozen BK84001.out 1; have hfz16_2 := blk_frozen BK84001.out 2; have hfz16_3 := blk_frozen BK84001.out 3; have hfz16_4 := blk_frozen BK84001.out 4; have hfz16_5 := blk_frozen BK84001.out 5; have hfz16_6 := blk_frozen BK84001.out 6; have hfz16_7 := blk_frozen BK84001.out 7; have hcz17_0 : w15.cell? ⟨gb84002, 0, none⟩ = some (.int .i64 a1_0) := (blk_cell BK84002.out 0).trans rfl; have hcz17_1 : w15.cell? ⟨gb84002, 1, none⟩ = some (.string a1_1) := (blk_cell BK84002.out 1).trans rfl; have hcz17_2 : w15.cell? ⟨gb84002, 2, none⟩ = some (.string a1_2) := (blk_cell BK84002.out 2).trans rfl; have hcz17_3 : w15.cell? ⟨gb84002, 3, none⟩ = some (.int .i64 a1_3) := (blk_cell BK84002.out 3).trans rfl; have hcz17_4 : w15.cell? ⟨gb84002, 4, none⟩ = some (.string a1_4) := (blk_cell BK84002.out 4).trans rfl; have hcz17_5 : w15.cell? ⟨gb84002, 5, none⟩ = some (.slice A1_5 l1_5.length c1_5) := (blk_cell BK84002.out 5).trans rfl; have hcz17_6 : w15.cell? ⟨gb84002, 6, none⟩ = some (.slice A1_6 l1_6.length c1_6) := (blk_cell BK84002.out 6).trans rfl; have hcz17_7 : w15.cell? ⟨gb84002, 7, none⟩ = some (.int .i64 a1_7) := (blk_cell BK84002.out 7).trans rfl; have hfz17_0 := blk_frozen BK84002.out 0; have hfz17_1 := blk_frozen BK84002.out 1; have hfz17_2 := blk_frozen BK84002.out 2; have hfz17_3 := blk_frozen BK84002.out 3; have hfz17_4 := blk_frozen BK84002.out 4; have hfz17_5 := blk_frozen BK84002.out 5; have hfz17_6 := blk_frozen BK84002.out 6; have hfz17_7 := blk_frozen BK84002.out 7) | (go_at_call 127; (with_reducible refine (slices_Equal_int_int.calls k _ _ l0_6 _ _ l1_6 true _ ?side1 ?side2 ?side3 ?side4 A8.out).mono ?_); (case side1 => repeat (first | exact (Kd.C_below HR0_6.out HB.out) | (with_reducible refine Kd.C_alloc ?_ _) | (with_reducible refine Kd.C_drewN ?_ _) | (with_reducible refine Kd.C_drew ?_))); (case side2 => exact HC0_6.out); (case side3 => repeat (first | exact (Kd.C_below HR1_6.out HB.out) | (with_reducible refine Kd.C_alloc ?_ _) | (with_reducible refine Kd.C_drewN ?_ _) | (with_reducible refine Kd.C_drew ?_))); (case side4 => exact HC1_6.out); rintro e w' ⟨rfl, ⟨nd, rfl⟩⟩))
            go_ret
            exact ⟨by first | rfl | (simp [errW_none, errW_some] <;> rfl) | (simp [*, errW_none, errW_some] <;> rfl), by repeat (first | (with_reducible first | exact HB.out | apply below_alloc | apply pw_below_drewN | apply below_drew1 | refine below_set ?_ GE84001.out | refine below_set ?_ GE84002.out) | exact HB.out)⟩
          · replace c9 := Bool.eq_false_iff.mpr c9
            subst c9
            have H1 : (some false) = some r := by rw [if_neg (show ¬ (false = true) by decide)] at H; exact H
            clear H
            have H := H1
            clear H1
            obtain rfl := Option.some.inj H
            go_enter Try.func84, Try.ntmps84
            go_wp2_with (first | ((with_reducible refine gate_dst (N := 2) rfl ?_); refine box_event ?hg (N := 2) ?hd (cs := #[.int .i64 a0_0, .string a0_1, .string a0_2, .int .i64 a0_3, .string a0_4, .slice A0_5 l0_5.length c0_5, .slice A0_6 l0_6.length c0_6, .int .i64 a0_7]) (t := 44) ?hr ?_; (case hd => rfl); (case hg => rfl); (case hr => first | (go_simp; done) | (go_simp; rfl)); intro gb84001 hg w18 hbox hb; have n0_ := Aside0.mk (below_step (by repeat (first | (with_reducible first | exact HB.out | apply below_alloc | apply pw_below_drewN | apply below_drew1) | exact HB.out)) hb); have n1_ := Aside0.mk (hbox); have n2_ := Aside0.mk ((by rw [hg]; exact (below_size (by repeat (first | (with_reducible first | exact HB.out | apply below_alloc | apply pw_below_drewN | apply below_drew1) | exact HB.out))) : w.heap.size ≤ gb84001)); have n3_ := Aside0.mk ((by rw [hg]; exact (below_size (by repeat (first | (with_reducible first | exact HB.out | apply below_alloc | apply pw_below_drewN | apply below_drew1) | exact HB.out))) : w.heap.size ≤ gb84001)); clear HB; have HB := n0_; have BK84001 := n1_; have GW84001 := n2_; have GE84001 := n3_; clear n0_ n1_ n2_ n3_; clear hb hbox hg) | ((with_reducible refine gate_dst (N := 3) rfl ?_); refine box_event ?hg (N := 3) ?hd (cs := #[.int .i64 a1_0, .string a1_1, .string a1_2, .int .i64 a1_3, .string a1_4, .slice A1_5 l1_5.length c1_5, .slice A1_6 l1_6.length c1_6, .int .i64 a1_7]) (t := 44) ?hr ?_; (case hd => rfl); (case hg => rfl); (case hr => first | (go_simp; done) | (go_simp; rfl)); intro gb84002 hg w19 hbox hb; have n0_ := Aside0.mk (blk_below (g := gb84001) (o := .cells #[.int .i64 a0_0, .string a0_1, .string a0_2, .int .i64 a0_3, .string a0_4, .slice A0_5 l0_5.length c0_5, .slice A0_6 l0_6.length c0_6, .int .i64 a0_7] 44 (0, 0)) (by (with_reducible repeat (first | refine blk_drewN ?_ _ | refine blk_drew ?_ | refine blk_alloc ?_ _)); exact BK84001.out) hb); have n1_ := Aside0.mk (below_step (by repeat (first | (with_reducible first | exact HB.out | apply below_alloc | apply pw_below_drewN | apply below_drew1 | refine below_set ?_ GE84001.out) | exact HB.out)) hb); have n2_ := Aside0.mk (hbox); have n3_ := Aside0.mk ((by rw [hg]; exact (below_size (by repeat (first | (with_reducible first | exact HB.out | apply below_alloc | apply pw_below_drewN | apply below_drew1 | refine below_set ?_ GE84001.out) | exact HB.out))) : w.heap.size ≤ gb84002)); have n4_ := Aside0.mk ((by rw [hg]; exact (below_size (by repeat (first | (with_reducible first | exact HB.out | apply below_alloc | apply pw_below_drewN | apply below_drew1 | refine below_set ?_ GE84001.out) | exact HB.out))) : w.heap.size ≤ gb84002)); have n5_ := Aside0.mk ((by rw [hg]; exact Nat.ne_of_lt (blk_lt (g := gb84001) (o := .cells #[.int .i64 a0_0, .string a0_1, .string a0_2, .int .i64 a0_3, .string a0_4, .slice A0_5 l0_5.length c0_5, .slice A0_6 l0_6.length c0_6, .int .i64 a0_7] 44 (0, 0)) (by (with_reducible repeat (first | refine blk_drewN ?_ _ | refine blk_drew ?_ | refine blk_alloc ?_ _)); exact BK84001.out)) : gb84001 ≠ gb84002)); have n6_ := Aside0.mk ((by rw [hg]; exact Nat.ne_of_gt (blk_lt (g := gb84001) (o := .cells #[.int .i64 a0_0, .string a0_1, .string a0_2, .int .i64 a0_3, .string a0_4, .slice A0_5 l0_5.length c0_5, .slice A0_6 l0_6.length c0_6, .int .i64 a0_7] 44 (0, 0)) (by (with_reducible repeat (first | refine blk_drewN ?_ _ | refine blk_drew ?_ | refine blk_alloc ?_ _)); exact BK84001.out)) : gb84002 ≠ gb84001)); clear BK84001; clear HB; have BK84001 := n0_; have HB := n1_; have BK84002 := n2_; have GW84002 := n3_; have GE84002 := n4_; have NB84001_84002 := n5_; have NB84002_84001 := n6_; clear n0_ n1_ n2_ n3_ n4_ n5_ n6_; clear hb hbox hg; have hnb20 := NB84001_84002.out; have hnc20 := NB84002_84001.out; have hcz21_0 : w19.cell? ⟨gb84001, 0, none⟩ = some (.int .i64 a0_0) := (blk_cell BK84001.out 0).trans rfl; have hcz21_1 : w19.cell? ⟨gb84001, 1, none⟩ = some (.string a0_1) := (blk_cell BK84001.out 1).trans rfl; have hcz21_2 : w19.cell? ⟨gb84001, 2, none⟩ = some (.string a0_2) := (blk_cell BK84001.out 2).trans rfl; have hcz21_3 : w19.cell? ⟨gb84001, 3, none⟩ = some (.int .i64 a0_3) := (blk_cell BK84001.out 3).trans rfl; have hcz21_4 : w19.cell? ⟨gb84001, 4, none⟩ = some (.string a0_4) := (blk_cell BK84001.out 4).trans rfl; have hcz21_5 : w19.cell? ⟨gb84001, 5, none⟩ = some (.slice A0_5 l0_5.length c0_5) := (blk_cell BK84001.out 5).trans rfl; have hcz21_6 : w19.cell? ⟨gb84001, 6, none⟩ = some (.slice A0_6 l0_6.length c0_6) := (blk_cell BK84001.out 6).trans rfl; have hcz21_7 : w19.cell? ⟨gb84001, 7, none⟩ = some (.int .i64 a0_7) := (blk_cell BK84001.out 7).trans rfl; have hfz21_0 := blk_frozen BK84001.out 0; have hfz21_1 := blk_frozen BK84001.out 1; have hfz21_2 := blk_frozen BK84001.out 2; have hfz21_3 := blk_frozen BK84001.out 3; have hfz21_4 := blk_frozen BK84001.out 4; have hfz21_5 := blk_frozen BK84001.out 5; have hfz21_6 := blk_frozen BK84001.out 6; have hfz21_7 := blk_frozen BK84001.out 7; have hcz22_0 : w19.cell? ⟨gb84002, 0, none⟩ = some (.int .i64 a1_0) := (blk_cell BK84002.out 0).trans rfl; have hcz22_1 : w19.cell? ⟨gb84002, 1, none⟩ = some (.string a1_1) := (blk_cell BK84002.out 1).trans rfl; have hcz22_2 : w19.cell? ⟨gb84002, 2, none⟩ = some (.string a1_2) := (blk_cell BK84002.out 2).trans rfl; have hcz22_3 : w19.cell? ⟨gb84002, 3, none⟩ = some (.int .i64 a1_3) := (blk_cell BK84002.out 3).trans rfl; have hcz22_4 : w19.cell? ⟨gb84002, 4, none⟩ = some (.string a1_4) := (blk_cell BK84002.out 4).trans rfl; have hcz22_5 : w19.cell? ⟨gb84002, 5, none⟩ = some (.slice A1_5 l1_5.length c1_5) := (blk_cell BK84002.out 5).trans rfl; have hcz22_6 : w19.cell? ⟨gb84002, 6, none⟩ = some (.slice A1_6 l1_6.length c1_6) := (blk_cell BK84002.out 6).trans rfl; have hcz22_7 : w19.cell? ⟨gb84002, 7, none⟩ = some (.int .i64 a1_7) := (blk_cell BK84002.out 7).trans rfl; have hfz22_0 := blk_frozen BK84002.out 0; have hfz22_1 := blk_frozen BK84002.out 1; have hfz22_2 := blk_frozen BK84002.out 2; have hfz22_3 := blk_frozen BK84002.out 3; have hfz22_4 := blk_frozen BK84002.out 4; have hfz22_5 := blk_frozen BK84002.out 5; have hfz22_6 := blk_frozen BK84002.out 6; have hfz22_7 := blk_frozen BK84002.out 7) | (go_at_call 162; (with_reducible refine (impl_EqualRegex.calls k a0_3 a0_4 _ _ l0_5 a1_3 a1_4 _ _ l1_5 true _ ?side1 ?side2 ?side3 ?side4 A6.out).mono ?_); (case side1 => repeat (first | exact (Kd.C_below HR0_5.out HB.out) | (with_reducible refine Kd.C_alloc ?_ _) | (with_reducible refine Kd.C_drewN ?_ _) | (with_reducible refine Kd.C_drew ?_))); (case side2 => exact HC0_5.out); (case side3 => repeat (first | exact (Kd.C_below HR1_5.out HB.out) | (with_reducible refine Kd.C_alloc ?_ _) | (with_reducible refine Kd.C_drewN ?_ _) | (with_reducible refine Kd.C_drew ?_))); (case side4 => exact HC1_5.out); rintro e w23 ⟨rfl, hb⟩; have n0_ := Aside0.mk (blk_below (g := gb84001) (o := .cells #[.int .i64 a0_0, .string a0_1, .string a0_2, .int .i64 a0_3, .string a0_4, .slice A0_5 l0_5.length c0_5, .slice A0_6 l0_6.length c0_6, .int .i64 a0_7] 44 (0, 0)) (by (with_reducible repeat (first | refine blk_drewN ?_ _ | refine blk_drew ?_ | refine blk_alloc ?_ _)); exact BK84001.out) hb); have n1_ := Aside0.mk (blk_below (g := gb84002) (o := .cells #[.int .i64 a1_0, .string a1_1, .string a1_2, .int .i64 a1_3, .string a1_4, .slice A1_5 l1_5.length c1_5, .slice A1_6 l1_6.length c1_6, .int .i64 a1_7] 44 (0, 0)) (by (with_reducible repeat (first | refine blk_drewN ?_ _ | refine blk_drew ?_ | refine blk_alloc ?_ _)); exact BK84002.out) hb); have n2_ := Aside0.mk (below_step (by repeat (first | (with_reducible first | exact HB.out | apply below_alloc | apply pw_below_drewN | apply below_drew1 | refine below_set ?_ GE84001.out | refine below_set ?_ GE84002.out) | exact HB.out)) hb); clear BK84001; clear BK84002; clear HB; have BK84001 := n0_; have BK84002 := n1_; have HB := n2_; clear n0_ n1_ n2_; (try clear hb); (try clear hb2); (try clear hk); (try clear hi); have hcz24_0 : w23.cell? ⟨gb84001, 0, none⟩ = some (.int .i64 a0_0) := (blk_cell BK84001.out 0).trans rfl; have hcz24_1 : w23.cell? ⟨gb84001, 1, none⟩ = some (.string a0_1) := (blk_cell BK84001.out 1).trans rfl; have hcz24_2 : w23.cell? ⟨gb84001, 2, none⟩ = some (.string a0_2) := (blk_cell BK84001.out 2).trans rfl; have hcz24_3 : w23.cell? ⟨gb84001, 3, none⟩ = some (.int .i64 a0_3) := (blk_cell BK84001.out 3).trans rfl; have hcz24_4 : w23.cell? ⟨gb84001, 4, none⟩ = some (.string a0_4) := (blk_cell BK84001.out 4).trans rfl; have hcz24_5 : w23.cell? ⟨gb84001, 5, none⟩ = some (.slice A0_5 l0_5.length c0_5) := (blk_cell BK84001.out 5).trans rfl; have hcz24_6 : w23.cell? ⟨gb84001, 6, none⟩ = some (.slice A0_6 l0_6.length c0_6) := (blk_cell BK84001.out 6).trans rfl; have hcz24_7 : w23.cell? ⟨gb84001, 7, none⟩ = some (.int .i64 a0_7) := (blk_cell BK84001.out 7).trans rfl; have hfz24_0 := blk_frozen BK84001.out 0; have hfz24_1 := blk_frozen BK84001.out 1; have hfz24_2 := blk_frozen BK84001.out 2; have hfz24_3 := blk_frozen BK84001.out 3; have hfz24_4 := blk_frozen BK84001.out 4; have hfz24_5 := blk_frozen BK84001.out 5; have hfz24_6 := blk_frozen BK84001.out 6; have hfz24_7 := blk_frozen BK84001.out 7; have hcz25_0 : w23.cell? ⟨gb84002, 0, none⟩ = some (.int .i64 a1_0) := (blk_cell BK84002.out 0).trans rfl; have hcz25_1 : w23.cell? ⟨gb84002, 1, none⟩ = some (.string a1_1) := (blk_cell BK84002.out 1).trans rfl; have hcz25_2 : w23.cell? ⟨gb84002, 2, none⟩ = some (.string a1_2) := (blk_cell BK84002.out 2).trans rfl; have hcz25_3 : w23.cell? ⟨gb84002, 3, none⟩ = some (.int .i64 a1_3) := (blk_cell BK84002.out 3).trans rfl; have hcz25_4 : w23.cell? ⟨gb84002, 4, none⟩ = some (.string a1_4) := (blk_cell BK84002.out 4).trans rfl; have hcz25_5 : w23.cell? ⟨gb84002, 5, none⟩ = some (.slice A1_5 l1_5.length c1_5) := (blk_cell BK84002.out 5).trans rfl; have hcz25_6 : w23.cell? ⟨gb84002, 6, none⟩ = some (.slice A1_6 l1_6.length c1_6) := (blk_cell BK84002.out 6).trans rfl; have hcz25_7 : w23.cell? ⟨gb84002, 7, none⟩ = some (.int .i64 a1_7) := (blk_cell BK84002.out 7).trans rfl; have hfz25_0 := blk_frozen BK84002.out 0; have hfz25_1 := blk_frozen BK84002.out 1; have hfz25_2 := blk_frozen BK84002.out 2; have hfz25_3 := blk_frozen BK84002.out 3; have hfz25_4 := blk_frozen BK84002.out 4; have hfz25_5 := blk_frozen BK84002.out 5; have hfz25_6 := blk_frozen BK84002.out 6; have hfz25_7 := blk_frozen BK84002.out 7) | (go_at_call 127; (with_reducible refine (slices_Equal_int_int.calls k _ _ l0_6 _ _ l1_6 false _ ?side1 ?side2 ?side3 ?side4 A8.out).mono ?_); (case side1 => repeat (first | exact (Kd.C_below HR0_6.out HB.out) | (with_reducible refine Kd.C_alloc ?_ _) | (with_reducible refine Kd.C_drewN ?_ _) | (with_reducible refine Kd.C_drew ?_))); (case side2 => exact HC0_6.out); (case side3 => repeat (first | exact (Kd.C_below HR1_6.out HB.out) | (with_reducible refine Kd.C_alloc ?_ _) | (with_reducible refine Kd.C_drewN ?_ _) | (with_reducible refine Kd.C_drew ?_))); (case side4 => exact HC1_6.out); rintro e w' ⟨rfl, ⟨nd, rfl⟩⟩))
            go_ret
            exact ⟨by first | rfl | (simp [errW_none, errW_some] <;> rfl) | (simp [*, errW_none, errW_some] <;> rfl), by repeat (first | (with_reducible first | exact HB.out | apply below_alloc | apply pw_below_drewN | apply below_drew1 | refine below_set ?_ GE84001.out | refine below_set ?_ GE84002.out) | exact HB.out)⟩
        · replace c7 := Bool.eq_false_iff.mpr c7
          subst c7
          have H1 : (some false) = some r := by rw [if_neg (show ¬ (false = true) by decide)] at H; exact H
          clear H
          have H := H1
          clear H1
          obtain rfl := Option.some.inj H
          go_enter Try.func84, Try.ntmps84
          go_wp2_with (first | ((with_reducible refine gate_dst (N := 2) rfl ?_); refine box_event ?hg (N := 2) ?hd (cs := #[.int .i64 a0_0, .string a0_1, .string a0_2, .int .i64 a0_3, .string a0_4, .slice A0_5 l0_5.length c0_5, .slice A0_6 l0_6.length c0_6, .int .i64 a0_7]) (t := 44) ?hr ?_; (case hd => rfl); (case hg => rfl); (case hr => first | (go_simp; done) | (go_simp; rfl)); intro gb84001 hg w26 hbox hb; have n0_ := Aside0.mk (below_step (by repeat (first | (with_reducible first | exact HB.out | apply below_alloc | apply pw_below_drewN | apply below_drew1) | exact HB.out)) hb); have n1_ := Aside0.mk (hbox); have n2_ := Aside0.mk ((by rw [hg]; exact (below_size (by repeat (first | (with_reducible first | exact HB.out | apply below_alloc | apply pw_below_drewN | apply below_drew1) | exact HB.out))) : w.heap.size ≤ gb84001)); have n3_ := Aside0.mk ((by rw [hg]; exact (below_size (by repeat (first | (with_reducible first | exact HB.out | apply below_alloc | apply pw_below_drewN | apply below_drew1) | exact HB.out))) : w.heap.size ≤ gb84001)); clear HB; have HB := n0_; have BK84001 := n1_; have GW84001 := n2_; have GE84001 := n3_; clear n0_ n1_ n2_ n3_; clear hb hbox hg) | ((with_reducible refine gate_dst (N := 3) rfl ?_); refine box_event ?hg (N := 3) ?hd (cs := #[.int .i64 a1_0, .string a1_1, .string a1_2, .int .i64 a1_3, .string a1_4, .slice A1_5 l1_5.length c1_5, .slice A1_6 l1_6.length c1_6, .int .i64 a1_7]) (t := 44) ?hr ?_; (case hd => rfl); (case hg => rfl); (case hr => first | (go_simp; done) | (go_simp; rfl)); intro gb84002 hg w27 hbox hb; have n0_ := Aside0.mk (blk_below (g := gb84001) (o := .cells #[.int .i64 a0_0, .string a0_1, .string a0_2, .int .i64 a0_3, .string a0_4, .slice A0_5 l0_5.length c0_5, .slice A0_6 l0_6.length c0_6, .int .i64 a0_7] 44 (0, 0)) (by (with_reducible repeat (first | refine blk_drewN ?_ _ | refine blk_drew ?_ | refine blk_alloc ?_ _)); exact BK84001.out) hb); have n1_ := Aside0.mk (below_step (by repeat (first | (with_reducible first | exact HB.out | apply below_alloc | apply pw_below_drewN | apply below_drew1 | refine below_set ?_ GE84001.out) | exact HB.out)) hb); have n2_ := Aside0.mk (hbox); have n3_ := Aside0.mk ((by rw [hg]; exact (below_size (by repeat (first | (with_reducible first | exact HB.out | apply below_alloc | apply pw_below_drewN | apply below_drew1 | refine below_set ?_ GE84001.out) | exact HB.out))) : w.heap.size ≤ gb84002)); have n4_ := Aside0.mk ((by rw [hg]; exact (below_size (by repeat (first | (with_reducible first | exact HB.out | apply below_alloc | apply pw_below_drewN | apply below_drew1 | refine below_set ?_ GE84001.out) | exact HB.out))) : w.heap.size ≤ gb84002)); have n5_ := Aside0.mk ((by rw [hg]; exact Nat.ne_of_lt (blk_lt (g := gb84001) (o := .cells #[.int .i64 a0_0, .string a0_1, .string a0_2, .int .i64 a0_3, .string a0_4, .slice A0_5 l0_5.length c0_5, .slice A0_6 l0_6.length c0_6, .int .i64 a0_7] 44 (0, 0)) (by (with_reducible repeat (first | refine blk_drewN ?_ _ | refine blk_drew ?_ | refine blk_alloc ?_ _)); exact BK84001.out)) : gb84001 ≠ gb84002)); have n6_ := Aside0.mk ((by rw [hg]; exact Nat.ne_of_gt (blk_lt (g := gb84001) (o := .cells #[.int .i64 a0_0, .string a0_1, .string a0_2, .int .i64 a0_3, .string a0_4, .slice A0_5 l0_5.length c0_5, .slice A0_6 l0_6.length c0_6, .int .i64 a0_7] 44 (0, 0)) (by (with_reducible repeat (first | refine blk_drewN ?_ _ | refine blk_drew ?_ | refine blk_alloc ?_ _)); exact BK84001.out)) : gb84002 ≠ gb84001)); clear BK84001; clear HB; have BK84001 := n0_; have HB := n1_; have BK84002 := n2_; have GW84002 := n3_; have GE84002 := n4_; have NB84001_84002 := n5_; have NB84002_84001 := n6_; clear n0_ n1_ n2_ n3_ n4_ n5_ n6_; clear hb hbox hg; have hnb28 := NB84001_84002.out; have hnc28 := NB84002_84001.out; have hcz29_0 : w27.cell? ⟨gb84001, 0, none⟩ = some (.int .i64 a0_0) := (blk_cell BK84001.out 0).trans rfl; have hcz29_1 : w27.cell? ⟨gb84001, 1, none⟩ = some (.string a0_1) := (blk_cell BK84001.out 1).trans rfl; have hcz29_2 : w27.cell? ⟨gb84001, 2, none⟩ = some (.string a0_2) := (blk_cell BK84001.out 2).trans rfl; have hcz29_3 : w27.cell? ⟨gb84001, 3, none⟩ = some (.int .i64 a0_3) := (blk_cell BK84001.out 3).trans rfl; have hcz29_4 : w27.cell? ⟨gb84001, 4, none⟩ = some (.string a0_4) := (blk_cell BK84001.out 4).trans rfl; have hcz29_5 : w27.cell? ⟨gb84001, 5, none⟩ = some (.slice A0_5 l0_5.length c0_5) := (blk_cell BK84001.out 5).trans rfl; have hcz29_6 : w27.cell? ⟨gb84001, 6, none⟩ = some (.slice A0_6 l0_6.length c0_6) := (blk_cell BK84001.out 6).trans rfl; have hcz29_7 : w27.cell? ⟨gb84001, 7, none⟩ = some (.int .i64 a0_7) := (blk_cell BK84001.out 7).trans rfl; have hfz29_0 := blk_frozen BK84001.out 0; have hfz29_1 := blk_frozen BK84001.out 1; have hfz29_2 := blk_frozen BK84001.out 2; have hfz29_3 := blk_frozen BK84001.out 3; have hfz29_4 := blk_frozen BK84001.out 4; have hfz29_5 := blk_frozen BK84001.out 5; have hfz29_6 := blk_frozen BK84001.out 6; have hfz29_7 := blk_frozen BK84001.out 7; have hcz30_0 : w27.cell? ⟨gb84002, 0, none⟩ = some (.int .i64 a1_0) := (blk_cell BK84002.out 0).trans rfl; have hcz30_1 : w27.cell? ⟨gb84002, 1, none⟩ = some (.string a1_1) := (blk_cell BK84002.out 1).trans rfl; have hcz30_2 : w27.cell? ⟨gb84002, 2, none⟩ = some (.string a1_2) := (blk_cell BK84002.out 2).trans rfl; have hcz30_3 : w27.cell? ⟨gb84002, 3, none⟩ = some (.int .i64 a1_3) := (blk_cell BK84002.out 3).trans rfl; have hcz30_4 : w27.cell? ⟨gb84002, 4, none⟩ = some (.string a1_4) := (blk_cell BK84002.out 4).trans rfl; have hcz30_5 : w27.cell? ⟨gb84002, 5, none⟩ = some (.slice A1_5 l1_5.length c1_5) := (blk_cell BK84002.out 5).trans rfl; have hcz30_6 : w27.cell? ⟨gb84002, 6, none⟩ = some (.slice A1_6 l1_6.length c1_6) := (blk_cell BK84002.out 6).trans rfl; have hcz30_7 : w27.cell? ⟨gb84002, 7, none⟩ = some (.int .i64 a1_7) := (blk_cell BK84002.out 7).trans rfl; have hfz30_0 := blk_frozen BK84002.out 0; have hfz30_1 := blk_frozen BK84002.out 1; have hfz30_2 := blk_frozen BK84002.out 2; have hfz30_3 := blk_frozen BK84002.out 3; have hfz30_4 := blk_frozen BK84002.out 4; have hfz30_5 := blk_frozen BK84002.out 5; have hfz30_6 := blk_frozen BK84002.out 6; have hfz30_7 := blk_frozen BK84002.out 7) | (go_at_call 162; (with_reducible refine (impl_EqualRegex.calls k a0_3 a0_4 _ _ l0_5 a1_3 a1_4 _ _ l1_5 false _ ?side1 ?side2 ?side3 ?side4 A6.out).mono ?_); (case side1 => repeat (first | exact (Kd.C_below HR0_5.out HB.out) | (with_reducible refine Kd.C_alloc ?_ _) | (with_reducible refine Kd.C_drewN ?_ _) | (with_reducible refine Kd.C_drew ?_))); (case side2 => exact HC0_5.out); (case side3 => repeat (first | exact (Kd.C_below HR1_5.out HB.out) | (with_reducible refine Kd.C_alloc ?_ _) | (with_reducible refine Kd.C_drewN ?_ _) | (with_reducible refine Kd.C_drew ?_))); (case side4 => exact HC1_5.out); rintro e w31 ⟨rfl, hb⟩; have n0_ := Aside0.mk (blk_below (g := gb84001) (o := .cells #[.int .i64 a0_0, .string a0_1, .string a0_2, .int .i64 a0_3, .string a0_4, .slice A0_5 l0_5.length c0_5, .slice A0_6 l0_6.length c0_6, .int .i64 a0_7] 44 (0, 0)) (by (with_reducible repeat (first | refine blk_drewN ?_ _ | refine blk_drew ?_ | refine blk_alloc ?_ _)); exact BK84001.out) hb); have n1_ := Aside0.mk (blk_below (g := gb84002) (o := .cells #[.int .i64 a1_0, .string a1_1, .string a1_2, .int .i64 a1_3, .string a1_4, .slice A1_5 l1_5.length c1_5, .slice A1_6 l1_6.length c1_6, .int .i64 a1_7] 44 (0, 0)) (by (with_reducible repeat (first | refine blk_drewN ?_ _ | refine blk_drew ?_ | refine blk_alloc ?_ _)); exact BK84002.out) hb); have n2_ := Aside0.mk (below_step (by repeat (first | (with_reducible first | exact HB.out | apply below_alloc | apply pw_below_drewN | apply below_drew1 | refine below_set ?_ GE84001.out | refine below_set ?_ GE84002.out) | exact HB.out)) hb); clear BK84001; clear BK84002; clear HB; have BK84001 := n0_; have BK84002 := n1_; have HB := n2_; clear n0_ n1_ n2_; (try clear hb); (try clear hb2); (try clear hk); (try clear hi)))
          go_ret
          exact ⟨by first | rfl | (simp [errW_none, errW_some] <;> rfl) | (simp [*, errW_none, errW_some] <;> rfl), by repeat (first | (with_reducible first | exact HB.out | apply below_alloc | apply pw_below_drewN | apply below_drew1 | refine below_set ?_ GE84001.out | refine below_set ?_ GE84002.out) | exact HB.out)⟩
      · rw [if_neg c5] at H
        have c5b0 : (a0_2.toList == a1_2.toList) = false := beq_eq_false_iff_ne.mpr c5
        have c5b1 : (a0_2.toList != a1_2.toList) = true := bne_iff_ne.mpr c5
        obtain rfl := Option.some.inj H
        go_enter Try.func84, Try.ntmps84
        go_wp2_with (first | ((with_reducible refine gate_dst (N := 2) rfl ?_); refine box_event ?hg (N := 2) ?hd (cs := #[.int .i64 a0_0, .string a0_1, .string a0_2, .int .i64 a0_3, .string a0_4, .slice A0_5 l0_5.length c0_5, .slice A0_6 l0_6.length c0_6, .int .i64 a0_7]) (t := 44) ?hr ?_; (case hd => rfl); (case hg => rfl); (case hr => first | (go_simp; done) | (go_simp; rfl)); intro gb84001 hg w32 hbox hb; have n0_ := Aside0.mk (below_step (by repeat (first | (with_reducible first | exact HB.out | apply below_alloc | apply pw_below_drewN | apply below_drew1) | exact HB.out)) hb); have n1_ := Aside0.mk (hbox); have n2_ := Aside0.mk ((by rw [hg]; exact (below_size (by repeat (first | (with_reducible first | exact HB.out | apply below_alloc | apply pw_below_drewN | apply below_drew1) | exact HB.out))) : w.heap.size ≤ gb84001)); have n3_ := Aside0.mk ((by rw [hg]; exact (below_size (by repeat (first | (with_reducible first | exact HB.out | apply below_alloc | apply pw_below_drewN | apply below_drew1) | exact HB.out))) : w.heap.size ≤ gb84001)); clear HB; have HB := n0_; have BK84001 := n1_; have GW84001 := n2_; have GE84001 := n3_; clear n0_ n1_ n2_ n3_; clear hb hbox hg) | ((with_reducible refine gate_dst (N := 3) rfl ?_); refine box_event ?hg (N := 3) ?hd (cs := #[.int .i64 a1_0, .string a1_1, .string a1_2, .int .i64 a1_3, .string a1_4, .slice A1_5 l1_5.length c1_5, .slice A1_6 l1_6.length c1_6, .int .i64 a1_7]) (t := 44) ?hr ?_; (case hd => rfl); (case hg => rfl); (case hr => first | (go_simp; done) | (go_simp; rfl)); intro gb84002 hg w33 hbox hb; have n0_ := Aside0.mk (blk_below (g := gb84001) (o := .cells #[.int .i64 a0_0, .string a0_1, .string a0_2, .int .i64 a0_3, .string a0_4, .slice A0_5 l0_5.length c0_5, .slice A0_6 l0_6.length c0_6, .int .i64 a0_7] 44 (0, 0)) (by (with_reducible repeat (first | refine blk_drewN ?_ _ | refine blk_drew ?_ | refine blk_alloc ?_ _)); exact BK84001.out) hb); have n1_ := Aside0.mk (below_step (by repeat (first | (with_reducible first | exact HB.out | apply below_alloc | apply pw_below_drewN | apply below_drew1 | refine below_set ?_ GE84001.out) | exact HB.out)) hb); have n2_ := Aside0.mk (hbox); have n3_ := Aside0.mk ((by rw [hg]; exact (below_size (by repeat (first | (with_reducible first | exact HB.out | apply below_alloc | apply pw_below_drewN | apply below_drew1 | refine below_set ?_ GE84001.out) | exact HB.out))) : w.heap.size ≤ gb84002)); have n4_ := Aside0.mk ((by rw [hg]; exact (below_size (by repeat (first | (with_reducible first | exact HB.out | apply below_alloc | apply pw_below_drewN | apply below_drew1 | refine below_set ?_ GE84001.out) | exact HB.out))) : w.heap.size ≤ gb84002)); have n5_ := Aside0.mk ((by rw [hg]; exact Nat.ne_of_lt (blk_lt (g := gb84001) (o := .cells #[.int .i64 a0_0, .string a0_1, .string a0_2, .int .i64 a0_3, .string a0_4, .slice A0_5 l0_5.length c0_5, .slice A0_6 l0_6.length c0_6, .int .i64 a0_7] 44 (0, 0)) (by (with_reducible repeat (first | refine blk_drewN ?_ _ | refine blk_drew ?_ | refine blk_alloc ?_ _)); exact BK84001.out)) : gb84001 ≠ gb84002)); have n6_ := Aside0.mk ((by rw [hg]; exact Nat.ne_of_gt (blk_lt (g := gb84001) (o := .cells #[.int .i64 a0_0, .string a0_1, .string a0_2, .int .i64 a0_3, .string a0_4, .slice A0_5 l0_5.length c0_5, .slice A0_6 l0_6.length c0_6, .int .i64 a0_7] 44 (0, 0)) (by (with_reducible repeat (first | refine blk_drewN ?_ _ | refine blk_drew ?_ | refine blk_alloc ?_ _)); exact BK84001.out)) : gb84002 ≠ gb84001)); clear BK84001; clear HB; have BK84001 := n0_; have HB := n1_; have BK84002 := n2_; have GW84002 := n3_; have GE84002 := n4_; have NB84001_84002 := n5_; have NB84002_84001 := n6_; clear n0_ n1_ n2_ n3_ n4_ n5_ n6_; clear hb hbox hg; have hnb34 := NB84001_84002.out; have hnc34 := NB84002_84001.out; have hcz35_0 : w33.cell? ⟨gb84001, 0, none⟩ = some (.int .i64 a0_0) := (blk_cell BK84001.out 0).trans rfl; have hcz35_1 : w33.cell? ⟨gb84001, 1, none⟩ = some (.string a0_1) := (blk_cell BK84001.out 1).trans rfl; have hcz35_2 : w33.cell? ⟨gb84001, 2, none⟩ = some (.string a0_2) := (blk_cell BK84001.out 2).trans rfl; have hcz35_3 : w33.cell? ⟨gb84001, 3, none⟩ = some (.int .i64 a0_3) := (blk_cell BK84001.out 3).trans rfl; have hcz35_4 : w33.cell? ⟨gb84001, 4, none⟩ = some (.string a0_4) := (blk_cell BK84001.out 4).trans rfl; have hcz35_5 : w33.cell? ⟨gb84001, 5, none⟩ = some (.slice A0_5 l0_5.length c0_5) := (blk_cell BK84001.out 5).trans rfl; have hcz35_6 : w33.cell? ⟨gb84001, 6, none⟩ = some (.slice A0_6 l0_6.length c0_6) := (blk_cell BK84001.out 6).trans rfl; have hcz35_7 : w33.cell? ⟨gb84001, 7, none⟩ = some (.int .i64 a0_7) := (blk_cell BK84001.out 7).trans rfl; have hfz35_0 := blk_frozen BK84001.out 0; have hfz35_1 := blk_frozen BK84001.out 1; have hfz35_2 := blk_frozen BK84001.out 2; have hfz35_3 := blk_frozen BK84001.out 3; have hfz35_4 := blk_frozen BK84001.out 4; have hfz35_5 := blk_frozen BK84001.out 5; have hfz35_6 := blk_frozen BK84001.out 6; have hfz35_7 := blk_frozen BK84001.out 7; have hcz36_0 : w33.cell? ⟨gb84002, 0, none⟩ = some (.int .i64 a1_0) := (blk_cell BK84002.out 0).trans rfl; have hcz36_1 : w33.cell? ⟨gb84002, 1, none⟩ = some (.string a1_1) := (blk_cell BK84002.out 1).trans rfl; have hcz36_2 : w33.cell? ⟨gb84002, 2, none⟩ = some (.string a1_2) := (blk_cell BK84002.out 2).trans rfl; have hcz36_3 : w33.cell? ⟨gb84002, 3, none⟩ = some (.int .i64 a1_3) := (blk_cell BK84002.out 3).trans rfl; have hcz36_4 : w33.cell? ⟨gb84002, 4, none⟩ = some (.string a1_4) := (blk_cell BK84002.out 4).trans rfl; have hcz36_5 : w33.cell? ⟨gb84002, 5, none⟩ = some (.slice A1_5 l1_5.length c1_5) := (blk_cell BK84002.out 5).trans rfl; have hcz36_6 : w33.cell? ⟨gb84002, 6, none⟩ = some (.slice A1_6 l1_6.length c1_6) := (blk_cell BK84002.out 6).trans rfl; have hcz36_7 : w33.cell? ⟨gb84002, 7, none⟩ = some (.int .i64 a1_7) := (blk_cell BK84002.out 7).trans rfl; have hfz36_0 := blk_frozen BK84002.out 0; have hfz36_1 := blk_frozen BK84002.out 1; have hfz36_2 := blk_frozen BK84002.out 2; have hfz36_3 := blk_frozen BK84002.out 3; have hfz36_4 := blk_frozen BK84002.out 4; have hfz36_5 := blk_frozen BK84002.out 5; have hfz36_6 := blk_frozen BK84002.out 6; have hfz36_7 := blk_frozen BK84002.out 7))
        go_ret
        exact ⟨by first | rfl | (simp [errW_none, errW_some] <;> rfl) | (simp [*, errW_none, errW_some] <;> rfl), by repeat (first | (with_reducible first | exact HB.out | apply below_alloc | apply pw_below_drewN | apply below_drew1 | refine below_set ?_ GE84001.out | refine below_set ?_ GE84002.out) | exact HB.out)⟩
    · rw [if_neg c4] at H
      have c4b0 : (a0_1.toList == a1_1.toList) = false := beq_eq_false_iff_ne.mpr c4
      have c4b1 : (a0_1.toList != a1_1.toList) = true := bne_iff_ne.mpr c4
      obtain rfl := Option.some.inj H
      go_enter Try.func84, Try.ntmps84
      go_wp2_with (first | ((with_reducible refine gate_dst (N := 2) rfl ?_); refine box_event ?hg (N := 2) ?hd (cs := #[.int .i64 a0_0, .string a0_1, .string a0_2, .int .i64 a0_3, .string a0_4, .slice A0_5 l0_5.length c0_5, .slice A0_6 l0_6.length c0_6, .int .i64 a0_7]) (t := 44) ?hr ?_; (case hd => rfl); (case hg => rfl); (case hr => first | (go_simp; done) | (go_simp; rfl)); intro gb84001 hg w37 hbox hb; have n0_ := Aside0.mk (below_step (by repeat (first | (with_reducible first | exact HB.out | apply below_alloc | apply pw_below_drewN | apply below_drew1) | exact HB.out)) hb); have n1_ := Aside0.mk (hbox); have n2_ := Aside0.mk ((by rw [hg]; exact (below_size (by repeat (first | (with_reducible first | exact HB.out | apply below_alloc | apply pw_below_drewN | apply below_drew1) | exact HB.out))) : w.heap.size ≤ gb84001)); have n3_ := Aside0.mk ((by rw [hg]; exact (below_size (by repeat (first | (with_reducible first | exact HB.out | apply below_alloc | apply pw_below_drewN | apply below_drew1) | exact HB.out))) : w.heap.size ≤ gb84001)); clear HB; have HB := n0_; have BK84001 := n1_; have GW84001 := n2_; have GE84001 := n3_; clear n0_ n1_ n2_ n3_; clear hb hbox hg) | ((with_reducible refine gate_dst (N := 3) rfl ?_); refine box_event ?hg (N := 3) ?hd (cs := #[.int .i64 a1_0, .string a1_1, .string a1_2, .int .i64 a1_3, .string a1_4, .slice A1_5 l1_5.length c1_5, .slice A1_6 l1_6.length c1_6, .int .i64 a1_7]) (t := 44) ?hr ?_; (case hd => rfl); (case hg => rfl); (case hr => first | (go_simp; done) | (go_simp; rfl)); intro gb84002 hg w38 hbox hb; have n0_ := Aside0.mk (blk_below (g := gb84001) (o := .cells #[.int .i64 a0_0, .string a0_1, .string a0_2, .int .i64 a0_3, .string a0_4, .slice A0_5 l0_5.length c0_5, .slice A0_6 l0_6.length c0_6, .int .i64 a0_7] 44 (0, 0)) (by (with_reducible repeat (first | refine blk_drewN ?_ _ | refine blk_drew ?_ | refine blk_alloc ?_ _)); exact BK84001.out) hb); have n1_ := Aside0.mk (below_step (by repeat (first | (with_reducible first | exact HB.out | apply below_alloc | apply pw_below_drewN | apply below_drew1 | refine below_set ?_ GE84001.out) | exact HB.out)) hb); have n2_ := Aside0.mk (hbox); have n3_ := Aside0.mk ((by rw [hg]; exact (below_size (by repeat (first | (with_reducible first | exact HB.out | apply below_alloc | apply pw_below_drewN | apply below_drew1 | refine below_set ?_ GE84001.out) | exact HB.out))) : w.heap.size ≤ gb84002)); have n4_ := Aside0.mk ((by rw [hg]; exact (below_size (by repeat (first | (with_reducible first | exact HB.out | apply below_alloc | apply pw_below_drewN | apply below_drew1 | refine below_set ?_ GE84001.out) | exact HB.out))) : w.heap.size ≤ gb84002)); have n5_ := Aside0.mk ((by rw [hg]; exact Nat.ne_of_lt (blk_lt (g := gb84001) (o := .cells #[.int .i64 a0_0, .string a0_1, .string a0_2, .int .i64 a0_3, .string a0_4, .slice A0_5 l0_5.length c0_5, .slice A0_6 l0_6.length c0_6, .int .i64 a0_7] 44 (0, 0)) (by (with_reducible repeat (first | refine blk_drewN ?_ _ | refine blk_drew ?_ | refine blk_alloc ?_ _)); exact BK84001.out)) : gb84001 ≠ gb84002)); have n6_ := Aside0.mk ((by rw [hg]; exact Nat.ne_of_gt (blk_lt (g := gb84001) (o := .cells #[.int .i64 a0_0, .string a0_1, .string a0_2, .int .i64 a0_3, .string a0_4, .slice A0_5 l0_5.length c0_5, .slice A0_6 l0_6.length c0_6, .int .i64 a0_7] 44 (0, 0)) (by (with_reducible repeat (first | refine blk_drewN ?_ _ | refine blk_drew ?_ | refine blk_alloc ?_ _)); exact BK84001.out)) : gb84002 ≠ gb84001)); clear BK84001; clear HB; have BK84001 := n0_; have HB := n1_; have BK84002 := n2_; have GW84002 := n3_; have GE84002 := n4_; have NB84001_84002 := n5_; have NB84002_84001 := n6_; clear n0_ n1_ n2_ n3_ n4_ n5_ n6_; clear hb hbox hg; have hnb39 := NB84001_84002.out; have hnc39 := NB84002_84001.out; have hcz40_0 : w38.cell? ⟨gb84001, 0, none⟩ = some (.int .i64 a0_0) := (blk_cell BK84001.out 0).trans rfl; have hcz40_1 : w38.cell? ⟨gb84001, 1, none⟩ = some (.string a0_1) := (blk_cell BK84001.out 1).trans rfl; have hcz40_2 : w38.cell? ⟨gb84001, 2, none⟩ = some (.string a0_2) := (blk_cell BK84001.out 2).trans rfl; have hcz40_3 : w38.cell? ⟨gb84001, 3, none⟩ = some (.int .i64 a0_3) := (blk_cell BK84001.out 3).trans rfl; have hcz40_4 : w38.cell? ⟨gb84001, 4, none⟩ = some (.string a0_4) := (blk_cell BK84001.out 4).trans rfl; have hcz40_5 : w38.cell? ⟨gb84001, 5, none⟩ = some (.slice A0_5 l0_5.length c0_5) := (blk_cell BK84001.out 5).trans rfl; have hcz40_6 : w38.cell? ⟨gb84001, 6, none⟩ = some (.slice A0_6 l0_6.length c0_6) := (blk_cell BK84001.out 6).trans rfl; have hcz40_7 : w38.cell? ⟨gb84001, 7, none⟩ = some (.int .i64 a0_7) := (blk_cell BK84001.out 7).trans rfl; have hfz40_0 := blk_frozen BK84001.out 0; have hfz40_1 := blk_frozen BK84001.out 1; have hfz40_2 := blk_frozen BK84001.out 2; have hfz40_3 := blk_frozen BK84001.out 3; have hfz40_4 := blk_frozen BK84001.out 4; have hfz40_5 := blk_frozen BK84001.out 5; have hfz40_6 := blk_frozen BK84001.out 6; have hfz40_7 := blk_frozen BK84001.out 7; have hcz41_0 : w38.cell? ⟨gb84002, 0, none⟩ = some (.int .i64 a1_0) := (blk_cell BK84002.out 0).trans rfl; have hcz41_1 : w38.cell? ⟨gb84002, 1, none⟩ = some (.string a1_1) := (blk_cell BK84002.out 1).trans rfl; have hcz41_2 : w38.cell? ⟨gb84002, 2, none⟩ = some (.string a1_2) := (blk_cell BK84002.out 2).trans rfl; have hcz41_3 : w38.cell? ⟨gb84002, 3, none⟩ = some (.int .i64 a1_3) := (blk_cell BK84002.out 3).trans rfl; have hcz41_4 : w38.cell? ⟨gb84002, 4, none⟩ = some (.string a1_4) := (blk_cell BK84002.out 4).trans rfl; have hcz41_5 : w38.cell? ⟨gb84002, 5, none⟩ = some (.slice A1_5 l1_5.length c1_5) := (blk_cell BK84002.out 5).trans rfl; have hcz41_6 : w38.cell? ⟨gb84002, 6, none⟩ = some (.slice A1_6 l1_6.length c1_6) := (blk_cell BK84002.out 6).trans rfl; have hcz41_7 : w38.cell? ⟨gb84002, 7, none⟩ = some (.int .i64 a1_7) := (blk_cell BK84002.out 7).trans rfl; have hfz41_0 := blk_frozen BK84002.out 0; have hfz41_1 := blk_frozen BK84002.out 1; have hfz41_2 := blk_frozen BK84002.out 2; have hfz41_3 := blk_frozen BK84002.out 3; have hfz41_4 := blk_frozen BK84002.out 4; have hfz41_5 := blk_frozen BK84002.out 5; have hfz41_6 := blk_frozen BK84002.out 6; have hfz41_7 := blk_frozen BK84002.out 7))
      go_ret
      exact ⟨by first | rfl | (simp [errW_none, errW_some] <;> rfl) | (simp [*, errW_none, errW_some] <;> rfl), by repeat (first | (with_reducible first | exact HB.out | apply below_alloc | apply pw_below_drewN | apply below_drew1 | refine below_set ?_ GE84001.out | refine below_set ?_ GE84002.out) | exact HB.out)⟩
  · rw [if_neg c3] at H
    have c3b0 : (a0_0 == a1_0) = false := beq_eq_false_iff_ne.mpr c3
    have c3b1 : (a0_0 != a1_0) = true := bne_iff_ne.mpr c3
    obtain rfl := Option.some.inj H
    go_enter Try.func84, Try.ntmps84
    go_wp2_with (first | ((with_reducible refine gate_dst (N := 2) rfl ?_); refine box_event ?hg (N := 2) ?hd (cs := #[.int .i64 a0_0, .string a0_1, .string a0_2, .int .i64 a0_3, .string a0_4, .slice A0_5 l0_5.length c0_5, .slice A0_6 l0_6.length c0_6, .int .i64 a0_7]) (t := 44) ?hr ?_; (case hd => rfl); (case hg => rfl); (case hr => first | (go_simp; done) | (go_simp; rfl)); intro gb84001 hg w42 hbox hb; have n0_ := Aside0.mk (below_step (by repeat (first | (with_reducible first | exact HB.out | apply below_alloc | apply pw_below_drewN | apply below_drew1) | exact HB.out)) hb); have n1_ := Aside0.mk (hbox); have n2_ := Aside0.mk ((by rw [hg]; exact (below_size (by repeat (first | (with_reducible first | exact HB.out | apply below_alloc | apply pw_below_drewN | apply below_drew1) | exact HB.out))) : w.heap.size ≤ gb84001)); have n3_ := Aside0.mk ((by rw [hg]; exact (below_size (by repeat (first | (with_reducible first | exact HB.out | apply below_alloc | apply pw_below_drewN | apply below_drew1) | exact HB.out))) : w.heap.size ≤ gb84001)); clear HB; have HB := n0_; have BK84001 := n1_; have GW84001 := n2_; have GE84001 := n3_; clear n0_ n1_ n2_ n3_; clear hb hbox hg) | ((with_reducible refine gate_dst (N := 3) rfl ?_); refine box_event ?hg (N := 3) ?hd (cs := #[.int .i64 a1_0, .string a1_1, .string a1_2, .int .i64 a1_3, .string a1_4, .slice A1_5 l1_5.length c1_5, .slice A1_6 l1_6.length c1_6, .int .i64 a1_7]) (t := 44) ?hr ?_; (case hd => rfl); (case hg => rfl); (case hr => first | (go_simp; done) | (go_simp; rfl)); intro gb84002 hg w43 hbox hb; have n0_ := Aside0.mk (blk_below (g := gb84001) (o := .cells #[.int .i64 a0_0, .string a0_1, .string a0_2, .int .i64 a0_3, .string a0_4, .slice A0_5 l0_5.length c0_5, .slice A0_6 l0_6.length c0_6, .int .i64 a0_7] 44 (0, 0)) (by (with_reducible repeat (first | refine blk_drewN ?_ _ | refine blk_drew ?_ | refine blk_alloc ?_ _)); exact BK84001.out) hb); have n1_ := Aside0.mk (below_step (by repeat (first | (with_reducible first | exact HB.out | apply below_alloc | apply pw_below_drewN | apply below_drew1 | refine below_set ?_ GE84001.out) | exact HB.out)) hb); have n2_ := Aside0.mk (hbox); have n3_ := Aside0.mk ((by rw [hg]; exact (below_size (by repeat (first | (with_reducible first | exact HB.out | apply below_alloc | apply pw_below_drewN | apply below_drew1 | refine below_set ?_ GE84001.out) | exact HB.out))) : w.heap.size ≤ gb84002)); have n4_ := Aside0.mk ((by rw [hg]; exact (below_size (by repeat (first | (with_reducible first | exact HB.out | apply below_alloc | apply pw_below_drewN | apply below_drew1 | refine below_set ?_ GE84001.out) | exact HB.out))) : w.heap.size ≤ gb84002)); have n5_ := Aside0.mk ((by rw [hg]; exact Nat.ne_of_lt (blk_lt (g := gb84001) (o := .cells #[.int .i64 a0_0, .string a0_1, .string a0_2, .int .i64 a0_3, .string a0_4, .slice A0_5 l0_5.length c0_5, .slice A0_6 l0_6.length c0_6, .int .i64 a0_7] 44 (0, 0)) (by (with_reducible repeat (first | refine blk_drewN ?_ _ | refine blk_drew ?_ | refine blk_alloc ?_ _)); exact BK84001.out)) : gb84001 ≠ gb84002)); have n6_ := Aside0.mk ((by rw [hg]; exact Nat.ne_of_gt (blk_lt (g := gb84001) (o := .cells #[.int .i64 a0_0, .string a0_1, .string a0_2, .int .i64 a0_3, .string a0_4, .slice A0_5 l0_5.length c0_5, .slice A0_6 l0_6.length c0_6, .int .i64 a0_7] 44 (0, 0)) (by (with_reducible repeat (first | refine blk_drewN ?_ _ | refine blk_drew ?_ | refine blk_alloc ?_ _)); exact BK84001.out)) : gb84002 ≠ gb84001)); clear BK84001; clear HB; have BK84001 := n0_; have HB := n1_; have BK84002 := n2_; have GW84002 := n3_; have GE84002 := n4_; have NB84001_84002 := n5_; have NB84002_84001 := n6_; clear n0_ n1_ n2_ n3_ n4_ n5_ n6_; clear hb hbox hg; have hnb44 := NB84001_84002.out; have hnc44 := NB84002_84001.out; have hcz45_0 : w43.cell? ⟨gb84001, 0, none⟩ = some (.int .i64 a0_0) := (blk_cell BK84001.out 0).trans rfl; have hcz45_1 : w43.cell? ⟨gb84001, 1, none⟩ = some (.string a0_1) := (blk_cell BK84001.out 1).trans rfl; have hcz45_2 : w43.cell? ⟨gb84001, 2, none⟩ = some (.string a0_2) := (blk_cell BK84001.out 2).trans rfl; have hcz45_3 : w43.cell? ⟨gb84001, 3, none⟩ = some (.int .i64 a0_3) := (blk_cell BK84001.out 3).trans rfl; have hcz45_4 : w43.cell? ⟨gb84001, 4, none⟩ = some (.string a0_4) := (blk_cell BK84001.out 4).trans rfl; have hcz45_5 : w43.cell? ⟨gb84001, 5, none⟩ = some (.slice A0_5 l0_5.length c0_5) := (blk_cell BK84001.out 5).trans rfl; have hcz45_6 : w43.cell? ⟨gb84001, 6, none⟩ = some (.slice A0_6 l0_6.length c0_6) := (blk_cell BK84001.out 6).trans rfl; have hcz45_7 : w43.cell? ⟨gb84001, 7, none⟩ = some (.int .i64 a0_7) := (blk_cell BK84001.out 7).trans rfl; have hfz45_0 := blk_frozen BK84001.out 0; have hfz45_1 := blk_frozen BK84001.out 1; have hfz45_2 := blk_frozen BK84001.out 2; have hfz45_3 := blk_frozen BK84001.out 3; have hfz45_4 := blk_frozen BK84001.out 4; have hfz45_5 := blk_frozen BK84001.out 5; have hfz45_6 := blk_frozen BK84001.out 6; have hfz45_7 := blk_frozen BK84001.out 7; have hcz46_0 : w43.cell? ⟨gb84002, 0, none⟩ = some (.int .i64 a1_0) := (blk_cell BK84002.out 0).trans rfl; have hcz46_1 : w43.cell? ⟨gb84002, 1, none⟩ = some (.string a1_1) := (blk_cell BK84002.out 1).trans rfl; have hcz46_2 : w43.cell? ⟨gb84002, 2, none⟩ = some (.string a1_2) := (blk_cell BK84002.out 2).trans rfl; have hcz46_3 : w43.cell? ⟨gb84002, 3, none⟩ = some (.int .i64 a1_3) := (blk_cell BK84002.out 3).trans rfl; have hcz46_4 : w43.cell? ⟨gb84002, 4, none⟩ = some (.string a1_4) := (blk_cell BK84002.out 4).trans rfl; have hcz46_5 : w43.cell? ⟨gb84002, 5, none⟩ = some (.slice A1_5 l1_5.length c1_5) := (blk_cell BK84002.out 5).trans rfl; have hcz46_6 : w43.cell? ⟨gb84002, 6, none⟩ = some (.slice A1_6 l1_6.length c1_6) := (blk_cell BK84002.out 6).trans rfl; have hcz46_7 : w43.cell? ⟨gb84002, 7, none⟩ = some (.int .i64 a1_7) := (blk_cell BK84002.out 7).trans rfl; have hfz46_0 := blk_frozen BK84002.out 0; have hfz46_1 := blk_frozen BK84002.out 1; have hfz46_2 := blk_frozen BK84002.out 2; have hfz46_3 := blk_frozen BK84002.out 3; have hfz46_4 := blk_frozen BK84002.out 4; have hfz46_5 := blk_frozen BK84002.out 5; have hfz46_6 := blk_frozen BK84002.out 6; have hfz46_7 := blk_frozen BK84002.out 7))
    go_ret
    exact ⟨by first | rfl | (simp [errW_none, errW_some] <;> rfl) | (simp [*, errW_none, errW_some] <;> rfl), by repeat (first | (with_reducible first | exact HB.out | apply below_alloc | apply pw_below_drewN | apply below_drew1 | refine below_set ?_ GE84001.out | refine below_set ?_ GE84002.out) | exact HB.out)⟩


end Go.Proofs.Ytpppopdmnejcfaa.A

