/- Lean functions for the Go functions named below, and that each call comes to just what its function answers, at every argument at which it answers. Written by this session's program wip/xp.py. -/
import Derived.Test.YtkefiajemifklaaAx0
import Derived.Test.YtkefiajemifklaaAx15
namespace Go.Proofs.Ytkefiajemifklaa.A
open Go.RowKit Go.Proofs.Ytkefiajemifklaa.Ext Go.Proofs.YtkefiajemifklaaW.PrintWords Go.Proofs.YtkefiajemifklaaW.PrintLast Go.Proofs.YtkefiajemifklaaW.PrintMore
attribute [local go_sem] max2_int min2_int max_two min_two max_three min_three max_four min_four   -- for this text's walks alone
set_option linter.unusedVariables false
set_option linter.unusedSimpArgs false

/-! ### impl_ReverseStep: function 45 -/
def impl_ReverseStep.f (a0_0 : ByteArray) (a0_1 : ByteArray) (a0_2 : ByteArray) (a1_0 : Int) (a1_1 : ByteArray) : Option (ByteArray × ByteArray × ByteArray) := if a1_1.toList = ([] : List UInt8) then ((impl_WithValue.f a0_0 a0_1 a0_2 a1_0 (⟨#[]⟩ : ByteArray)).bind fun bt45004 => (some (bt45004.1, bt45004.2.1, bt45004.2.2))) else (if 0 ≤ 1 then (if 1 ≤ (a1_1.size : Int) then (if 0 < (a1_1.size : Int) then ((impl_isVariable.f (bt a1_1 0)).bind fun t45007 => (if t45007 = true then ((impl_ValueOf.f a0_0 a0_1 a0_2 (bt a1_1 0)).bind fun t45008 => ((impl_ValueOf.f a0_0 a0_1 a0_2 a1_0).bind fun t45009 => (if t45008.size + t45009.size ≤ 9223372036854775807 then ((impl_WithValue.f a0_0 a0_1 a0_2 a1_0 (t45008 ++ t45009)).bind fun bt45010 => (some (bt45010.1, bt45010.2.1, bt45010.2.2))) else (none)))) else ((impl_ValueOf.f a0_0 a0_1 a0_2 a1_0).bind fun t45013 => (if (a1_1.extract 0 1).size + t45013.size ≤ 9223372036854775807 then ((impl_WithValue.f a0_0 a0_1 a0_2 a1_0 ((a1_1.extract 0 1) ++ t45013)).bind fun bt45014 => (some (bt45014.1, bt45014.2.1, bt45014.2.2))) else (none))))) else (none)) else (none)) else (none))
def impl_ReverseStep.T6 : Bool × List (List Nat × List Nat) := (true, [([], []), ([], []), ([1], [1]), ([], []), ([], []), ([], []), ([5], [5]), ([4, 6], [4, 6]), ([3, 7], [3, 7]), ([0, 2, 8, 7], [0, 2, 8]), ([9, 9, 0, 1, 2, 3, 4, 5, 6, 7, 8, 9], [9])])
def impl_ReverseStep.B6 : List Nat := [0, 0, 2, 0, 0, 0, 32, 112, 248, 511, 1023]
theorem impl_ReverseStep.tab6 : rtab .any (opsOf Try.f45 6) = impl_ReverseStep.T6 := by kernel_rfl
theorem impl_ReverseStep.bits6 : waitsOk impl_ReverseStep.T6.2 impl_ReverseStep.B6 = true := by kernel_rfl
set_option maxHeartbeats 8000000 in
set_option maxRecDepth 100000 in
theorem impl_ReverseStep.calls (a0_0 : ByteArray) (a0_1 : ByteArray) (a0_2 : ByteArray) (a1_0 : Int) (a1_1 : ByteArray) (r1 : ByteArray) (r2 : ByteArray) (r3 : ByteArray) (w : World) (h : impl_ReverseStep.f a0_0 a0_1 a0_2 a1_0 a1_1 = some (r1, r2, r3)) :
    Calls Try.prog 45 #[.agg #[.string a0_0, .string a0_1, .string a0_2], .agg #[.int .u8 a1_0, .string a1_1]] w fun e w' => e = .returned (.agg #[.string r1, .string r2, .string r3]) ∧ Below w.heap.size w w' := by
  have hu71 := Try.underlying71
  have hu62 := Try.underlying62
  have HB := Aside0.mk (Below.refl w.heap.size w)
  have H : (if a1_1.toList = ([] : List UInt8) then ((impl_WithValue.f a0_0 a0_1 a0_2 a1_0 (⟨#[]⟩ : ByteArray)).bind fun bt45004 => (some (bt45004.1, bt45004.2.1, bt45004.2.2))) else (if 0 ≤ 1 then (if 1 ≤ (a1_1.size : Int) then (if 0 < (a1_1.size : Int) then ((impl_isVariable.f (bt a1_1 0)).bind fun t45007 => (if t45007 = true then ((impl_ValueOf.f a0_0 a0_1 a0_2 (bt a1_1 0)).bind fun t45008 => ((impl_ValueOf.f a0_0 a0_1 a0_2 a1_0).bind fun t45009 => (if t45008.size + t45009.size ≤ 9223372036854775807 then ((impl_WithValue.f a0_0 a0_1 a0_2 a1_0 (t45008 ++ t45009)).bind fun bt45010 => (some (bt45010.1, bt45010.2.1, bt45010.2.2))) else (none)))) else ((impl_ValueOf.f a0_0 a0_1 a0_2 a1_0).bind fun t45013 => (if (a1_1.extract 0 1).size + t45013.size ≤ 9223372036854775807 then ((impl_WithValue.f a0_0 a0_1 a0_2 a1_0 ((a1_1.extract 0 1) ++ t45013)).bind fun bt45014 => (some (bt45014.1, bt45014.2.1, bt45014.2.2))) else (none))))) else (none)) else (none)) else (none))) = some (r1, r2, r3) := h
  clear h
  by_cases c3 : a1_1.toList = ([] : List UInt8)
  · rw [if_pos c3] at H
    have c3b0 : (a1_1.toList == ([] : List UInt8)) = true := beq_iff_eq.mpr c3
    have c3b1 : (a1_1.toList != ([] : List UInt8)) = false := bne_eq_false_iff_eq.mpr c3
    clear c3
    replace H := Option.bind_eq_some_iff.mp H
    obtain ⟨⟨t45004, t45005, t45006⟩, A40, H⟩ := H
    replace H : (some (t45004, t45005, t45006)) = some (r1, r2, r3) := H
    have A4 := Aside0.mk A40
    clear A40
    simp only [Option.some.injEq, Prod.mk.injEq] at H
    obtain ⟨rfl, rfl, rfl⟩ := H
    go_enter Try.func45, Try.ntmps45
    go_wp2_with (first | ((with_reducible refine gate_dst (N := 2) rfl ?_); refine box_event ?hg (N := 2) ?hd (cs := #[.string a0_0, .string a0_1, .string a0_2]) (t := 71) ?hr ?_; (case hd => rfl); (case hg => rfl); (case hr => first | (go_simp; done) | (go_simp; rfl)); intro gb45001 hg w5 hbox hb; have n0_ := Aside0.mk (below_step (by repeat (first | (with_reducible first | exact HB.out | apply below_alloc | apply pw_below_drewN | apply below_drew1) | exact HB.out)) hb); have n1_ := Aside0.mk (hbox); have n2_ := Aside0.mk ((by rw [hg]; exact (below_size (by repeat (first | (with_reducible first | exact HB.out | apply below_alloc | apply pw_below_drewN | apply below_drew1) | exact HB.out))) : w.heap.size ≤ gb45001)); have n3_ := Aside0.mk ((by rw [hg]; exact (below_size (by repeat (first | (with_reducible first | exact HB.out | apply below_alloc | apply pw_below_drewN | apply below_drew1) | exact HB.out))) : w.heap.size ≤ gb45001)); clear HB; have HB := n0_; have BK45001 := n1_; have GW45001 := n2_; have GE45001 := n3_; clear n0_ n1_ n2_ n3_; clear hb hbox hg) | ((with_reducible refine gate_dst (N := 3) rfl ?_); refine box_event ?hg (N := 3) ?hd (cs := #[.int .u8 a1_0, .string a1_1]) (t := 62) ?hr ?_; (case hd => rfl); (case hg => rfl); (case hr => first | (go_simp; done) | (go_simp; rfl)); intro gb45002 hg w6 hbox hb; have n0_ := Aside0.mk (blk_below (g := gb45001) (o := .cells #[.string a0_0, .string a0_1, .string a0_2] 71 (0, 0)) (by (with_reducible repeat (first | refine blk_drewN ?_ _ | refine blk_drew ?_ | refine blk_alloc ?_ _)); exact BK45001.out) hb); have n1_ := Aside0.mk (below_step (by repeat (first | (with_reducible first | exact HB.out | apply below_alloc | apply pw_below_drewN | apply below_drew1 | refine below_set ?_ GE45001.out) | exact HB.out)) hb); have n2_ := Aside0.mk (hbox); have n3_ := Aside0.mk ((by rw [hg]; exact (below_size (by repeat (first | (with_reducible first | exact HB.out | apply below_alloc | apply pw_below_drewN | apply below_drew1 | refine below_set ?_ GE45001.out) | exact HB.out))) : w.heap.size ≤ gb45002)); have n4_ := Aside0.mk ((by rw [hg]; exact (below_size (by repeat (first | (with_reducible first | exact HB.out | apply below_alloc | apply pw_below_drewN | apply below_drew1 | refine below_set ?_ GE45001.out) | exact HB.out))) : w.heap.size ≤ gb45002)); have n5_ := Aside0.mk ((by rw [hg]; exact Nat.ne_of_lt (blk_lt (g := gb45001) (o := .cells #[.string a0_0, .string a0_1, .string a0_2] 71 (0, 0)) (by (with_reducible repeat (first | refine blk_drewN ?_ _ | refine blk_drew ?_ | refine blk_alloc ?_ _)); exact BK45001.out)) : gb45001 ≠ gb45002)); have n6_ := Aside0.mk ((by rw [hg]; exact Nat.ne_of_gt (blk_lt (g := gb45001) (o := .cells #[.string a0_0, .string a0_1, .string a0_2] 71 (0, 0)) (by (with_reducible repeat (first | refine blk_drewN ?_ _ | refine blk_drew ?_ | refine blk_alloc ?_ _)); exact BK45001.out)) : gb45002 ≠ gb45001)); clear BK45001; clear HB; have BK45001 := n0_; have HB := n1_; have BK45002 := n2_; have GW45002 := n3_; have GE45002 := n4_; have NB45001_45002 := n5_; have NB45002_45001 := n6_; clear n0_ n1_ n2_ n3_ n4_ n5_ n6_; clear hb hbox hg) | ((with_reducible refine gate_dst (N := 4) rfl ?_); refine box_event ?hg (N := 4) ?hd (cs := #[.string (⟨#[]⟩ : ByteArray), .string (⟨#[]⟩ : ByteArray), .string (⟨#[]⟩ : ByteArray)]) (t := 71) ?hr ?_; (case hd => rfl); (case hg => rfl); (case hr => first | (go_simp; done) | (go_simp; rfl)); intro gb45003 hg w7 hbox hb; have n0_ := Aside0.mk (blk_below (g := gb45001) (o := .cells #[.string a0_0, .string a0_1, .string a0_2] 71 (0, 0)) (by (with_reducible repeat (first | refine blk_drewN ?_ _ | refine blk_drew ?_ | refine blk_alloc ?_ _)); exact BK45001.out) hb); have n1_ := Aside0.mk (blk_below (g := gb45002) (o := .cells #[.int .u8 a1_0, .string a1_1] 62 (0, 0)) (by (with_reducible repeat (first | refine blk_drewN ?_ _ | refine blk_drew ?_ | refine blk_alloc ?_ _)); exact BK45002.out) hb); have n2_ := Aside0.mk (below_step (by repeat (first | (with_reducible first | exact HB.out | apply below_alloc | apply pw_below_drewN | apply below_drew1 | refine below_set ?_ GE45001.out | refine below_set ?_ GE45002.out) | exact HB.out)) hb); have n3_ := Aside0.mk (hbox); have n4_ := Aside0.mk ((by rw [hg]; exact (below_size (by repeat (first | (with_reducible first | exact HB.out | apply below_alloc | apply pw_below_drewN | apply below_drew1 | refine below_set ?_ GE45001.out | refine below_set ?_ GE45002.out) | exact HB.out))) : w.heap.size ≤ gb45003)); have n5_ := Aside0.mk ((by rw [hg]; exact (below_size (by repeat (first | (with_reducible first | exact HB.out | apply below_alloc | apply pw_below_drewN | apply below_drew1 | refine below_set ?_ GE45001.out | refine below_set ?_ GE45002.out) | exact HB.out))) : w.heap.size ≤ gb45003)); have n6_ := Aside0.mk ((by rw [hg]; exact Nat.ne_of_lt (blk_lt (g := gb45001) (o := .cells #[.string a0_0, .string a0_1, .string a0_2] 71 (0, 0)) (by (with_reducible repeat (first | refine blk_drewN ?_ _ | refine blk_drew ?_ | refine blk_alloc ?_ _)); exact BK45001.out)) : gb45001 ≠ gb45003)); have n7_ := Aside0.mk ((by rw [hg]; exact Nat.ne_of_gt (blk_lt (g := gb45001) (o := .cells #[.string a0_0, .string a0_1, .string a0_2] 71 (0, 0)) (by (with_reducible repeat (first | refine blk_drewN ?_ _ | refine blk_drew ?_ | refine blk_alloc ?_ _)); exact BK45001.out)) : gb45003 ≠ gb45001)); have n8_ := Aside0.mk ((by rw [hg]; exact Nat.ne_of_lt (blk_lt (g := gb45002) (o := .cells #[.int .u8 a1_0, .string a1_1] 62 (0, 0)) (by (with_reducible repeat (first | refine blk_drewN ?_ _ | refine blk_drew ?_ | refine blk_alloc ?_ _)); exact BK45002.out)) : gb45002 ≠ gb45003)); have n9_ := Aside0.mk ((by rw [hg]; exact Nat.ne_of_gt (blk_lt (g := gb45002) (o := .cells #[.int .u8 a1_0, .string a1_1] 62 (0, 0)) (by (with_reducible repeat (first | refine blk_drewN ?_ _ | refine blk_drew ?_ | refine blk_alloc ?_ _)); exact BK45002.out)) : gb45003 ≠ gb45002)); clear BK45001; clear BK45002; clear HB; have BK45001 := n0_; have BK45002 := n1_; have HB := n2_; have BK45003 := n3_; have GW45003 := n4_; have GE45003 := n5_; have NB45001_45003 := n6_; have NB45003_45001 := n7_; have NB45002_45003 := n8_; have NB45003_45002 := n9_; clear n0_ n1_ n2_ n3_ n4_ n5_ n6_ n7_ n8_ n9_; clear hb hbox hg; have hnb8 := NB45002_45001.out; have hnc8 := NB45001_45002.out; have hnb9 := NB45002_45003.out; have hnc9 := NB45003_45002.out; have hcz10_0 : w7.cell? ⟨gb45002, 0, none⟩ = some (.int .u8 a1_0) := (blk_cell BK45002.out 0).trans rfl; have hcz10_1 : w7.cell? ⟨gb45002, 1, none⟩ = some (.string a1_1) := (blk_cell BK45002.out 1).trans rfl; have hfz10_0 := blk_frozen BK45002.out 0; have hfz10_1 := blk_frozen BK45002.out 1; have hnb11 := NB45001_45003.out; have hnc11 := NB45003_45001.out; have hcz12_0 : w7.cell? ⟨gb45001, 0, none⟩ = some (.string a0_0) := (blk_cell BK45001.out 0).trans rfl; have hcz12_1 : w7.cell? ⟨gb45001, 1, none⟩ = some (.string a0_1) := (blk_cell BK45001.out 1).trans rfl; have hcz12_2 : w7.cell? ⟨gb45001, 2, none⟩ = some (.string a0_2) := (blk_cell BK45001.out 2).trans rfl; have hfz12_0 := blk_frozen BK45001.out 0; have hfz12_1 := blk_frozen BK45001.out 1; have hfz12_2 := blk_frozen BK45001.out 2) | ((with_reducible refine gate_callee (f := 112) rfl ?_); refine goesL_ (some 12) rfl rfl Try.func112 (by kernel_rfl) rfl #[.agg #[.string a0_0, .string a0_1, .string a0_2], .int .u8 a1_0, .string (⟨#[]⟩ : ByteArray)] rfl (by (try simp only [List.map_toArray, List.map_cons, List.map_nil]); first | done | rfl | (simp only [List.length_drop, List.length_take]; rfl)) ?_; (with_reducible refine (impl_WithValue.calls a0_0 a0_1 a0_2 a1_0 (⟨#[]⟩ : ByteArray) t45004 t45005 t45006 _ A4.out).mono ?_); rintro e w13 ⟨rfl, hb⟩; refine ⟨_, rfl, ?_⟩; have n0_ := Aside0.mk (blk_below (g := gb45001) (o := .cells #[.string a0_0, .string a0_1, .string a0_2] 71 (0, 0)) (by (with_reducible repeat (first | refine blk_drewN ?_ _ | refine blk_drew ?_ | refine blk_alloc ?_ _)); exact BK45001.out) hb); have n1_ := Aside0.mk (blk_below (g := gb45002) (o := .cells #[.int .u8 a1_0, .string a1_1] 62 (0, 0)) (by (with_reducible repeat (first | refine blk_drewN ?_ _ | refine blk_drew ?_ | refine blk_alloc ?_ _)); exact BK45002.out) hb); have n2_ := Aside0.mk (blk_below (g := gb45003) (o := .cells #[.string (⟨#[]⟩ : ByteArray), .string (⟨#[]⟩ : ByteArray), .string (⟨#[]⟩ : ByteArray)] 71 (0, 0)) (by (with_reducible repeat (first | refine blk_drewN ?_ _ | refine blk_drew ?_ | refine blk_alloc ?_ _)); exact BK45003.out) hb); have n3_ := Aside0.mk (below_step (by repeat (first | (with_reducible first | exact HB.out | apply below_alloc | apply pw_below_drewN | apply below_drew1 | refine below_set ?_ GE45001.out | refine below_set ?_ GE45002.out | refine below_set ?_ GE45003.out) | exact HB.out)) hb); clear BK45001; clear BK45002; clear BK45003; clear HB; have BK45001 := n0_; have BK45002 := n1_; have BK45003 := n2_; have HB := n3_; clear n0_ n1_ n2_ n3_; (try clear hb); (try clear hb2); (try clear hk); (try clear hi); have hcz14_0 : w13.cell? ⟨gb45003, 0, none⟩ = some (.string (⟨#[]⟩ : ByteArray)) := (blk_cell BK45003.out 0).trans rfl; have hcz14_1 : w13.cell? ⟨gb45003, 1, none⟩ = some (.string (⟨#[]⟩ : ByteArray)) := (blk_cell BK45003.out 1).trans rfl; have hcz14_2 : w13.cell? ⟨gb45003, 2, none⟩ = some (.string (⟨#[]⟩ : ByteArray)) := (blk_cell BK45003.out 2).trans rfl; have hfz14_0 := blk_frozen BK45003.out 0; have hfz14_1 := blk_frozen BK45003.out 1; have hfz14_2 := blk_frozen BK45003.out 2))
    refine bodyPost_ret (results_cell_row rfl _ _ gb45003 71 #[.string t45004, .string t45005, .string t45006] (0, 0) _ rfl (by (with_reducible repeat (first | refine blk_drewN ?_ _ | refine blk_drew ?_ | refine blk_alloc ?_ _)); refine blk_put (cs := #[.string t45004, .string t45005, .string (⟨#[]⟩ : ByteArray)]) ?_ 2 _ rfl; (with_reducible repeat (first | refine blk_drewN ?_ _ | refine blk_drew ?_ | refine blk_alloc ?_ _)); refine blk_put (cs := #[.string t45004, .string (⟨#[]⟩ : ByteArray), .string (⟨#[]⟩ : ByteArray)]) ?_ 1 _ rfl; (with_reducible repeat (first | refine blk_drewN ?_ _ | refine blk_drew ?_ | refine blk_alloc ?_ _)); refine blk_put (cs := #[.string (⟨#[]⟩ : ByteArray), .string (⟨#[]⟩ : ByteArray), .string (⟨#[]⟩ : ByteArray)]) ?_ 0 _ rfl; (with_reducible repeat (first | refine blk_drewN ?_ _ | refine blk_drew ?_ | refine blk_alloc ?_ _)); exact BK45003.out) Try.underlying71 rfl (by kernel_rfl)) rfl ?_
    exact ⟨by first | rfl | (simp [errW_none, errW_some] <;> rfl) | (simp [*, errW_none, errW_some] <;> rfl), by repeat (first | (with_reducible first | exact HB.out | apply below_alloc | apply pw_below_drewN | apply below_drew1 | refine below_set ?_ GE45001.out | refine below_set ?_ GE45002.out | refine below_set ?_ GE45003.out) | exact HB.out)⟩
  · rw [if_neg c3] at H
    have c3b0 : (a1_1.toList == ([] : List UInt8)) = false := beq_eq_false_iff_ne.mpr c3
    have c3b1 : (a1_1.toList != ([] : List UInt8)) = true := bne_iff_ne.mpr c3
    by_cases c15 : 0 ≤ 1
    · rw [if_pos c15] at H
      have c15b0 := eq_true c15
      have c15b1 : decide (0 ≤ 1) = true := decide_eq_true c15
      clear c15
      by_cases c16 : 1 ≤ (a1_1.size : Int)
      · rw [if_pos c16] at H
        have c16b0 := eq_true c16
        have c16b1 : decide (1 ≤ (a1_1.size : Int)) = true := decide_eq_true c16
        clear c16
        by_cases c17 : 0 < (a1_1.size : Int)
        · rw [if_pos c17] at H
          have c17b0 : decide (0 < (a1_1.size : Int)) = true := decide_eq_true c17
          have c17b1 : decide (0 < a1_1.size) = true := decide_eq_true (by omega)
          clear c17
          replace H := Option.bind_eq_some_iff.mp H
          obtain ⟨t45007, A190, H⟩ := H
          replace H : (if t45007 = true then ((impl_ValueOf.f a0_0 a0_1 a0_2 (bt a1_1 0)).bind fun t45008 => ((impl_ValueOf.f a0_0 a0_1 a0_2 a1_0).bind fun t45009 => (if t45008.size + t45009.size ≤ 9223372036854775807 then ((impl_WithValue.f a0_0 a0_1 a0_2 a1_0 (t45008 ++ t45009)).bind fun bt45010 => (some (bt45010.1, bt45010.2.1, bt45010.2.2))) else (none)))) else ((impl_ValueOf.f a0_0 a0_1 a0_2 a1_0).bind fun t45013 => (if (a1_1.extract 0 1).size + t45013.size ≤ 9223372036854775807 then ((impl_WithValue.f a0_0 a0_1 a0_2 a1_0 ((a1_1.extract 0 1) ++ t45013)).bind fun bt45014 => (some (bt45014.1, bt45014.2.1, bt45014.2.2))) else (none)))) = some (r1, r2, r3) := H
          have A19 := Aside0.mk A190
          clear A190
          by_cases c20 : t45007 = true
          · subst c20
            have H1 : ((impl_ValueOf.f a0_0 a0_1 a0_2 (bt a1_1 0)).bind fun t45008 => ((impl_ValueOf.f a0_0 a0_1 a0_2 a1_0).bind fun t45009 => (if t45008.size + t45009.size ≤ 9223372036854775807 then ((impl_WithValue.f a0_0 a0_1 a0_2 a1_0 (t45008 ++ t45009)).bind fun bt45010 => (some (bt45010.1, bt45010.2.1, bt45010.2.2))) else (none)))) = some (r1, r2, r3) := by rw [if_pos rfl] at H; exact H
            clear H
            have H := H1
            clear H1
            replace H := Option.bind_eq_some_iff.mp H
            obtain ⟨t45008, A220, H⟩ := H
            replace H : ((impl_ValueOf.f a0_0 a0_1 a0_2 a1_0).bind fun t45009 => (if t45008.size + t45009.size ≤ 9223372036854775807 then ((impl_WithValue.f a0_0 a0_1 a0_2 a1_0 (t45008 ++ t45009)).bind fun bt45010 => (some (bt45010.1, bt45010.2.1, bt45010.2.2))) else (none))) = some (r1, r2, r3) := H
            have A22 := Aside0.mk A220
            clear A220
            replace H := Option.bind_eq_some_iff.mp H
            obtain ⟨t45009, A230, H⟩ := H
            replace H : (if t45008.size + t45009.size ≤ 9223372036854775807 then ((impl_WithValue.f a0_0 a0_1 a0_2 a1_0 (t45008 ++ t45009)).bind fun bt45010 => (some (bt45010.1, bt45010.2.1, bt45010.2.2))) else (none)) = some (r1, r2, r3) := H
            have A23 := Aside0.mk A230
            clear A230
            by_cases c24 : t45008.size + t45009.size ≤ 9223372036854775807
            · rw [if_pos c24] at H
              have c24z := c24
              try simp at c24z
              try replace c24z := eq_false (Nat.not_lt.2 c24z)
              have c24b0 := eq_true c24
              have c24b1 : decide (t45008.size + t45009.size ≤ 9223372036854775807) = true := decide_eq_true c24
              try have c24b2 : (9223372036854775807 < t45008.size + t45009.size) = False := eq_false (Nat.not_lt.2 c24)
              replace H := Option.bind_eq_some_iff.mp H
              obtain ⟨⟨t45010, t45011, t45012⟩, A250, H⟩ := H
              replace H : (some (t45010, t45011, t45012)) = some (r1, r2, r3) := H
              have A25 := Aside0.mk A250
              clear A250
              simp only [Option.some.injEq, Prod.mk.injEq] at H
              obtain ⟨rfl, rfl, rfl⟩ := H
              go_enter Try.func45, Try.ntmps45
              try go_wp2_with (first | ((with_reducible refine gate_dst (N := 2) rfl ?_); refine box_event ?hg (N := 2) ?hd (cs := #[.string a0_0, .string a0_1, .string a0_2]) (t := 71) ?hr ?_; (case hd => rfl); (case hg => rfl); (case hr => first | (go_simp; done) | (go_simp; rfl)); intro gb45001 hg w26 hbox hb; have n0_ := Aside0.mk (below_step (by repeat (first | (with_reducible first | exact HB.out | apply below_alloc | apply pw_below_drewN | apply below_drew1) | exact HB.out)) hb); have n1_ := Aside0.mk (hbox); have n2_ := Aside0.mk ((by rw [hg]; exact (below_size (by repeat (first | (with_reducible first | exact HB.out | apply below_alloc | apply pw_below_drewN | apply below_drew1) | exact HB.out))) : w.heap.size ≤ gb45001)); have n3_ := Aside0.mk ((by rw [hg]; exact (below_size (by repeat (first | (with_reducible first | exact HB.out | apply below_alloc | apply pw_below_drewN | apply below_drew1) | exact HB.out))) : w.heap.size ≤ gb45001)); clear HB; have HB := n0_; have BK45001 := n1_; have GW45001 := n2_; have GE45001 := n3_; clear n0_ n1_ n2_ n3_; clear hb hbox hg) | ((with_reducible refine gate_dst (N := 3) rfl ?_); refine box_event ?hg (N := 3) ?hd (cs := #[.int .u8 a1_0, .string a1_1]) (t := 62) ?hr ?_; (case hd => rfl); (case hg => rfl); (case hr => first | (go_simp; done) | (go_simp; rfl)); intro gb45002 hg w27 hbox hb; have n0_ := Aside0.mk (blk_below (g := gb45001) (o := .cells #[.string a0_0, .string a0_1, .string a0_2] 71 (0, 0)) (by (with_reducible repeat (first | refine blk_drewN ?_ _ | refine blk_drew ?_ | refine blk_alloc ?_ _)); exact BK45001.out) hb); have n1_ := Aside0.mk (below_step (by repeat (first | (with_reducible first | exact HB.out | apply below_alloc | apply pw_below_drewN | apply below_drew1 | refine below_set ?_ GE45001.out) | exact HB.out)) hb); have n2_ := Aside0.mk (hbox); have n3_ := Aside0.mk ((by rw [hg]; exact (below_size (by repeat (first | (with_reducible first | exact HB.out | apply below_alloc | apply pw_below_drewN | apply below_drew1 | refine below_set ?_ GE45001.out) | exact HB.out))) : w.heap.size ≤ gb45002)); have n4_ := Aside0.mk ((by rw [hg]; exact (below_size (by repeat (first | (with_reducible first | exact HB.out | apply below_alloc | apply pw_below_drewN | apply below_drew1 | refine below_set ?_ GE45001.out) | exact HB.out))) : w.heap.size ≤ gb45002)); have n5_ := Aside0.mk ((by rw [hg]; exact Nat.ne_of_lt (blk_lt (g := gb45001) (o := .cells #[.string a0_0, .string a0_1, .string a0_2] 71 (0, 0)) (by (with_reducible repeat (first | refine blk_drewN ?_ _ | refine blk_drew ?_ | refine blk_alloc ?_ _)); exact BK45001.out)) : gb45001 ≠ gb45002)); have n6_ := Aside0.mk ((by rw [hg]; exact Nat.ne_of_gt (blk_lt (g := gb45001) (o := .cells #[.string a0_0, .string a0_1, .string a0_2] 71 (0, 0)) (by (with_reducible repeat (first | refine blk_drewN ?_ _ | refine blk_drew ?_ | refine blk_alloc ?_ _)); exact BK45001.out)) : gb45002 ≠ gb45001)); clear BK45001; clear HB; have BK45001 := n0_; have HB := n1_; have BK45002 := n2_; have GW45002 := n3_; have GE45002 := n4_; have NB45001_45002 := n5_; have NB45002_45001 := n6_; clear n0_ n1_ n2_ n3_ n4_ n5_ n6_; clear hb hbox hg) | ((with_reducible refine gate_dst (N := 4) rfl ?_); refine box_event ?hg (N := 4) ?hd (cs := #[.string (⟨#[]⟩ : ByteArray), .string (⟨#[]⟩ : ByteArray), .string (⟨#[]⟩ : ByteArray)]) (t := 71) ?hr ?_; (case hd => rfl); (case hg => rfl); (case hr => first | (go_simp; done) | (go_simp; rfl)); intro gb45003 hg w28 hbox hb; have n0_ := Aside0.mk (blk_below (g := gb45001) (o := .cells #[.string a0_0, .string a0_1, .string a0_2] 71 (0, 0)) (by (with_reducible repeat (first | refine blk_drewN ?_ _ | refine blk_drew ?_ | refine blk_alloc ?_ _)); exact BK45001.out) hb); have n1_ := Aside0.mk (blk_below (g := gb45002) (o := .cells #[.int .u8 a1_0, .string a1_1] 62 (0, 0)) (by (with_reducible repeat (first | refine blk_drewN ?_ _ | refine blk_drew ?_ | refine blk_alloc ?_ _)); exact BK45002.out) hb); have n2_ := Aside0.mk (below_step (by repeat (first | (with_reducible first | exact HB.out | apply below_alloc | apply pw_below_drewN | apply below_drew1 | refine below_set ?_ GE45001.out | refine below_set ?_ GE45002.out) | exact HB.out)) hb); have n3_ := Aside0.mk (hbox); have n4_ := Aside0.mk ((by rw [hg]; exact (below_size (by repeat (first | (with_reducible first | exact HB.out | apply below_alloc | apply pw_below_drewN | apply below_drew1 | refine below_set ?_ GE45001.out | refine below_set ?_ GE45002.out) | exact HB.out))) : w.heap.size ≤ gb45003)); have n5_ := Aside0.mk ((by rw [hg]; exact (below_size (by repeat (first | (with_reducible first | exact HB.out | apply below_alloc | apply pw_below_drewN | apply below_drew1 | refine below_set ?_ GE45001.out | refine below_set ?_ GE45002.out) | exact HB.out))) : w.heap.size ≤ gb45003)); have n6_ := Aside0.mk ((by rw [hg]; exact Nat.ne_of_lt (blk_lt (g := gb45001) (o := .cells #[.string a0_0, .string a0_1, .string a0_2] 71 (0, 0)) (by (with_reducible repeat (first | refine blk_drewN ?_ _ | refine blk_drew ?_ | refine blk_alloc ?_ _)); exact BK45001.out)) : gb45001 ≠ gb45003)); have n7_ := Aside0.mk ((by rw [hg]; exact Nat.ne_of_gt (blk_lt (g := gb45001) (o := .cells #[.string a0_0, .string a0_1, .string a0_2] 71 (0, 0)) (by (with_reducible repeat (first | refine blk_drewN ?_ _ | refine blk_drew ?_ | refine blk_alloc ?_ _)); exact BK45001.out)) : gb45003 ≠ gb45001)); have n8_ := Aside0.mk ((by rw [hg]; exact Nat.ne_of_lt (blk_lt (g := gb45002) (o := .cells #[.int .u8 a1_0, .string a1_1] 62 (0, 0)) (by (with_reducible repeat (first | refine blk_drewN ?_ _ | refine blk_drew ?_ | refine blk_alloc ?_ _)); exact BK45002.out)) : gb45002 ≠ gb45003)); have n9_ := Aside0.mk ((by rw [hg]; exact Nat.ne_of_gt (blk_lt (g := gb45002) (o := .cells #[.int .u8 a1_0, .string a1_1] 62 (0, 0)) (by (with_reducible repeat (first | refine blk_drewN ?_ _ | refine blk_drew ?_ | refine blk_alloc ?_ _)); exact BK45002.out)) : gb45003 ≠ gb45002)); clear BK45001; clear BK45002; clear HB; have BK45001 := n0_; have BK45002 := n1_; have HB := n2_; have BK45003 := n3_; have GW45003 := n4_; have GE45003 := n5_; have NB45001_45003 := n6_; have NB45003_45001 := n7_; have NB45002_45003 := n8_; have NB45003_45002 := n9_; clear n0_ n1_ n2_ n3_ n4_ n5_ n6_ n7_ n8_ n9_; clear hb hbox hg; have hnb29 := NB45002_45001.out; have hnc29 := NB45001_45002.out; have hnb30 := NB45002_45003.out; have hnc30 := NB45003_45002.out; have hcz31_0 : w28.cell? ⟨gb45002, 0, none⟩ = some (.int .u8 a1_0) := (blk_cell BK45002.out 0).trans rfl; have hcz31_1 : w28.cell? ⟨gb45002, 1, none⟩ = some (.string a1_1) := (blk_cell BK45002.out 1).trans rfl; have hfz31_0 := blk_frozen BK45002.out 0; have hfz31_1 := blk_frozen BK45002.out 1; have p18 : 0 ≤ (0 : Int) := (by omega); have q18 : 0 < a1_1.size := (by have : (0 : Int) < (a1_1.size : Int) := of_decide_eq_true (by first | (with_reducible assumption) | assumption); omega); have hx18 : ∀ h : 0 < a1_1.size, ((a1_1[0]'h).toNat : Int) = bt a1_1 0 := bt_at a1_1 0; clear p18; have qi18 : (0 < (a1_1.size : Int)) = True := eq_true (of_decide_eq_true (by first | (with_reducible assumption) | assumption)); replace q18 := eq_true q18) | ((with_reducible refine gate_callee (f := 113) rfl ?_); refine goesL_ (some 19) rfl rfl Try.func113 (by kernel_rfl) rfl #[.int .u8 (bt a1_1 0)] rfl (by (try simp only [List.map_toArray, List.map_cons, List.map_nil]); first | done | rfl | (simp only [List.length_drop, List.length_take]; rfl)) ?_; (with_reducible refine (impl_isVariable.calls (bt a1_1 0) true _ A19.out).mono ?_); rintro e w' ⟨rfl, ⟨nd, rfl⟩⟩; refine ⟨_, rfl, ?_⟩; (try (rw [drewN_self w28]; generalize hq_ : World.drewN w28 _ = w28; have n0_ : Aside0 (w28.heap[gb45001]? = some (.cells #[.string a0_0, .string a0_1, .string a0_2] 71 (0, 0))) := ⟨by rw [← hq_]; exact (by (with_reducible repeat (first | refine blk_drewN ?_ _ | refine blk_drew ?_ | refine blk_alloc ?_ _)); exact BK45001.out)⟩; have n1_ : Aside0 (w28.heap[gb45002]? = some (.cells #[.int .u8 a1_0, .string a1_1] 62 (0, 0))) := ⟨by rw [← hq_]; exact (by (with_reducible repeat (first | refine blk_drewN ?_ _ | refine blk_drew ?_ | refine blk_alloc ?_ _)); exact BK45002.out)⟩; have n2_ : Aside0 (w28.heap[gb45003]? = some (.cells #[.string (⟨#[]⟩ : ByteArray), .string (⟨#[]⟩ : ByteArray), .string (⟨#[]⟩ : ByteArray)] 71 (0, 0))) := ⟨by rw [← hq_]; exact (by (with_reducible repeat (first | refine blk_drewN ?_ _ | refine blk_drew ?_ | refine blk_alloc ?_ _)); exact BK45003.out)⟩; have n3_ : Aside0 (Below w.heap.size w w28) := ⟨by rw [← hq_]; exact (by repeat (first | (with_reducible first | exact HB.out | apply below_alloc | apply pw_below_drewN | apply below_drew1 | refine below_set ?_ GE45001.out | refine below_set ?_ GE45002.out | refine below_set ?_ GE45003.out) | exact HB.out))⟩; clear BK45001 BK45002 BK45003 HB hq_; have BK45001 := n0_; have BK45002 := n1_; have BK45003 := n2_; have HB := n3_; clear n0_ n1_ n2_ n3_))))
              have n0_ := Aside0.mk (blk_drew BK45001.out)
              have n1_ := Aside0.mk (blk_drew BK45002.out)
              have n2_ := Aside0.mk (blk_drew BK45003.out)
              have n3_ := Aside0.mk (below_drew1 HB.out)
              clear BK45001
              clear BK45002
              clear BK45003
              clear HB
              have BK45001 := n0_
              have BK45002 := n1_
              have BK45003 := n2_
              have HB := n3_
              clear n0_ n1_ n2_ n3_
              have p21 : 0 ≤ (0 : Int) := (by omega)
              have q21 : 0 < a1_1.size := (by have : (0 : Int) < (a1_1.size : Int) := of_decide_eq_true (by first | (with_reducible assumption) | assumption); omega)
              have hx21 : ∀ h : 0 < a1_1.size, ((a1_1[0]'h).toNat : Int) = bt a1_1 0 := bt_at a1_1 0
              clear p21
              have qi21 : (0 < (a1_1.size : Int)) = True := eq_true (of_decide_eq_true (by first | (with_reducible assumption) | assumption))
              replace q21 := eq_true q21
              refine start_ (n := 6) (S := fun w' => w'.cell? ⟨gb45001, 0, none⟩ = some (.string a0_0) ∧ w'.cell? ⟨gb45001, 1, none⟩ = some (.string a0_1) ∧ w'.cell? ⟨gb45001, 2, none⟩ = some (.string a0_2) ∧ w'.cell? ⟨gb45002, 0, none⟩ = some (.int .u8 a1_0) ∧ w'.cell? ⟨gb45002, 1, none⟩ = some (.string a1_1)) (ds := []) #[false, false, false, false, false, false] (by kernel_rfl) rfl rfl ⟨(blk_cell BK45001.out 0).trans rfl, (blk_cell BK45001.out 1).trans rfl, (blk_cell BK45001.out 2).trans rfl, (blk_cell BK45002.out 0).trans rfl, (blk_cell BK45002.out 1).trans rfl⟩ (fun hHeld => ?_)
              generalize w28.drew = w32 at BK45001 BK45002 BK45003 HB hHeld ⊢
              refine pure_ (i := 1) (N := some 21) (v := ?_) (a' := ?_) #[false, true, false, false, false, false] rfl rfl (by kernel_rfl) (fun _ _ _ h => h) (Or.inl ⟨by rfl, ?_⟩) ?_ ?_
              rotate_left
              · intro w'
                go_simp
                first | with_reducible rfl | (rw [if_neg (by omega)]; done) | (rw [if_neg (by (try simp only [decide_eq_true_eq, decide_eq_false_iff_not, eq_iff_iff, iff_true, iff_false] at *); (try simp only [ByteArray.size_extract, ByteArray.size_append, show (⟨#[97, 98, 99]⟩ : ByteArray).size = 3 from rfl, show (⟨#[88, 89, 90]⟩ : ByteArray).size = 3 from rfl, show (⟨#[61]⟩ : ByteArray).size = 1 from rfl] at *); omega)]; done)
              rotate_left
              · simp only [Act.put, List.setIfInBounds_toArray, List.set_cons_zero, List.set_cons_succ, i64_w, i32_w]
                rfl
              refine take_ (i := 0) (N := some 20) (v := ?_) (a' := ?_) #[true, true, false, false, false, false] rfl rfl (by kernel_rfl) (fun _ _ _ h => h) (Or.inl ⟨by rfl, ?_⟩) hHeld ?_ ?_
              rotate_left
              · rintro w' ⟨s0, s1, s2, s3, s4⟩
                go_simp
                first | with_reducible rfl | (rw [if_neg (by omega)]; done) | (rw [if_neg (by (try simp only [decide_eq_true_eq, decide_eq_false_iff_not, eq_iff_iff, iff_true, iff_false] at *); (try simp only [ByteArray.size_extract, ByteArray.size_append, show (⟨#[97, 98, 99]⟩ : ByteArray).size = 3 from rfl, show (⟨#[88, 89, 90]⟩ : ByteArray).size = 3 from rfl, show (⟨#[61]⟩ : ByteArray).size = 1 from rfl] at *); omega)]; done)
              rotate_left
              · simp only [Act.put, List.setIfInBounds_toArray, List.set_cons_zero, List.set_cons_succ, i64_w, i32_w]
                rfl
              refine take_ (i := 2) (N := some 22) (v := ?_) (a' := ?_) #[true, true, true, false, false, false] rfl rfl (by kernel_rfl) (fun _ _ _ h => h) (Or.inl ⟨by rfl, ?_⟩) hHeld ?_ ?_
              rotate_left
              · rintro w' ⟨s0, s1, s2, s3, s4⟩
                go_simp
                first | with_reducible rfl | (rw [if_neg (by omega)]; done) | (rw [if_neg (by (try simp only [decide_eq_true_eq, decide_eq_false_iff_not, eq_iff_iff, iff_true, iff_false] at *); (try simp only [ByteArray.size_extract, ByteArray.size_append, show (⟨#[97, 98, 99]⟩ : ByteArray).size = 3 from rfl, show (⟨#[88, 89, 90]⟩ : ByteArray).size = 3 from rfl, show (⟨#[61]⟩ : ByteArray).size = 1 from rfl] at *); omega)]; done)
              rotate_left
              · simp only [Act.put, List.setIfInBounds_toArray, List.set_cons_zero, List.set_cons_succ, i64_w, i32_w]
                rfl
              refine take_ (i := 3) (N := some 23) (v := ?_) (a' := ?_) #[true, true, true, true, false, false] rfl rfl (by kernel_rfl) (fun _ _ _ h => h) (Or.inl ⟨by rfl, ?_⟩) hHeld ?_ ?_
              rotate_left
              · rintro w' ⟨s0, s1, s2, s3, s4⟩
                go_simp
                first | with_reducible rfl | (rw [if_neg (by omega)]; done) | (rw [if_neg (by (try simp only [decide_eq_true_eq, decide_eq_false_iff_not, eq_iff_iff, iff_true, iff_false] at *); (try simp only [ByteArray.size_extract, ByteArray.size_append, show (⟨#[97, 98, 99]⟩ : ByteArray).size = 3 from rfl, show (⟨#[88, 89, 90]⟩ : ByteArray).size = 3 from rfl, show (⟨#[61]⟩ : ByteArray).size = 1 from rfl] at *); omega)]; done)
              rotate_left
              · simp only [Act.put, List.setIfInBounds_toArray, List.set_cons_zero, List.set_cons_succ, i64_w, i32_w]
                rfl
              refine one_ (i := 4) (N := some 24) #[true, true, true, true, true, false] rfl rfl (by kernel_rfl) (by decide) (fun K hK => ?_)
              refine goes_ Try.func114 (by kernel_rfl) rfl #[.agg #[.string a0_0, .string a0_1, .string a0_2], .int .u8 (bt a1_1 0)] (by rfl) rfl rfl (by (try simp only [List.map_toArray, List.map_cons, List.map_nil]); first | done | rfl | (simp only [List.length_drop, List.length_take]; rfl)) ?_
              with_reducible refine (impl_ValueOf.calls a0_0 a0_1 a0_2 (bt a1_1 0) t45008 _ A22.out).mono ?_
              rintro e w33 ⟨rfl, hb⟩
              refine ⟨_, rfl, ?_⟩
              have n0_ := Aside0.mk (blk_below (g := gb45001) (o := .cells #[.string a0_0, .string a0_1, .string a0_2] 71 (0, 0)) (by (with_reducible repeat (first | refine blk_drewN ?_ _ | refine blk_drew ?_ | refine blk_alloc ?_ _)); exact BK45001.out) hb)
              have n1_ := Aside0.mk (blk_below (g := gb45002) (o := .cells #[.int .u8 a1_0, .string a1_1] 62 (0, 0)) (by (with_reducible repeat (first | refine blk_drewN ?_ _ | refine blk_drew ?_ | refine blk_alloc ?_ _)); exact BK45002.out) hb)
              have n2_ := Aside0.mk (blk_below (g := gb45003) (o := .cells #[.string (⟨#[]⟩ : ByteArray), .string (⟨#[]⟩ : ByteArray), .string (⟨#[]⟩ : ByteArray)] 71 (0, 0)) (by (with_reducible repeat (first | refine blk_drewN ?_ _ | refine blk_drew ?_ | refine blk_alloc ?_ _)); exact BK45003.out) hb)
              have n3_ := Aside0.mk (below_step (by repeat (first | (with_reducible first | exact HB.out | apply below_alloc | apply pw_below_drewN | apply below_drew1 | refine below_set ?_ GE45001.out | refine below_set ?_ GE45002.out | refine below_set ?_ GE45003.out) | exact HB.out)) hb)
              clear BK45001
              clear BK45002
              clear BK45003
              clear HB
              have BK45001 := n0_
              have BK45002 := n1_
              have BK45003 := n2_
              have HB := n3_
              clear n0_ n1_ n2_ n3_
              (try clear hb)
              (try clear hb2)
              (try clear hk)
              (try clear hi)
              refine hK.out _ _ ⟨(blk_cell BK45001.out 0).trans rfl, (blk_cell BK45001.out 1).trans rfl, (blk_cell BK45001.out 2).trans rfl, (blk_cell BK45002.out 0).trans rfl, (blk_cell BK45002.out 1).trans rfl⟩ (fun hHeld => ?_)
              clear hK K
              refine norm_ (a' := ?_) ?_ ?_
              rotate_left
              · show Act.put _ (some 24) _ = _
                simp only [Act.put, List.setIfInBounds_toArray, List.set_cons_zero, List.set_cons_succ, i64_w, i32_w]
                rfl
              refine pure_ (i := 5) (N := some 5) (v := ?_) (a' := ?_) #[true, true, true, true, true, true] rfl rfl (by kernel_rfl) (fun _ _ _ h => h) (Or.inl ⟨by rfl, ?_⟩) ?_ ?_
              rotate_left
              · intro w'
                go_simp
                first | with_reducible rfl | (rw [if_neg (by omega)]; done) | (rw [if_neg (by (try simp only [decide_eq_true_eq, decide_eq_false_iff_not, eq_iff_iff, iff_true, iff_false] at *); (try simp only [ByteArray.size_extract, ByteArray.size_append, show (⟨#[97, 98, 99]⟩ : ByteArray).size = 3 from rfl, show (⟨#[88, 89, 90]⟩ : ByteArray).size = 3 from rfl, show (⟨#[61]⟩ : ByteArray).size = 1 from rfl] at *); omega)]; done)
              rotate_left
              · simp only [Act.put, List.setIfInBounds_toArray, List.set_cons_zero, List.set_cons_succ, i64_w, i32_w]
                rfl
              refine done_ (by kernel_rfl) ?_
              try go_wp2
              have n0_ := Aside0.mk (blk_drew BK45001.out)
              have n1_ := Aside0.mk (blk_drew BK45002.out)
              have n2_ := Aside0.mk (blk_drew BK45003.out)
              have n3_ := Aside0.mk (below_drew1 HB.out)
              clear BK45001
              clear BK45002
              clear BK45003
              clear HB
              have BK45001 := n0_
              have BK45002 := n1_
              have BK45003 := n2_
              have HB := n3_
              clear n0_ n1_ n2_ n3_
              refine start_ (n := 11) (S := fun w' => w'.cell? ⟨gb45001, 0, none⟩ = some (.string a0_0) ∧ w'.cell? ⟨gb45001, 1, none⟩ = some (.string a0_1) ∧ w'.cell? ⟨gb45001, 2, none⟩ = some (.string a0_2) ∧ w'.cell? ⟨gb45002, 0, none⟩ = some (.int .u8 a1_0) ∧ w'.cell? ⟨gb45002, 1, none⟩ = some (.string a1_1)) (ds := []) #[false, false, false, false, false, false, false, false, false, false, false] (by kernel_rfl) rfl rfl ⟨(blk_cell BK45001.out 0).trans rfl, (blk_cell BK45001.out 1).trans rfl, (blk_cell BK45001.out 2).trans rfl, (blk_cell BK45002.out 0).trans rfl, (blk_cell BK45002.out 1).trans rfl⟩ (fun hHeld => ?_); refine with_tabW impl_ReverseStep.tab6 impl_ReverseStep.bits6 (fun HT_ HW_ => ?_)
              generalize w33.drew = w34 at BK45001 BK45002 BK45003 HB hHeld ⊢
              refine pure_ (i := 1) (N := some 26) (v := ?_) (a' := ?_) #[false, true, false, false, false, false, false, false, false, false, false] rfl rfl (any_of HT_.out (by kernel_rfl)) (fun _ _ _ h => h) (Or.inl ⟨by rfl, ?_⟩) ?_ ?_
              rotate_left
              · intro w'
                go_simp
                first | with_reducible rfl | (rw [if_neg (by omega)]; done) | (rw [if_neg (by (try simp only [decide_eq_true_eq, decide_eq_false_iff_not, eq_iff_iff, iff_true, iff_false] at *); (try simp only [ByteArray.size_extract, ByteArray.size_append, show (⟨#[97, 98, 99]⟩ : ByteArray).size = 3 from rfl, show (⟨#[88, 89, 90]⟩ : ByteArray).size = 3 from rfl, show (⟨#[61]⟩ : ByteArray).size = 1 from rfl] at *); omega)]; done)
              rotate_left
              · simp only [Act.put, List.setIfInBounds_toArray, List.set_cons_zero, List.set_cons_succ, i64_w, i32_w]
                rfl
              refine pure_ (i := 3) (N := some 28) (v := ?_) (a' := ?_) #[false, true, false, true, false, false, false, false, false, false, false] rfl rfl (any_of HT_.out (by kernel_rfl)) (fun _ _ _ h => h) (Or.inl ⟨by rfl, ?_⟩) ?_ ?_
              rotate_left
              · intro w'
                go_simp
                first | with_reducible rfl | (rw [if_neg (by omega)]; done) | (rw [if_neg (by (try simp only [decide_eq_true_eq, decide_eq_false_iff_not, eq_iff_iff, iff_true, iff_false] at *); (try simp only [ByteArray.size_extract, ByteArray.size_append, show (⟨#[97, 98, 99]⟩ : ByteArray).size = 3 from rfl, show (⟨#[88, 89, 90]⟩ : ByteArray).size = 3 from rfl, show (⟨#[61]⟩ : ByteArray).size = 1 from rfl] at *); omega)]; done)
              rotate_left
              · simp only [Act.put, List.setIfInBounds_toArray, List.set_cons_zero, List.set_cons_succ, i64_w, i32_w]
                rfl
              refine pure_ (i := 5) (N := some 30) (v := ?_) (a' := ?_) #[false, true, false, true, false, true, false, false, false, false, false] rfl rfl (any_of HT_.out (by kernel_rfl)) (fun _ _ _ h => h) (Or.inl ⟨by rfl, ?_⟩) ?_ ?_
              rotate_left
              · intro w'
                go_simp
                first | with_reducible rfl | (rw [if_neg (by omega)]; done) | (rw [if_neg (by (try simp only [decide_eq_true_eq, decide_eq_false_iff_not, eq_iff_iff, iff_true, iff_false] at *); (try simp only [ByteArray.size_extract, ByteArray.size_append, show (⟨#[97, 98, 99]⟩ : ByteArray).size = 3 from rfl, show (⟨#[88, 89, 90]⟩ : ByteArray).size = 3 from rfl, show (⟨#[61]⟩ : ByteArray).size = 1 from rfl] at *); omega)]; done)
              rotate_left
              · simp only [Act.put, List.setIfInBounds_toArray, List.set_cons_zero, List.set_cons_succ, i64_w, i32_w]
                rfl
              refine take_ (i := 0) (N := some 25) (v := ?_) (a' := ?_) #[true, true, false, true, false, true, false, false, false, false, false] rfl rfl (take_ofW HT_.out HW_.out (by kernel_rfl)) (fun _ _ _ h => h) (Or.inl ⟨by rfl, ?_⟩) hHeld ?_ ?_
              rotate_left
              · rintro w' ⟨s0, s1, s2, s3, s4⟩
                go_simp
                first | with_reducible rfl | (rw [if_neg (by omega)]; done) | (rw [if_neg (by (try simp only [decide_eq_true_eq, decide_eq_false_iff_not, eq_iff_iff, iff_true, iff_false] at *); (try simp only [ByteArray.size_extract, ByteArray.size_append, show (⟨#[97, 98, 99]⟩ : ByteArray).size = 3 from rfl, show (⟨#[88, 89, 90]⟩ : ByteArray).size = 3 from rfl, show (⟨#[61]⟩ : ByteArray).size = 1 from rfl] at *); omega)]; done)
              rotate_left
              · simp only [Act.put, List.setIfInBounds_toArray, List.set_cons_zero, List.set_cons_succ, i64_w, i32_w]
                rfl
              refine take_ (i := 2) (N := some 27) (v := ?_) (a' := ?_) #[true, true, true, true, false, true, false, false, false, false, false] rfl rfl (take_ofW HT_.out HW_.out (by kernel_rfl)) (fun _ _ _ h => h) (Or.inl ⟨by rfl, ?_⟩) hHeld ?_ ?_
              rotate_left
              · rintro w' ⟨s0, s1, s2, s3, s4⟩
                go_simp
                first | with_reducible rfl | (rw [if_neg (by omega)]; done) | (rw [if_neg (by (try simp only [decide_eq_true_eq, decide_eq_false_iff_not, eq_iff_iff, iff_true, iff_false] at *); (try simp only [ByteArray.size_extract, ByteArray.size_append, show (⟨#[97, 98, 99]⟩ : ByteArray).size = 3 from rfl, show (⟨#[88, 89, 90]⟩ : ByteArray).size = 3 from rfl, show (⟨#[61]⟩ : ByteArray).size = 1 from rfl] at *); omega)]; done)
              rotate_left
              · simp only [Act.put, List.setIfInBounds_toArray, List.set_cons_zero, List.set_cons_succ, i64_w, i32_w]
                rfl
              refine take_ (i := 4) (N := some 29) (v := ?_) (a' := ?_) #[true, true, true, true, true, true, false, false, false, false, false] rfl rfl (take_ofW HT_.out HW_.out (by kernel_rfl)) (fun _ _ _ h => h) (Or.inl ⟨by rfl, ?_⟩) hHeld ?_ ?_
              rotate_left
              · rintro w' ⟨s0, s1, s2, s3, s4⟩
                go_simp
                first | with_reducible rfl | (rw [if_neg (by omega)]; done) | (rw [if_neg (by (try simp only [decide_eq_true_eq, decide_eq_false_iff_not, eq_iff_iff, iff_true, iff_false] at *); (try simp only [ByteArray.size_extract, ByteArray.size_append, show (⟨#[97, 98, 99]⟩ : ByteArray).size = 3 from rfl, show (⟨#[88, 89, 90]⟩ : ByteArray).size = 3 from rfl, show (⟨#[61]⟩ : ByteArray).size = 1 from rfl] at *); omega)]; done)
              rotate_left
              · simp only [Act.put, List.setIfInBounds_toArray, List.set_cons_zero, List.set_cons_succ, i64_w, i32_w]
                rfl
              refine take_ (i := 6) (N := some 31) (v := ?_) (a' := ?_) #[true, true, true, true, true, true, true, false, false, false, false] rfl rfl (take_ofW HT_.out HW_.out (by kernel_rfl)) (fun _ _ _ h => h) (Or.inl ⟨by rfl, ?_⟩) hHeld ?_ ?_
              rotate_left
              · rintro w' ⟨s0, s1, s2, s3, s4⟩
                go_simp
                first | with_reducible rfl | (rw [if_neg (by omega)]; done) | (rw [if_neg (by (try simp only [decide_eq_true_eq, decide_eq_false_iff_not, eq_iff_iff, iff_true, iff_false] at *); (try simp only [ByteArray.size_extract, ByteArray.size_append, show (⟨#[97, 98, 99]⟩ : ByteArray).size = 3 from rfl, show (⟨#[88, 89, 90]⟩ : ByteArray).size = 3 from rfl, show (⟨#[61]⟩ : ByteArray).size = 1 from rfl] at *); omega)]; done)
              rotate_left
              · simp only [Act.put, List.setIfInBounds_toArray, List.set_cons_zero, List.set_cons_succ, i64_w, i32_w]
                rfl
              refine one_ (i := 7) (N := some 32) #[true, true, true, true, true, true, true, true, false, false, false] rfl rfl (one_of HT_.out (by kernel_rfl)) (by decide) (fun K hK => ?_)
              refine goes_ Try.func114 (by kernel_rfl) rfl #[.agg #[.string a0_0, .string a0_1, .string a0_2], .int .u8 a1_0] (by rfl) rfl rfl (by (try simp only [List.map_toArray, List.map_cons, List.map_nil]); first | done | rfl | (simp only [List.length_drop, List.length_take]; rfl)) ?_
              with_reducible refine (impl_ValueOf.calls a0_0 a0_1 a0_2 a1_0 t45009 _ A23.out).mono ?_
              rintro e w35 ⟨rfl, hb⟩
              refine ⟨_, rfl, ?_⟩
              have n0_ := Aside0.mk (blk_below (g := gb45001) (o := .cells #[.string a0_0, .string a0_1, .string a0_2] 71 (0, 0)) (by (with_reducible repeat (first | refine blk_drewN ?_ _ | refine blk_drew ?_ | refine blk_alloc ?_ _)); exact BK45001.out) hb)
              have n1_ := Aside0.mk (blk_below (g := gb45002) (o := .cells #[.int .u8 a1_0, .string a1_1] 62 (0, 0)) (by (with_reducible repeat (first | refine blk_drewN ?_ _ | refine blk_drew ?_ | refine blk_alloc ?_ _)); exact BK45002.out) hb)
              have n2_ := Aside0.mk (blk_below (g := gb45003) (o := .cells #[.string (⟨#[]⟩ : ByteArray), .string (⟨#[]⟩ : ByteArray), .string (⟨#[]⟩ : ByteArray)] 71 (0, 0)) (by (with_reducible repeat (first | refine blk_drewN ?_ _ | refine blk_drew ?_ | refine blk_alloc ?_ _)); exact BK45003.out) hb)
              have n3_ := Aside0.mk (below_step (by repeat (first | (with_reducible first | exact HB.out | apply below_alloc | apply pw_below_drewN | apply below_drew1 | refine below_set ?_ GE45001.out | refine below_set ?_ GE45002.out | refine below_set ?_ GE45003.out) | exact HB.out)) hb)
              clear BK45001
              clear BK45002
              clear BK45003
              clear HB
              have BK45001 := n0_
              have BK45002 := n1_
              have BK45003 := n2_
              have HB := n3_
              clear n0_ n1_ n2_ n3_
              (try clear hb)
              (try clear hb2)
              (try clear hk)
              (try clear hi)
              refine hK.out _ _ ⟨(blk_cell BK45001.out 0).trans rfl, (blk_cell BK45001.out 1).trans rfl, (blk_cell BK45001.out 2).trans rfl, (blk_cell BK45002.out 0).trans rfl, (blk_cell BK45002.out 1).trans rfl⟩ (fun hHeld => ?_)
              clear hK K
              refine norm_ (a' := ?_) ?_ ?_
              rotate_left
              · show Act.put _ (some 32) _ = _
                simp only [Act.put, List.setIfInBounds_toArray, List.set_cons_zero, List.set_cons_succ, i64_w, i32_w]
                rfl
              refine pure_ (i := 8) (N := some 33) (v := ?_) (a' := ?_) #[true, true, true, true, true, true, true, true, true, false, false] rfl rfl (any_of HT_.out (by kernel_rfl)) (fun _ _ _ h => h) (Or.inl ⟨by rfl, ?_⟩) ?_ ?_
              rotate_left
              · intro w'
                go_simp
                first | with_reducible rfl | (rw [if_neg (by omega)]; done) | (rw [if_neg (by (try simp only [decide_eq_true_eq, decide_eq_false_iff_not, eq_iff_iff, iff_true, iff_false] at *); (try simp only [ByteArray.size_extract, ByteArray.size_append, show (⟨#[97, 98, 99]⟩ : ByteArray).size = 3 from rfl, show (⟨#[88, 89, 90]⟩ : ByteArray).size = 3 from rfl, show (⟨#[61]⟩ : ByteArray).size = 1 from rfl] at *); omega)]; done)
              rotate_left
              · simp only [Act.put, List.setIfInBounds_toArray, List.set_cons_zero, List.set_cons_succ, i64_w, i32_w]
                rfl
              refine one_ (i := 9) (N := some 34) #[true, true, true, true, true, true, true, true, true, true, false] rfl rfl (one_of HT_.out (by kernel_rfl)) (by decide) (fun K hK => ?_)
              refine goes_ Try.func112 (by kernel_rfl) rfl #[.agg #[.string a0_0, .string a0_1, .string a0_2], .int .u8 a1_0, .string (t45008 ++ t45009)] (by rfl) rfl rfl (by (try simp only [List.map_toArray, List.map_cons, List.map_nil]); first | done | rfl | (simp only [List.length_drop, List.length_take]; rfl)) ?_
              with_reducible refine (impl_WithValue.calls a0_0 a0_1 a0_2 a1_0 (t45008 ++ t45009) t45010 t45011 t45012 _ A25.out).mono ?_
              rintro e w36 ⟨rfl, hb⟩
              refine ⟨_, rfl, ?_⟩
              have n0_ := Aside0.mk (blk_below (g := gb45001) (o := .cells #[.string a0_0, .string a0_1, .string a0_2] 71 (0, 0)) (by (with_reducible repeat (first | refine blk_drewN ?_ _ | refine blk_drew ?_ | refine blk_alloc ?_ _)); exact BK45001.out) hb)
              have n1_ := Aside0.mk (blk_below (g := gb45002) (o := .cells #[.int .u8 a1_0, .string a1_1] 62 (0, 0)) (by (with_reducible repeat (first | refine blk_drewN ?_ _ | refine blk_drew ?_ | refine blk_alloc ?_ _)); exact BK45002.out) hb)
              have n2_ := Aside0.mk (blk_below (g := gb45003) (o := .cells #[.string (⟨#[]⟩ : ByteArray), .string (⟨#[]⟩ : ByteArray), .string (⟨#[]⟩ : ByteArray)] 71 (0, 0)) (by (with_reducible repeat (first | refine blk_drewN ?_ _ | refine blk_drew ?_ | refine blk_alloc ?_ _)); exact BK45003.out) hb)
              have n3_ := Aside0.mk (below_step (by repeat (first | (with_reducible first | exact HB.out | apply below_alloc | apply pw_below_drewN | apply below_drew1 | refine below_set ?_ GE45001.out | refine below_set ?_ GE45002.out | refine below_set ?_ GE45003.out) | exact HB.out)) hb)
              clear BK45001
              clear BK45002
              clear BK45003
              clear HB
              have BK45001 := n0_
              have BK45002 := n1_
              have BK45003 := n2_
              have HB := n3_
              clear n0_ n1_ n2_ n3_
              (try clear hb)
              (try clear hb2)
              (try clear hk)
              (try clear hi)
              refine hK.out _ _ ⟨(blk_cell BK45001.out 0).trans rfl, (blk_cell BK45001.out 1).trans rfl, (blk_cell BK45001.out 2).trans rfl, (blk_cell BK45002.out 0).trans rfl, (blk_cell BK45002.out 1).trans rfl⟩ (fun hHeld => ?_)
              clear hK K
              refine norm_ (a' := ?_) ?_ ?_
              rotate_left
              · show Act.put _ (some 34) _ = _
                simp only [Act.put, List.setIfInBounds_toArray, List.set_cons_zero, List.set_cons_succ, i64_w, i32_w]
                rfl
              refine one_ (i := 10) (N := none) #[true, true, true, true, true, true, true, true, true, true, true] rfl rfl (one_of HT_.out (by kernel_rfl)) (by decide) (fun K hK => ?_)
              have hs37 : w36.cell? ⟨gb45003, 0, none⟩ = some (.string (⟨#[]⟩ : ByteArray)) := (blk_cell BK45003.out 0).trans rfl
              have hfs37 := blk_frozen BK45003.out 0
              have hns37_0 := NB45001_45003.out
              have hns37_1 := NB45002_45003.out
              have hms37_0 := NB45003_45001.out
              have hms37_1 := NB45003_45002.out
              have hs38 : w36.cell? ⟨gb45003, 1, none⟩ = some (.string (⟨#[]⟩ : ByteArray)) := (blk_cell BK45003.out 1).trans rfl
              have hfs38 := blk_frozen BK45003.out 1
              have hns38_0 := NB45001_45003.out
              have hns38_1 := NB45002_45003.out
              have hms38_0 := NB45003_45001.out
              have hms38_1 := NB45003_45002.out
              have hs39 : w36.cell? ⟨gb45003, 2, none⟩ = some (.string (⟨#[]⟩ : ByteArray)) := (blk_cell BK45003.out 2).trans rfl
              have hfs39 := blk_frozen BK45003.out 2
              have hns39_0 := NB45001_45003.out
              have hns39_1 := NB45002_45003.out
              have hms39_0 := NB45003_45001.out
              have hms39_1 := NB45003_45002.out
              refine skip_ (w1 := ?_) (by rfl) rfl ?_ ?_
              rotate_left
              · go_simp
                rfl
              refine hK.out _ _ ⟨((cell_far (p := ⟨gb45003, _, none⟩) NB45001_45003.out _).trans (((cell_far (p := ⟨gb45003, _, none⟩) NB45001_45003.out _).trans (((cell_far (p := ⟨gb45003, _, none⟩) NB45001_45003.out _).trans (hHeld.1)))))), ((cell_far (p := ⟨gb45003, _, none⟩) NB45001_45003.out _).trans (((cell_far (p := ⟨gb45003, _, none⟩) NB45001_45003.out _).trans (((cell_far (p := ⟨gb45003, _, none⟩) NB45001_45003.out _).trans (hHeld.2.1)))))), ((cell_far (p := ⟨gb45003, _, none⟩) NB45001_45003.out _).trans (((cell_far (p := ⟨gb45003, _, none⟩) NB45001_45003.out _).trans (((cell_far (p := ⟨gb45003, _, none⟩) NB45001_45003.out _).trans (hHeld.2.2.1)))))), ((cell_far (p := ⟨gb45003, _, none⟩) NB45002_45003.out _).trans (((cell_far (p := ⟨gb45003, _, none⟩) NB45002_45003.out _).trans (((cell_far (p := ⟨gb45003, _, none⟩) NB45002_45003.out _).trans (hHeld.2.2.2.1)))))), ((cell_far (p := ⟨gb45003, _, none⟩) NB45002_45003.out _).trans (((cell_far (p := ⟨gb45003, _, none⟩) NB45002_45003.out _).trans (((cell_far (p := ⟨gb45003, _, none⟩) NB45002_45003.out _).trans (hHeld.2.2.2.2))))))⟩ (fun hHeld => ?_)
              clear hK K
              refine done_ (done_of HT_.out (by kernel_rfl)) ?_
              try go_wp2
              refine bodyPost_ret (results_cell_row rfl _ _ gb45003 71 #[.string t45010, .string t45011, .string t45012] (0, 0) _ rfl (by (with_reducible repeat (first | refine blk_drewN ?_ _ | refine blk_drew ?_ | refine blk_alloc ?_ _)); refine blk_put (cs := #[.string t45010, .string t45011, .string (⟨#[]⟩ : ByteArray)]) ?_ 2 _ rfl; (with_reducible repeat (first | refine blk_drewN ?_ _ | refine blk_drew ?_ | refine blk_alloc ?_ _)); refine blk_put (cs := #[.string t45010, .string (⟨#[]⟩ : ByteArray), .string (⟨#[]⟩ : ByteArray)]) ?_ 1 _ rfl; (with_reducible repeat (first | refine blk_drewN ?_ _ | refine blk_drew ?_ | refine blk_alloc ?_ _)); refine blk_put (cs := #[.string (⟨#[]⟩ : ByteArray), .string (⟨#[]⟩ : ByteArray), .string (⟨#[]⟩ : ByteArray)]) ?_ 0 _ rfl; (with_reducible repeat (first | refine blk_drewN ?_ _ | refine blk_drew ?_ | refine blk_alloc ?_ _)); exact BK45003.out) Try.underlying71 rfl (by kernel_rfl)) rfl ?_
              exact ⟨by first | rfl | (simp [errW_none, errW_some] <;> rfl) | (simp [*, errW_none, errW_some] <;> rfl), by repeat (first | (with_reducible first | exact HB.out | apply below_alloc | apply pw_below_drewN | apply below_drew1 | refine below_set ?_ GE45001.out | refine below_set ?_ GE45002.out | refine below_set ?_ GE45003.out) | exact HB.out)⟩
            · rw [if_neg c24] at H
              exact absurd H (by simp)
          · replace c20 := Bool.eq_false_iff.mpr c20
            subst c20
            have H1 : ((impl_ValueOf.f a0_0 a0_1 a0_2 a1_0).bind fun t45013 => (if (a1_1.extract 0 1).size + t45013.size ≤ 9223372036854775807 then ((impl_WithValue.f a0_0 a0_1 a0_2 a1_0 ((a1_1.extract 0 1) ++ t45013)).bind fun bt45014 => (some (bt45014.1, bt45014.2.1, bt45014.2.2))) else (none))) = some (r1, r2, r3) := by rw [if_neg (show ¬ (false = true) by decide)] at H; exact H
            clear H
            have H := H1
            clear H1
            replace H := Option.bind_eq_some_iff.mp H
            obtain ⟨t45013, A400, H⟩ := H
            replace H : (if (a1_1.extract 0 1).size + t45013.size ≤ 9223372036854775807 then ((impl_WithValue.f a0_0 a0_1 a0_2 a1_0 ((a1_1.extract 0 1) ++ t45013)).bind fun bt45014 => (some (bt45014.1, bt45014.2.1, bt45014.2.2))) else (none)) = some (r1, r2, r3) := H
            have A40 := Aside0.mk A400
            clear A400
            by_cases c41 : (a1_1.extract 0 1).size + t45013.size ≤ 9223372036854775807
            · rw [if_pos c41] at H
              have c41z := c41
              try simp at c41z
              try replace c41z := eq_false (Nat.not_lt.2 c41z)
              have c41b0 := eq_true c41
              have c41b1 : decide ((a1_1.extract 0 1).size + t45013.size ≤ 9223372036854775807) = true := decide_eq_true c41
              try have c41b2 : (9223372036854775807 < (a1_1.extract 0 1).size + t45013.size) = False := eq_false (Nat.not_lt.2 c41)
              replace H := Option.bind_eq_some_iff.mp H
              obtain ⟨⟨t45014, t45015, t45016⟩, A420, H⟩ := H
              replace H : (some (t45014, t45015, t45016)) = some (r1, r2, r3) := H
              have A42 := Aside0.mk A420
              clear A420
              simp only [Option.some.injEq, Prod.mk.injEq] at H
              obtain ⟨rfl, rfl, rfl⟩ := H
              go_enter Try.func45, Try.ntmps45
              try go_wp2_with (first | ((with_reducible refine gate_dst (N := 2) rfl ?_); refine box_event ?hg (N := 2) ?hd (cs := #[.string a0_0, .string a0_1, .string a0_2]) (t := 71) ?hr ?_; (case hd => rfl); (case hg => rfl); (case hr => first | (go_simp; done) | (go_simp; rfl)); intro gb45001 hg w43 hbox hb; have n0_ := Aside0.mk (below_step (by repeat (first | (with_reducible first | exact HB.out | apply below_alloc | apply pw_below_drewN | apply below_drew1) | exact HB.out)) hb); have n1_ := Aside0.mk (hbox); have n2_ := Aside0.mk ((by rw [hg]; exact (below_size (by repeat (first | (with_reducible first | exact HB.out | apply below_alloc | apply pw_below_drewN | apply below_drew1) | exact HB.out))) : w.heap.size ≤ gb45001)); have n3_ := Aside0.mk ((by rw [hg]; exact (below_size (by repeat (first | (with_reducible first | exact HB.out | apply below_alloc | apply pw_below_drewN | apply below_drew1) | exact HB.out))) : w.heap.size ≤ gb45001)); clear HB; have HB := n0_; have BK45001 := n1_; have GW45001 := n2_; have GE45001 := n3_; clear n0_ n1_ n2_ n3_; clear hb hbox hg) | ((with_reducible refine gate_dst (N := 3) rfl ?_); refine box_event ?hg (N := 3) ?hd (cs := #[.int .u8 a1_0, .string a1_1]) (t := 62) ?hr ?_; (case hd => rfl); (case hg => rfl); (case hr => first | (go_simp; done) | (go_simp; rfl)); intro gb45002 hg w44 hbox hb; have n0_ := Aside0.mk (blk_below (g := gb45001) (o := .cells #[.string a0_0, .string a0_1, .string a0_2] 71 (0, 0)) (by (with_reducible repeat (first | refine blk_drewN ?_ _ | refine blk_drew ?_ | refine blk_alloc ?_ _)); exact BK45001.out) hb); have n1_ := Aside0.mk (below_step (by repeat (first | (with_reducible first | exact HB.out | apply below_alloc | apply pw_below_drewN | apply below_drew1 | refine below_set ?_ GE45001.out) | exact HB.out)) hb); have n2_ := Aside0.mk (hbox); have n3_ := Aside0.mk ((by rw [hg]; exact (below_size (by repeat (first | (with_reducible first | exact HB.out | apply below_alloc | apply pw_below_drewN | apply below_drew1 | refine below_set ?_ GE45001.out) | exact HB.out))) : w.heap.size ≤ gb45002)); have n4_ := Aside0.mk ((by rw [hg]; exact (below_size (by repeat (first | (with_reducible first | exact HB.out | apply below_alloc | apply pw_below_drewN | apply below_drew1 | refine below_set ?_ GE45001.out) | exact HB.out))) : w.heap.size ≤ gb45002)); have n5_ := Aside0.mk ((by rw [hg]; exact Nat.ne_of_lt (blk_lt (g := gb45001) (o := .cells #[.string a0_0, .string a0_1, .string a0_2] 71 (0, 0)) (by (with_reducible repeat (first | refine blk_drewN ?_ _ | refine blk_drew ?_ | refine blk_alloc ?_ _)); exact BK45001.out)) : gb45001 ≠ gb45002)); have n6_ := Aside0.mk ((by rw [hg]; exact Nat.ne_of_gt (blk_lt (g := gb45001) (o := .cells #[.string a0_0, .string a0_1, .string a0_2] 71 (0, 0)) (by (with_reducible repeat (first | refine blk_drewN ?_ _ | refine blk_drew ?_ | refine blk_alloc ?_ _)); exact BK45001.out)) : gb45002 ≠ gb45001)); clear BK45001; clear HB; have BK45001 := n0_; have HB := n1_; have BK45002 := n2_; have GW45002 := n3_; have GE45002 := n4_; have NB45001_45002 := n5_; have NB45002_45001 := n6_; clear n0_ n1_ n2_ n3_ n4_ n5_ n6_; clear hb hbox hg) | ((with_reducible refine gate_dst (N := 4) rfl ?_); refine box_event ?hg (N := 4) ?hd (cs := #[.string (⟨#[]⟩ : ByteArray), .string (⟨#[]⟩ : ByteArray), .string (⟨#[]⟩ : ByteArray)]) (t := 71) ?hr ?_; (case hd => rfl); (case hg => rfl); (case hr => first | (go_simp; done) | (go_simp; rfl)); intro gb45003 hg w45 hbox hb; have n0_ := Aside0.mk (blk_below (g := gb45001) (o := .cells #[.string a0_0, .string a0_1, .string a0_2] 71 (0, 0)) (by (with_reducible repeat (first | refine blk_drewN ?_ _ | refine blk_drew ?_ | refine blk_alloc ?_ _)); exact BK45001.out) hb); have n1_ := Aside0.mk (blk_below (g := gb45002) (o := .cells #[.int .u8 a1_0, .string a1_1] 62 (0, 0)) (by (with_reducible repeat (first | refine blk_drewN ?_ _ | refine blk_drew ?_ | refine blk_alloc ?_ _)); exact BK45002.out) hb); have n2_ := Aside0.mk (below_step (by repeat (first | (with_reducible first | exact HB.out | apply below_alloc | apply pw_below_drewN | apply below_drew1 | refine below_set ?_ GE45001.out | refine below_set ?_ GE45002.out) | exact HB.out)) hb); have n3_ := Aside0.mk (hbox); have n4_ := Aside0.mk ((by rw [hg]; exact (below_size (by repeat (first | (with_reducible first | exact HB.out | apply below_alloc | apply pw_below_drewN | apply below_drew1 | refine below_set ?_ GE45001.out | refine below_set ?_ GE45002.out) | exact HB.out))) : w.heap.size ≤ gb45003)); have n5_ := Aside0.mk ((by rw [hg]; exact (below_size (by repeat (first | (with_reducible first | exact HB.out | apply below_alloc | apply pw_below_drewN | apply below_drew1 | refine below_set ?_ GE45001.out | refine below_set ?_ GE45002.out) | exact HB.out))) : w.heap.size ≤ gb45003)); have n6_ := Aside0.mk ((by rw [hg]; exact Nat.ne_of_lt (blk_lt (g := gb45001) (o := .cells #[.string a0_0, .string a0_1, .string a0_2] 71 (0, 0)) (by (with_reducible repeat (first | refine blk_drewN ?_ _ | refine blk_drew ?_ | refine blk_alloc ?_ _)); exact BK45001.out)) : gb45001 ≠ gb45003)); have n7_ := Aside0.mk ((by rw [hg]; exact Nat.ne_of_gt (blk_lt (g := gb45001) (o := .cells #[.string a0_0, .string a0_1, .string a0_2] 71 (0, 0)) (by (with_reducible repeat (first | refine blk_drewN ?_ _ | refine blk_drew ?_ | refine blk_alloc ?_ _)); exact BK45001.out)) : gb45003 ≠ gb45001)); have n8_ := Aside0.mk ((by rw [hg]; exact Nat.ne_of_lt (blk_lt (g := gb45002) (o := .cells #[.int .u8 a1_0, .string a1_1] 62 (0, 0)) (by (with_reducible repeat (first | refine blk_drewN ?_ _ | refine blk_drew ?_ | refine blk_alloc ?_ _)); exact BK45002.out)) : gb45002 ≠ gb45003)); have n9_ := Aside0.mk ((by rw [hg]; exact Nat.ne_of_gt (blk_lt (g := gb45002) (o := .cells #[.int .u8 a1_0, .string a1_1] 62 (0, 0)) (by (with_reducible repeat (first | refine blk_drewN ?_ _ | refine blk_drew ?_ | refine blk_alloc ?_ _)); exact BK45002.out)) : gb45003 ≠ gb45002)); clear BK45001; clear BK45002; clear HB; have BK45001 := n0_; have BK45002 := n1_; have HB := n2_; have BK45003 := n3_; have GW45003 := n4_; have GE45003 := n5_; have NB45001_45003 := n6_; have NB45003_45001 := n7_; have NB45002_45003 := n8_; have NB45003_45002 := n9_; clear n0_ n1_ n2_ n3_ n4_ n5_ n6_ n7_ n8_ n9_; clear hb hbox hg; have hnb46 := NB45002_45001.out; have hnc46 := NB45001_45002.out; have hnb47 := NB45002_45003.out; have hnc47 := NB45003_45002.out; have hcz48_0 : w45.cell? ⟨gb45002, 0, none⟩ = some (.int .u8 a1_0) := (blk_cell BK45002.out 0).trans rfl; have hcz48_1 : w45.cell? ⟨gb45002, 1, none⟩ = some (.string a1_1) := (blk_cell BK45002.out 1).trans rfl; have hfz48_0 := blk_frozen BK45002.out 0; have hfz48_1 := blk_frozen BK45002.out 1; have p18 : 0 ≤ (0 : Int) := (by omega); have q18 : 0 < a1_1.size := (by have : (0 : Int) < (a1_1.size : Int) := of_decide_eq_true (by first | (with_reducible assumption) | assumption); omega); have hx18 : ∀ h : 0 < a1_1.size, ((a1_1[0]'h).toNat : Int) = bt a1_1 0 := bt_at a1_1 0; clear p18; have qi18 : (0 < (a1_1.size : Int)) = True := eq_true (of_decide_eq_true (by first | (with_reducible assumption) | assumption)); replace q18 := eq_true q18) | ((with_reducible refine gate_callee (f := 113) rfl ?_); refine goesL_ (some 19) rfl rfl Try.func113 (by kernel_rfl) rfl #[.int .u8 (bt a1_1 0)] rfl (by (try simp only [List.map_toArray, List.map_cons, List.map_nil]); first | done | rfl | (simp only [List.length_drop, List.length_take]; rfl)) ?_; (with_reducible refine (impl_isVariable.calls (bt a1_1 0) false _ A19.out).mono ?_); rintro e w' ⟨rfl, ⟨nd, rfl⟩⟩; refine ⟨_, rfl, ?_⟩; (try (rw [drewN_self w45]; generalize hq_ : World.drewN w45 _ = w45; have n0_ : Aside0 (w45.heap[gb45001]? = some (.cells #[.string a0_0, .string a0_1, .string a0_2] 71 (0, 0))) := ⟨by rw [← hq_]; exact (by (with_reducible repeat (first | refine blk_drewN ?_ _ | refine blk_drew ?_ | refine blk_alloc ?_ _)); exact BK45001.out)⟩; have n1_ : Aside0 (w45.heap[gb45002]? = some (.cells #[.int .u8 a1_0, .string a1_1] 62 (0, 0))) := ⟨by rw [← hq_]; exact (by (with_reducible repeat (first | refine blk_drewN ?_ _ | refine blk_drew ?_ | refine blk_alloc ?_ _)); exact BK45002.out)⟩; have n2_ : Aside0 (w45.heap[gb45003]? = some (.cells #[.string (⟨#[]⟩ : ByteArray), .string (⟨#[]⟩ : ByteArray), .string (⟨#[]⟩ : ByteArray)] 71 (0, 0))) := ⟨by rw [← hq_]; exact (by (with_reducible repeat (first | refine blk_drewN ?_ _ | refine blk_drew ?_ | refine blk_alloc ?_ _)); exact BK45003.out)⟩; have n3_ : Aside0 (Below w.heap.size w w45) := ⟨by rw [← hq_]; exact (by repeat (first | (with_reducible first | exact HB.out | apply below_alloc | apply pw_below_drewN | apply below_drew1 | refine below_set ?_ GE45001.out | refine below_set ?_ GE45002.out | refine below_set ?_ GE45003.out) | exact HB.out))⟩; clear BK45001 BK45002 BK45003 HB hq_; have BK45001 := n0_; have BK45002 := n1_; have BK45003 := n2_; have HB := n3_; clear n0_ n1_ n2_ n3_))))
              have n0_ := Aside0.mk (blk_drew BK45001.out)
              have n1_ := Aside0.mk (blk_drew BK45002.out)
              have n2_ := Aside0.mk (blk_drew BK45003.out)
              have n3_ := Aside0.mk (below_drew1 HB.out)
              clear BK45001
              clear BK45002
              clear BK45003
              clear HB
              have BK45001 := n0_
              have BK45002 := n1_
              have BK45003 := n2_
              have HB := n3_
              clear n0_ n1_ n2_ n3_
              refine start_ (n := 11) (S := fun w' => w'.cell? ⟨gb45001, 0, none⟩ = some (.string a0_0) ∧ w'.cell? ⟨gb45001, 1, none⟩ = some (.string a0_1) ∧ w'.cell? ⟨gb45001, 2, none⟩ = some (.string a0_2) ∧ w'.cell? ⟨gb45002, 0, none⟩ = some (.int .u8 a1_0) ∧ w'.cell? ⟨gb45002, 1, none⟩ = some (.string a1_1)) (ds := []) #[false, false, false, false, false, false, false, false, false, false, false] (by kernel_rfl) rfl rfl ⟨(blk_cell BK45001.out 0).trans rfl, (blk_cell BK45001.out 1).trans rfl, (blk_cell BK45001.out 2).trans rfl, (blk_cell BK45002.out 0).trans rfl, (blk_cell BK45002.out 1).trans rfl⟩ (fun hHeld => ?_); refine with_tabW impl_ReverseStep.tab6 impl_ReverseStep.bits6 (fun HT_ HW_ => ?_)
              generalize w45.drew = w49 at BK45001 BK45002 BK45003 HB hHeld ⊢
              refine pure_ (i := 1) (N := some 26) (v := ?_) (a' := ?_) #[false, true, false, false, false, false, false, false, false, false, false] rfl rfl (any_of HT_.out (by kernel_rfl)) (fun _ _ _ h => h) (Or.inl ⟨by rfl, ?_⟩) ?_ ?_
              rotate_left
              · intro w'
                go_simp
                first | with_reducible rfl | (rw [if_neg (by omega)]; done) | (rw [if_neg (by (try simp only [decide_eq_true_eq, decide_eq_false_iff_not, eq_iff_iff, iff_true, iff_false] at *); (try simp only [ByteArray.size_extract, ByteArray.size_append, show (⟨#[97, 98, 99]⟩ : ByteArray).size = 3 from rfl, show (⟨#[88, 89, 90]⟩ : ByteArray).size = 3 from rfl, show (⟨#[61]⟩ : ByteArray).size = 1 from rfl] at *); omega)]; done)
              rotate_left
              · simp only [Act.put, List.setIfInBounds_toArray, List.set_cons_zero, List.set_cons_succ, i64_w, i32_w]
                rfl
              refine pure_ (i := 3) (N := some 28) (v := ?_) (a' := ?_) #[false, true, false, true, false, false, false, false, false, false, false] rfl rfl (any_of HT_.out (by kernel_rfl)) (fun _ _ _ h => h) (Or.inl ⟨by rfl, ?_⟩) ?_ ?_
              rotate_left
              · intro w'
                go_simp
                first | with_reducible rfl | (rw [if_neg (by omega)]; done) | (rw [if_neg (by (try simp only [decide_eq_true_eq, decide_eq_false_iff_not, eq_iff_iff, iff_true, iff_false] at *); (try simp only [ByteArray.size_extract, ByteArray.size_append, show (⟨#[97, 98, 99]⟩ : ByteArray).size = 3 from rfl, show (⟨#[88, 89, 90]⟩ : ByteArray).size = 3 from rfl, show (⟨#[61]⟩ : ByteArray).size = 1 from rfl] at *); omega)]; done)
              rotate_left
              · simp only [Act.put, List.setIfInBounds_toArray, List.set_cons_zero, List.set_cons_succ, i64_w, i32_w]
                rfl
              refine pure_ (i := 5) (N := some 30) (v := ?_) (a' := ?_) #[false, true, false, true, false, true, false, false, false, false, false] rfl rfl (any_of HT_.out (by kernel_rfl)) (fun _ _ _ h => h) (Or.inl ⟨by rfl, ?_⟩) ?_ ?_
              rotate_left
              · intro w'
                go_simp
                first | with_reducible rfl | (rw [if_neg (by omega)]; done) | (rw [if_neg (by (try simp only [decide_eq_true_eq, decide_eq_false_iff_not, eq_iff_iff, iff_true, iff_false] at *); (try simp only [ByteArray.size_extract, ByteArray.size_append, show (⟨#[97, 98, 99]⟩ : ByteArray).size = 3 from rfl, show (⟨#[88, 89, 90]⟩ : ByteArray).size = 3 from rfl, show (⟨#[61]⟩ : ByteArray).size = 1 from rfl] at *); omega)]; done)
              rotate_left
              · simp only [Act.put, List.setIfInBounds_toArray, List.set_cons_zero, List.set_cons_succ, i64_w, i32_w]
                rfl
              refine take_ (i := 0) (N := some 25) (v := ?_) (a' := ?_) #[true, true, false, true, false, true, false, false, false, false, false] rfl rfl (take_ofW HT_.out HW_.out (by kernel_rfl)) (fun _ _ _ h => h) (Or.inl ⟨by rfl, ?_⟩) hHeld ?_ ?_
              rotate_left
              · rintro w' ⟨s0, s1, s2, s3, s4⟩
                go_simp
                first | with_reducible rfl | (rw [if_neg (by omega)]; done) | (rw [if_neg (by (try simp only [decide_eq_true_eq, decide_eq_false_iff_not, eq_iff_iff, iff_true, iff_false] at *); (try simp only [ByteArray.size_extract, ByteArray.size_append, show (⟨#[97, 98, 99]⟩ : ByteArray).size = 3 from rfl, show (⟨#[88, 89, 90]⟩ : ByteArray).size = 3 from rfl, show (⟨#[61]⟩ : ByteArray).size = 1 from rfl] at *); omega)]; done)
              rotate_left
              · simp only [Act.put, List.setIfInBounds_toArray, List.set_cons_zero, List.set_cons_succ, i64_w, i32_w]
                rfl
              refine take_ (i := 2) (N := some 27) (v := ?_) (a' := ?_) #[true, true, true, true, false, true, false, false, false, false, false] rfl rfl (take_ofW HT_.out HW_.out (by kernel_rfl)) (fun _ _ _ h => h) (Or.inl ⟨by rfl, ?_⟩) hHeld ?_ ?_
              rotate_left
              · rintro w' ⟨s0, s1, s2, s3, s4⟩
                go_simp
                first | with_reducible rfl | (rw [if_neg (by omega)]; done) | (rw [if_neg (by (try simp only [decide_eq_true_eq, decide_eq_false_iff_not, eq_iff_iff, iff_true, iff_false] at *); (try simp only [ByteArray.size_extract, ByteArray.size_append, show (⟨#[97, 98, 99]⟩ : ByteArray).size = 3 from rfl, show (⟨#[88, 89, 90]⟩ : ByteArray).size = 3 from rfl, show (⟨#[61]⟩ : ByteArray).size = 1 from rfl] at *); omega)]; done)
              rotate_left
              · simp only [Act.put, List.setIfInBounds_toArray, List.set_cons_zero, List.set_cons_succ, i64_w, i32_w]
                rfl
              refine take_ (i := 4) (N := some 29) (v := ?_) (a' := ?_) #[true, true, true, true, true, true, false, false, false, false, false] rfl rfl (take_ofW HT_.out HW_.out (by kernel_rfl)) (fun _ _ _ h => h) (Or.inl ⟨by rfl, ?_⟩) hHeld ?_ ?_
              rotate_left
              · rintro w' ⟨s0, s1, s2, s3, s4⟩
                go_simp
                first | with_reducible rfl | (rw [if_neg (by omega)]; done) | (rw [if_neg (by (try simp only [decide_eq_true_eq, decide_eq_false_iff_not, eq_iff_iff, iff_true, iff_false] at *); (try simp only [ByteArray.size_extract, ByteArray.size_append, show (⟨#[97, 98, 99]⟩ : ByteArray).size = 3 from rfl, show (⟨#[88, 89, 90]⟩ : ByteArray).size = 3 from rfl, show (⟨#[61]⟩ : ByteArray).size = 1 from rfl] at *); omega)]; done)
              rotate_left
              · simp only [Act.put, List.setIfInBounds_toArray, List.set_cons_zero, List.set_cons_succ, i64_w, i32_w]
                rfl
              refine take_ (i := 6) (N := some 31) (v := ?_) (a' := ?_) #[true, true, true, true, true, true, true, false, false, false, false] rfl rfl (take_ofW HT_.out HW_.out (by kernel_rfl)) (fun _ _ _ h => h) (Or.inl ⟨by rfl, ?_⟩) hHeld ?_ ?_
              rotate_left
              · rintro w' ⟨s0, s1, s2, s3, s4⟩
                go_simp
                first | with_reducible rfl | (rw [if_neg (by omega)]; done) | (rw [if_neg (by (try simp only [decide_eq_true_eq, decide_eq_false_iff_not, eq_iff_iff, iff_true, iff_false] at *); (try simp only [ByteArray.size_extract, ByteArray.size_append, show (⟨#[97, 98, 99]⟩ : ByteArray).size = 3 from rfl, show (⟨#[88, 89, 90]⟩ : ByteArray).size = 3 from rfl, show (⟨#[61]⟩ : ByteArray).size = 1 from rfl] at *); omega)]; done)
              rotate_left
              · simp only [Act.put, List.setIfInBounds_toArray, List.set_cons_zero, List.set_cons_succ, i64_w, i32_w]
                rfl
              refine one_ (i := 7) (N := some 32) #[true, true, true, true, true, true, true, true, false, false, false] rfl rfl (one_of HT_.out (by kernel_rfl)) (by decide) (fun K hK => ?_)
              refine goes_ Try.func114 (by kernel_rfl) rfl #[.agg #[.string a0_0, .string a0_1, .string a0_2], .int .u8 a1_0] (by rfl) rfl rfl (by (try simp only [List.map_toArray, List.map_cons, List.map_nil]); first | done | rfl | (simp only [List.length_drop, List.length_take]; rfl)) ?_
              with_reducible refine (impl_ValueOf.calls a0_0 a0_1 a0_2 a1_0 t45013 _ A40.out).mono ?_
              rintro e w50 ⟨rfl, hb⟩
              refine ⟨_, rfl, ?_⟩
              have n0_ := Aside0.mk (blk_below (g := gb45001) (o := .cells #[.string a0_0, .string a0_1, .string a0_2] 71 (0, 0)) (by (with_reducible repeat (first | refine blk_drewN ?_ _ | refine blk_drew ?_ | refine blk_alloc ?_ _)); exact BK45001.out) hb)
              have n1_ := Aside0.mk (blk_below (g := gb45002) (o := .cells #[.int .u8 a1_0, .string a1_1] 62 (0, 0)) (by (with_reducible repeat (first | refine blk_drewN ?_ _ | refine blk_drew ?_ | refine blk_alloc ?_ _)); exact BK45002.out) hb)
              have n2_ := Aside0.mk (blk_below (g := gb45003) (o := .cells #[.string (⟨#[]⟩ : ByteArray), .string (⟨#[]⟩ : ByteArray), .string (⟨#[]⟩ : ByteArray)] 71 (0, 0)) (by (with_reducible repeat (first | refine blk_drewN ?_ _ | refine blk_drew ?_ | refine blk_alloc ?_ _)); exact BK45003.out) hb)
              have n3_ := Aside0.mk (below_step (by repeat (first | (with_reducible first | exact HB.out | apply below_alloc | apply pw_below_drewN | apply below_drew1 | refine below_set ?_ GE45001.out | refine below_set ?_ GE45002.out | refine below_set ?_ GE45003.out) | exact HB.out)) hb)
              clear BK45001
              clear BK45002
              clear BK45003
              clear HB
              have BK45001 := n0_
              have BK45002 := n1_
              have BK45003 := n2_
              have HB := n3_
              clear n0_ n1_ n2_ n3_
              (try clear hb)
              (try clear hb2)
              (try clear hk)
              (try clear hi)
              refine hK.out _ _ ⟨(blk_cell BK45001.out 0).trans rfl, (blk_cell BK45001.out 1).trans rfl, (blk_cell BK45001.out 2).trans rfl, (blk_cell BK45002.out 0).trans rfl, (blk_cell BK45002.out 1).trans rfl⟩ (fun hHeld => ?_)
              clear hK K
              refine norm_ (a' := ?_) ?_ ?_
              rotate_left
              · show Act.put _ (some 32) _ = _
                simp only [Act.put, List.setIfInBounds_toArray, List.set_cons_zero, List.set_cons_succ, i64_w, i32_w]
                rfl
              refine pure_ (i := 8) (N := some 33) (v := ?_) (a' := ?_) #[true, true, true, true, true, true, true, true, true, false, false] rfl rfl (any_of HT_.out (by kernel_rfl)) (fun _ _ _ h => h) (Or.inl ⟨by rfl, ?_⟩) ?_ ?_
              rotate_left
              · intro w'
                go_simp
                first | with_reducible rfl | (rw [if_neg (by omega)]; done) | (rw [if_neg (by (try simp only [decide_eq_true_eq, decide_eq_false_iff_not, eq_iff_iff, iff_true, iff_false] at *); (try simp only [ByteArray.size_extract, ByteArray.size_append, show (⟨#[97, 98, 99]⟩ : ByteArray).size = 3 from rfl, show (⟨#[88, 89, 90]⟩ : ByteArray).size = 3 from rfl, show (⟨#[61]⟩ : ByteArray).size = 1 from rfl] at *); omega)]; done)
              rotate_left
              · simp only [Act.put, List.setIfInBounds_toArray, List.set_cons_zero, List.set_cons_succ, i64_w, i32_w]
                rfl
              refine one_ (i := 9) (N := some 34) #[true, true, true, true, true, true, true, true, true, true, false] rfl rfl (one_of HT_.out (by kernel_rfl)) (by decide) (fun K hK => ?_)
              refine goes_ Try.func112 (by kernel_rfl) rfl #[.agg #[.string a0_0, .string a0_1, .string a0_2], .int .u8 a1_0, .string ((a1_1.extract 0 1) ++ t45013)] (by rfl) rfl rfl (by (try simp only [List.map_toArray, List.map_cons, List.map_nil]); first | done | rfl | (simp only [List.length_drop, List.length_take]; rfl)) ?_
              with_reducible refine (impl_WithValue.calls a0_0 a0_1 a0_2 a1_0 ((a1_1.extract 0 1) ++ t45013) t45014 t45015 t45016 _ A42.out).mono ?_
              rintro e w51 ⟨rfl, hb⟩
              refine ⟨_, rfl, ?_⟩
              have n0_ := Aside0.mk (blk_below (g := gb45001) (o := .cells #[.string a0_0, .string a0_1, .string a0_2] 71 (0, 0)) (by (with_reducible repeat (first | refine blk_drewN ?_ _ | refine blk_drew ?_ | refine blk_alloc ?_ _)); exact BK45001.out) hb)
              have n1_ := Aside0.mk (blk_below (g := gb45002) (o := .cells #[.int .u8 a1_0, .string a1_1] 62 (0, 0)) (by (with_reducible repeat (first | refine blk_drewN ?_ _ | refine blk_drew ?_ | refine blk_alloc ?_ _)); exact BK45002.out) hb)
              have n2_ := Aside0.mk (blk_below (g := gb45003) (o := .cells #[.string (⟨#[]⟩ : ByteArray), .string (⟨#[]⟩ : ByteArray), .string (⟨#[]⟩ : ByteArray)] 71 (0, 0)) (by (with_reducible repeat (first | refine blk_drewN ?_ _ | refine blk_drew ?_ | refine blk_alloc ?_ _)); exact BK45003.out) hb)
              have n3_ := Aside0.mk (below_step (by repeat (first | (with_reducible first | exact HB.out | apply below_alloc | apply pw_below_drewN | apply below_drew1 | refine below_set ?_ GE45001.out | refine below_set ?_ GE45002.out | refine below_set ?_ GE45003.out) | exact HB.out)) hb)
              clear BK45001
              clear BK45002
              clear BK45003
              clear HB
              have BK45001 := n0_
              have BK45002 := n1_
              have BK45003 := n2_
              have HB := n3_
              clear n0_ n1_ n2_ n3_
              (try clear hb)
              (try clear hb2)
              (try clear hk)
              (try clear hi)
              refine hK.out _ _ ⟨(blk_cell BK45001.out 0).trans rfl, (blk_cell BK45001.out 1).trans rfl, (blk_cell BK45001.out 2).trans rfl, (blk_cell BK45002.out 0).trans rfl, (blk_cell BK45002.out 1).trans rfl⟩ (fun hHeld => ?_)
              clear hK K
              refine norm_ (a' := ?_) ?_ ?_
              rotate_left
              · show Act.put _ (some 34) _ = _
                simp only [Act.put, List.setIfInBounds_toArray, List.set_cons_zero, List.set_cons_succ, i64_w, i32_w]
                rfl
              refine one_ (i := 10) (N := none) #[true, true, true, true, true, true, true, true, true, true, true] rfl rfl (one_of HT_.out (by kernel_rfl)) (by decide) (fun K hK => ?_)
              have hs52 : w51.cell? ⟨gb45003, 0, none⟩ = some (.string (⟨#[]⟩ : ByteArray)) := (blk_cell BK45003.out 0).trans rfl
              have hfs52 := blk_frozen BK45003.out 0
              have hns52_0 := NB45001_45003.out
              have hns52_1 := NB45002_45003.out
              have hms52_0 := NB45003_45001.out
              have hms52_1 := NB45003_45002.out
              have hs53 : w51.cell? ⟨gb45003, 1, none⟩ = some (.string (⟨#[]⟩ : ByteArray)) := (blk_cell BK45003.out 1).trans rfl
              have hfs53 := blk_frozen BK45003.out 1
              have hns53_0 := NB45001_45003.out
              have hns53_1 := NB45002_45003.out
              have hms53_0 := NB45003_45001.out
              have hms53_1 := NB45003_45002.out
              have hs54 : w51.cell? ⟨gb45003, 2, none⟩ = some (.string (⟨#[]⟩ : ByteArray)) := (blk_cell BK45003.out 2).trans rfl
              have hfs54 := blk_frozen BK45003.out 2
              have hns54_0 := NB45001_45003.out
              have hns54_1 := NB45002_45003.out
              have hms54_0 := NB45003_45001.out
              have hms54_1 := NB45003_45002.out
              refine skip_ (w1 := ?_) (by rfl) rfl ?_ ?_
              rotate_left
              · go_simp
                rfl
              refine hK.out _ _ ⟨((cell_far (p := ⟨gb45003, _, none⟩) NB45001_45003.out _).trans (((cell_far (p := ⟨gb45003, _, none⟩) NB45001_45003.out _).trans (((cell_far (p := ⟨gb45003, _, none⟩) NB45001_45003.out _).trans (hHeld.1)))))), ((cell_far (p := ⟨gb45003, _, none⟩) NB45001_45003.out _).trans (((cell_far (p := ⟨gb45003, _, none⟩) NB45001_45003.out _).trans (((cell_far (p := ⟨gb45003, _, none⟩) NB45001_45003.out _).trans (hHeld.2.1)))))), ((cell_far (p := ⟨gb45003, _, none⟩) NB45001_45003.out _).trans (((cell_far (p := ⟨gb45003, _, none⟩) NB45001_45003.out _).trans (((cell_far (p := ⟨gb45003, _, none⟩) NB45001_45003.out _).trans (hHeld.2.2.1)))))), ((cell_far (p := ⟨gb45003, _, none⟩) NB45002_45003.out _).trans (((cell_far (p := ⟨gb45003, _, none⟩) NB45002_45003.out _).trans (((cell_far (p := ⟨gb45003, _, none⟩) NB45002_45003.out _).trans (hHeld.2.2.2.1)))))), ((cell_far (p := ⟨gb45003, _, none⟩) NB45002_45003.out _).trans (((cell_far (p := ⟨gb45003, _, none⟩) NB45002_45003.out _).trans (((cell_far (p := ⟨gb45003, _, none⟩) NB45002_45003.out _).trans (hHeld.2.2.2.2))))))⟩ (fun hHeld => ?_)
              clear hK K
              refine done_ (done_of HT_.out (by kernel_rfl)) ?_
              try go_wp2
              refine bodyPost_ret (results_cell_row rfl _ _ gb45003 71 #[.string t45014, .string t45015, .string t45016] (0, 0) _ rfl (by (with_reducible repeat (first | refine blk_drewN ?_ _ | refine blk_drew ?_ | refine blk_alloc ?_ _)); refine blk_put (cs := #[.string t45014, .string t45015, .string (⟨#[]⟩ : ByteArray)]) ?_ 2 _ rfl; (with_reducible repeat (first | refine blk_drewN ?_ _ | refine blk_drew ?_ | refine blk_alloc ?_ _)); refine blk_put (cs := #[.string t45014, .string (⟨#[]⟩ : ByteArray), .string (⟨#[]⟩ : ByteArray)]) ?_ 1 _ rfl; (with_reducible repeat (first | refine blk_drewN ?_ _ | refine blk_drew ?_ | refine blk_alloc ?_ _)); refine blk_put (cs := #[.string (⟨#[]⟩ : ByteArray), .string (⟨#[]⟩ : ByteArray), .string (⟨#[]⟩ : ByteArray)]) ?_ 0 _ rfl; (with_reducible repeat (first | refine blk_drewN ?_ _ | refine blk_drew ?_ | refine blk_alloc ?_ _)); exact BK45003.out) Try.underlying71 rfl (by kernel_rfl)) rfl ?_
              exact ⟨by first | rfl | (simp [errW_none, errW_some] <;> rfl) | (simp [*, errW_none, errW_some] <;> rfl), by repeat (first | (with_reducible first | exact HB.out | apply below_alloc | apply pw_below_drewN | apply below_drew1 | refine below_set ?_ GE45001.out | refine below_set ?_ GE45002.out | refine below_set ?_ GE45003.out) | exact HB.out)⟩
            · rw [if_neg c41] at H
              exact absurd H (by simp)
        · rw [if_neg c17] at H
          exact absurd H (by simp)
      · rw [if_neg c16] at H
        exact absurd H (by simp)
    · rw [if_neg c15] at H
      exact absurd H (by simp)

end Go.Proofs.Ytkefiajemifklaa.A
