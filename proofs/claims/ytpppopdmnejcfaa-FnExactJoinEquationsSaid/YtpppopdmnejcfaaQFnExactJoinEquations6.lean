/- FnExactJoinEquations: what its proof needs, put together by this session's program wip/merge.py out of the texts that wip/xp.py printed and of this session's own. -/
import Derived.Test.YtpppopdmnejcfaaQFnExactJoinEquations5
import Derived.ChangeArms
import Derived.ChangeReads
import Derived.DataReads
import Derived.DataElems
import Derived.Lib.Strings
import Derived.Lib.Bytealg
import Derived.Test.YtpppopdmnejcfaaRows
import Derived.WalkKit
import Derived.ProofKit
import Derived.OpenShut
import Derived.ShutString
import Derived.ChangeOld
import Derived.Below
import Derived.SizedLaws
import Derived.Lib.SmallJoins
set_option linter.unusedVariables false
set_option linter.unusedSimpArgs false
set_option maxHeartbeats 8000000
set_option maxRecDepth 100000
namespace Go.Proofs.Ytpppopdmnejcfaa.A
open Go.RowKit Go.Proofs.Ytpppopdmnejcfaa.Ext Go.Proofs.YtpppopdmnejcfaaW.PrintWords Go.Proofs.YtpppopdmnejcfaaW.PrintLast Go.Proofs.YtpppopdmnejcfaaW.PrintMore
attribute [local go_sem] max2_int min2_int max_two min_two max_three min_three max_four min_four
def laws_FnExactJoinEquations.j0 : Nat → Bool → List (S37) → List (S44) → Option (Bool)
 | 0, _, _, _ => none
 | k + 1, x35, x12002000, x12014000 => if x35 = true then (some false) else ((laws_toProblem.f k x12002000).bind fun t12019 => ((laws_eqProblem.f k x12014000 t12019).bind fun t12022 => (if t12022 = true then (some true) else (some false))))
def laws_FnExactJoinEquations.f (k : Nat) (l0_0 : List (S37)) : Option (Bool) := (laws_szProblem.f k l0_0 1048576).bind fun t12002 => (if t12002 < 0 then (some true) else ((laws_toProblem.f k l0_0).bind fun t12003 => ((spec_JoinEquations.f k t12003).bind fun bt12006 => ((laws_toProblem.f k l0_0).bind fun t12010 => ((impl_JoinEquations.f k t12010).bind fun bt12014 => ((laws_eqEquation.f bt12014.1 bt12014.2.1 bt12006.1 bt12006.2.1).bind fun t12018 => (if t12018 = true then (laws_FnExactJoinEquations.j0 k (bt12014.2.2 != bt12006.2.2) l0_0 t12010) else (laws_FnExactJoinEquations.j0 k true l0_0 t12010))))))))
theorem laws_FnExactJoinEquations.mono_l : ∀ k, (∀ y0 y1 y2, LeO (laws_FnExactJoinEquations.j0 k y0 y1 y2) (laws_FnExactJoinEquations.j0 (k + 1) y0 y1 y2))
 | 0 => fun _ _ _ r h => by simp [laws_FnExactJoinEquations.j0] at h
 | k + 1 => by
  have ih0 := laws_FnExactJoinEquations.mono_l k
  ·intro y0 y1 y2
   unfold laws_FnExactJoinEquations.j0
   repeat' first
   | (with_reducible exact ih0 _ _ _)
   | (with_reducible exact impl_JoinEquations.mono _ _)
   | (with_reducible exact laws_eqProblem.mono _ _ _)
   | (with_reducible exact laws_szProblem.mono _ _ _)
   | (with_reducible exact laws_toProblem.mono _ _)
   | (with_reducible exact spec_JoinEquations.mono _ _)
   | (with_reducible exact LeO.refl _)
   | (with_reducible exact LeO.none _)
   | (with_reducible refine LeO.ite ?_ ?_)
   | (with_reducible refine LeO.bind ?_ (fun _ => ?_))
theorem laws_FnExactJoinEquations.mono : ∀ a0 k, LeO (laws_FnExactJoinEquations.f k a0) (laws_FnExactJoinEquations.f (k + 1) a0) := by
 intro a0 k
 have ih0 := laws_FnExactJoinEquations.mono_l k
 unfold laws_FnExactJoinEquations.f
 repeat' first
   | (with_reducible exact ih0 _ _ _)
   | (with_reducible exact impl_JoinEquations.mono _ _)
   | (with_reducible exact laws_eqProblem.mono _ _ _)
   | (with_reducible exact laws_szProblem.mono _ _ _)
   | (with_reducible exact laws_toProblem.mono _ _)
   | (with_reducible exact spec_JoinEquations.mono _ _)
   | (with_reducible exact LeO.refl _)
   | (with_reducible exact LeO.none _)
   | (with_reducible refine LeO.ite ?_ ?_)
   | (with_reducible refine LeO.bind ?_ (fun _ => ?_))
theorem laws_FnExactJoinEquations.calls (k : Nat) (A0_0 : Option Addr) (c0_0 : Nat) (l0_0 : List (S37)) (r : Bool) (w : World) (hr0_0 : Kd.C k37 w A0_0 l0_0.length l0_0) (hc0_0 : l0_0.length ≤ c0_0) (h : laws_FnExactJoinEquations.f k l0_0 = some r) :
  Calls Try.prog 12 #[.agg #[.slice A0_0 l0_0.length c0_0]] w fun e w' => e = .returned (.bool r) ∧ Below w.heap.size w w' := by
 have hu24 := Try.underlying24
 have hu58 := Try.underlying58
 have hu29 := Try.underlying29
 have HR0_0 := Aside0.mk hr0_0
 have HC0_0 := Aside0.mk hc0_0
 clear hr0_0 hc0_0
 have HB := Aside0.mk (Below.refl w.heap.size w)
 have H : ((laws_szProblem.f k l0_0 1048576).bind fun t12002 => (if t12002 < 0 then (some true) else ((laws_toProblem.f k l0_0).bind fun t12003 => ((spec_JoinEquations.f k t12003).bind fun bt12006 => ((laws_toProblem.f k l0_0).bind fun t12010 => ((impl_JoinEquations.f k t12010).bind fun bt12014 => ((laws_eqEquation.f bt12014.1 bt12014.2.1 bt12006.1 bt12006.2.1).bind fun t12018 => (if t12018 = true then (laws_FnExactJoinEquations.j0 k (bt12014.2.2 != bt12006.2.2) l0_0 t12010) else (laws_FnExactJoinEquations.j0 k true l0_0 t12010))))))))) = some r := h
 clear h
 replace H := Option.bind_eq_some_iff.mp H
 obtain ⟨t12002, A20, H⟩ := H
 replace H : (if t12002 < 0 then (some true) else ((laws_toProblem.f k l0_0).bind fun t12003 => ((spec_JoinEquations.f k t12003).bind fun bt12006 => ((laws_toProblem.f k l0_0).bind fun t12010 => ((impl_JoinEquations.f k t12010).bind fun bt12014 => ((laws_eqEquation.f bt12014.1 bt12014.2.1 bt12006.1 bt12006.2.1).bind fun t12018 => (if t12018 = true then (laws_FnExactJoinEquations.j0 k (bt12014.2.2 != bt12006.2.2) l0_0 t12010) else (laws_FnExactJoinEquations.j0 k true l0_0 t12010)))))))) = some r := H
 have A2 := Aside0.mk A20
 clear A20
 by_cases c3 : t12002 < 0
 ·rw [if_pos c3] at H
  have c3b0 : decide (t12002 < 0) = true := decide_eq_true c3
  clear c3
  obtain rfl := Option.some.inj H
  go_enter Try.func12, Try.ntmps12
  go_wp2_with (first | ((with_reducible refine gate_dst (N := 1) rfl ?_); refine box_event ?hg (N := 1) ?hd (cs := #[.slice A0_0 l0_0.length c0_0]) (t := 24) ?hr ?_; (case hd => rfl); (case hg => rfl); (case hr => first | (go_simp; done) | (go_simp; rfl)); intro gb12001 hg w4 hbox hb; have n0_ := Aside0.mk (below_step (by repeat (first | (with_reducible first | exact HB.out | apply below_alloc | apply pw_below_drewN | apply below_drew1) | exact HB.out)) hb); have n1_ := Aside0.mk (hbox); have n2_ := Aside0.mk ((by rw [hg]; exact (below_size (by repeat (first | (with_reducible first | exact HB.out | apply below_alloc | apply pw_below_drewN | apply below_drew1) | exact HB.out))) : w.heap.size ≤ gb12001)); have n3_ := Aside0.mk ((by rw [hg]; exact (below_size (by repeat (first | (with_reducible first | exact HB.out | apply below_alloc | apply pw_below_drewN | apply below_drew1) | exact HB.out))) : w.heap.size ≤ gb12001)); clear HB; have HB := n0_; have BK12001 := n1_; have GW12001 := n2_; have GE12001 := n3_; clear n0_ n1_ n2_ n3_; clear hb hbox hg; have hcz5_0 : w4.cell? ⟨gb12001, 0, none⟩ = some (.slice A0_0 l0_0.length c0_0) := (blk_cell BK12001.out 0).trans rfl; have hfz5_0 := blk_frozen BK12001.out 0) | ((with_reducible refine gate_callee (f := 15) rfl ?_); refine goesL_ (some 11) rfl rfl Try.func15 (by kernel_rfl) rfl #[.agg #[.slice A0_0 l0_0.length c0_0], .int .i64 1048576] rfl (by (try simp only [List.map_toArray, List.map_cons, List.map_nil]); first | done | rfl | (simp only [List.length_drop, List.length_take]; rfl)) ?_; (with_reducible refine (laws_szProblem.calls k _ _ l0_0 1048576 t12002 _ ?side1 ?side2 A2.out).mono ?_); (case side1 => repeat (first | exact (Kd.C_below HR0_0.out HB.out) | (with_reducible refine Kd.C_alloc ?_ _) | (with_reducible refine Kd.C_drewN ?_ _) | (with_reducible refine Kd.C_drew ?_))); (case side2 => exact HC0_0.out); rintro e w6 ⟨rfl, hb⟩; refine ⟨_, rfl, ?_⟩; have n0_ := Aside0.mk (blk_below (g := gb12001) (o := .cells #[.slice A0_0 l0_0.length c0_0] 24 (0, 0)) (by (with_reducible repeat (first | refine blk_drewN ?_ _ | refine blk_drew ?_ | refine blk_alloc ?_ _)); exact BK12001.out) hb); have n1_ := Aside0.mk (below_step (by repeat (first | (with_reducible first | exact HB.out | apply below_alloc | apply pw_below_drewN | apply below_drew1 | refine below_set ?_ GE12001.out) | exact HB.out)) hb); clear BK12001; clear HB; have BK12001 := n0_; have HB := n1_; clear n0_ n1_; (try clear hb); (try clear hb2); (try clear hk); (try clear hi)))
  go_ret
  exact ⟨by first | rfl | (simp [errW_none, errW_some] <;> rfl) | (simp [*, errW_none, errW_some] <;> rfl), by repeat (first | (with_reducible first | exact HB.out | apply below_alloc | apply pw_below_drewN | apply below_drew1 | refine below_set ?_ GE12001.out) | exact HB.out)⟩
 ·rw [if_neg c3] at H
  have c3b0 : decide (t12002 < 0) = false := decide_eq_false c3
  clear c3
  replace H := Option.bind_eq_some_iff.mp H
  obtain ⟨t12003, A70, H⟩ := H
  replace H : ((spec_JoinEquations.f k t12003).bind fun bt12006 => ((laws_toProblem.f k l0_0).bind fun t12010 => ((impl_JoinEquations.f k t12010).bind fun bt12014 => ((laws_eqEquation.f bt12014.1 bt12014.2.1 bt12006.1 bt12006.2.1).bind fun t12018 => (if t12018 = true then (laws_FnExactJoinEquations.j0 k (bt12014.2.2 != bt12006.2.2) l0_0 t12010) else (laws_FnExactJoinEquations.j0 k true l0_0 t12010)))))) = some r := H
  have A7 := Aside0.mk A70
  clear A70
  replace H := Option.bind_eq_some_iff.mp H
  obtain ⟨⟨t12006, t12007, t12008⟩, A80, H⟩ := H
  replace H : ((laws_toProblem.f k l0_0).bind fun t12010 => ((impl_JoinEquations.f k t12010).bind fun bt12014 => ((laws_eqEquation.f bt12014.1 bt12014.2.1 t12006 t12007).bind fun t12018 => (if t12018 = true then (laws_FnExactJoinEquations.j0 k (bt12014.2.2 != t12008) l0_0 t12010) else (laws_FnExactJoinEquations.j0 k true l0_0 t12010))))) = some r := H
  have A8 := Aside0.mk A80
  clear A80
  replace H := Option.bind_eq_some_iff.mp H
  obtain ⟨t12010, A90, H⟩ := H
  replace H : ((impl_JoinEquations.f k t12010).bind fun bt12014 => ((laws_eqEquation.f bt12014.1 bt12014.2.1 t12006 t12007).bind fun t12018 => (if t12018 = true then (laws_FnExactJoinEquations.j0 k (bt12014.2.2 != t12008) l0_0 t12010) else (laws_FnExactJoinEquations.j0 k true l0_0 t12010)))) = some r := H
  have A9 := Aside0.mk A90
  clear A90
  replace H := Option.bind_eq_some_iff.mp H
  obtain ⟨⟨t12014, t12015, t12016⟩, A100, H⟩ := H
  replace H : ((laws_eqEquation.f t12014 t12015 t12006 t12007).bind fun t12018 => (if t12018 = true then (laws_FnExactJoinEquations.j0 k (t12016 != t12008) l0_0 t12010) else (laws_FnExactJoinEquations.j0 k true l0_0 t12010))) = some r := H
  have A10 := Aside0.mk A100
  clear A100
  have HC11 := Aside0.mk H
  clear H
  go_enter Try.func12, Try.ntmps12
  go_upto_region 8 with (first | ((with_reducible refine gate_dst (N := 1) rfl ?_); refine box_event ?hg (N := 1) ?hd (cs := #[.slice A0_0 l0_0.length c0_0]) (t := 24) ?hr ?_; (case hd => rfl); (case hg => rfl); (case hr => first | (go_simp; done) | (go_simp; rfl)); intro gb12001 hg w12 hbox hb; have n0_ := Aside0.mk (below_step (by repeat (first | (with_reducible first | exact HB.out | apply below_alloc | apply pw_below_drewN | apply below_drew1) | exact HB.out)) hb); have n1_ := Aside0.mk (hbox); have n2_ := Aside0.mk ((by rw [hg]; exact (below_size (by repeat (first | (with_reducible first | exact HB.out | apply below_alloc | apply pw_below_drewN | apply below_drew1) | exact HB.out))) : w.heap.size ≤ gb12001)); have n3_ := Aside0.mk ((by rw [hg]; exact (below_size (by repeat (first | (with_reducible first | exact HB.out | apply below_alloc | apply pw_below_drewN | apply below_drew1) | exact HB.out))) : w.heap.size ≤ gb12001)); clear HB; have HB := n0_; have BK12001 := n1_; have GW12001 := n2_; have GE12001 := n3_; clear n0_ n1_ n2_ n3_; clear hb hbox hg; have hcz13_0 : w12.cell? ⟨gb12001, 0, none⟩ = some (.slice A0_0 l0_0.length c0_0) := (blk_cell BK12001.out 0).trans rfl; have hfz13_0 := blk_frozen BK12001.out 0) | ((with_reducible refine gate_callee (f := 15) rfl ?_); refine goesL_ (some 11) rfl rfl Try.func15 (by kernel_rfl) rfl #[.agg #[.slice A0_0 l0_0.length c0_0], .int .i64 1048576] rfl (by (try simp only [List.map_toArray, List.map_cons, List.map_nil]); first | done | rfl | (simp only [List.length_drop, List.length_take]; rfl)) ?_; (with_reducible refine (laws_szProblem.calls k _ _ l0_0 1048576 t12002 _ ?side1 ?side2 A2.out).mono ?_); (case side1 => repeat (first | exact (Kd.C_below HR0_0.out HB.out) | (with_reducible refine Kd.C_alloc ?_ _) | (with_reducible refine Kd.C_drewN ?_ _) | (with_reducible refine Kd.C_drew ?_))); (case side2 => exact HC0_0.out); rintro e w14 ⟨rfl, hb⟩; refine ⟨_, rfl, ?_⟩; have n0_ := Aside0.mk (blk_below (g := gb12001) (o := .cells #[.slice A0_0 l0_0.length c0_0] 24 (0, 0)) (by (with_reducible repeat (first | refine blk_drewN ?_ _ | refine blk_drew ?_ | refine blk_alloc ?_ _)); exact BK12001.out) hb); have n1_ := Aside0.mk (below_step (by repeat (first | (with_reducible first | exact HB.out | apply below_alloc | apply pw_below_drewN | apply below_drew1 | refine below_set ?_ GE12001.out) | exact HB.out)) hb); clear BK12001; clear HB; have BK12001 := n0_; have HB := n1_; clear n0_ n1_; (try clear hb); (try clear hb2); (try clear hk); (try clear hi); have hcz15_0 : w14.cell? ⟨gb12001, 0, none⟩ = some (.slice A0_0 l0_0.length c0_0) := (blk_cell BK12001.out 0).trans rfl; have hfz15_0 := blk_frozen BK12001.out 0) | ((with_reducible refine gate_callee (f := 17) rfl ?_); refine goesL_ (some 16) rfl rfl Try.func17 (by kernel_rfl) rfl #[.agg #[.slice A0_0 l0_0.length c0_0]] rfl (by (try simp only [List.map_toArray, List.map_cons, List.map_nil]); first | done | rfl | (simp only [List.length_drop, List.length_take]; rfl)) ?_; (with_reducible refine (laws_toProblem.calls k _ _ l0_0 t12003 _ ?side1 ?side2 A7.out).mono ?_); (case side1 => repeat (first | exact (Kd.C_below HR0_0.out HB.out) | (with_reducible refine Kd.C_alloc ?_ _) | (with_reducible refine Kd.C_drewN ?_ _) | (with_reducible refine Kd.C_drew ?_))); (case side2 => exact HC0_0.out); rintro e w16 ⟨v12004, rfl, ho0, hb⟩; refine ⟨_, rfl, ?_⟩; have n0_ := Aside0.mk (Kd.R_lower ho0 (below_size (by repeat (first | (with_reducible first | exact HB.out | apply below_alloc | apply pw_below_drewN | apply below_drew1 | refine below_set ?_ GE12001.out) | exact HB.out)))); have n1_ := Aside0.mk (blk_below (g := gb12001) (o := .cells #[.slice A0_0 l0_0.length c0_0] 24 (0, 0)) (by (with_reducible repeat (first | refine blk_drewN ?_ _ | refine blk_drew ?_ | refine blk_alloc ?_ _)); exact BK12001.out) hb); have n2_ := Aside0.mk (below_step (by repeat (first | (with_reducible first | exact HB.out | apply below_alloc | apply pw_below_drewN | apply below_drew1 | refine below_set ?_ GE12001.out) | exact HB.out)) hb); clear BK12001; clear HB; have HO12005 := n0_; have BK12001 := n1_; have HB := n2_; clear n0_ n1_ n2_; (try clear hb); (try clear hb2); (try clear hk); (try clear hi); (try clear ho0); obtain ⟨Ao17, co17, eo17⟩ := Kd.R_slice HO12005.out; subst eo17) | ((with_reducible refine gate_callee (f := 69) rfl ?_); refine goesL_ (some 17) rfl rfl Try.func69 (by kernel_rfl) rfl #[.agg #[.slice Ao17 t12003.length co17]] rfl (by (try simp only [List.map_toArray, List.map_cons, List.map_nil]); first | done | rfl | (simp only [List.length_drop, List.length_take]; rfl)) ?_; (with_reducible refine (spec_JoinEquations.calls k _ _ t12003 t12006 t12007 t12008 _ ?side1 ?side2 A8.out).mono ?_); (case side1 => repeat (first | exact (Kd.R_reads' HO12005.out).2.2 | (with_reducible refine Kd.C_alloc ?_ _) | (with_reducible refine Kd.C_drewN ?_ _) | (with_reducible refine Kd.C_drew ?_))); (case side2 => exact (Kd.R_reads' HO12005.out).2.1); rintro e w18 ⟨rfl, hb⟩; refine ⟨_, rfl, ?_⟩; have n0_ := Aside0.mk (Kd.R_below (by (with_reducible repeat (first | apply Kd.R_alloc | apply Kd.R_drewN | apply Kd.R_drew)); exact HO12005.out) hb); have n1_ := Aside0.mk (blk_below (g := gb12001) (o := .cells #[.slice A0_0 l0_0.length c0_0] 24 (0, 0)) (by (with_reducible repeat (first | refine blk_drewN ?_ _ | refine blk_drew ?_ | refine blk_alloc ?_ _)); exact BK12001.out) hb); have n2_ := Aside0.mk (below_step (by repeat (first | (with_reducible first | exact HB.out | apply below_alloc | apply pw_below_drewN | apply below_drew1 | refine below_set ?_ GE12001.out) | exact HB.out)) hb); clear HO12005; clear BK12001; clear HB; have HO12005 := n0_; have BK12001 := n1_; have HB := n2_; clear n0_ n1_ n2_; (try clear hb); (try clear hb2); (try clear hk); (try clear hi)) | ((with_reducible refine gate_dst (N := 4) rfl ?_); refine box_event ?hg (N := 4) ?hd (cs := #[.string (⟨#[]⟩ : ByteArray), .string (⟨#[]⟩ : ByteArray)]) (t := 58) ?hr ?_; (case hd => rfl); (case hg => rfl); (case hr => first | (go_simp; done) | (go_simp; rfl)); intro gb12009 hg w19 hbox hb; have n0_ := Aside0.mk (Kd.R_below (by (with_reducible repeat (first | apply Kd.R_alloc | apply Kd.R_drewN | apply Kd.R_drew)); exact HO12005.out) hb); have n1_ := Aside0.mk (blk_below (g := gb12001) (o := .cells #[.slice A0_0 l0_0.length c0_0] 24 (0, 0)) (by (with_reducible repeat (first | refine blk_drewN ?_ _ | refine blk_drew ?_ | refine blk_alloc ?_ _)); exact BK12001.out) hb); have n2_ := Aside0.mk (below_step (by repeat (first | (with_reducible first | exact HB.out | apply below_alloc | apply pw_below_drewN | apply below_drew1 | refine below_set ?_ GE12001.out) | exact HB.out)) hb); have n3_ := Aside0.mk (hbox); have n4_ := Aside0.mk ((by rw [hg]; exact (below_size (by repeat (first | (with_reducible first | exact HB.out | apply below_alloc | apply pw_below_drewN | apply below_drew1 | refine below_set ?_ GE12001.out) | exact HB.out))) : w.heap.size ≤ gb12009)); have n5_ := Aside0.mk ((by rw [hg]; exact (below_size (by repeat (first | (with_reducible first | exact HB.out | apply below_alloc | apply pw_below_drewN | apply below_drew1 | refine below_set ?_ GE12001.out) | exact HB.out))) : w.heap.size ≤ gb12009)); have n6_ := Aside0.mk ((by rw [hg]; exact Nat.ne_of_lt (blk_lt (g := gb12001) (o := .cells #[.slice A0_0 l0_0.length c0_0] 24 (0, 0)) (by (with_reducible repeat (first | refine blk_drewN ?_ _ | refine blk_drew ?_ | refine blk_alloc ?_ _)); exact BK12001.out)) : gb12001 ≠ gb12009)); have n7_ := Aside0.mk ((by rw [hg]; exact Nat.ne_of_gt (blk_lt (g := gb12001) (o := .cells #[.slice A0_0 l0_0.length c0_0] 24 (0, 0)) (by (with_reducible repeat (first | refine blk_drewN ?_ _ | refine blk_drew ?_ | refine blk_alloc ?_ _)); exact BK12001.out)) : gb12009 ≠ gb12001)); clear HO12005; clear BK12001; clear HB; have HO12005 := n0_; have BK12001 := n1_; have HB := n2_; have BK12009 := n3_; have GW12009 := n4_; have GE12009 := n5_; have NB12001_12009 := n6_; have NB12009_12001 := n7_; clear n0_ n1_ n2_ n3_ n4_ n5_ n6_ n7_; clear hb hbox hg; have hnb20 := NB12009_12001.out; have hnc20 := NB12001_12009.out; have hcz21_0 : w19.cell? ⟨gb12009, 0, none⟩ = some (.string (⟨#[]⟩ : ByteArray)) := (blk_cell BK12009.out 0).trans rfl; have hcz21_1 : w19.cell? ⟨gb12009, 1, none⟩ = some (.string (⟨#[]⟩ : ByteArray)) := (blk_cell BK12009.out 1).trans rfl; have hfz21_0 := blk_frozen BK12009.out 0; have hfz21_1 := blk_frozen BK12009.out 1; have hcz22_0 : w19.cell? ⟨gb12001, 0, none⟩ = some (.slice A0_0 l0_0.length c0_0) := (blk_cell BK12001.out 0).trans rfl; have hfz22_0 := blk_frozen BK12001.out 0) | ((with_reducible refine gate_callee (f := 17) rfl ?_); refine goesL_ (some 21) rfl rfl Try.func17 (by kernel_rfl) rfl #[.agg #[.slice A0_0 l0_0.length c0_0]] rfl (by (try simp only [List.map_toArray, List.map_cons, List.map_nil]); first | done | rfl | (simp only [List.length_drop, List.length_take]; rfl)) ?_; (with_reducible refine (laws_toProblem.calls k _ _ l0_0 t12010 _ ?side1 ?side2 A9.out).mono ?_); (case side1 => exact Kd.C_below HR0_0.out (by repeat (first | (with_reducible first | exact HB.out | apply below_alloc | apply pw_below_drewN | apply below_drew1 | refine below_set ?_ GE12001.out | refine below_set ?_ GE12009.out) | exact HB.out))); (case side2 => exact HC0_0.out); rintro e w23 ⟨v12011, rfl, ho0, hb⟩; refine ⟨_, rfl, ?_⟩; have n0_ := Aside0.mk (Kd.R_elder' (by (with_reducible repeat (first | apply Kd.R_alloc | apply Kd.R_drewN | apply Kd.R_drew)); exact (Kd.R_mono (Kd.R_far (p := ⟨gb12009, 1, none⟩) (Kd.R_far (p := ⟨gb12009, 0, none⟩) (Kd.R_types HO12005.out BK12009.out (by decide)) (fun _ hk => hk.2) (.string t12006)) (fun _ hk => hk.2) (.string t12007)) (fun _ h_ => h_.1))) (Kd.R_base ho0) hb); have n1_ := Aside0.mk (Kd.R_lower (Kd.R_new' ho0 (Kd.R_lt (by (with_reducible repeat (first | apply Kd.R_alloc | apply Kd.R_drewN | apply Kd.R_drew)); exact (Kd.R_mono (Kd.R_far (p := ⟨gb12009, 1, none⟩) (Kd.R_far (p := ⟨gb12009, 0, none⟩) (Kd.R_types HO12005.out BK12009.out (by decide)) (fun _ hk => hk.2) (.string t12006)) (fun _ hk => hk.2) (.string t12007)) (fun _ h_ => h_.1))))) (below_size (by repeat (first | (with_reducible first | exact HB.out | apply below_alloc | apply pw_below_drewN | apply below_drew1 | refine below_set ?_ GE12001.out | refine below_set ?_ GE12009.out) | exact HB.out)))); have n2_ := Aside0.mk (blk_below (g := gb12001) (o := .cells #[.slice A0_0 l0_0.length c0_0] 24 (0, 0)) (by (with_reducible repeat (first | refine blk_drewN ?_ _ | refine blk_drew ?_ | refine blk_alloc ?_ _)); refine blk_far ?_ NB12001_12009.out _; (with_reducible repeat (first | refine blk_drewN ?_ _ | refine blk_drew ?_ | refine blk_alloc ?_ _)); refine blk_far ?_ NB12001_12009.out _; (with_reducible repeat (first | refine blk_drewN ?_ _ | refine blk_drew ?_ | refine blk_alloc ?_ _)); exact BK12001.out) hb); have n3_ := Aside0.mk (blk_below (g := gb12009) (o := .cells #[.string t12006, .string t12007] 58 (0, 0)) (by (with_reducible repeat (first | refine blk_drewN ?_ _ | refine blk_drew ?_ | refine blk_alloc ?_ _)); refine blk_put (cs := #[.string t12006, .string (⟨#[]⟩ : ByteArray)]) ?_ 1 _ rfl; (with_reducible repeat (first | refine blk_drewN ?_ _ | refine blk_drew ?_ | refine blk_alloc ?_ _)); refine blk_put (cs := #[.string (⟨#[]⟩ : ByteArray), .string (⟨#[]⟩ : ByteArray)]) ?_ 0 _ rfl; (with_reducible repeat (first | refine blk_drewN ?_ _ | refine blk_drew ?_ | refine blk_alloc ?_ _)); exact BK12009.out) hb); have n4_ := Aside0.mk (below_step (by repeat (first | (with_reducible first | exact HB.out | apply below_alloc | apply pw_below_drewN | apply below_drew1 | refine below_set ?_ GE12001.out | refine below_set ?_ GE12009.out) | exact HB.out)) hb); clear HO12005; clear BK12001; clear BK12009; clear HB; have HO12005 := n0_; have HO12012 := n1_; have BK12001 := n2_; have BK12009 := n3_; have HB := n4_; clear n0_ n1_ n2_ n3_ n4_; (try clear hb); (try clear hb2); (try clear hk); (try clear hi); (try clear ho0)) | ((with_reducible refine gate_dst (N := 6) rfl ?_); refine box_event ?hg (N := 6) ?hd (cs := #[.slice none 0 0]) (t := 29) ?hr ?_; (case hd => rfl); (case hg => rfl); (case hr => first | (go_simp; done) | (go_simp; rfl)); intro gb12013 hg w24 hbox hb; have n0_ := Aside0.mk (Kd.R_below (by (with_reducible repeat (first | apply Kd.R_alloc | apply Kd.R_drewN | apply Kd.R_drew)); exact HO12005.out) hb); have n1_ := Aside0.mk (Kd.R_below (by (with_reducible repeat (first | apply Kd.R_alloc | apply Kd.R_drewN | apply Kd.R_drew)); exact HO12012.out) hb); have n2_ := Aside0.mk (blk_below (g := gb12001) (o := .cells #[.slice A0_0 l0_0.length c0_0] 24 (0, 0)) (by (with_reducible repeat (first | refine blk_drewN ?_ _ | refine blk_drew ?_ | refine blk_alloc ?_ _)); exact BK12001.out) hb); have n3_ := Aside0.mk (blk_below (g := gb12009) (o := .cells #[.string t12006, .string t12007] 58 (0, 0)) (by (with_reducible repeat (first | refine blk_drewN ?_ _ | refine blk_drew ?_ | refine blk_alloc ?_ _)); exact BK12009.out) hb); have n4_ := Aside0.mk (below_step (by repeat (first | (with_reducible first | exact HB.out | apply below_alloc | apply pw_below_drewN | apply below_drew1 | refine below_set ?_ GE12001.out | refine below_set ?_ GE12009.out) | exact HB.out)) hb); have n5_ := Aside0.mk (hbox); have n6_ := Aside0.mk ((by rw [hg]; exact (below_size (by repeat (first | (with_reducible first | exact HB.out | apply below_alloc | apply pw_below_drewN | apply below_drew1 | refine below_set ?_ GE12001.out | refine below_set ?_ GE12009.out) | exact HB.out))) : w.heap.size ≤ gb12013)); have n7_ := Aside0.mk ((by rw [hg]; exact (below_size (by repeat (first | (with_reducible first | exact HB.out | apply below_alloc | apply pw_below_drewN | apply below_drew1 | refine below_set ?_ GE12001.out | refine below_set ?_ GE12009.out) | exact HB.out))) : w.heap.size ≤ gb12013)); have n8_ := Aside0.mk ((by rw [hg]; exact Nat.ne_of_lt (blk_lt (g := gb12001) (o := .cells #[.slice A0_0 l0_0.length c0_0] 24 (0, 0)) (by (with_reducible repeat (first | refine blk_drewN ?_ _ | refine blk_drew ?_ | refine blk_alloc ?_ _)); exact BK12001.out)) : gb12001 ≠ gb12013)); have n9_ := Aside0.mk ((by rw [hg]; exact Nat.ne_of_gt (blk_lt (g := gb12001) (o := .cells #[.slice A0_0 l0_0.length c0_0] 24 (0, 0)) (by (with_reducible repeat (first | refine blk_drewN ?_ _ | refine blk_drew ?_ | refine blk_alloc ?_ _)); exact BK12001.out)) : gb12013 ≠ gb12001)); have n10_ := Aside0.mk ((by rw [hg]; exact Nat.ne_of_lt (blk_lt (g := gb12009) (o := .cells #[.string t12006, .string t12007] 58 (0, 0)) (by (with_reducible repeat (first | refine blk_drewN ?_ _ | refine blk_drew ?_ | refine blk_alloc ?_ _)); exact BK12009.out)) : gb12009 ≠ gb12013)); have n11_ := Aside0.mk ((by rw [hg]; exact Nat.ne_of_gt (blk_lt (g := gb12009) (o := .cells #[.string t12006, .string t12007] 58 (0, 0)) (by (with_reducible repeat (first | refine blk_drewN ?_ _ | refine blk_drew ?_ | refine blk_alloc ?_ _)); exact BK12009.out)) : gb12013 ≠ gb12009)); clear HO12005; clear HO12012; clear BK12001; clear BK12009; clear HB; have HO12005 := n0_; have HO12012 := n1_; have BK12001 := n2_; have BK12009 := n3_; have HB := n4_; have BK12013 := n5_; have GW12013 := n6_; have GE12013 := n7_; have NB12001_12013 := n8_; have NB12013_12001 := n9_; have NB12009_12013 := n10_; have NB12013_12009 := n11_; clear n0_ n1_ n2_ n3_ n4_ n5_ n6_ n7_ n8_ n9_ n10_ n11_; clear hb hbox hg; obtain ⟨Ao25, co25, eo25⟩ := Kd.R_slice HO12012.out; subst eo25; have hnb26 := NB12013_12001.out; have hnc26 := NB12001_12013.out; have hnb27 := NB12013_12009.out; have hnc27 := NB12009_12013.out; have hcz28_0 : w24.cell? ⟨gb12013, 0, none⟩ = some (.slice none 0 0) := (blk_cell BK12013.out 0).trans rfl; have hfz28_0 := blk_frozen BK12013.out 0) | ((with_reducible refine gate_callee (f := 70) rfl ?_); refine goesL_ (some 24) rfl rfl Try.func70 (by kernel_rfl) rfl #[.agg #[.slice Ao25 t12010.length co25]] rfl (by (try simp only [List.map_toArray, List.map_cons, List.map_nil]); first | done | rfl | (simp only [List.length_drop, List.length_take]; rfl)) ?_; (with_reducible refine (impl_JoinEquations.calls k _ _ t12010 t12014 t12015 t12016 _ ?side1 ?side2 A10.out).mono ?_); (case side1 => refine (Kd.R_reads' (e := 44) (base := w.heap.size) (ok := fun k_ => (True ∧ some k_ ≠ (.slice Ao17 t12003.length co17 : Value).ownBlock)) (n := t12010.length) (c := co25) ?_).2.2; exact (by (with_reducible repeat (first | apply Kd.R_alloc | apply Kd.R_drewN | apply Kd.R_drew)); exact (Kd.R_mono (Kd.R_far (p := ⟨gb12013, 0, none⟩) (Kd.R_types HO12012.out BK12013.out (by decide)) (fun _ hk => hk.2) (.slice Ao25 t12010.length co25)) (fun _ h_ => h_.1)))); (case side2 => exact (Kd.R_reads' HO12012.out).2.1); rintro e w29 ⟨rfl, hb⟩; refine ⟨_, rfl, ?_⟩; have n0_ := Aside0.mk (Kd.R_below (by (with_reducible repeat (first | apply Kd.R_alloc | apply Kd.R_drewN | apply Kd.R_drew)); exact (Kd.R_mono (Kd.R_far (p := ⟨gb12013, 0, none⟩) (Kd.R_types HO12005.out BK12013.out (by decide)) (fun _ hk => hk.2) (.slice Ao25 t12010.length co25)) (fun _ h_ => h_.1))) hb); have n1_ := Aside0.mk (Kd.R_below (by (with_reducible repeat (first | apply Kd.R_alloc | apply Kd.R_drewN | apply Kd.R_drew)); exact (Kd.R_mono (Kd.R_far (p := ⟨gb12013, 0, none⟩) (Kd.R_types HO12012.out BK12013.out (by decide)) (fun _ hk => hk.2) (.slice Ao25 t12010.length co25)) (fun _ h_ => h_.1))) hb); have n2_ := Aside0.mk (blk_below (g := gb12001) (o := .cells #[.slice A0_0 l0_0.length c0_0] 24 (0, 0)) (by (with_reducible repeat (first | refine blk_drewN ?_ _ | refine blk_drew ?_ | refine blk_alloc ?_ _)); refine blk_far ?_ NB12001_12013.out _; (with_reducible repeat (first | refine blk_drewN ?_ _ | refine blk_drew ?_ | refine blk_alloc ?_ _)); exact BK12001.out) hb); have n3_ := Aside0.mk (blk_below (g := gb12009) (o := .cells #[.string t12006, .string t12007] 58 (0, 0)) (by (with_reducible repeat (first | refine blk_drewN ?_ _ | refine blk_drew ?_ | refine blk_alloc ?_ _)); refine blk_far ?_ NB12009_12013.out _; (with_reducible repeat (first | refine blk_drewN ?_ _ | refine blk_drew ?_ | refine blk_alloc ?_ _)); exact BK12009.out) hb); have n4_ := Aside0.mk (blk_below (g := gb12013) (o := .cells #[.slice Ao25 t12010.length co25] 29 (0, 0)) (by (with_reducible repeat (first | refine blk_drewN ?_ _ | refine blk_drew ?_ | refine blk_alloc ?_ _)); refine blk_put (cs := #[.slice none 0 0]) ?_ 0 _ rfl; (with_reducible repeat (first | refine blk_drewN ?_ _ | refine blk_drew ?_ | refine blk_alloc ?_ _)); exact BK12013.out) hb); have n5_ := Aside0.mk (below_step (by repeat (first | (with_reducible first | exact HB.out | apply below_alloc | apply pw_below_drewN | apply below_drew1 | refine below_set ?_ GE12001.out | refine below_set ?_ GE12009.out | refine below_set ?_ GE12013.out) | exact HB.out)) hb); clear HO12005; clear HO12012; clear BK12001; clear BK12009; clear BK12013; clear HB; have HO12005 := n0_; have HO12012 := n1_; have BK12001 := n2_; have BK12009 := n3_; have BK12013 := n4_; have HB := n5_; clear n0_ n1_ n2_ n3_ n4_ n5_; (try clear hb); (try clear hb2); (try clear hk); (try clear hi)) | ((with_reducible refine gate_dst (N := 7) rfl ?_); refine box_event ?hg (N := 7) ?hd (cs := #[.string (⟨#[]⟩ : ByteArray), .string (⟨#[]⟩ : ByteArray)]) (t := 58) ?hr ?_; (case hd => rfl); (case hg => rfl); (case hr => first | (go_simp; done) | (go_simp; rfl)); intro gb12017 hg w30 hbox hb; have n0_ := Aside0.mk (Kd.R_below (by (with_reducible repeat (first | apply Kd.R_alloc | apply Kd.R_drewN | apply Kd.R_drew)); exact HO12005.out) hb); have n1_ := Aside0.mk (Kd.R_below (by (with_reducible repeat (first | apply Kd.R_alloc | apply Kd.R_drewN | apply Kd.R_drew)); exact HO12012.out) hb); have n2_ := Aside0.mk (blk_below (g := gb12001) (o := .cells #[.slice A0_0 l0_0.length c0_0] 24 (0, 0)) (by (with_reducible repeat (first | refine blk_drewN ?_ _ | refine blk_drew ?_ | refine blk_alloc ?_ _)); exact BK12001.out) hb); have n3_ := Aside0.mk (blk_below (g := gb12009) (o := .cells #[.string t12006, .string t12007] 58 (0, 0)) (by (with_reducible repeat (first | refine blk_drewN ?_ _ | refine blk_drew ?_ | refine blk_alloc ?_ _)); exact BK12009.out) hb); have n4_ := Aside0.mk (blk_below (g := gb12013) (o := .cells #[.slice Ao25 t12010.length co25] 29 (0, 0)) (by (with_reducible repeat (first | refine blk_drewN ?_ _ | refine blk_drew ?_ | refine blk_alloc ?_ _)); exact BK12013.out) hb); have n5_ := Aside0.mk (below_step (by repeat (first | (with_reducible first | exact HB.out | apply below_alloc | apply pw_below_drewN | apply below_drew1 | refine below_set ?_ GE12001.out | refine below_set ?_ GE12009.out | refine below_set ?_ GE12013.out) | exact HB.out)) hb); have n6_ := Aside0.mk (hbox); have n7_ := Aside0.mk ((by rw [hg]; exact (below_size (by repeat (first | (with_reducible first | exact HB.out | apply below_alloc | apply pw_below_drewN | apply below_drew1 | refine below_set ?_ GE12001.out | refine below_set ?_ GE12009.out | refine below_set ?_ GE12013.out) | exact HB.out))) : w.heap.size ≤ gb12017)); have n8_ := Aside0.mk ((by rw [hg]; exact (below_size (by repeat (first | (with_reducible first | exact HB.out | apply below_alloc | apply pw_below_drewN | apply below_drew1 | refine below_set ?_ GE12001.out | refine below_set ?_ GE12009.out | refine below_set ?_ GE12013.out) | exact HB.out))) : w.heap.size ≤ gb12017)); have n9_ := Aside0.mk ((by rw [hg]; exact Nat.ne_of_lt (blk_lt (g := gb12001) (o := .cells #[.slice A0_0 l0_0.length c0_0] 24 (0, 0)) (by (with_reducible repeat (first | refine blk_drewN ?_ _ | refine blk_drew ?_ | refine blk_alloc ?_ _)); exact BK12001.out)) : gb12001 ≠ gb12017)); have n10_ := Aside0.mk ((by rw [hg]; exact Nat.ne_of_gt (blk_lt (g := gb12001) (o := .cells #[.slice A0_0 l0_0.length c0_0] 24 (0, 0)) (by (with_reducible repeat (first | refine blk_drewN ?_ _ | refine blk_drew ?_ | refine blk_alloc ?_ _)); exact BK12001.out)) : gb12017 ≠ gb12001)); have n11_ := Aside0.mk ((by rw [hg]; exact Nat.ne_of_lt (blk_lt (g := gb12009) (o := .cells #[.string t12006, .string t12007] 58 (0, 0)) (by (with_reducible repeat (first | refine blk_drewN ?_ _ | refine blk_drew ?_ | refine blk_alloc ?_ _)); exact BK12009.out)) : gb12009 ≠ gb12017)); have n12_ := Aside0.mk ((by rw [hg]; exact Nat.ne_of_gt (blk_lt (g := gb12009) (o := .cells #[.string t12006, .string t12007] 58 (0, 0)) (by (with_reducible repeat (first | refine blk_drewN ?_ _ | refine blk_drew ?_ | refine blk_alloc ?_ _)); exact BK12009.out)) : gb12017 ≠ gb12009)); have n13_ := Aside0.mk ((by rw [hg]; exact Nat.ne_of_lt (blk_lt (g := gb12013) (o := .cells #[.slice Ao25 t12010.length co25] 29 (0, 0)) (by (with_reducible repeat (first | refine blk_drewN ?_ _ | refine blk_drew ?_ | refine blk_alloc ?_ _)); exact BK12013.out)) : gb12013 ≠ gb12017)); have n14_ := Aside0.mk ((by rw [hg]; exact Nat.ne_of_gt (blk_lt (g := gb12013) (o := .cells #[.slice Ao25 t12010.length co25] 29 (0, 0)) (by (with_reducible repeat (first | refine blk_drewN ?_ _ | refine blk_drew ?_ | refine blk_alloc ?_ _)); exact BK12013.out)) : gb12017 ≠ gb12013)); clear HO12005; clear HO12012; clear BK12001; clear BK12009; clear BK12013; clear HB; have HO12005 := n0_; have HO12012 := n1_; have BK12001 := n2_; have BK12009 := n3_; have BK12013 := n4_; have HB := n5_; have BK12017 := n6_; have GW12017 := n7_; have GE12017 := n8_; have NB12001_12017 := n9_; have NB12017_12001 := n10_; have NB12009_12017 := n11_; have NB12017_12009 := n12_; have NB12013_12017 := n13_; have NB12017_12013 := n14_; clear n0_ n1_ n2_ n3_ n4_ n5_ n6_ n7_ n8_ n9_ n10_ n11_ n12_ n13_ n14_; clear hb hbox hg; have hnb31 := NB12017_12001.out; have hnc31 := NB12001_12017.out; have hnb32 := NB12017_12009.out; have hnc32 := NB12009_12017.out; have hnb33 := NB12017_12013.out; have hnc33 := NB12013_12017.out; have hcz34_0 : w30.cell? ⟨gb12017, 0, none⟩ = some (.string (⟨#[]⟩ : ByteArray)) := (blk_cell BK12017.out 0).trans rfl; have hcz34_1 : w30.cell? ⟨gb12017, 1, none⟩ = some (.string (⟨#[]⟩ : ByteArray)) := (blk_cell BK12017.out 1).trans rfl; have hfz34_0 := blk_frozen BK12017.out 0; have hfz34_1 := blk_frozen BK12017.out 1))
  (try simp only [Act.put, List.setIfInBounds_toArray, List.set_cons_zero, List.set_cons_succ])
  go_cut [35] (fun v35 wc => ∃ (kq : Nat) (x35_10 : Bool), v35 = .bool x35_10 ∧ Aside0 (laws_FnExactJoinEquations.j0 kq x35_10 l0_0 t12010 = some r) ∧ Aside0 (kq ≤ k) ∧ Aside0 (Kd.R k44 44 wc w.heap.size (fun _ => True) (.slice Ao25 t12010.length co25) t12010) ∧ Aside0 (wc.heap[gb12001]? = some (.cells #[(.slice A0_0 l0_0.length c0_0)] 24 (0, 0))) ∧ Aside0 (wc.heap[gb12009]? = some (.cells #[.string t12006, .string t12007] 58 (0, 0))) ∧ Aside0 (wc.heap[gb12013]? = some (.cells #[(.slice Ao25 t12010.length co25)] 29 (0, 0))) ∧ Aside0 (wc.heap[gb12017]? = some (.cells #[.string t12014, .string t12015] 58 (0, 0))) ∧ Aside0 (Below w.heap.size w wc))
  case first =>
   have H := HC11.out
   clear HC11
   replace H := Option.bind_eq_some_iff.mp H
   obtain ⟨t12018, A350, H⟩ := H
   replace H : (if t12018 = true then (laws_FnExactJoinEquations.j0 k (t12016 != t12008) l0_0 t12010) else (laws_FnExactJoinEquations.j0 k true l0_0 t12010)) = some r := H
   have A35 := Aside0.mk A350
   clear A350
   by_cases c36 : t12018 = true
   ·subst c36
    have H1 : (laws_FnExactJoinEquations.j0 k (t12016 != t12008) l0_0 t12010) = some r := by rw [if_pos rfl] at H; exact H
    clear H
    have H := H1
    clear H1
    have H' := Aside0.mk H
    clear H
    have hnb37 := NB12017_12001.out
    have hnc37 := NB12001_12017.out
    have hnb38 := NB12017_12009.out
    have hnc38 := NB12009_12017.out
    have hnb39 := NB12017_12013.out
    have hnc39 := NB12013_12017.out
    have hcz40_0 : w30.cell? ⟨gb12017, 0, none⟩ = some (.string (⟨#[]⟩ : ByteArray)) := (blk_cell BK12017.out 0).trans rfl
    have hcz40_1 : w30.cell? ⟨gb12017, 1, none⟩ = some (.string (⟨#[]⟩ : ByteArray)) := (blk_cell BK12017.out 1).trans rfl
    have hfz40_0 := blk_frozen BK12017.out 0
    have hfz40_1 := blk_frozen BK12017.out 1
    have hnb41 := NB12009_12001.out
    have hnc41 := NB12001_12009.out
    have hnb42 := NB12009_12013.out
    have hnc42 := NB12013_12009.out
    have hcz43_0 : w30.cell? ⟨gb12009, 0, none⟩ = some (.string t12006) := (blk_cell BK12009.out 0).trans rfl
    have hcz43_1 : w30.cell? ⟨gb12009, 1, none⟩ = some (.string t12007) := (blk_cell BK12009.out 1).trans rfl
    have hfz43_0 := blk_frozen BK12009.out 0
    have hfz43_1 := blk_frozen BK12009.out 1
    go_wp2_with (first | ((with_reducible refine gate_callee (f := 71) rfl ?_); refine goesL_ (some 29) rfl rfl Try.func71 (by kernel_rfl) rfl #[.agg #[.string t12014, .string t12015], .agg #[.string t12006, .string t12007]] rfl (by (try simp only [List.map_toArray, List.map_cons, List.map_nil]); first | done | rfl | (simp only [List.length_drop, List.length_take]; rfl)) ?_; (with_reducible refine (laws_eqEquation.calls t12014 t12015 t12006 t12007 true _ A35.out).mono ?_); rintro e w44 ⟨rfl, hb⟩; refine ⟨_, rfl, ?_⟩; have n0_ := Aside0.mk (Kd.R_below (by (with_reducible repeat (first | apply Kd.R_alloc | apply Kd.R_drewN | apply Kd.R_drew)); exact (Kd.R_mono (Kd.R_far (p := ⟨gb12017, 1, none⟩) (Kd.R_far (p := ⟨gb12017, 0, none⟩) (Kd.R_types HO12005.out BK12017.out (by decide)) (fun _ hk => hk.2) (.string t12014)) (fun _ hk => hk.2) (.string t12015)) (fun _ h_ => h_.1))) hb); have n1_ := Aside0.mk (Kd.R_below (by (with_reducible repeat (first | apply Kd.R_alloc | apply Kd.R_drewN | apply Kd.R_drew)); exact (Kd.R_mono (Kd.R_far (p := ⟨gb12017, 1, none⟩) (Kd.R_far (p := ⟨gb12017, 0, none⟩) (Kd.R_types HO12012.out BK12017.out (by decide)) (fun _ hk => hk.2) (.string t12014)) (fun _ hk => hk.2) (.string t12015)) (fun _ h_ => h_.1))) hb); have n2_ := Aside0.mk (blk_below (g := gb12001) (o := .cells #[.slice A0_0 l0_0.length c0_0] 24 (0, 0)) (by (with_reducible repeat (first | refine blk_drewN ?_ _ | refine blk_drew ?_ | refine blk_alloc ?_ _)); refine blk_far ?_ NB12001_12017.out _; (with_reducible repeat (first | refine blk_drewN ?_ _ | refine blk_drew ?_ | refine blk_alloc ?_ _)); refine blk_far ?_ NB12001_12017.out _; (with_reducible repeat (first | refine blk_drewN ?_ _ | refine blk_drew ?_ | refine blk_alloc ?_ _)); exact BK12001.out) hb); have n3_ := Aside0.mk (blk_below (g := gb12009) (o := .cells #[.string t12006, .string t12007] 58 (0, 0)) (by (with_reducible repeat (first | refine blk_drewN ?_ _ | refine blk_drew ?_ | refine blk_alloc ?_ _)); refine blk_far ?_ NB12009_12017.out _; (with_reducible repeat (first | refine blk_drewN ?_ _ | refine blk_drew ?_ | refine blk_alloc ?_ _)); refine blk_far ?_ NB12009_12017.out _; (with_reducible repeat (first | refine blk_drewN ?_ _ | refine blk_drew ?_ | refine blk_alloc ?_ _)); exact BK12009.out) hb); have n4_ := Aside0.mk (blk_below (g := gb12013) (o := .cells #[.slice Ao25 t12010.length co25] 29 (0, 0)) (by (with_reducible repeat (first | refine blk_drewN ?_ _ | refine blk_drew ?_ | refine blk_alloc ?_ _)); refine blk_far ?_ NB12013_12017.out _; (with_reducible repeat (first | refine blk_drewN ?_ _ | refine blk_drew ?_ | refine blk_alloc ?_ _)); refine blk_far ?_ NB12013_12017.out _; (with_reducible repeat (first | refine blk_drewN ?_ _ | refine blk_drew ?_ | refine blk_alloc ?_ _)); exact BK12013.out) hb); have n5_ := Aside0.mk (blk_below (g := gb12017) (o := .cells #[.string t12014, .string t12015] 58 (0, 0)) (by (with_reducible repeat (first | refine blk_drewN ?_ _ | refine blk_drew ?_ | refine blk_alloc ?_ _)); refine blk_put (cs := #[.string t12014, .string (⟨#[]⟩ : ByteArray)]) ?_ 1 _ rfl; (with_reducible repeat (first | refine blk_drewN ?_ _ | refine blk_drew ?_ | refine blk_alloc ?_ _)); refine blk_put (cs := #[.string (⟨#[]⟩ : ByteArray), .string (⟨#[]⟩ : ByteArray)]) ?_ 0 _ rfl; (with_reducible repeat (first | refine blk_drewN ?_ _ | refine blk_drew ?_ | refine blk_alloc ?_ _)); exact BK12017.out) hb); have n6_ := Aside0.mk (below_step (by repeat (first | (with_reducible first | exact HB.out | apply below_alloc | apply pw_below_drewN | apply below_drew1 | refine below_set ?_ GE12001.out | refine below_set ?_ GE12009.out | refine below_set ?_ GE12013.out | refine below_set ?_ GE12017.out) | exact HB.out)) hb); clear HO12005; clear HO12012; clear BK12001; clear BK12009; clear BK12013; clear BK12017; clear HB; have HO12005 := n0_; have HO12012 := n1_; have BK12001 := n2_; have BK12009 := n3_; have BK12013 := n4_; have BK12017 := n5_; have HB := n6_; clear n0_ n1_ n2_ n3_ n4_ n5_ n6_; (try clear hb); (try clear hb2); (try clear hk); (try clear hi)))
    go_meet
    case rel => exact ⟨_, ((t12016 != t12008)), (by first | rfl | (simp; done) | (simp [*]; done)), H', ⟨by first | omega | exact Nat.le_refl _⟩, ⟨by (with_reducible repeat (first | apply Kd.R_alloc | apply Kd.R_drewN | apply Kd.R_drew)); exact Kd.R_mono HO12012.out (fun _ hk => trivial)⟩, ⟨by (with_reducible repeat (first | refine blk_drewN ?_ _ | refine blk_drew ?_ | refine blk_alloc ?_ _)); exact BK12001.out⟩, ⟨by (with_reducible repeat (first | refine blk_drewN ?_ _ | refine blk_drew ?_ | refine blk_alloc ?_ _)); exact BK12009.out⟩, ⟨by (with_reducible repeat (first | refine blk_drewN ?_ _ | refine blk_drew ?_ | refine blk_alloc ?_ _)); exact BK12013.out⟩, ⟨by (with_reducible repeat (first | refine blk_drewN ?_ _ | refine blk_drew ?_ | refine blk_alloc ?_ _)); exact BK12017.out⟩, ⟨by repeat (first | (with_reducible first | exact HB.out | apply below_alloc | apply pw_below_drewN | apply below_drew1 | refine below_set ?_ GE12001.out | refine below_set ?_ GE12009.out | refine below_set ?_ GE12013.out | refine below_set ?_ GE12017.out) | exact HB.out)⟩⟩
   ·replace c36 := Bool.eq_false_iff.mpr c36
    subst c36
    have H1 : (laws_FnExactJoinEquations.j0 k true l0_0 t12010) = some r := by rw [if_neg (show ¬ (false = true) by decide)] at H; exact H
    clear H
    have H := H1
    clear H1
    have H' := Aside0.mk H
    clear H
    have hnb45 := NB12017_12001.out
    have hnc45 := NB12001_12017.out
    have hnb46 := NB12017_12009.out
    have hnc46 := NB12009_12017.out
    have hnb47 := NB12017_12013.out
    have hnc47 := NB12013_12017.out
    have hcz48_0 : w30.cell? ⟨gb12017, 0, none⟩ = some (.string (⟨#[]⟩ : ByteArray)) := (blk_cell BK12017.out 0).trans rfl
    have hcz48_1 : w30.cell? ⟨gb12017, 1, none⟩ = some (.string (⟨#[]⟩ : ByteArray)) := (blk_cell BK12017.out 1).trans rfl
    have hfz48_0 := blk_frozen BK12017.out 0
    have hfz48_1 := blk_frozen BK12017.out 1
    have hnb49 := NB12009_12001.out
    have hnc49 := NB12001_12009.out
    have hnb50 := NB12009_12013.out
    have hnc50 := NB12013_12009.out
    have hcz51_0 : w30.cell? ⟨gb12009, 0, none⟩ = some (.string t12006) := (blk_cell BK12009.out 0).trans rfl
    have hcz51_1 : w30.cell? ⟨gb12009, 1, none⟩ = some (.string t12007) := (blk_cell BK12009.out 1).trans rfl
    have hfz51_0 := blk_frozen BK12009.out 0
    have hfz51_1 := blk_frozen BK12009.out 1
    go_wp2_with (first | ((with_reducible refine gate_callee (f := 71) rfl ?_); refine goesL_ (some 29) rfl rfl Try.func71 (by kernel_rfl) rfl #[.agg #[.string t12014, .string t12015], .agg #[.string t12006, .string t12007]] rfl (by (try simp only [List.map_toArray, List.map_cons, List.map_nil]); first | done | rfl | (simp only [List.length_drop, List.length_take]; rfl)) ?_; (with_reducible refine (laws_eqEquation.calls t12014 t12015 t12006 t12007 false _ A35.out).mono ?_); rintro e w52 ⟨rfl, hb⟩; refine ⟨_, rfl, ?_⟩; have n0_ := Aside0.mk (Kd.R_below (by (with_reducible repeat (first | apply Kd.R_alloc | apply Kd.R_drewN | apply Kd.R_drew)); exact (Kd.R_mono (Kd.R_far (p := ⟨gb12017, 1, none⟩) (Kd.R_far (p := ⟨gb12017, 0, none⟩) (Kd.R_types HO12005.out BK12017.out (by decide)) (fun _ hk => hk.2) (.string t12014)) (fun _ hk => hk.2) (.string t12015)) (fun _ h_ => h_.1))) hb); have n1_ := Aside0.mk (Kd.R_below (by (with_reducible repeat (first | apply Kd.R_alloc | apply Kd.R_drewN | apply Kd.R_drew)); exact (Kd.R_mono (Kd.R_far (p := ⟨gb12017, 1, none⟩) (Kd.R_far (p := ⟨gb12017, 0, none⟩) (Kd.R_types HO12012.out BK12017.out (by decide)) (fun _ hk => hk.2) (.string t12014)) (fun _ hk => hk.2) (.string t12015)) (fun _ h_ => h_.1))) hb); have n2_ := Aside0.mk (blk_below (g := gb12001) (o := .cells #[.slice A0_0 l0_0.length c0_0] 24 (0, 0)) (by (with_reducible repeat (first | refine blk_drewN ?_ _ | refine blk_drew ?_ | refine blk_alloc ?_ _)); refine blk_far ?_ NB12001_12017.out _; (with_reducible repeat (first | refine blk_drewN ?_ _ | refine blk_drew ?_ | refine blk_alloc ?_ _)); refine blk_far ?_ NB12001_12017.out _; (with_reducible repeat (first | refine blk_drewN ?_ _ | refine blk_drew ?_ | refine blk_alloc ?_ _)); exact BK12001.out) hb); have n3_ := Aside0.mk (blk_below (g := gb12009) (o := .cells #[.string t12006, .string t12007] 58 (0, 0)) (by (with_reducible repeat (first | refine blk_drewN ?_ _ | refine blk_drew ?_ | refine blk_alloc ?_ _)); refine blk_far ?_ NB12009_12017.out _; (with_reducible repeat (first | refine blk_drewN ?_ _ | refine blk_drew ?_ | refine blk_alloc ?_ _)); refine blk_far ?_ NB12009_12017.out _; (with_reducible repeat (first | refine blk_drewN ?_ _ | refine blk_drew ?_ | refine blk_alloc ?_ _)); exact BK12009.out) hb); have n4_ := Aside0.mk (blk_below (g := gb12013) (o := .cells #[.slice Ao25 t12010.length co25] 29 (0, 0)) (by (with_reducible repeat (first | refine blk_drewN ?_ _ | refine blk_drew ?_ | refine blk_alloc ?_ _)); refine blk_far ?_ NB12013_12017.out _; (with_reducible repeat (first | refine blk_drewN ?_ _ | refine blk_drew ?_ | refine blk_alloc ?_ _)); refine blk_far ?_ NB12013_12017.out _; (with_reducible repeat (first | refine blk_drewN ?_ _ | refine blk_drew ?_ | refine blk_alloc ?_ _)); exact BK12013.out) hb); have n5_ := Aside0.mk (blk_below (g := gb12017) (o := .cells #[.string t12014, .string t12015] 58 (0, 0)) (by (with_reducible repeat (first | refine blk_drewN ?_ _ | refine blk_drew ?_ | refine blk_alloc ?_ _)); refine blk_put (cs := #[.string t12014, .string (⟨#[]⟩ : ByteArray)]) ?_ 1 _ rfl; (with_reducible repeat (first | refine blk_drewN ?_ _ | refine blk_drew ?_ | refine blk_alloc ?_ _)); refine blk_put (cs := #[.string (⟨#[]⟩ : ByteArray), .string (⟨#[]⟩ : ByteArray)]) ?_ 0 _ rfl; (with_reducible repeat (first | refine blk_drewN ?_ _ | refine blk_drew ?_ | refine blk_alloc ?_ _)); exact BK12017.out) hb); have n6_ := Aside0.mk (below_step (by repeat (first | (with_reducible first | exact HB.out | apply below_alloc | apply pw_below_drewN | apply below_drew1 | refine below_set ?_ GE12001.out | refine below_set ?_ GE12009.out | refine below_set ?_ GE12013.out | refine below_set ?_ GE12017.out) | exact HB.out)) hb); clear HO12005; clear HO12012; clear BK12001; clear BK12009; clear BK12013; clear BK12017; clear HB; have HO12005 := n0_; have HO12012 := n1_; have BK12001 := n2_; have BK12009 := n3_; have BK12013 := n4_; have BK12017 := n5_; have HB := n6_; clear n0_ n1_ n2_ n3_ n4_ n5_ n6_; (try clear hb); (try clear hb2); (try clear hk); (try clear hi)))
    go_meet
    case rel => exact ⟨_, (true), (by first | rfl | (simp; done) | (simp [*]; done)), H', ⟨by first | omega | exact Nat.le_refl _⟩, ⟨by (with_reducible repeat (first | apply Kd.R_alloc | apply Kd.R_drewN | apply Kd.R_drew)); exact Kd.R_mono HO12012.out (fun _ hk => trivial)⟩, ⟨by (with_reducible repeat (first | refine blk_drewN ?_ _ | refine blk_drew ?_ | refine blk_alloc ?_ _)); exact BK12001.out⟩, ⟨by (with_reducible repeat (first | refine blk_drewN ?_ _ | refine blk_drew ?_ | refine blk_alloc ?_ _)); exact BK12009.out⟩, ⟨by (with_reducible repeat (first | refine blk_drewN ?_ _ | refine blk_drew ?_ | refine blk_alloc ?_ _)); exact BK12013.out⟩, ⟨by (with_reducible repeat (first | refine blk_drewN ?_ _ | refine blk_drew ?_ | refine blk_alloc ?_ _)); exact BK12017.out⟩, ⟨by repeat (first | (with_reducible first | exact HB.out | apply below_alloc | apply pw_below_drewN | apply below_drew1 | refine below_set ?_ GE12001.out | refine below_set ?_ GE12009.out | refine below_set ?_ GE12013.out | refine below_set ?_ GE12017.out) | exact HB.out)⟩⟩
  case rest =>
   clear HC11
   try clear c1
   try clear c2
   try clear p2
   try clear c3
   try clear c3b0
   try clear c4
   try clear c5
   try clear c6
   try clear c7
   try clear c12
   try clear c15
   try clear c17
   try clear c20
   try clear c26
   try clear c27
   try clear c31
   try clear c32
   try clear c33
   try clear c36
   try clear c37
   try clear c38
   try clear c39
   try clear c41
   try clear c42
   try clear c45
   try clear c46
   try clear c47
   try clear c49
   try clear c50
   try clear hcz13_0
   try clear hcz15_0
   try clear hcz21_0
   try clear hcz21_1
   try clear hcz22_0
   try clear hcz28_0
   try clear hcz34_0
   try clear hcz34_1
   try clear hcz40_0
   try clear hcz40_1
   try clear hcz43_0
   try clear hcz43_1
   try clear hcz48_0
   try clear hcz48_1
   try clear hcz51_0
   try clear hcz51_1
   try clear hcz5_0
   try clear hfz13_0
   try clear hfz15_0
   try clear hfz21_0
   try clear hfz21_1
   try clear hfz22_0
   try clear hfz28_0
   try clear hfz34_0
   try clear hfz34_1
   try clear hfz40_0
   try clear hfz40_1
   try clear hfz43_0
   try clear hfz43_1
   try clear hfz48_0
   try clear hfz48_1
   try clear hfz51_0
   try clear hfz51_1
   try clear hfz5_0
   obtain ⟨kq, x35_10, rfl, HA, HJ10, HO_12014000, BK12001, BK12009, BK12013, BK12017, HB⟩ := hcut
   cases kq with
   | zero => exact absurd HA.out (by simp [laws_FnExactJoinEquations.j0])
   | succ kj10 =>
    have H := HA.out
    clear HA
    simp only [laws_FnExactJoinEquations.j0] at H
    by_cases c53 : x35_10 = true
    ·subst c53
     have H1 : (some false) = some r := by rw [if_pos rfl] at H; exact H
     clear H
     have H := H1
     clear H1
     obtain rfl := Option.some.inj H
     go_wp2
     go_ret
     exact ⟨by first | rfl | (simp [errW_none, errW_some] <;> rfl) | (simp [*, errW_none, errW_some] <;> rfl), by repeat (first | (with_reducible first | exact HB.out | apply below_alloc | apply pw_below_drewN | apply below_drew1 | refine below_set ?_ GE12001.out | refine below_set ?_ GE12009.out | refine below_set ?_ GE12013.out | refine below_set ?_ GE12017.out) | exact HB.out)⟩
    ·replace c53 := Bool.eq_false_iff.mpr c53
     subst c53
     have H1 : ((laws_toProblem.f kj10 l0_0).bind fun t12019 => ((laws_eqProblem.f kj10 t12010 t12019).bind fun t12022 => (if t12022 = true then (some true) else (some false)))) = some r := by rw [if_neg (show ¬ (false = true) by decide)] at H; exact H
     clear H
     have H := H1
     clear H1
     replace H := Option.bind_eq_some_iff.mp H
     obtain ⟨t12019, A540, H⟩ := H
     replace H : ((laws_eqProblem.f kj10 t12010 t12019).bind fun t12022 => (if t12022 = true then (some true) else (some false))) = some r := H
     have A54 := Aside0.mk A540
     clear A540
     replace H := Option.bind_eq_some_iff.mp H
     obtain ⟨t12022, A550, H⟩ := H
     replace H : (if t12022 = true then (some true) else (some false)) = some r := H
     have A55 := Aside0.mk A550
     clear A550
     by_cases c56 : t12022 = true
     ·subst c56
      have H1 : (some true) = some r := by rw [if_pos rfl] at H; exact H
      clear H
      have H := H1
      clear H1
      obtain rfl := Option.some.inj H
      try go_wp2
      have n0_ := Aside0.mk (Kd.R_drew HO_12014000.out)
      have n1_ := Aside0.mk (blk_drew BK12001.out)
      have n2_ := Aside0.mk (blk_drew BK12009.out)
      have n3_ := Aside0.mk (blk_drew BK12013.out)
      have n4_ := Aside0.mk (blk_drew BK12017.out)
      have n5_ := Aside0.mk (below_drew1 HB.out)
      clear HO_12014000
      clear BK12001
      clear BK12009
      clear BK12013
      clear BK12017
      clear HB
      have HO_12014000 := n0_
      have BK12001 := n1_
      have BK12009 := n2_
      have BK12013 := n3_
      have BK12017 := n4_
      have HB := n5_
      clear n0_ n1_ n2_ n3_ n4_ n5_
      refine start_ (n := 5) (S := fun w' => w'.cell? ⟨gb12013, 0, none⟩ = some (.slice Ao25 t12010.length co25) ∧ w'.cell? ⟨gb12001, 0, none⟩ = some (.slice A0_0 l0_0.length c0_0)) (ds := []) #[false, false, false, false, false] (by kernel_rfl) rfl rfl ⟨(blk_cell BK12013.out 0).trans rfl, (blk_cell BK12001.out 0).trans rfl⟩ (fun hHeld => ?_)
      generalize wc.drew = w57 at HO_12014000 BK12001 BK12009 BK12013 BK12017 HB hHeld ⊢
      refine take_ (i := 0) (N := some 36) (v := ?_) (a' := ?_) #[true, false, false, false, false] rfl rfl (by kernel_rfl) (fun _ _ _ h => h) (Or.inl ⟨by rfl, ?_⟩) hHeld ?_ ?_
      rotate_left
      ·rintro w' ⟨s0, s1⟩
       go_simp
       first | with_reducible rfl | (rw [if_neg (by omega)]; done)
      rotate_left
      ·simp only [Act.put, List.setIfInBounds_toArray, List.set_cons_zero, List.set_cons_succ, i64_w, i32_w]
       rfl
      refine take_ (i := 1) (N := some 37) (v := ?_) (a' := ?_) #[true, true, false, false, false] rfl rfl (by kernel_rfl) (fun _ _ _ h => h) (Or.inl ⟨by rfl, ?_⟩) hHeld ?_ ?_
      rotate_left
      ·rintro w' ⟨s0, s1⟩
       go_simp
       first | with_reducible rfl | (rw [if_neg (by omega)]; done)
      rotate_left
      ·simp only [Act.put, List.setIfInBounds_toArray, List.set_cons_zero, List.set_cons_succ, i64_w, i32_w]
       rfl
      refine one_ (i := 2) (N := some 38) #[true, true, true, false, false] rfl rfl (by kernel_rfl) (by decide) (fun K hK => ?_)
      refine goes_ Try.func17 (by kernel_rfl) rfl #[.agg #[.slice A0_0 l0_0.length c0_0]] (by rfl) rfl rfl (by (try simp only [List.map_toArray, List.map_cons, List.map_nil]); first | done | rfl | (simp only [List.length_drop, List.length_take]; rfl)) ?_
      with_reducible refine (laws_toProblem.calls kj10 _ _ l0_0 t12019 _ ?side1 ?side2 A54.out).mono ?_
      (case side1 => repeat (first | exact (Kd.C_below HR0_0.out HB.out) | (with_reducible refine Kd.C_alloc ?_ _) | (with_reducible refine Kd.C_drewN ?_ _) | (with_reducible refine Kd.C_drew ?_)))
      (case side2 => exact HC0_0.out)
      rintro e w58 ⟨v12020, rfl, ho0, hb⟩
      refine ⟨_, rfl, ?_⟩
      have n0_ := Aside0.mk (Kd.R_elder' (by (with_reducible repeat (first | apply Kd.R_alloc | apply Kd.R_drewN | apply Kd.R_drew)); exact HO_12014000.out) (Kd.R_base ho0) hb)
      have n1_ := Aside0.mk (Kd.R_lower (Kd.R_new' ho0 (Kd.R_lt (by (with_reducible repeat (first | apply Kd.R_alloc | apply Kd.R_drewN | apply Kd.R_drew)); exact HO_12014000.out))) (below_size (by repeat (first | (with_reducible first | exact HB.out | apply below_alloc | apply pw_below_drewN | apply below_drew1 | refine below_set ?_ GE12001.out | refine below_set ?_ GE12009.out | refine below_set ?_ GE12013.out | refine below_set ?_ GE12017.out) | exact HB.out))))
      have n2_ := Aside0.mk (blk_below (g := gb12001) (o := .cells #[.slice A0_0 l0_0.length c0_0] 24 (0, 0)) (by (with_reducible repeat (first | refine blk_drewN ?_ _ | refine blk_drew ?_ | refine blk_alloc ?_ _)); exact BK12001.out) hb)
      have n3_ := Aside0.mk (blk_below (g := gb12009) (o := .cells #[.string t12006, .string t12007] 58 (0, 0)) (by (with_reducible repeat (first | refine blk_drewN ?_ _ | refine blk_drew ?_ | refine blk_alloc ?_ _)); exact BK12009.out) hb)
      have n4_ := Aside0.mk (blk_below (g := gb12013) (o := .cells #[.slice Ao25 t12010.length co25] 29 (0, 0)) (by (with_reducible repeat (first | refine blk_drewN ?_ _ | refine blk_drew ?_ | refine blk_alloc ?_ _)); exact BK12013.out) hb)
      have n5_ := Aside0.mk (blk_below (g := gb12017) (o := .cells #[.string t12014, .string t12015] 58 (0, 0)) (by (with_reducible repeat (first | refine blk_drewN ?_ _ | refine blk_drew ?_ | refine blk_alloc ?_ _)); exact BK12017.out) hb)
      have n6_ := Aside0.mk (below_step (by repeat (first | (with_reducible first | exact HB.out | apply below_alloc | apply pw_below_drewN | apply below_drew1 | refine below_set ?_ GE12001.out | refine below_set ?_ GE12009.out | refine below_set ?_ GE12013.out | refine below_set ?_ GE12017.out) | exact HB.out)) hb)
      clear HO_12014000
      clear BK12001
      clear BK12009
      clear BK12013
      clear BK12017
      clear HB
      have HO_12014000 := n0_
      have HO12021 := n1_
      have BK12001 := n2_
      have BK12009 := n3_
      have BK12013 := n4_
      have BK12017 := n5_
      have HB := n6_
      clear n0_ n1_ n2_ n3_ n4_ n5_ n6_
      (try clear hb)
      (try clear hb2)
      (try clear hk)
      (try clear hi)
      (try clear ho0)
      obtain ⟨Ao59, co59, eo59⟩ := Kd.R_slice HO12021.out
      (first | subst eo59 | (injection eo59 with f1_ f2_ f3_; have f4_ := f1_.symm; have f5_ := f3_.symm; clear f1_ f2_ f3_; subst f4_; subst f5_))
      refine hK.out _ _ ⟨(blk_cell BK12013.out 0).trans rfl, (blk_cell BK12001.out 0).trans rfl⟩ (fun hHeld => ?_)
      clear hK K
      refine norm_ (a' := ?_) ?_ ?_
      rotate_left
      ·show Act.put _ (some 38) _ = _
       simp only [Act.put, List.setIfInBounds_toArray, List.set_cons_zero, List.set_cons_succ, i64_w, i32_w]
       rfl
      refine one_ (i := 3) (N := some 39) #[true, true, true, true, false] rfl rfl (by kernel_rfl) (by decide) (fun K hK => ?_)
      refine goes_ Try.func19 (by kernel_rfl) rfl #[.agg #[.slice Ao25 t12010.length co25], .agg #[.slice Ao59 t12019.length co59]] (by rfl) rfl rfl (by (try simp only [List.map_toArray, List.map_cons, List.map_nil]); first | done | rfl | (simp only [List.length_drop, List.length_take]; rfl)) ?_
      with_reducible refine (laws_eqProblem.calls kj10 _ _ t12010 _ _ t12019 true _ ?side1 ?side2 ?side3 ?side4 A55.out).mono ?_
      (case side1 => repeat (first | exact (Kd.R_reads' HO_12014000.out).2.2 | (with_reducible refine Kd.C_alloc ?_ _) | (with_reducible refine Kd.C_drewN ?_ _) | (with_reducible refine Kd.C_drew ?_)))
      (case side2 => exact (Kd.R_reads' HO_12014000.out).2.1)
      (case side3 => repeat (first | exact (Kd.R_reads' HO12021.out).2.2 | (with_reducible refine Kd.C_alloc ?_ _) | (with_reducible refine Kd.C_drewN ?_ _) | (with_reducible refine Kd.C_drew ?_)))
      (case side4 => exact (Kd.R_reads' HO12021.out).2.1)
      rintro e w60 ⟨rfl, hb⟩
      refine ⟨_, rfl, ?_⟩
      have n0_ := Aside0.mk (Kd.R_below (by (with_reducible repeat (first | apply Kd.R_alloc | apply Kd.R_drewN | apply Kd.R_drew)); exact HO_12014000.out) hb)
      have n1_ := Aside0.mk (Kd.R_below (by (with_reducible repeat (first | apply Kd.R_alloc | apply Kd.R_drewN | apply Kd.R_drew)); exact HO12021.out) hb)
      have n2_ := Aside0.mk (blk_below (g := gb12001) (o := .cells #[.slice A0_0 l0_0.length c0_0] 24 (0, 0)) (by (with_reducible repeat (first | refine blk_drewN ?_ _ | refine blk_drew ?_ | refine blk_alloc ?_ _)); exact BK12001.out) hb)
      have n3_ := Aside0.mk (blk_below (g := gb12009) (o := .cells #[.string t12006, .string t12007] 58 (0, 0)) (by (with_reducible repeat (first | refine blk_drewN ?_ _ | refine blk_drew ?_ | refine blk_alloc ?_ _)); exact BK12009.out) hb)
      have n4_ := Aside0.mk (blk_below (g := gb12013) (o := .cells #[.slice Ao25 t12010.length co25] 29 (0, 0)) (by (with_reducible repeat (first | refine blk_drewN ?_ _ | refine blk_drew ?_ | refine blk_alloc ?_ _)); exact BK12013.out) hb)
      have n5_ := Aside0.mk (blk_below (g := gb12017) (o := .cells #[.string t12014, .string t12015] 58 (0, 0)) (by (with_reducible repeat (first | refine blk_drewN ?_ _ | refine blk_drew ?_ | refine blk_alloc ?_ _)); exact BK12017.out) hb)
      have n6_ := Aside0.mk (below_step (by repeat (first | (with_reducible first | exact HB.out | apply below_alloc | apply pw_below_drewN | apply below_drew1 | refine below_set ?_ GE12001.out | refine below_set ?_ GE12009.out | refine below_set ?_ GE12013.out | refine below_set ?_ GE12017.out) | exact HB.out)) hb)
      clear HO_12014000
      clear HO12021
      clear BK12001
      clear BK12009
      clear BK12013
      clear BK12017
      clear HB
      have HO_12014000 := n0_
      have HO12021 := n1_
      have BK12001 := n2_
      have BK12009 := n3_
      have BK12013 := n4_
      have BK12017 := n5_
      have HB := n6_
      clear n0_ n1_ n2_ n3_ n4_ n5_ n6_
      (try clear hb)
      (try clear hb2)
      (try clear hk)
      (try clear hi)
      refine hK.out _ _ ⟨(blk_cell BK12013.out 0).trans rfl, (blk_cell BK12001.out 0).trans rfl⟩ (fun hHeld => ?_)
      clear hK K
      refine norm_ (a' := ?_) ?_ ?_
      rotate_left
      ·show Act.put _ (some 39) _ = _
       simp only [Act.put, List.setIfInBounds_toArray, List.set_cons_zero, List.set_cons_succ, i64_w, i32_w]
       rfl
      refine pure_ (i := 4) (N := some 40) (v := ?_) (a' := ?_) #[true, true, true, true, true] rfl rfl (by kernel_rfl) (fun _ _ _ h => h) (Or.inl ⟨by rfl, ?_⟩) ?_ ?_
      rotate_left
      ·intro w'
       go_simp
       first | with_reducible rfl | (rw [if_neg (by omega)]; done)
      rotate_left
      ·simp only [Act.put, List.setIfInBounds_toArray, List.set_cons_zero, List.set_cons_succ, i64_w, i32_w]
       rfl
      refine done_ (by kernel_rfl) ?_
      try go_wp2
      go_ret
      exact ⟨by first | rfl | (simp [errW_none, errW_some] <;> rfl) | (simp [*, errW_none, errW_some] <;> rfl), by repeat (first | (with_reducible first | exact HB.out | apply below_alloc | apply pw_below_drewN | apply below_drew1 | refine below_set ?_ GE12001.out | refine below_set ?_ GE12009.out | refine below_set ?_ GE12013.out | refine below_set ?_ GE12017.out) | exact HB.out)⟩
     ·replace c56 := Bool.eq_false_iff.mpr c56
      subst c56
      have H1 : (some false) = some r := by rw [if_neg (show ¬ (false = true) by decide)] at H; exact H
      clear H
      have H := H1
      clear H1
      obtain rfl := Option.some.inj H
      try go_wp2
      have n0_ := Aside0.mk (Kd.R_drew HO_12014000.out)
      have n1_ := Aside0.mk (blk_drew BK12001.out)
      have n2_ := Aside0.mk (blk_drew BK12009.out)
      have n3_ := Aside0.mk (blk_drew BK12013.out)
      have n4_ := Aside0.mk (blk_drew BK12017.out)
      have n5_ := Aside0.mk (below_drew1 HB.out)
      clear HO_12014000
      clear BK12001
      clear BK12009
      clear BK12013
      clear BK12017
      clear HB
      have HO_12014000 := n0_
      have BK12001 := n1_
      have BK12009 := n2_
      have BK12013 := n3_
      have BK12017 := n4_
      have HB := n5_
      clear n0_ n1_ n2_ n3_ n4_ n5_
      refine start_ (n := 5) (S := fun w' => w'.cell? ⟨gb12013, 0, none⟩ = some (.slice Ao25 t12010.length co25) ∧ w'.cell? ⟨gb12001, 0, none⟩ = some (.slice A0_0 l0_0.length c0_0)) (ds := []) #[false, false, false, false, false] (by kernel_rfl) rfl rfl ⟨(blk_cell BK12013.out 0).trans rfl, (blk_cell BK12001.out 0).trans rfl⟩ (fun hHeld => ?_)
      generalize wc.drew = w61 at HO_12014000 BK12001 BK12009 BK12013 BK12017 HB hHeld ⊢
      refine take_ (i := 0) (N := some 36) (v := ?_) (a' := ?_) #[true, false, false, false, false] rfl rfl (by kernel_rfl) (fun _ _ _ h => h) (Or.inl ⟨by rfl, ?_⟩) hHeld ?_ ?_
      rotate_left
      ·rintro w' ⟨s0, s1⟩
       go_simp
       first | with_reducible rfl | (rw [if_neg (by omega)]; done)
      rotate_left
      ·simp only [Act.put, List.setIfInBounds_toArray, List.set_cons_zero, List.set_cons_succ, i64_w, i32_w]
       rfl
      refine take_ (i := 1) (N := some 37) (v := ?_) (a' := ?_) #[true, true, false, false, false] rfl rfl (by kernel_rfl) (fun _ _ _ h => h) (Or.inl ⟨by rfl, ?_⟩) hHeld ?_ ?_
      rotate_left
      ·rintro w' ⟨s0, s1⟩
       go_simp
       first | with_reducible rfl | (rw [if_neg (by omega)]; done)
      rotate_left
      ·simp only [Act.put, List.setIfInBounds_toArray, List.set_cons_zero, List.set_cons_succ, i64_w, i32_w]
       rfl
      refine one_ (i := 2) (N := some 38) #[true, true, true, false, false] rfl rfl (by kernel_rfl) (by decide) (fun K hK => ?_)
      refine goes_ Try.func17 (by kernel_rfl) rfl #[.agg #[.slice A0_0 l0_0.length c0_0]] (by rfl) rfl rfl (by (try simp only [List.map_toArray, List.map_cons, List.map_nil]); first | done | rfl | (simp only [List.length_drop, List.length_take]; rfl)) ?_
      with_reducible refine (laws_toProblem.calls kj10 _ _ l0_0 t12019 _ ?side1 ?side2 A54.out).mono ?_
      (case side1 => repeat (first | exact (Kd.C_below HR0_0.out HB.out) | (with_reducible refine Kd.C_alloc ?_ _) | (with_reducible refine Kd.C_drewN ?_ _) | (with_reducible refine Kd.C_drew ?_)))
      (case side2 => exact HC0_0.out)
      rintro e w62 ⟨v12020, rfl, ho0, hb⟩
      refine ⟨_, rfl, ?_⟩
      have n0_ := Aside0.mk (Kd.R_elder' (by (with_reducible repeat (first | apply Kd.R_alloc | apply Kd.R_drewN | apply Kd.R_drew)); exact HO_12014000.out) (Kd.R_base ho0) hb)
      have n1_ := Aside0.mk (Kd.R_lower (Kd.R_new' ho0 (Kd.R_lt (by (with_reducible repeat (first | apply Kd.R_alloc | apply Kd.R_drewN | apply Kd.R_drew)); exact HO_12014000.out))) (below_size (by repeat (first | (with_reducible first | exact HB.out | apply below_alloc | apply pw_below_drewN | apply below_drew1 | refine below_set ?_ GE12001.out | refine below_set ?_ GE12009.out | refine below_set ?_ GE12013.out | refine below_set ?_ GE12017.out) | exact HB.out))))
      have n2_ := Aside0.mk (blk_below (g := gb12001) (o := .cells #[.slice A0_0 l0_0.length c0_0] 24 (0, 0)) (by (with_reducible repeat (first | refine blk_drewN ?_ _ | refine blk_drew ?_ | refine blk_alloc ?_ _)); exact BK12001.out) hb)
      have n3_ := Aside0.mk (blk_below (g := gb12009) (o := .cells #[.string t12006, .string t12007] 58 (0, 0)) (by (with_reducible repeat (first | refine blk_drewN ?_ _ | refine blk_drew ?_ | refine blk_alloc ?_ _)); exact BK12009.out) hb)
      have n4_ := Aside0.mk (blk_below (g := gb12013) (o := .cells #[.slice Ao25 t12010.length co25] 29 (0, 0)) (by (with_reducible repeat (first | refine blk_drewN ?_ _ | refine blk_drew ?_ | refine blk_alloc ?_ _)); exact BK12013.out) hb)
      have n5_ := Aside0.mk (blk_below (g := gb12017) (o := .cells #[.string t12014, .string t12015] 58 (0, 0)) (by (with_reducible repeat (first | refine blk_drewN ?_ _ | refine blk_drew ?_ | refine blk_alloc ?_ _)); exact BK12017.out) hb)
      have n6_ := Aside0.mk (below_step (by repeat (first | (with_reducible first | exact HB.out | apply below_alloc | apply pw_below_drewN | apply below_drew1 | refine below_set ?_ GE12001.out | refine below_set ?_ GE12009.out | refine below_set ?_ GE12013.out | refine below_set ?_ GE12017.out) | exact HB.out)) hb)
      clear HO_12014000
      clear BK12001
      clear BK12009
      clear BK12013
      clear BK12017
      clear HB
      have HO_12014000 := n0_
      have HO12021 := n1_
      have BK12001 := n2_
      have BK12009 := n3_
      have BK12013 := n4_
      have BK12017 := n5_
      have HB := n6_
      clear n0_ n1_ n2_ n3_ n4_ n5_ n6_
      (try clear hb)
      (try clear hb2)
      (try clear hk)
      (try clear hi)
      (try clear ho0)
      obtain ⟨Ao63, co63, eo63⟩ := Kd.R_slice HO12021.out
      (first | subst eo63 | (injection eo63 with f1_ f2_ f3_; have f4_ := f1_.symm; have f5_ := f3_.symm; clear f1_ f2_ f3_; subst f4_; subst f5_))
      refine hK.out _ _ ⟨(blk_cell BK12013.out 0).trans rfl, (blk_cell BK12001.out 0).trans rfl⟩ (fun hHeld => ?_)
      clear hK K
      refine norm_ (a' := ?_) ?_ ?_
      rotate_left
      ·show Act.put _ (some 38) _ = _
       simp only [Act.put, List.setIfInBounds_toArray, List.set_cons_zero, List.set_cons_succ, i64_w, i32_w]
       rfl
      refine one_ (i := 3) (N := some 39) #[true, true, true, true, false] rfl rfl (by kernel_rfl) (by decide) (fun K hK => ?_)
      refine goes_ Try.func19 (by kernel_rfl) rfl #[.agg #[.slice Ao25 t12010.length co25], .agg #[.slice Ao63 t12019.length co63]] (by rfl) rfl rfl (by (try simp only [List.map_toArray, List.map_cons, List.map_nil]); first | done | rfl | (simp only [List.length_drop, List.length_take]; rfl)) ?_
      with_reducible refine (laws_eqProblem.calls kj10 _ _ t12010 _ _ t12019 false _ ?side1 ?side2 ?side3 ?side4 A55.out).mono ?_
      (case side1 => repeat (first | exact (Kd.R_reads' HO_12014000.out).2.2 | (with_reducible refine Kd.C_alloc ?_ _) | (with_reducible refine Kd.C_drewN ?_ _) | (with_reducible refine Kd.C_drew ?_)))
      (case side2 => exact (Kd.R_reads' HO_12014000.out).2.1)
      (case side3 => repeat (first | exact (Kd.R_reads' HO12021.out).2.2 | (with_reducible refine Kd.C_alloc ?_ _) | (with_reducible refine Kd.C_drewN ?_ _) | (with_reducible refine Kd.C_drew ?_)))
      (case side4 => exact (Kd.R_reads' HO12021.out).2.1)
      rintro e w64 ⟨rfl, hb⟩
      refine ⟨_, rfl, ?_⟩
      have n0_ := Aside0.mk (Kd.R_below (by (with_reducible repeat (first | apply Kd.R_alloc | apply Kd.R_drewN | apply Kd.R_drew)); exact HO_12014000.out) hb)
      have n1_ := Aside0.mk (Kd.R_below (by (with_reducible repeat (first | apply Kd.R_alloc | apply Kd.R_drewN | apply Kd.R_drew)); exact HO12021.out) hb)
      have n2_ := Aside0.mk (blk_below (g := gb12001) (o := .cells #[.slice A0_0 l0_0.length c0_0] 24 (0, 0)) (by (with_reducible repeat (first | refine blk_drewN ?_ _ | refine blk_drew ?_ | refine blk_alloc ?_ _)); exact BK12001.out) hb)
      have n3_ := Aside0.mk (blk_below (g := gb12009) (o := .cells #[.string t12006, .string t12007] 58 (0, 0)) (by (with_reducible repeat (first | refine blk_drewN ?_ _ | refine blk_drew ?_ | refine blk_alloc ?_ _)); exact BK12009.out) hb)
      have n4_ := Aside0.mk (blk_below (g := gb12013) (o := .cells #[.slice Ao25 t12010.length co25] 29 (0, 0)) (by (with_reducible repeat (first | refine blk_drewN ?_ _ | refine blk_drew ?_ | refine blk_alloc ?_ _)); exact BK12013.out) hb)
      have n5_ := Aside0.mk (blk_below (g := gb12017) (o := .cells #[.string t12014, .string t12015] 58 (0, 0)) (by (with_reducible repeat (first | refine blk_drewN ?_ _ | refine blk_drew ?_ | refine blk_alloc ?_ _)); exact BK12017.out) hb)
      have n6_ := Aside0.mk (below_step (by repeat (first | (with_reducible first | exact HB.out | apply below_alloc | apply pw_below_drewN | apply below_drew1 | refine below_set ?_ GE12001.out | refine below_set ?_ GE12009.out | refine below_set ?_ GE12013.out | refine below_set ?_ GE12017.out) | exact HB.out)) hb)
      clear HO_12014000
      clear HO12021
      clear BK12001
      clear BK12009
      clear BK12013
      clear BK12017
      clear HB
      have HO_12014000 := n0_
      have HO12021 := n1_
      have BK12001 := n2_
      have BK12009 := n3_
      have BK12013 := n4_
      have BK12017 := n5_
      have HB := n6_
      clear n0_ n1_ n2_ n3_ n4_ n5_ n6_
      (try clear hb)
      (try clear hb2)
      (try clear hk)
      (try clear hi)
      refine hK.out _ _ ⟨(blk_cell BK12013.out 0).trans rfl, (blk_cell BK12001.out 0).trans rfl⟩ (fun hHeld => ?_)
      clear hK K
      refine norm_ (a' := ?_) ?_ ?_
      rotate_left
      ·show Act.put _ (some 39) _ = _
       simp only [Act.put, List.setIfInBounds_toArray, List.set_cons_zero, List.set_cons_succ, i64_w, i32_w]
       rfl
      refine pure_ (i := 4) (N := some 40) (v := ?_) (a' := ?_) #[true, true, true, true, true] rfl rfl (by kernel_rfl) (fun _ _ _ h => h) (Or.inl ⟨by rfl, ?_⟩) ?_ ?_
      rotate_left
      ·intro w'
       go_simp
       first | with_reducible rfl | (rw [if_neg (by omega)]; done)
      rotate_left
      ·simp only [Act.put, List.setIfInBounds_toArray, List.set_cons_zero, List.set_cons_succ, i64_w, i32_w]
       rfl
      refine done_ (by kernel_rfl) ?_
      try go_wp2
      go_ret
      exact ⟨by first | rfl | (simp [errW_none, errW_some] <;> rfl) | (simp [*, errW_none, errW_some] <;> rfl), by repeat (first | (with_reducible first | exact HB.out | apply below_alloc | apply pw_below_drewN | apply below_drew1 | refine below_set ?_ GE12001.out | refine below_set ?_ GE12009.out | refine below_set ?_ GE12013.out | refine below_set ?_ GE12017.out) | exact HB.out)⟩
end Go.Proofs.Ytpppopdmnejcfaa.A
namespace Go.Proofs.Ytpppopdmnejcfaa.Br
open Go Go.Proofs.YtpppopdmnejcfaaW.PrintWords
def BrN (P : Program) (n : Nat) (t : TypeId) {α : Type} (d : Kd α) (wf : α → Prop) : Prop :=
 ∀ (H : Type) (enc : TypeId × Value → H) (w : World) (base : Nat) (spare : Nat → Bool) (held : Bool) (m : Nat) (cs : List Value) (x : DataW H × List MemPlace),
  m ≤ n → DataW.trod enc P w base spare held m t cs = some x → ∃ a, d.K w a cs ∧ wf a
def Br (P : Program) (t : TypeId) {α : Type} (d : Kd α) (wf : α → Prop) : Prop := ∀ n, BrN P n t d wf
def BF (P : Program) (n : Nat) (fs : List Field) (o : Nat) {α : Type} (d : Kd α) (wf : α → Prop) : Prop :=
 ∀ (H : Type) (enc : TypeId × Value → H) (w : World) (base : Nat) (spare : Nat → Bool) (held : Bool) (m : Nat) (cs : List Value) (xs : List (DataW H × List MemPlace)),
  m ≤ n → cs.length = d.sz → xs.length = fs.length →
  (∀ (i : Nat) (f : Field), fs[i]? = some f → DataW.trod enc P w base spare held m f.type ((cs.drop (f.offset - o)).take (P.cellsOf f.type)) = xs[i]?) → ∃ a, d.K w a cs ∧ wf a
theorem BrN.mono {P : Program} {n m : Nat} {t : TypeId} {α : Type} {d : Kd α} {wf : α → Prop} (h : BrN P n t d wf) (hm : m ≤ n) : BrN P m t d wf :=
 fun H enc w base spare held k cs x hk => h H enc w base spare held k cs x (Nat.le_trans hk hm)
theorem BrN.imp {P : Program} {n : Nat} {t : TypeId} {α : Type} {d : Kd α} {wf wf' : α → Prop} (h : BrN P n t d wf) (hi : ∀ a, wf a → wf' a) : BrN P n t d wf' :=
 fun H enc w base spare held k cs x hk hx => by
  obtain ⟨a, h1, h2⟩ := h H enc w base spare held k cs x hk hx
  exact ⟨a, h1, hi a h2⟩
theorem BrN.zero (P : Program) (t : TypeId) {α : Type} (d : Kd α) (wf : α → Prop) : BrN P 0 t d wf := by
 intro H enc w base spare held m cs x hm hx
 obtain rfl : m = 0 := by omega
 simp [DataW.trod] at hx
theorem br_int {P : Program} {t : TypeId} {k : IntKind} (ht : P.underlying t = some (.int k)) (n : Nat) : BrN P n t (Kd.int k) (fun a => (Lit.int k a).wf = true) := by
 intro H enc w base spare held m cs x _ hx
 obtain ⟨a, rfl, _, hw⟩ := DataW.trod_int ht hx
 exact ⟨a, rfl, hw⟩
theorem br_string {P : Program} {t : TypeId} (ht : P.underlying t = some .string) (n : Nat) : BrN P n t Kd.string (fun s => s.size ≤ 9223372036854775807) := by
 intro H enc w base spare held m cs x _ hx
 obtain ⟨a, rfl, _, hw⟩ := DataW.trod_string ht hx
 exact ⟨a, rfl, by simpa [maxLen] using hw⟩
theorem list_of_all {α : Type} {Q : Nat → α → Prop} (n : Nat) (h : ∀ i, i < n → ∃ a, Q i a) : ∃ l : List α, l.length = n ∧ ∀ i a, l[i]? = some a → Q i a := by
 induction n with
 | zero => exact ⟨[], rfl, fun i a h => by simp at h⟩
 | succ n ih =>
  obtain ⟨l, hl, hq⟩ := ih (fun i hi => h i (by omega))
  obtain ⟨a, ha⟩ := h n (by omega)
  refine ⟨l ++ [a], by simp [hl], fun i b hb => ?_⟩
  rcases Nat.lt_or_ge i l.length with hi | hi
  ·rw [List.getElem?_append_left hi] at hb
   exact hq i b hb
  ·rw [List.getElem?_append_right hi] at hb
   obtain ⟨h0, rfl⟩ : i - l.length = 0 ∧ a = b := by
    rcases Nat.eq_zero_or_pos (i - l.length) with h0 | h0
    ·rw [h0] at hb; exact ⟨h0, by simpa using hb⟩
    ·rw [List.getElem?_eq_none (by simp; omega)] at hb; simp at hb
   obtain rfl : i = n := by omega
   exact ha
theorem cells_at {w : World} {base : Nat} {a : Addr} {n : Nat} {cs : List Value} (h : w.cells? base a n = some cs) : cs.length = n ∧ ∀ i u, cs[i]? = some u → w.cell? (a.add i) = some u := by
 unfold World.cells? at h
 split at h
 ·have hl := mapM_some_length h
  refine ⟨by simpa using hl, fun i u hu => ?_⟩
  have hi : i < n := by
   have := (List.getElem?_eq_some_iff.1 hu).1
   simp at hl
   omega
  have := mapM_some_get h i i (by simp [hi])
  rw [this, hu]
 ·simp at h
theorem br_slice {P : Program} {t e : TypeId} {α : Type} {d : Kd α} {wf : α → Prop} {n : Nat} (ht : P.underlying t = some (.slice e)) (hs : P.cellsOf e = d.sz) (h : BrN P n e d wf) :
  BrN P (n + 1) t (Kd.slice e d) (fun l => l.length ≤ 9223372036854775807 ∧ ∀ a ∈ l, wf a) := by
 intro H enc w base spare held m cs x hm hx
 rcases DataW.trod_slice ht hx with ⟨rfl, _⟩ | ⟨a, len, cap, elems, rest, k, rfl, rfl, _, _, hl, hc, he, hg, _, _⟩
 ·exact ⟨[], ⟨none, 0, rfl, Nat.le_refl _, Kd.C_nil d w⟩, by simp, by simp⟩
 ·have hq : ∀ i, i < len → ∃ b, (∃ c, c.length = d.sz ∧ d.K w b c ∧ ∀ j u, c[j]? = some u → w.cell? (a.add (i * d.sz + j)) = some u) ∧ wf b := by
   intro i hi
   have g := hg i hi
   rw [List.getElem?_eq_getElem (by omega)] at g
   obtain ⟨c, hc1, hc2⟩ := Option.bind_eq_some_iff.1 g
   obtain ⟨b, hb, hw⟩ := h H enc w base spare held k c _ (by omega) hc2
   obtain ⟨h1, h2⟩ := cells_at hc1
   refine ⟨b, ⟨c, by rw [h1, hs], hb, fun j u hu => ?_⟩, hw⟩
   have := h2 j u hu
   rw [Addr.add_add, hs] at this
   exact this
  obtain ⟨l, hl1, hl2⟩ := list_of_all len hq
  have hlen : len ≤ 9223372036854775807 := by simp only [maxLen] at hc; omega
  refine ⟨l, ⟨some a, cap, by rw [hl1], by omega, rfl, by omega, fun _ => ⟨a, rfl, fun j p hp => (hl2 j p hp).1⟩⟩, by omega, fun b hb => ?_⟩
  obtain ⟨i, hi, rfl⟩ := List.mem_iff_getElem.1 hb
  exact (hl2 i _ (List.getElem?_eq_getElem hi)).2
theorem br_slice' {P : Program} {t e : TypeId} {α : Type} {d : Kd α} {wf : α → Prop} (ht : P.underlying t = some (.slice e)) (hs : P.cellsOf e = d.sz) (h : ∀ n, BrN P n e d wf) (n : Nat) :
  BrN P n t (Kd.slice e d) (fun l => l.length ≤ 9223372036854775807 ∧ ∀ a ∈ l, wf a) := (br_slice ht hs (h n)).mono (Nat.le_succ n)
theorem bf_one {P : Program} {n o : Nat} {f : Field} {α : Type} {d : Kd α} {wf : α → Prop} (ho : f.offset = o) (hs : P.cellsOf f.type = d.sz) (h : BrN P n f.type d wf) : BF P n [f] o d wf := by
 intro H enc w base spare held m cs xs hm hl hx hf
 have g := hf 0 f rfl
 rw [ho, Nat.sub_self, List.drop_zero, hs, ← hl, List.take_length, List.getElem?_eq_getElem (by simp at hx; omega)] at g
 exact h H enc w base spare held m cs _ hm g
theorem bf_cons {P : Program} {n o : Nat} {f : Field} {fs : List Field} {α β : Type} {d : Kd α} {d' : Kd β} {wf : α → Prop} {wf' : β → Prop} (ho : f.offset = o) (hs : P.cellsOf f.type = d.sz) (h : BrN P n f.type d wf)
  (hfs : BF P n fs (o + d.sz) d' wf') (hle : ∀ g ∈ fs, o + d.sz ≤ g.offset) : BF P n (f :: fs) o (Kd.pair d d') (fun x => wf x.1 ∧ wf' x.2) := by
 intro H enc w base spare held m cs xs hm hl hx hf
 have hl' : cs.length = d.sz + d'.sz := hl
 have g := hf 0 f rfl
 rw [ho, Nat.sub_self, List.drop_zero, hs, List.getElem?_eq_getElem (by simp at hx; omega)] at g
 obtain ⟨a, ha, hwa⟩ := h H enc w base spare held m _ _ hm g
 cases xs with
 | nil => simp at hx
 | cons y ys =>
  obtain ⟨b, hb, hwb⟩ := hfs H enc w base spare held m (cs.drop d.sz) ys hm (by rw [List.length_drop]; omega) (by simpa using hx) (fun i q hq => by
   have g2 := hf (i + 1) q (by simpa using hq)
   have hm : q ∈ fs := List.mem_of_getElem? hq
   have := hle q hm
   rw [List.drop_drop, show d.sz + (q.offset - (o + d.sz)) = q.offset - o by omega]
   simpa using g2)
  exact ⟨(a, b), ⟨cs.take d.sz, cs.drop d.sz, (List.take_append_drop _ _).symm, ha, hb⟩, hwa, hwb⟩
theorem br_struct {P : Program} {t : TypeId} {fs : Array Field} {α : Type} {d : Kd α} {wf : α → Prop} {n : Nat} (ht : P.underlying t = some (.struct fs)) (hs : P.cellsOf t = d.sz) (h : BF P n fs.toList 0 d wf) : BrN P (n + 1) t d wf := by
 intro H enc w base spare held m cs x hm hx
 obtain ⟨xs, k, rfl, _, hl, hxs, hf⟩ := DataW.trod_struct ht hx
 exact h H enc w base spare held k cs xs (by omega) (by rw [hl, hs]) (by simpa using hxs) (fun i f hi => by simpa using hf i f (by simpa using hi))
theorem br_struct' {P : Program} {t : TypeId} {fs : Array Field} {α : Type} {d : Kd α} {wf : α → Prop} (ht : P.underlying t = some (.struct fs)) (hs : P.cellsOf t = d.sz) (h : ∀ n, BF P n fs.toList 0 d wf) (n : Nat) : BrN P n t d wf :=
 (br_struct ht hs (h n)).mono (Nat.le_succ n)
theorem br_iso {P : Program} {n : Nat} {t : TypeId} {α β : Type} {d : Kd α} {wf : α → Prop} {f : β → α} (g : α → β) (hg : ∀ y, f (g y) = y) (h : BrN P n t d wf) : BrN P n t (Kd.iso d f) (fun x => wf (f x)) := by
 intro H enc w base spare held m cs x hm hx
 obtain ⟨a, h1, h2⟩ := h H enc w base spare held m cs x hm hx
 exact ⟨g a, by show d.K w (f (g a)) cs; rw [hg]; exact h1, by show wf (f (g a)); rw [hg]; exact h2⟩
theorem br_fix {P : Program} {t : TypeId} {α : Type} {F : Kd α → Kd α} {sz : Nat} {E : List Nat} {hs : ∀ n, (Kd.upto F sz E n).sz = sz} {hE : ∀ n q, q ∈ (Kd.upto F sz E n).E → q ∈ E} {wf : Nat → α → Prop}
  (h : ∀ n, BrN P n t (Kd.upto F sz E n) (wf n)) (n : Nat) : BrN P n t (Kd.fix F sz E hs hE) (fun a => ∃ k, wf k a) := by
 intro H enc w base spare held m cs x hm hx
 obtain ⟨a, h1, h2⟩ := h n H enc w base spare held m cs x hm hx
 exact ⟨a, ⟨n, h1⟩, n, h2⟩
theorem arr_of {xs : Array Value} {l : List Value} (h : xs.toList = l) : xs = l.toArray := by rw [← h]
end Go.Proofs.Ytpppopdmnejcfaa.Br
namespace Go.Proofs.Ytpppopdmnejcfaa.BtFnExactJoinEquations
open Go Go.RowKit Go.Proofs.Ytpppopdmnejcfaa.A Go.Proofs.Ytpppopdmnejcfaa.Br Go.Proofs.YtpppopdmnejcfaaW.PrintWords
def wf34N : Nat → S34 → Prop
 | 0, _ => False
 | n + 1, x => ((Lit.int .i64 x.f0).wf = true) ∧ ((x.f1 : ByteArray).size ≤ 9223372036854775807) ∧ ((x.f2 : (List S34)).length ≤ 9223372036854775807 ∧ ∀ a ∈ x.f2, wf34N n a)
def wf34 (x : S34) : Prop := ∃ n, wf34N n x
theorem br34N : ∀ n, BrN Try.prog n 34 (Kd.upto F34 3 [34] n) (wf34N n)
 | 0 => BrN.zero _ _ _ _
 | n + 1 => by
  have ih := br34N n
  exact (br_iso (f := (fun x : S34 => (x.f0, x.f1, x.f2))) (fun y => ⟨y.1, y.2.1, y.2.2⟩) (fun _ => rfl) (br_struct Try.underlying34 (show Try.prog.cellsOf 34 = 3 by kernel_rfl) (bf_cons rfl (show Try.prog.cellsOf 3 = 1 by kernel_rfl) (br_int Try.underlying3 n) (bf_cons rfl (show Try.prog.cellsOf 9 = 1 by kernel_rfl) (br_string Try.underlying9 n) (bf_one rfl (show Try.prog.cellsOf 32 = 1 by kernel_rfl) ((br_slice Try.underlying32 (show Try.prog.cellsOf 34 = (Kd.upto F34 3 [34] n).sz by rw [sz34]; kernel_rfl) ih).mono (Nat.le_succ n))) (of_decide_eq_true (by kernel_rfl))) (of_decide_eq_true (by kernel_rfl))))).imp (fun _ h => h)
theorem br34 (n : Nat) : BrN Try.prog n 34 k34 wf34 := br_fix br34N n
def wf37 (x : S37) : Prop := ((Lit.int .i64 x.f0).wf = true) ∧ ((x.f1 : ByteArray).size ≤ 9223372036854775807) ∧ ((x.f2 : ByteArray).size ≤ 9223372036854775807) ∧ (wf34 x.f3) ∧ ((x.f4 : (List Int)).length ≤ 9223372036854775807 ∧ ∀ a ∈ x.f4, (Lit.int .i64 a).wf = true) ∧ ((Lit.int .i64 x.f5).wf = true)
theorem br37 (n : Nat) : BrN Try.prog n 37 k37 wf37 :=
 (br_iso (f := (fun x : S37 => (x.f0, x.f1, x.f2, x.f3, x.f4, x.f5))) (fun y => ⟨y.1, y.2.1, y.2.2.1, y.2.2.2.1, y.2.2.2.2.1, y.2.2.2.2.2⟩) (fun _ => rfl) (br_struct' Try.underlying37 (show Try.prog.cellsOf 37 = 8 by kernel_rfl) (fun n => (bf_cons rfl (show Try.prog.cellsOf 3 = 1 by kernel_rfl) (br_int Try.underlying3 n) (bf_cons rfl (show Try.prog.cellsOf 9 = 1 by kernel_rfl) (br_string Try.underlying9 n) (bf_cons rfl (show Try.prog.cellsOf 9 = 1 by kernel_rfl) (br_string Try.underlying9 n) (bf_cons rfl (show Try.prog.cellsOf 34 = 3 by kernel_rfl) (br34 n) (bf_cons rfl (show Try.prog.cellsOf 35 = 1 by kernel_rfl) (br_slice' Try.underlying35 (show Try.prog.cellsOf 3 = 1 by kernel_rfl) (fun n => (br_int Try.underlying3 n)) n) (bf_one rfl (show Try.prog.cellsOf 3 = 1 by kernel_rfl) (br_int Try.underlying3 n)) (of_decide_eq_true (by kernel_rfl))) (of_decide_eq_true (by kernel_rfl))) (of_decide_eq_true (by kernel_rfl))) (of_decide_eq_true (by kernel_rfl))) (of_decide_eq_true (by kernel_rfl)))) n)).imp (fun _ h => h)
end Go.Proofs.Ytpppopdmnejcfaa.BtFnExactJoinEquations
namespace Go.Proofs.Ytpppopdmnejcfaa.Pure
open Go Go.RowKit Go.Proofs.Ytpppopdmnejcfaa.Br Go.Proofs.YtpppopdmnejcfaaW.PrintWords Go.Proofs.YtpppopdmnejcfaaW.PrintLast Go.Proofs.Ytpppopdmnejcfaa.A Go.Proofs.Ytpppopdmnejcfaa.Ext Go.Proofs.Ytpppopdmnejcfaa.BtFnExactJoinEquations
def FnExactJoinEquations.Pure : Prop := ∀ (l0_0 : (List S37)), ((l0_0 : (List S37)).length ≤ 9223372036854775807 ∧ ∀ a ∈ l0_0, wf37 a) → ∃ k, laws_FnExactJoinEquations.f k l0_0 = some true
end Go.Proofs.Ytpppopdmnejcfaa.Pure
namespace Go.Proofs.Ytpppopdmnejcfaa.Pl
open Go.RowKit Go.Proofs.YtpppopdmnejcfaaW.PrintWords
def Evt {α : Type} (g : Nat → Option α) (r : α) : Prop := ∃ K, ∀ k, K ≤ k → g k = some r
section
variable {α β : Type}
theorem Evt.const {g : Option α} {r : α} (h : g = some r) : Evt (fun _ => g) r := ⟨0, fun _ _ => h⟩
theorem Evt.ret (r : α) : Evt (fun _ => some r) r := Evt.const rfl
theorem Evt.bind {g : Nat → Option α} {f : Nat → α → Option β} {a : α} {r : β} (hg : Evt g a) (hf : Evt (fun k => f k a) r) : Evt (fun k => (g k).bind (f k)) r := by
 obtain ⟨K, hK⟩ := hg
 obtain ⟨L, hL⟩ := hf
 exact ⟨max K L, fun k hk => by show (g k).bind (f k) = some r; rw [hK k (by omega)]; exact hL k (by omega)⟩
theorem Evt.bindc {g : Option α} {f : Nat → α → Option β} {a : α} {r : β} (hg : g = some a) (hf : Evt (fun k => f k a) r) : Evt (fun k => g.bind (f k)) r := Evt.bind (Evt.const hg) hf
theorem Evt.step {g : Nat → Option α} {r : α} (h : Evt (fun k => g (k + 1)) r) : Evt g r := by
 obtain ⟨K, hK⟩ := h
 exact ⟨K + 1, fun k hk => by
  obtain ⟨m, rfl⟩ : ∃ m, k = m + 1 := ⟨k - 1, by omega⟩
  exact hK m (by omega)⟩
theorem Evt.pos {c : Prop} [Decidable c] {t e : Nat → Option α} {r : α} (h : c) (ht : Evt t r) : Evt (fun k => if c then t k else e k) r := by
 obtain ⟨K, hK⟩ := ht
 exact ⟨K, fun k hk => (if_pos h).trans (hK k hk)⟩
theorem Evt.neg {c : Prop} [Decidable c] {t e : Nat → Option α} {r : α} (h : ¬ c) (ht : Evt e r) : Evt (fun k => if c then t k else e k) r := by
 obtain ⟨K, hK⟩ := ht
 exact ⟨K, fun k hk => (if_neg h).trans (hK k hk)⟩
theorem Evt.ite {c : Prop} [Decidable c] {t e : Nat → Option α} {x y : α} (ht : c → Evt t x) (he : ¬ c → Evt e y) : Evt (fun k => if c then t k else e k) (if c then x else y) := by
 by_cases h : c
 ·rw [if_pos h]; exact Evt.pos h (ht h)
 ·rw [if_neg h]; exact Evt.neg h (he h)
theorem Evt.get {g : Nat → Option α} {r : α} (h : Evt g r) : ∃ k, g k = some r := by
 obtain ⟨K, hK⟩ := h
 exact ⟨K, hK K (Nat.le_refl _)⟩
theorem Evt.of_eq {g g' : Nat → Option α} {r : α} (h : ∀ k, g k = g' k) (h' : Evt g' r) : Evt g r := by
 obtain ⟨K, hK⟩ := h'
 exact ⟨K, fun k hk => by rw [h]; exact hK k hk⟩
theorem Evt.cast {g : Nat → Option α} {r r' : α} (h : Evt g r) (e : r = r') : Evt g r' := e ▸ h
theorem Evt.up (l : Nat → Int → Option α) (n : Nat) (R : Nat → α) (hend : Evt (fun k => l k (n : Int)) (R n))
  (hstep : ∀ i : Nat, i < n → Evt (fun k => l k ((i + 1 : Nat) : Int)) (R (i + 1)) → Evt (fun k => l k (i : Int)) (R i)) : Evt (fun k => l k 0) (R 0) := by
 have h : ∀ d i : Nat, i + d = n → Evt (fun k => l k (i : Int)) (R i) := by
  intro d
  induction d with
  | zero =>
   intro i hi
   obtain rfl : i = n := by omega
   exact hend
  | succ d ih =>
   intro i hi
   exact hstep i (by omega) (ih (i + 1) (by omega))
 exact h n 0 (by omega)
end
theorem w64 {x : Int} (h : -9223372036854775808 ≤ x) (h' : x ≤ 9223372036854775807) : wrap64 x = x := by unfold wrap64; omega
theorem w64s {i : Nat} (h : i < 9223372036854775807) : wrap64 ((i : Int) + 1) = ((i + 1 : Nat) : Int) := by
 rw [w64 (by omega) (by omega)]; omega
theorem bt0 (s : ByteArray) (i : Int) : 0 ≤ bt s i := (bt_range s i).1
theorem bt255 (s : ByteArray) (i : Int) : bt s i ≤ 255 := (bt_range s i).2
theorem bt_get (s : ByteArray) (i : Nat) (h : i < (bytesOf s).length) : bt s (i : Int) = (bytesOf s)[i] := by
 rw [← rd_bytesOf]
 simp [rd, h]
theorem bytesOf_inj {s t : ByteArray} (h : bytesOf s = bytesOf t) : s = t := by
 have h1 : s.data.toList = t.data.toList := by
  refine List.map_inj_right (f := fun b : UInt8 => (b.toNat : Int)) (fun x y hxy => ?_) |>.1 h
  exact UInt8.toNat_inj.1 (Int.ofNat_inj.1 hxy)
 cases s; cases t
 simp only [ByteArray.mk.injEq]
 exact Array.toList_inj.1 h1
theorem toList_eq_iff (s t : ByteArray) : s.toList = t.toList ↔ s = t := by
 rw [Lib.toList_data, Lib.toList_data]
 constructor
 ·intro h
  cases s; cases t
  simp only [ByteArray.mk.injEq]
  exact Array.toList_inj.1 h
 ·rintro rfl; rfl
theorem toList_nil_iff (s : ByteArray) : s.toList = ([] : List UInt8) ↔ s.size = 0 := by
 rw [Lib.toList_data, ← data_length, List.length_eq_zero_iff]
theorem mem_bytes (s : ByteArray) {c : Int} (h : c ∈ bytesOf s) : 0 ≤ c ∧ c ≤ 255 := by
 unfold bytesOf at h
 obtain ⟨b, _, rfl⟩ := List.mem_map.1 h
 have := b.toNat_lt
 omega
theorem bytesOf_append (s t : ByteArray) : bytesOf (s ++ t) = bytesOf s ++ bytesOf t := by
 simp [bytesOf, ByteArray.data_append]
theorem bytesOf_extract (s : ByteArray) (a b : Nat) : bytesOf (s.extract a b) = ((bytesOf s).drop a).take (b - a) := by
 have h := Lib.extract_toList s a b
 rw [Lib.toList_data] at h
 unfold bytesOf
 rw [h, List.map_take, List.map_drop]
theorem bytesOf_tail (s : ByteArray) (a : Nat) : bytesOf (s.extract a s.size) = (bytesOf s).drop a := by
 rw [bytesOf_extract, List.take_of_length_le]
 rw [List.length_drop, bytesOf_length]
 exact Nat.le_refl _
def ltI (c : Int) : Int := if 97 = c then 0 else if 98 = c then 1 else if 99 = c then 2 else -1
def varI (c : Int) : Int := if 88 = c then 0 else if 89 = c then 1 else if 90 = c then 2 else -1
def isVr (c : Int) : Bool := decide (88 ≤ c ∧ c ≤ 90)
theorem ix_abc : ∀ n : Nat, n < 256 → Lib.indexByte [97, 98, 99] n.toUInt8 = ltI (n : Int) := by decide +kernel
theorem ix_XYZ : ∀ n : Nat, n < 256 → Lib.indexByte [88, 89, 90] n.toUInt8 = varI (n : Int) := by decide +kernel
theorem varI_isVar (c : Int) : decide (varI c ≥ 0) = isVr c := by
 unfold varI isVr
 split
 ·subst_vars; rfl
 ·split
  ·subst_vars; rfl
  ·split
   ·subst_vars; rfl
   ·simp; omega
theorem ltI_nonneg (c : Int) : 0 ≤ ltI c ↔ (97 ≤ c ∧ c ≤ 99) := by
 unfold ltI
 split
 ·subst_vars; simp
 ·split
  ·subst_vars; simp
  ·split
   ·subst_vars; simp
   ·simp; omega
theorem ltI_le (c : Int) : ltI c ≤ 2 := by
 unfold ltI
 repeat' split
 all_goals omega
theorem ltI_ge (c : Int) : -1 ≤ ltI c := by
 unfold ltI
 repeat' split
 all_goals omega
theorem bt_abc0 : bt (⟨#[97, 98, 99]⟩ : ByteArray) 0 = 97 := by decide
theorem bt_abc1 : bt (⟨#[97, 98, 99]⟩ : ByteArray) 1 = 98 := by decide
theorem bt_abc2 : bt (⟨#[97, 98, 99]⟩ : ByteArray) 2 = 99 := by decide
theorem bt_XYZ0 : bt (⟨#[88, 89, 90]⟩ : ByteArray) 0 = 88 := by decide
theorem bt_XYZ1 : bt (⟨#[88, 89, 90]⟩ : ByteArray) 1 = 89 := by decide
theorem bt_XYZ2 : bt (⟨#[88, 89, 90]⟩ : ByteArray) 2 = 90 := by decide
theorem w64_a : wrap64 1 = 1 := by unfold wrap64; omega
theorem w64_b : wrap64 2 = 2 := by unfold wrap64; omega
theorem w64_c : wrap64 3 = 3 := by unfold wrap64; omega
theorem w64_1 : wrap64 (0 + 1) = 1 := by unfold wrap64; omega
theorem w64_2 : wrap64 (1 + 1) = 2 := by unfold wrap64; omega
theorem w64_3 : wrap64 (2 + 1) = 3 := by unfold wrap64; omega
theorem indexByte_nonneg (l : List UInt8) (c : UInt8) : 0 ≤ Lib.indexByte l c ↔ c ∈ l := by
 induction l with
 | nil => simp [Lib.indexByte]
 | cons b l ih =>
  unfold Lib.indexByte
  by_cases h : b = c
  ·subst h; simp
  ·have hb : (b == c) = false := by simpa using h
   rw [hb]
   have hge := Lib.indexByte_ge l c
   by_cases h2 : Lib.indexByte l c = -1
   ·simp only [h2]
    simp
    refine ⟨fun e => h e.symm, fun hm => ?_⟩
    have := ih.2 hm
    omega
   ·have h3 : (Lib.indexByte l c == -1) = false := by simpa using h2
    rw [h3]
    simp
    constructor
    ·intro _; exact .inr (ih.1 (by omega))
    ·rintro (e | hm)
     ·exact absurd e.symm h
     ·have := ih.2 hm; omega
theorem mem_data (s : ByteArray) (n : Nat) (hn : n < 256) : n.toUInt8 ∈ s.data.toList ↔ (n : Int) ∈ bytesOf s := by
 unfold bytesOf
 rw [List.mem_map]
 constructor
 ·intro h
  exact ⟨_, h, by simp [Nat.mod_eq_of_lt hn]⟩
 ·rintro ⟨b, hb, e⟩
  have e2 : b.toNat = n := by omega
  subst e2
  simpa using hb
theorem w64_sub {a : Int} {n : Nat} (ha : -1 ≤ a) (ha' : a ≤ 1048576) (hn : n ≤ 9223372036854775807) : wrap64 (a - (n : Int)) = a - (n : Int) := w64 (by omega) (by omega)
end Go.Proofs.Ytpppopdmnejcfaa.Pl
namespace Go.Proofs.Ytpppopdmnejcfaa.F
open Go.RowKit Go.Proofs.YtpppopdmnejcfaaW.PrintWords Go.Proofs.Ytpppopdmnejcfaa.Pl Go.Proofs.Ytpppopdmnejcfaa.A Go.Proofs.Ytpppopdmnejcfaa.Ext
def Evt2 {α : Type} (g : Nat → Nat → Option α) (r : α) : Prop := ∃ K, ∀ i j, K ≤ i → K ≤ j → g i j = some r
theorem Evt2.ret {α : Type} (r : α) : Evt2 (fun _ _ => some r) r := ⟨0, fun _ _ _ _ => rfl⟩
theorem Evt2.bind {α β : Type} {g : Nat → Option α} {f : Nat → Nat → α → Option β} {a : α} {r : β} (hg : Evt g a) (hf : Evt2 (fun i j => f i j a) r) : Evt2 (fun i j => (g i).bind (f i j)) r := by
 obtain ⟨K, hK⟩ := hg
 obtain ⟨L, hL⟩ := hf
 exact ⟨max K L, fun i j hi hj => by show (g i).bind (f i j) = some r; rw [hK i (by omega)]; exact hL i j (by omega) (by omega)⟩
theorem Evt2.bind2 {α β : Type} {g : Nat → Nat → Option α} {f : Nat → Nat → α → Option β} {a : α} {r : β} (hg : Evt2 g a) (hf : Evt2 (fun i j => f i j a) r) : Evt2 (fun i j => (g i j).bind (f i j)) r := by
 obtain ⟨K, hK⟩ := hg
 obtain ⟨L, hL⟩ := hf
 exact ⟨max K L, fun i j hi hj => by show (g i j).bind (f i j) = some r; rw [hK i j (by omega) (by omega)]; exact hL i j (by omega) (by omega)⟩
theorem Evt2.pos {α : Type} {c : Prop} [Decidable c] {t e : Nat → Nat → Option α} {r : α} (h : c) (ht : Evt2 t r) : Evt2 (fun i j => if c then t i j else e i j) r := by
 obtain ⟨K, hK⟩ := ht
 exact ⟨K, fun i j hi hj => by show (if c then t i j else e i j) = some r; rw [if_pos h]; exact hK i j hi hj⟩
theorem Evt2.neg {α : Type} {c : Prop} [Decidable c] {t e : Nat → Nat → Option α} {r : α} (h : ¬ c) (he : Evt2 e r) : Evt2 (fun i j => if c then t i j else e i j) r := by
 obtain ⟨K, hK⟩ := he
 exact ⟨K, fun i j hi hj => by show (if c then t i j else e i j) = some r; rw [if_neg h]; exact hK i j hi hj⟩
theorem Evt2.step {α : Type} {g : Nat → Nat → Option α} {r : α} (h : Evt2 (fun i j => g i (j + 1)) r) : Evt2 g r := by
 obtain ⟨K, hK⟩ := h
 refine ⟨K + 1, fun i j hi hj => ?_⟩
 obtain ⟨j, rfl⟩ : ∃ m, j = m + 1 := ⟨j - 1, by omega⟩
 exact hK i j (by omega) (by omega)
theorem Evt2.diag {α : Type} {g : Nat → Nat → Option α} {r : α} (h : Evt2 g r) : Evt (fun k => g k k) r := by
 obtain ⟨K, hK⟩ := h
 exact ⟨K, fun k hk => hK k k hk hk⟩
theorem Evt2.cast {α : Type} {g : Nat → Nat → Option α} {r r' : α} (h : Evt2 g r) (e : r = r') : Evt2 g r' := e ▸ h
def RxOk : Nat → S34 → Prop
 | 0, _ => False
 | n + 1, x => x.f1.size ≤ 9223372036854775807 ∧ x.f2.length ≤ 9223372036854775807 ∧ ∀ a ∈ x.f2, RxOk n a
inductive Sm : S42 → Prop
 | mk (a : Int) (b : ByteArray) (l : List S42) (h : l.length ≤ 1048576) (hs : ∀ x ∈ l, Sm x) : Sm ⟨a, b, l⟩
theorem Sm.len {x : S42} (h : Sm x) : x.f2.length ≤ 1048576 := by cases h; assumption
theorem rxL_at (l : List S34) (i : Nat) (h : i < l.length) : rd_T34 l (i : Int) = l[i] := by simp [rd_T34, h]
theorem rxI_at (l : List S42) (i : Nat) (h : i < l.length) : rd_T42 l (i : Int) = l[i] := by simp [rd_T42, h]
theorem rx_eta (y : S42) : (⟨y.f0, y.f1, y.f2⟩ : S42) = y := by cases y; rfl
def Cp (x : S34) (y : S42) : Prop := Sm y ∧ Evt (fun k => laws_toRegex.f k x.f0 x.f1 x.f2) (y.f0, y.f1, y.f2)
theorem copies (l : List S34) (h : ∀ x ∈ l, ∃ y, Cp x y) : ∃ ys : List S42, ys.length = l.length ∧ ∀ (i : Nat) (h : i < l.length) (h' : i < ys.length), Cp l[i] ys[i] := by
 induction l with
 | nil => exact ⟨[], rfl, fun i h => absurd h (by simp)⟩
 | cons x l ih =>
  obtain ⟨y, hy⟩ := h x (by simp)
  obtain ⟨ys, h1, h2⟩ := ih (fun z hz => h z (by simp [hz]))
  refine ⟨y :: ys, by simp [h1], fun i hi hi' => ?_⟩
  cases i with
  | zero => exact hy
  | succ i => exact h2 i (by simpa using hi) (by simpa using hi')
theorem toRegex_ev (a : Int) (b : ByteArray) (l : List S34) (hl : l.length ≤ 1048576) (h : ∀ x ∈ l, ∃ y, Cp x y) : ∃ y, Cp ⟨a, b, l⟩ y := by
 obtain ⟨ys, e, hc⟩ := copies l h
 refine ⟨⟨a, b, ys⟩, Sm.mk a b ys (by omega) (fun y hy => ?_), ?_⟩
 ·obtain ⟨i, hi, rfl⟩ := List.mem_iff_getElem.1 hy
  exact (hc i (by omega) hi).1
 ·refine Evt.step ?_
  simp only [laws_toRegex.f]
  refine Evt2.diag (g := fun i j => laws_toRegexG.f (fun _ => laws_toRegex.f i) j a b l) ?_
  simp only [laws_toRegexG.f, laws_toRegexSG.f]
  refine Evt2.bind2 (a := ys) (Evt2.pos (by omega) (Evt2.pos (by omega) ?_)) (Evt2.ret _)
  rw [Int.toNat_natCast]
  have hh : ∀ d i : Nat, i + d = l.length → Evt2 (fun p q => laws_toRegexSG.l0 (fun _ => laws_toRegex.f p) q l (ys.take i ++ List.replicate (l.length - i) z42) (i : Int)) ys := by
   intro d
   induction d with
   | zero =>
    intro i hi
    refine Evt2.step ?_
    simp only [laws_toRegexSG.l0]
    refine Evt2.neg (by omega) ((Evt2.ret _).cast ?_)
    rw [show l.length - i = 0 by omega, List.take_of_length_le (by omega)]
    simp
   | succ d ih =>
    intro i hi
    have hi' : i < l.length := by omega
    refine Evt2.step ?_
    simp only [laws_toRegexSG.l0]
    rw [rxL_at l i hi']
    refine Evt2.pos (by omega) (Evt2.pos (by omega) (Evt2.bind (hc i hi' (by omega)).2 (Evt2.pos (by simp; omega) ?_)))
    rw [Int.toNat_natCast, w64s (by omega)]
    have hx : (ys.take i).length = i := by rw [List.length_take]; omega
    have e2 : (ys.take i ++ List.replicate (l.length - i) z42).set i (ys[i]'(by omega)) = ys.take (i + 1) ++ List.replicate (l.length - (i + 1)) z42 := by
     rw [List.set_append_right _ _ (by omega), hx, Nat.sub_self, show l.length - i = (l.length - (i + 1)) + 1 by omega, List.replicate_succ, List.set_cons_zero, List.take_succ_eq_append_getElem (by omega), List.append_assoc]
     rfl
    simp only [rx_eta, e2]
    exact ih (i + 1) (by omega)
  simpa using hh l.length 0 (by omega)
theorem szRegex_ev : ∀ n (x : S34), RxOk n x → ∀ v : Int, 0 ≤ v → v ≤ 1048576 → ∃ t, Evt (fun k => laws_szRegex.f k x.f0 x.f1 x.f2 v) t ∧ (t = -1 ∨ (0 ≤ t ∧ t ≤ v ∧ ∃ y, Cp x y)) := by
 intro n
 induction n with
 | zero => intro x h; exact h.elim
 | succ n ih =>
  rintro ⟨a, b, l⟩ ⟨h1, h2, h3⟩ v hv hv'
  simp only at h1 h2 h3
  have hs : ∃ t, Evt2 (fun i j => laws_szRegexG.f (fun _ => laws_szRegex.f i) j a b l v) t ∧ (t = -1 ∨ (0 ≤ t ∧ t ≤ v ∧ ∃ y, Cp ⟨a, b, l⟩ y)) := by
   simp only [laws_szRegexG.f, laws_szRegexSG.f]
   rw [w64_sub (by omega) (by omega) h1]
   by_cases c1 : v - b.size < 0
   ·exact ⟨-1, Evt2.pos c1 (Evt2.ret _), .inl rfl⟩
   rw [w64_sub (by omega) (by omega) h2]
   by_cases c2 : v - b.size - l.length < 0
   ·exact ⟨-1, Evt2.neg c1 (Evt2.bind2 (Evt2.pos c2 (Evt2.ret _)) (Evt2.pos (by decide) (Evt2.ret _))), .inl rfl⟩
   have hh : ∀ d i : Nat, i + d = l.length → ∀ u : Int, 0 ≤ u → u ≤ 1048576 → ∃ t, Evt2 (fun p q => laws_szRegexSG.l0 (fun _ => laws_szRegex.f p) q l u (i : Int)) t ∧ (t = -1 ∨ (0 ≤ t ∧ t ≤ u ∧ ∀ x ∈ l.drop i, ∃ y, Cp x y)) := by
    intro d
    induction d with
    | zero =>
     intro i hi u hu hu'
     refine ⟨u, Evt2.step ?_, .inr ⟨hu, Int.le_refl _, ?_⟩⟩
     ·simp only [laws_szRegexSG.l0]
      exact Evt2.neg (by omega) (Evt2.ret _)
     ·rw [List.drop_of_length_le (by omega)]
      intro x hx
      cases hx
    | succ d ihd =>
     intro i hi u hu hu'
     have hi' : i < l.length := by omega
     obtain ⟨t, ht, hc⟩ := ih l[i] (h3 _ (List.getElem_mem hi')) u hu hu'
     by_cases c3 : t < 0
     ·refine ⟨-1, Evt2.step ?_, .inl rfl⟩
      simp only [laws_szRegexSG.l0]
      rw [rxL_at l i hi']
      exact Evt2.pos (by omega) (Evt2.pos (by omega) (Evt2.bind ht (Evt2.pos c3 (Evt2.ret _))))
     ·have hc' := hc.resolve_left (by omega)
      obtain ⟨t', ht', hc2⟩ := ihd (i + 1) (by omega) t (by omega) (by omega)
      refine ⟨t', Evt2.step ?_, ?_⟩
      ·simp only [laws_szRegexSG.l0]
       rw [rxL_at l i hi', w64s (by omega)]
       exact Evt2.pos (by omega) (Evt2.pos (by omega) (Evt2.bind ht (Evt2.neg c3 ht')))
      ·rcases hc2 with h4 | ⟨h4, h5, h6⟩
       ·exact .inl h4
       ·refine .inr ⟨h4, by omega, ?_⟩
        rw [List.drop_eq_getElem_cons hi']
        intro x hx
        rcases List.mem_cons.1 hx with rfl | hx
        ·exact hc'.2.2
        ·exact h6 x hx
   obtain ⟨t, ht, hc⟩ := hh l.length 0 (by omega) (v - b.size - l.length) (by omega) (by omega)
   by_cases c4 : t < 0
   ·exact ⟨-1, Evt2.neg c1 (Evt2.bind2 (Evt2.neg c2 ht) (Evt2.pos c4 (Evt2.ret _))), .inl rfl⟩
   ·have hc' := hc.resolve_left (by omega)
    refine ⟨t, Evt2.neg c1 (Evt2.bind2 (Evt2.neg c2 ht) (Evt2.neg c4 (Evt2.ret _))), .inr ⟨hc'.1, by omega, toRegex_ev a b l (by omega) (by simpa using hc'.2.2)⟩⟩
  obtain ⟨t, ht, hc⟩ := hs
  refine ⟨t, Evt.step ?_, hc⟩
  simp only [laws_szRegex.f]
  exact Evt2.diag ht
end Go.Proofs.Ytpppopdmnejcfaa.F
namespace Go.Proofs.Ytpppopdmnejcfaa.F
open Go.RowKit Go.Proofs.YtpppopdmnejcfaaW.PrintWords Go.Proofs.Ytpppopdmnejcfaa.Pl Go.Proofs.Ytpppopdmnejcfaa.A Go.Proofs.Ytpppopdmnejcfaa.Ext
theorem spec_LetterIndex_ev (c : Int) : Evt (fun k => spec_LetterIndex.f k c) (ltI c) := by
 refine ⟨4, fun k hk => ?_⟩
 obtain ⟨m, rfl⟩ : ∃ m, k = m + 4 := ⟨k - 4, by omega⟩
 unfold ltI
 by_cases h0 : (97 : Int) = c
 ·simp [spec_LetterIndex.f, spec_LetterIndex.l0, w64_a, w64_b, w64_c, bt_abc0, bt_abc1, bt_abc2, h0]
 ·by_cases h1 : (98 : Int) = c
  ·simp [spec_LetterIndex.f, spec_LetterIndex.l0, w64_a, w64_b, w64_c, bt_abc0, bt_abc1, bt_abc2, h0, h1]
  ·by_cases h2 : (99 : Int) = c
   ·simp [spec_LetterIndex.f, spec_LetterIndex.l0, w64_a, w64_b, w64_c, bt_abc0, bt_abc1, bt_abc2, h0, h1, h2]
   ·simp [spec_LetterIndex.f, spec_LetterIndex.l0, w64_a, w64_b, w64_c, bt_abc0, bt_abc1, bt_abc2, h0, h1, h2]
theorem impl_LetterIndex_eq {c : Int} (h0 : 0 ≤ c) (h1 : c ≤ 255) : impl_LetterIndex.f c = some (ltI c) := by
 obtain ⟨n, rfl⟩ := Int.eq_ofNat_of_zero_le h0
 simp only [impl_LetterIndex.f, strings_IndexByte.f, Option.bind_some]
 rw [Int.toNat_natCast]
 exact congrArg some (ix_abc n (by omega))
def allL (l : List Int) : Bool := l.all fun c => decide (0 ≤ ltI c)
theorem impl_isLetters_ev (s : ByteArray) (hs : s.size ≤ 9223372036854775807) : Evt (fun k => impl_isLetters.f k s) (allL (bytesOf s)) := by
 have h := Evt.up (fun k i => impl_isLetters.l0 k s i) s.size (fun i => allL ((bytesOf s).drop i)) ?_ ?_
 ·simpa [impl_isLetters.f] using h
 ·refine Evt.step ?_
  simp only [impl_isLetters.l0]
  rw [List.drop_of_length_le (by rw [bytesOf_length]; omega)]
  exact Evt.neg (by omega) (Evt.ret _)
 ·intro i hi h
  refine Evt.step ?_
  simp only [impl_isLetters.l0]
  refine Evt.pos (by omega) (Evt.pos (by omega) (Evt.bindc (impl_LetterIndex_eq (bt0 _ _) (bt255 _ _)) ?_))
  have hl : i < (bytesOf s).length := by rw [bytesOf_length]; exact hi
  rw [List.drop_eq_getElem_cons hl, ← bt_get s i hl]
  by_cases hc : ltI (bt s i) < 0
  ·exact Evt.pos hc (Evt.const (by simp [allL, show ¬ (0 ≤ ltI (bt s i)) by omega]))
  ·rw [w64s (by omega)]
   exact Evt.neg hc (h.cast (by simp [allL, show 0 ≤ ltI (bt s i) by omega]))
def isW (s : ByteArray) : Bool := allL (bytesOf s) && decide (s.size ≤ 30)
theorem impl_IsWord_ev (s : ByteArray) (hs : s.size ≤ 9223372036854775807) : Evt (fun k => impl_IsWord.f k s) (isW s) := by
 unfold isW
 simp only [impl_IsWord.f]
 by_cases h : s.size ≤ 30
 ·exact Evt.pos (by omega) (Evt.bind (impl_isLetters_ev s hs) (Evt.const (by simp [h])))
 ·exact Evt.neg (by omega) (Evt.const (by simp [h]))
theorem spec_IsWord_ev (s : ByteArray) (hs : s.size ≤ 9223372036854775807) : Evt (fun k => spec_IsWord.f k s) (isW s) := by
 have h := Evt.up (fun k i => spec_IsWord.l0 k s i) s.size (fun i => allL ((bytesOf s).drop i) && decide (s.size ≤ 30)) ?_ ?_
 ·simpa [spec_IsWord.f, isW] using h
 ·refine Evt.step ?_
  simp only [spec_IsWord.l0]
  rw [List.drop_of_length_le (by rw [bytesOf_length]; omega)]
  refine Evt.neg (by omega) (Evt.const ?_)
  have e : ((s.size : Int) ≤ 30) = (s.size ≤ 30) := by apply propext; omega
  simp [allL, e]
 ·intro i hi h
  refine Evt.step ?_
  simp only [spec_IsWord.l0]
  refine Evt.pos (by omega) (Evt.pos (by omega) (Evt.bind (spec_LetterIndex_ev _) ?_))
  have hl : i < (bytesOf s).length := by rw [bytesOf_length]; exact hi
  rw [List.drop_eq_getElem_cons hl, ← bt_get s i hl]
  by_cases hc : ltI (bt s i) < 0
  ·exact Evt.pos hc (Evt.const (by simp [allL, show ¬ (0 ≤ ltI (bt s i)) by omega]))
  ·rw [w64s (by omega)]
   exact Evt.neg hc (h.cast (by simp [allL, show 0 ≤ ltI (bt s i) by omega]))
end Go.Proofs.Ytpppopdmnejcfaa.F
namespace Go.Proofs.Ytpppopdmnejcfaa.F
open Go.RowKit Go.Proofs.YtpppopdmnejcfaaW.PrintWords Go.Proofs.Ytpppopdmnejcfaa.Pl Go.Proofs.Ytpppopdmnejcfaa.A Go.Proofs.Ytpppopdmnejcfaa.Ext
def arN (a : Int) : Nat := if a = 5 ∨ a = 6 ∨ a = 7 then 2 else if a = 8 ∨ a = 9 then 1 else 0
theorem arN_le (a : Int) : arN a ≤ 2 := by
 unfold arN
 split
 ·omega
 ·split <;> omega
def kOk (a : Int) (b : ByteArray) (n : Nat) : Bool :=
 if a = 3 then decide (b.size = 1) && isW b && decide (n = 0) else decide (1 ≤ a ∧ a ≤ 9) && decide (b.size = 0) && decide (n = arN a)
theorem kOk_len {a : Int} {b : ByteArray} {n : Nat} (h : kOk a b n = true) : n = arN a := by
 unfold kOk at h
 split at h
 ·next e => subst e; simp at h; simp [h.2, arN]
 ·simp at h; exact h.2
def nds : Nat → S42 → Nat
 | 0, _ => 17
 | n + 1, x => if kOk x.f0 x.f1 x.f2.length = true then min (1 + (x.f2.map (nds n)).sum) 17 else 17
theorem nds_le (n : Nat) (x : S42) : nds n x ≤ 17 := by
 cases n with
 | zero => exact Nat.le_refl _
 | succ n => unfold nds; split <;> omega
def Ht : Nat → S42 → Prop
 | 0, _ => False
 | n + 1, x => x.f2.length ≤ 1048576 ∧ ∀ a ∈ x.f2, Ht n a
theorem Ht_mono : ∀ n (x : S42), Ht n x → Ht (n + 1) x := by
 intro n
 induction n with
 | zero => intro x h; exact h.elim
 | succ n ih => intro x h; exact ⟨h.1, fun a ha => ih a (h.2 a ha)⟩
theorem Ht_le {n m : Nat} (h : n ≤ m) (x : S42) (hx : Ht n x) : Ht m x := by
 induction h with
 | refl => exact hx
 | step _ ih => exact Ht_mono _ _ ih
theorem Sm.ht {x : S42} (h : Sm x) : ∃ n, Ht n x := by
 induction h with
 | mk a b l hl hs ih =>
  have h3 : ∃ n, ∀ a ∈ l, Ht n a := by
   clear hl hs
   induction l with
   | nil => exact ⟨0, fun a ha => by cases ha⟩
   | cons x l ihl =>
    obtain ⟨n, hn⟩ := ihl (fun a ha => ih a (List.mem_cons_of_mem _ ha))
    obtain ⟨m, hm⟩ := ih x (List.mem_cons_self ..)
    refine ⟨max n m, fun a ha => ?_⟩
    rcases List.mem_cons.1 ha with rfl | ha
    ·exact Ht_le (by omega) _ hm
    ·exact Ht_le (by omega) _ (hn a ha)
  obtain ⟨n, hn⟩ := h3
  exact ⟨n + 1, hl, hn⟩
def siz : Nat → S42 → Nat
 | 0, _ => 1
 | n + 1, x => 1 + (x.f2.map (siz n)).sum
def dep : Nat → S42 → Nat
 | 0, _ => 1
 | n + 1, x => (x.f2.map (dep n)).foldr max 0 + 1
def alls : Nat → S42 → Bool
 | 0, _ => true
 | n + 1, x => (x.f2.all (alls n)) && kOk x.f0 x.f1 x.f2.length
theorem siz_pos (n : Nat) (x : S42) : 1 ≤ siz n x := by cases n <;> simp [siz]
theorem dep_pos (n : Nat) (x : S42) : 1 ≤ dep n x := by cases n <;> simp [dep]
theorem dep_le_siz (n : Nat) : ∀ x : S42, dep n x ≤ siz n x := by
 induction n with
 | zero => intro x; simp [dep, siz]
 | succ n ih =>
  intro x
  simp only [dep, siz]
  generalize x.f2 = l
  induction l with
  | nil => simp
  | cons y l ihl => simp only [List.map_cons, List.foldr_cons, List.sum_cons]; have := ih y; omega
theorem nds_eq (n : Nat) : ∀ (x : S42) (e : Nat), Ht n x → nds e x = if alls n x = true ∧ dep n x ≤ e ∧ siz n x ≤ 16 then siz n x else 17 := by
 induction n with
 | zero => intro x e h; exact h.elim
 | succ n ih =>
  intro x e h
  cases e with
  | zero =>
   have := dep_pos (n + 1) x
   rw [if_neg (by omega)]
   rfl
  | succ e =>
   unfold nds
   by_cases hk : kOk x.f0 x.f1 x.f2.length = true
   ·rw [if_pos hk]
    have hl := kOk_len hk
    have h2 := arN_le x.f0
    obtain ⟨_, hm⟩ := h
    simp only [alls, dep, siz, hk, Bool.and_true]
    generalize x.f2 = l at *
    match l with
    | [] => simp
    | [p] =>
     have ip := ih p e (hm p (by simp))
     have hp := siz_pos n p
     have hq := dep_pos n p
     simp only [List.map_cons, List.map_nil, List.sum_cons, List.sum_nil, List.foldr_cons, List.foldr_nil, List.all_cons, List.all_nil, Bool.and_true, ip]
     by_cases c1 : alls n p = true <;> by_cases c2 : dep n p ≤ e <;> by_cases c3 : siz n p ≤ 16 <;> simp only [c1, c2, c3, true_and, false_and, and_true, and_false, if_true, if_false, Bool.false_eq_true] <;> first | omega | (split <;> omega)
    | [p, q] =>
     have ip := ih p e (hm p (by simp))
     have iq := ih q e (hm q (by simp))
     have hp := siz_pos n p
     have hq := siz_pos n q
     have hp' := dep_pos n p
     have hq' := dep_pos n q
     simp only [List.map_cons, List.map_nil, List.sum_cons, List.sum_nil, List.foldr_cons, List.foldr_nil, List.all_cons, List.all_nil, Bool.and_true, ip, iq, Bool.and_eq_true]
     by_cases c1 : alls n p = true <;> by_cases c2 : dep n p ≤ e <;> by_cases c3 : siz n p ≤ 16 <;> by_cases c1' : alls n q = true <;> by_cases c2' : dep n q ≤ e <;> by_cases c3' : siz n q ≤ 16 <;> simp only [c1, c2, c3, c1', c2', c3', true_and, false_and, and_true, and_false, if_true, if_false, Bool.false_eq_true] <;> first | omega | (split <;> omega)
    | p :: q :: r :: l => simp at hl; omega
   ·rw [if_neg hk, if_neg]
    simp [alls, hk]
end Go.Proofs.Ytpppopdmnejcfaa.F
namespace Go.Proofs.Ytpppopdmnejcfaa.F
open Go.RowKit Go.Proofs.YtpppopdmnejcfaaW.PrintWords Go.Proofs.Ytpppopdmnejcfaa.Pl Go.Proofs.Ytpppopdmnejcfaa.A Go.Proofs.Ytpppopdmnejcfaa.Ext
theorem impl_isVariable_eq {c : Int} (h0 : 0 ≤ c) (h1 : c ≤ 255) : impl_isVariable.f c = some (isVr c) := by
 obtain ⟨n, rfl⟩ := Int.eq_ofNat_of_zero_le h0
 simp only [impl_isVariable.f, strings_IndexByte.f, Option.bind_some]
 rw [Int.toNat_natCast, ← varI_isVar, ← ix_XYZ n (by omega)]
theorem spec_l8Var_eq (c : Int) : spec_l8Var.f c = some (isVr c) := by
 unfold spec_l8Var.f isVr
 by_cases h : c ≥ 88
 ·rw [if_pos h]; simp [show 88 ≤ c from h]
 ·rw [if_neg h]; simp [show ¬ 88 ≤ c from h]
def isT (c : Int) : Bool := decide (0 ≤ ltI c) || isVr c
def isTm (s : ByteArray) : Bool := (bytesOf s).all isT && decide (s.size ≤ 12)
theorem spec_IsTerm_ev (s : ByteArray) (hs : s.size ≤ 9223372036854775807) : Evt (fun k => spec_IsTerm.f k s) (isTm s) := by
 have h := Evt.up (fun k i => spec_IsTerm.l0 k s i) s.size (fun i => ((bytesOf s).drop i).all isT && decide (s.size ≤ 12)) ?_ ?_
 ·simpa [spec_IsTerm.f, isTm] using h
 ·refine Evt.step ?_
  simp only [spec_IsTerm.l0]
  rw [List.drop_of_length_le (by rw [bytesOf_length]; omega)]
  refine Evt.neg (by omega) (Evt.const ?_)
  have e : ((s.size : Int) ≤ 12) = (s.size ≤ 12) := by apply propext; omega
  simp [e]
 ·intro i hi h
  refine Evt.step ?_
  simp only [spec_IsTerm.l0]
  refine Evt.pos (by omega) (Evt.pos (by omega) (Evt.bind (spec_LetterIndex_ev _) ?_))
  have hl : i < (bytesOf s).length := by rw [bytesOf_length]; exact hi
  rw [List.drop_eq_getElem_cons hl, ← bt_get s i hl, w64s (by omega)]
  by_cases hc : ltI (bt s i) < 0
  ·refine Evt.pos hc (Evt.bindc (spec_l8Var_eq _) ?_)
   by_cases hv : isVr (bt s i) = true
   ·exact Evt.pos hv (h.cast (by simp [isT, hv]))
   ·exact Evt.neg hv (Evt.const (by simp [isT, hv, show ¬ (0 ≤ ltI (bt s i)) by omega]))
  ·exact Evt.neg hc (h.cast (by simp [isT, show 0 ≤ ltI (bt s i) by omega]))
theorem impl_IsTerm_ev (s : ByteArray) : Evt (fun k => impl_IsTerm.f k s) (isTm s) := by
 simp only [impl_IsTerm.f]
 by_cases h12 : (s.size : Int) > 12
 ·exact Evt.pos h12 (Evt.const (by simp [isTm, show ¬ s.size ≤ 12 by omega]))
 refine Evt.neg h12 ?_
 have h := Evt.up (fun k i => impl_IsTerm.l0 k s i) s.size (fun i => ((bytesOf s).drop i).all isT) ?_ ?_
 ·exact h.cast (by simp [isTm, show s.size ≤ 12 by omega])
 ·refine Evt.step ?_
  simp only [impl_IsTerm.l0]
  rw [List.drop_of_length_le (by rw [bytesOf_length]; omega)]
  exact Evt.neg (by omega) (Evt.ret _)
 ·intro i hi h
  refine Evt.step ?_
  simp only [impl_IsTerm.l0]
  refine Evt.pos (by omega) (Evt.pos (by omega) (Evt.bindc (impl_LetterIndex_eq (bt0 _ _) (bt255 _ _)) ?_))
  have hl : i < (bytesOf s).length := by rw [bytesOf_length]; exact hi
  rw [List.drop_eq_getElem_cons hl, ← bt_get s i hl, w64s (by omega)]
  by_cases hc : ltI (bt s i) < 0
  ·refine Evt.pos hc (Evt.bindc (impl_isVariable_eq (bt0 _ _) (bt255 _ _)) ?_)
   by_cases hv : isVr (bt s i) = true
   ·exact Evt.pos hv (h.cast (by simp [isT, hv]))
   ·exact Evt.neg hv (Evt.const (by simp [isT, hv, show ¬ (0 ≤ ltI (bt s i)) by omega]))
  ·exact Evt.neg hc (h.cast (by simp [isT, show 0 ≤ ltI (bt s i) by omega]))
end Go.Proofs.Ytpppopdmnejcfaa.F
namespace Go.Proofs.Ytpppopdmnejcfaa.F
open Go.RowKit Go.Proofs.YtpppopdmnejcfaaW.PrintWords Go.Proofs.Ytpppopdmnejcfaa.Pl Go.Proofs.Ytpppopdmnejcfaa.A Go.Proofs.Ytpppopdmnejcfaa.Ext
theorem impl_argsOf_ev (a : Int) : Evt (fun k => impl_argsOf.f k a) (if 1 ≤ a ∧ a ≤ 9 then (arN a : Int) else -1) := by
 refine ⟨3, fun k hk => ?_⟩
 obtain ⟨m, rfl⟩ : ∃ m, k = m + 3 := ⟨k - 3, by omega⟩
 have h : a = 1 ∨ a = 2 ∨ a = 3 ∨ a = 4 ∨ a = 5 ∨ a = 6 ∨ a = 7 ∨ a = 8 ∨ a = 9 ∨ ¬ (1 ≤ a ∧ a ≤ 9) := by omega
 rcases h with rfl | rfl | rfl | rfl | rfl | rfl | rfl | rfl | rfl | h
 all_goals first
  | simp [impl_argsOf.f, impl_argsOf.j0, impl_argsOf.j1, arN, -Int.reduceNeg]; done
  | skip
 rw [if_neg h]
 have e : ∀ c : Int, 1 ≤ c → c ≤ 9 → ¬ a = c := fun c h1 h2 h3 => h (by omega)
 have eb : ∀ c : Int, 1 ≤ c → c ≤ 9 → (a == c) = false := fun c h1 h2 => by simpa using e c h1 h2
 simp [impl_argsOf.f, impl_argsOf.j0, impl_argsOf.j1, e 1, e 2, e 3, e 4, e 5, e 6, e 7, e 8, e 9, eb 4, eb 9]
theorem impl_nodesOf_j0t (v a : Int) (b : ByteArray) (l : List S42) : Evt (fun k => impl_nodesOf.j0 k v true a b l) 17 := by
 refine Evt.step ?_
 simp only [impl_nodesOf.j0]
 exact Evt.pos trivial (Evt.ret _)
theorem impl_nodesOf_l0 (n : Nat) (hn : n ≤ 6) (l : List S42) (hl : l.length ≤ 2) (ih : ∀ x ∈ l, Evt (fun k => impl_nodesOf.f k x.f0 x.f1 x.f2 (n : Int)) ((nds n x : Nat) : Int)) :
  ∀ d i acc : Nat, i + d = l.length → acc ≤ 1 + 17 * i → Evt (fun k => impl_nodesOf.l0 k ((n + 1 : Nat) : Int) (acc : Int) l (l.length : Int) (i : Int)) ((min (acc + ((l.drop i).map (nds n)).sum) 17 : Nat) : Int) := by
 intro d
 induction d with
 | zero =>
  intro i acc hi ha
  refine Evt.step ?_
  simp only [impl_nodesOf.l0]
  refine Evt.neg (by omega) ((Evt.ret _).cast ?_)
  rw [List.drop_of_length_le (by omega)]
  simp only [mn, List.map_nil, List.sum_nil, Nat.add_zero]
  split <;> omega
 | succ d ihd =>
  intro i acc hi ha
  have hi' : i < l.length := by omega
  have hx := nds_le n l[i]
  refine Evt.step ?_
  simp only [impl_nodesOf.l0]
  rw [rxI_at l i hi', w64s (by omega), w64 (x := ((n + 1 : Nat) : Int) - 1) (by omega) (by omega), show ((n + 1 : Nat) : Int) - 1 = (n : Int) by omega]
  refine Evt.pos (by omega) (Evt.pos (by omega) (Evt.pos (by omega) (Evt.bind (ih _ (List.getElem_mem hi')) ?_)))
  rw [w64 (by omega) (by omega), show (acc : Int) + ((nds n l[i] : Nat) : Int) = ((acc + nds n l[i] : Nat) : Int) by omega]
  refine (ihd (i + 1) (acc + nds n l[i]) (by omega) (by omega)).cast ?_
  rw [List.drop_eq_getElem_cons hi', List.map_cons, List.sum_cons, Nat.add_assoc]
theorem impl_nodesOf_ev (n : Nat) : n ≤ 6 → ∀ x : S42, Evt (fun k => impl_nodesOf.f k x.f0 x.f1 x.f2 (n : Int)) ((nds n x : Nat) : Int) := by
 induction n with
 | zero =>
  intro _ x
  refine Evt.step ?_
  simp only [impl_nodesOf.f]
  exact Evt.pos (by omega) ((impl_nodesOf_j0t _ _ _ _).cast (by simp [nds]))
 | succ n ih =>
  intro hn x
  refine Evt.step ?_
  simp only [impl_nodesOf.f]
  refine Evt.neg (by omega) (Evt.bind (impl_argsOf_ev _) ?_)
  unfold nds
  by_cases hlen : (x.f2.length : Int) = (if 1 ≤ x.f0 ∧ x.f0 ≤ 9 then (arN x.f0 : Int) else -1)
  ·have e : ((x.f2.length : Int) != (if 1 ≤ x.f0 ∧ x.f0 ≤ 9 then (arN x.f0 : Int) else -1)) = false := by simp [hlen]
   rw [e]
   have hr : 1 ≤ x.f0 ∧ x.f0 ≤ 9 := by
    by_cases hr : 1 ≤ x.f0 ∧ x.f0 ≤ 9
    ·exact hr
    ·rw [if_neg hr] at hlen; omega
   rw [if_pos hr] at hlen
   have ha := arN_le x.f0
   have hj1 : Evt (fun k => impl_nodesOf.j1 k ((n + 1 : Nat) : Int) x.f0 x.f1 x.f2) ((min (1 + (x.f2.map (nds n)).sum) 17 : Nat) : Int) := by
    refine Evt.step ?_
    simp only [impl_nodesOf.j1]
    have := impl_nodesOf_l0 n (by omega) x.f2 (by omega) (fun y _ => ih (by omega) y) x.f2.length 0 1 (by omega) (by omega)
    simpa using this
   refine Evt.step ?_
   simp only [impl_nodesOf.j0]
   refine Evt.neg (by decide) ?_
   by_cases h3 : x.f0 = 3
   ·refine Evt.pos h3 ?_
    have h0 : x.f2.length = 0 := by rw [h3] at hlen; simp [arN] at hlen; simp [hlen]
    by_cases h1 : x.f1.size = 1
    ·refine Evt.pos (by omega) (Evt.bind (impl_IsWord_ev _ (by omega)) ?_)
     cases hw : isW x.f1 with
     | true => exact Evt.pos rfl (hj1.cast (by simp [kOk, h3, h1, hw, h0]))
     | false => exact Evt.neg (by decide) ((Evt.ret _).cast (by simp [kOk, h3, h1, hw]))
    ·exact Evt.neg (by omega) ((Evt.ret _).cast (by simp [kOk, h3, h1]))
   ·refine Evt.neg h3 ?_
    by_cases h1 : x.f1.size = 0
    ·have h4 : x.f2.length = arN x.f0 := by omega
     exact Evt.pos ((toList_nil_iff _).2 h1) (hj1.cast (by simp [kOk, h3, h1, hr, h4]))
    ·exact Evt.neg (fun h => h1 ((toList_nil_iff _).1 h)) ((Evt.ret _).cast (by simp [kOk, h3, h1]))
  ·have e : ((x.f2.length : Int) != (if 1 ≤ x.f0 ∧ x.f0 ≤ 9 then (arN x.f0 : Int) else -1)) = true := bne_iff_ne.mpr hlen
   rw [e]
   refine (impl_nodesOf_j0t _ _ _ _).cast ?_
   rw [if_neg]
   ·rfl
   ·intro hk
    have := kOk_len hk
    refine hlen ?_
    have hr : 1 ≤ x.f0 ∧ x.f0 ≤ 9 := by
     unfold kOk at hk
     split at hk
     ·omega
     ·simp at hk; exact hk.1.1
    rw [if_pos hr]; omega
theorem impl_IsValidRegex_ev (x : S42) : Evt (fun k => impl_IsValidRegex.f k x.f0 x.f1 x.f2) (decide (nds 6 x ≤ 16)) := by
 simp only [impl_IsValidRegex.f]
 refine Evt.bind (impl_nodesOf_ev 6 (Nat.le_refl _) x) ((Evt.ret _).cast ?_)
 have e : (((nds 6 x : Nat) : Int) ≤ 16) = (nds 6 x ≤ 16) := by apply propext; omega
 simp [e]
theorem spec_l3Left_ev (n : Nat) : ∀ x : S42, Ht n x → ∀ v : Int, 0 ≤ v → v ≤ 16 → ∃ r, Evt (fun k => spec_l3Left.f k x.f0 x.f1 x.f2 v) r ∧ r ≤ 16 ∧ (if (siz n x : Int) ≤ v then r = v - siz n x else r < 0) := by
 induction n with
 | zero => intro x h; exact h.elim
 | succ n ih =>
  rintro ⟨a, b, l⟩ ⟨hl, hm⟩ v h0 h1
  simp only at hl hm
  have hh : ∀ d i : Nat, i + d = l.length → ∀ u : Int, u ≤ 16 → ∃ r, Evt (fun k => spec_l3Left.l0 k u (i : Int) a b l) r ∧ r ≤ 16 ∧ (if ((((l.drop i).map (siz n)).sum : Nat) : Int) ≤ u then r = u - (((l.drop i).map (siz n)).sum : Nat) else r < 0) := by
   intro d
   induction d with
   | zero =>
    intro i hi u hu
    refine ⟨u, Evt.step ?_, hu, ?_⟩
    ·simp only [spec_l3Left.l0]
     exact Evt.neg (by omega) (Evt.ret _)
    ·rw [List.drop_of_length_le (by omega)]
     simp only [List.map_nil, List.sum_nil]
     split <;> omega
   | succ d ihd =>
    intro i hi u hu
    have hi' : i < l.length := by omega
    rw [List.drop_eq_getElem_cons hi', List.map_cons, List.sum_cons]
    by_cases hu0 : u ≥ 0
    ·obtain ⟨r, hr, hr', hc⟩ := ih l[i] (hm _ (List.getElem_mem hi')) u hu0 hu
     obtain ⟨r2, hr2, hr2', hc2⟩ := ihd (i + 1) (by omega) r hr'
     refine ⟨r2, Evt.step ?_, hr2', ?_⟩
     ·simp only [spec_l3Left.l0]
      rw [rxI_at l i hi', w64s (by omega)]
      exact Evt.pos (by omega) (Evt.pos hu0 (Evt.pos (by omega) (Evt.bind hr hr2)))
     ·generalize (((l.drop (i + 1)).map (siz n)).sum) = s at *
      generalize siz n l[i] = t at *
      split at hc <;> split at hc2 <;> split <;> omega
    ·refine ⟨u, Evt.step ?_, hu, ?_⟩
     ·simp only [spec_l3Left.l0]
      exact Evt.pos (by omega) (Evt.neg hu0 (Evt.ret _))
     ·rw [if_neg (by omega)]; omega
  obtain ⟨r, hr, hr', hc⟩ := hh l.length 0 (by omega) (v - 1) (by omega)
  refine ⟨r, Evt.step ?_, hr', ?_⟩
  ·simp only [spec_l3Left.f]
   rw [w64 (by omega) (by omega)]
   exact hr
  ·rw [List.drop_zero] at hc
   have e : siz (n + 1) (⟨a, b, l⟩ : S42) = 1 + (l.map (siz n)).sum := by simp [siz]
   by_cases hs : ((siz (n + 1) (⟨a, b, l⟩ : S42) : Nat) : Int) ≤ v
   ·rw [if_pos hs]
    rw [if_pos (by omega)] at hc
    omega
   ·rw [if_neg hs]
    rw [if_neg (by omega)] at hc
    exact hc
theorem mem_sum {n : Nat} (l : List S42) (y : S42) (h : y ∈ l) : siz n y ≤ (l.map (siz n)).sum := by
 induction l with
 | nil => cases h
 | cons x l ih =>
  rw [List.map_cons, List.sum_cons]
  rcases List.mem_cons.1 h with rfl | h
  ·omega
  ·have := ih h; omega
theorem spec_l3Depth_ev (n : Nat) : ∀ x : S42, Ht n x → siz n x ≤ 16 → Evt (fun k => spec_l3Depth.f k x.f0 x.f1 x.f2) (dep n x : Int) := by
 induction n with
 | zero => intro x h; exact h.elim
 | succ n ih =>
  rintro ⟨a, b, l⟩ ⟨hl, hm⟩ hs
  simp only at hl hm
  simp only [siz] at hs
  have hx : ∀ y ∈ l, siz n y ≤ 16 := by
   intro y hy
   have : siz n y ≤ (l.map (siz n)).sum := mem_sum l y hy
   omega
  have hh : ∀ d i : Nat, i + d = l.length → ∀ u : Nat, u ≤ 16 → Evt (fun k => spec_l3Depth.l0 k (u : Int) (i : Int) a b l) ((max u (((l.drop i).map (dep n)).foldr max 0) + 1 : Nat) : Int) := by
   intro d
   induction d with
   | zero =>
    intro i hi u hu
    refine Evt.step ?_
    simp only [spec_l3Depth.l0]
    rw [List.drop_of_length_le (by omega)]
    refine Evt.neg (by omega) ((Evt.ret _).cast ?_)
    rw [w64 (by omega) (by omega)]
    simp
   | succ d ihd =>
    intro i hi u hu
    have hi' : i < l.length := by omega
    have h1 := hx _ (List.getElem_mem hi')
    have h2 := dep_le_siz n l[i]
    refine Evt.step ?_
    simp only [spec_l3Depth.l0]
    rw [List.drop_eq_getElem_cons hi', List.map_cons, List.foldr_cons]
    rw [rxI_at l i hi', w64s (by omega)]
    refine Evt.pos (by omega) (Evt.pos (by omega) (Evt.bind (ih _ (hm _ (List.getElem_mem hi')) h1) (Evt.bindc (a := ((max u (dep n l[i]) : Nat) : Int)) ?_ ?_)))
    ·simp only [spec_l1Max.f]
     split
     ·congr 1; omega
     ·congr 1; omega
    ·refine (ihd (i + 1) (by omega) (max u (dep n l[i])) (by omega)).cast ?_
     congr 1
     generalize ((l.drop (i + 1)).map (dep n)).foldr max 0 = z
     omega
  refine Evt.step ?_
  simp only [spec_l3Depth.f]
  refine (hh l.length 0 (by omega) 0 (by omega)).cast ?_
  simp [dep]
theorem spec_l3Args_ev (a : Int) : Evt (fun k => spec_l3Args.f k a) (arN a : Int) := by
 refine ⟨1, fun k hk => ?_⟩
 obtain ⟨m, rfl⟩ : ∃ m, k = m + 1 := ⟨k - 1, by omega⟩
 have h : a = 5 ∨ a = 6 ∨ a = 7 ∨ a = 8 ∨ a = 9 ∨ (a ≠ 5 ∧ a ≠ 6 ∧ a ≠ 7 ∧ a ≠ 8 ∧ a ≠ 9) := by omega
 rcases h with rfl | rfl | rfl | rfl | rfl | ⟨h1, h2, h3, h4, h5⟩
 all_goals simp [spec_l3Args.f, spec_l3Args.j0, arN, *]
theorem spec_l3All_ev (n : Nat) : ∀ x : S42, Ht n x → Evt (fun k => spec_l3All.f k x.f0 x.f1 x.f2) (alls n x) := by
 induction n with
 | zero => intro x h; exact h.elim
 | succ n ih =>
  rintro ⟨a, b, l⟩ ⟨hl, hm⟩
  simp only at hl hm
  refine Evt.step ?_
  simp only [spec_l3All.f, alls]
  have hh := Evt.up (fun k i => spec_l3All.l0 k i a b l) l.length (fun i => (l.drop i).all (alls n) && kOk a b l.length) ?_ ?_
  ·simpa using hh
  ·refine Evt.step ?_
   simp only [spec_l3All.l0]
   rw [List.drop_of_length_le (by omega)]
   refine Evt.neg (by omega) ?_
   simp only [List.all_nil, Bool.true_and]
   unfold kOk
   by_cases h3 : a = 3
   ·rw [if_pos h3]
    refine Evt.pos h3 ?_
    by_cases h1 : b.size = 1
    ·refine Evt.pos (by omega) (Evt.bind (spec_IsWord_ev _ (by omega)) ?_)
     cases hw : isW b with
     | true =>
      refine Evt.pos rfl ((Evt.ret _).cast ?_)
      have e : ((l.length : Int) == 0) = decide (l.length = 0) := by rw [show ((l.length : Int) == 0) = decide ((l.length : Int) = 0) from rfl]; congr 1; apply propext; omega
      simp [h1, e]
     | false => exact Evt.neg (by decide) ((Evt.ret _).cast (by simp))
    ·exact Evt.neg (by omega) ((Evt.ret _).cast (by simp [h1]))
   ·rw [if_neg h3]
    refine Evt.neg h3 ?_
    by_cases hr : 1 ≤ a ∧ a ≤ 9
    ·refine Evt.bindc (a := true) (by simp [spec_l1In.f, hr.1, hr.2]) (Evt.pos rfl ?_)
     by_cases h1 : b.size = 0
     ·refine Evt.pos ((toList_nil_iff _).2 h1) (Evt.bind (spec_l3Args_ev _) ((Evt.ret _).cast ?_))
      have e : ((l.length : Int) == (arN a : Int)) = decide (l.length = arN a) := by rw [show ((l.length : Int) == (arN a : Int)) = decide ((l.length : Int) = (arN a : Int)) from rfl]; congr 1; apply propext; omega
      simp [h1, hr.1, hr.2, e]
     ·exact Evt.neg (fun h => h1 ((toList_nil_iff _).1 h)) ((Evt.ret _).cast (by simp [h1]))
    ·refine Evt.bindc (a := false) ?_ (Evt.neg (by decide) ((Evt.ret _).cast (by simp [hr])))
     simp only [spec_l1In.f]
     by_cases hr1 : a ≥ 1
     ·rw [if_pos hr1]; congr 1; simp; omega
     ·rw [if_neg hr1]
  ·intro i hi h
   refine Evt.step ?_
   simp only [spec_l3All.l0]
   rw [rxI_at l i hi, w64s (by omega), List.drop_eq_getElem_cons hi]
   refine Evt.pos (by omega) (Evt.pos (by omega) (Evt.bind (ih _ (hm _ (List.getElem_mem hi))) ?_))
   rw [List.all_cons]
   cases alls n l[i] with
   | true => exact Evt.pos rfl (h.cast (by simp))
   | false => exact Evt.neg (by decide) ((Evt.ret _).cast (by simp))
theorem spec_IsValidRegex_ev (x : S42) (h : Sm x) : Evt (fun k => spec_IsValidRegex.f k x.f0 x.f1 x.f2) (decide (nds 6 x ≤ 16)) := by
 obtain ⟨n, hn⟩ := h.ht
 rw [nds_eq n x 6 hn]
 simp only [spec_IsValidRegex.f]
 obtain ⟨r, hr, _, hc⟩ := spec_l3Left_ev n x hn 16 (by omega) (by omega)
 refine Evt.bind hr ?_
 by_cases h1 : siz n x ≤ 16
 ·rw [if_pos (by omega)] at hc
  refine Evt.pos (by omega) (Evt.bind (spec_l3Depth_ev n x hn h1) ?_)
  by_cases h2 : dep n x ≤ 6
  ·refine Evt.pos (by omega) (Evt.bind (spec_l3All_ev n x hn) ((Evt.ret _).cast ?_))
   cases ha : alls n x <;> simp [h1, h2]
  ·exact Evt.neg (by omega) ((Evt.ret _).cast (by simp [h2]))
 ·rw [if_neg (by omega)] at hc
  exact Evt.neg (by omega) ((Evt.ret _).cast (by simp [h1]))
end Go.Proofs.Ytpppopdmnejcfaa.F
namespace Go.Proofs.Ytpppopdmnejcfaa.F
open Go.RowKit Go.Proofs.YtpppopdmnejcfaaW.PrintWords Go.Proofs.Ytpppopdmnejcfaa.Pl Go.Proofs.Ytpppopdmnejcfaa.A Go.Proofs.Ytpppopdmnejcfaa.Ext
theorem eqRegex_ev (x : S42) (h : Sm x) : Evt (fun k => laws_eqRegex.f k x.f0 x.f1 x.f2 x.f0 x.f1 x.f2) true := by
 induction h with
 | mk a b l hl hs ih =>
  refine Evt.step ?_
  simp only [laws_eqRegex.f]
  refine Evt2.diag (g := fun i j => laws_eqRegexG.f (fun _ => laws_eqRegex.f i) j a b l a b l) ?_
  simp only [laws_eqRegexG.f, laws_eqRegexSG.f]
  refine Evt2.pos trivial (Evt2.pos trivial (Evt2.bind2 (a := true) (Evt2.pos trivial ?_) (Evt2.pos rfl (Evt2.ret _))))
  have hh : ∀ d i : Nat, i + d = l.length → Evt2 (fun p q => laws_eqRegexSG.l0 (fun _ => laws_eqRegex.f p) q l l (i : Int)) true := by
   intro d
   induction d with
   | zero =>
    intro i hi
    refine Evt2.step ?_
    simp only [laws_eqRegexSG.l0]
    exact Evt2.neg (by omega) (Evt2.ret _)
   | succ d ihd =>
    intro i hi
    have hi' : i < l.length := by omega
    refine Evt2.step ?_
    simp only [laws_eqRegexSG.l0]
    rw [rxI_at l i hi', w64s (by omega)]
    exact Evt2.pos (by omega) (Evt2.pos (by omega) (Evt2.pos (by omega) (Evt2.bind (ih _ (List.getElem_mem hi')) (Evt2.pos rfl (ihd (i + 1) (by omega))))))
  exact hh l.length 0 (by omega)
end Go.Proofs.Ytpppopdmnejcfaa.F
namespace Go.Proofs.Ytpppopdmnejcfaa.F
open Go.RowKit Go.Proofs.YtpppopdmnejcfaaW.PrintWords Go.Proofs.Ytpppopdmnejcfaa.Pl Go.Proofs.Ytpppopdmnejcfaa.A
theorem szIntS_eq (l : List Int) (a : Int) (ha : -1 ≤ a) (ha' : a ≤ 1048576) (hl : l.length ≤ 9223372036854775807) :
  ∃ t, laws_szIntS.f l a = some t ∧ (t = -1 ∨ (0 ≤ t ∧ t = a - l.length)) := by
 unfold laws_szIntS.f
 rw [w64_sub ha ha' hl]
 by_cases h1 : a - l.length < 0
 ·exact ⟨-1, by rw [if_pos h1], .inl rfl⟩
 ·rw [if_neg h1]; exact ⟨_, rfl, .inr ⟨by omega, rfl⟩⟩
theorem set_next (l : List Int) (i n : Nat) (hn : l.length = n) (hi : i < n) : (l.take i ++ List.replicate (n - i) 0).set i (rd l (i : Int)) = l.take (i + 1) ++ List.replicate (n - (i + 1)) 0 := by
 have hl : (l.take i).length = i := by rw [List.length_take]; omega
 have e : rd l (i : Int) = l[i] := by simp [rd, show i < l.length by omega]
 rw [List.set_append_right _ _ (by omega), hl, Nat.sub_self, show n - i = (n - (i + 1)) + 1 by omega, List.replicate_succ, List.set_cons_zero, List.take_succ_eq_append_getElem (by omega), e, List.append_assoc]
 rfl
theorem toIntS_ev (l : List Int) (hl : l.length ≤ 35184372088832) : Evt (fun k => laws_toIntS.f k l) l := by
 simp only [laws_toIntS.f]
 refine Evt.pos (by omega) (Evt.pos (by omega) ?_)
 rw [Int.toNat_natCast]
 have h : ∀ d i : Nat, i + d = l.length → Evt (fun k => laws_toIntS.l0 k l (l.take i ++ List.replicate (l.length - i) 0) (i : Int)) l := by
  intro d
  induction d with
  | zero =>
   intro i hi
   refine Evt.step ?_
   simp only [laws_toIntS.l0]
   refine Evt.neg (by omega) (Evt.const ?_)
   obtain rfl : i = l.length := by omega
   simp
  | succ d ih =>
   intro i hi
   refine Evt.step ?_
   simp only [laws_toIntS.l0]
   rw [w64s (by omega), Int.toNat_natCast, set_next l i l.length rfl (by omega)]
   exact Evt.pos (by omega) (Evt.pos (by omega) (Evt.pos (by simp; omega) (ih (i + 1) (by omega))))
 simpa using h l.length 0 (by omega)
theorem eqIntS_ev (l l' : List Int) (hl : l.length ≤ 9223372036854775807) : Evt (fun k => laws_eqIntS.f k l l') (decide (l = l')) := by
 simp only [laws_eqIntS.f]
 by_cases he : l.length = l'.length
 ·refine Evt.pos (by omega) ?_
  have h := Evt.up (fun k i => laws_eqIntS.l0 k l l' i) l.length (fun i => decide (l.drop i = l'.drop i)) ?_ ?_
  ·simpa using h
  ·refine Evt.step ?_
   simp only [laws_eqIntS.l0]
   refine Evt.neg (by omega) (Evt.const ?_)
   rw [List.drop_of_length_le (Nat.le_refl _), List.drop_of_length_le (by omega)]
   rfl
  ·intro i hi h
   refine Evt.step ?_
   simp only [laws_eqIntS.l0]
   have hi' : i < l'.length := by omega
   refine Evt.pos (by omega) (Evt.pos (by omega) (Evt.pos (by omega) ?_))
   rw [List.drop_eq_getElem_cons hi, List.drop_eq_getElem_cons hi', w64s (by omega)]
   have e1 : rd l (i : Int) = l[i] := by simp [rd, hi]
   have e2 : rd l' (i : Int) = l'[i] := by simp [rd, hi']
   rw [e1, e2]
   by_cases hc : l[i] = l'[i]
   ·exact Evt.pos hc (h.cast (by rw [hc]; simp only [List.cons.injEq, true_and]))
   ·exact Evt.neg hc (Evt.const (by rw [decide_eq_false (fun e => hc (List.cons.inj e).1)]))
 ·refine Evt.neg (by omega) (Evt.const ?_)
  have : l ≠ l' := fun e => he (by rw [e])
  simp [this]
end Go.Proofs.Ytpppopdmnejcfaa.F
namespace Go.Proofs.Ytpppopdmnejcfaa.F
open Go.RowKit Go.Proofs.YtpppopdmnejcfaaW.PrintWords Go.Proofs.Ytpppopdmnejcfaa.Pl Go.Proofs.Ytpppopdmnejcfaa.A Go.Proofs.Ytpppopdmnejcfaa.Ext
def CpC (a : Int) (b c : ByteArray) (d : Int) (e : ByteArray) (l : List S34) (m : List Int) (n : Int) (y : List S42) : Prop :=
 Sm ⟨d, e, y⟩ ∧ m.length ≤ 1048576 ∧ Evt (fun k => laws_toConstraint.f k a b c d e l m n) (a, b, c, d, e, y, m, n)
theorem szConstraint_ev (a : Int) (b c : ByteArray) (d : Int) (e : ByteArray) (l : List S34) (m : List Int) (n : Int) (N : Nat) (v : Int) (hv : 0 ≤ v) (hv' : v ≤ 1048576) (hb : b.size ≤ 9223372036854775807) (hc : c.size ≤ 9223372036854775807) (hr : RxOk N ⟨d, e, l⟩) (hm : m.length ≤ 9223372036854775807) :
  ∃ t, Evt (fun k => laws_szConstraint.f k a b c d e l m n v) t ∧ (t = -1 ∨ (0 ≤ t ∧ t ≤ v ∧ ∃ y, CpC a b c d e l m n y)) := by
 simp only [laws_szConstraint.f]
 rw [w64_sub (by omega) (by omega) hb]
 by_cases c1 : v - b.size < 0
 ·exact ⟨-1, Evt.pos c1 (Evt.ret _), .inl rfl⟩
 rw [w64_sub (by omega) (by omega) hc]
 by_cases c2 : v - b.size - c.size < 0
 ·exact ⟨-1, Evt.neg c1 (Evt.pos c2 (Evt.ret _)), .inl rfl⟩
 obtain ⟨t, ht, h1⟩ := szRegex_ev N ⟨d, e, l⟩ hr (v - b.size - c.size) (by omega) (by omega)
 simp only at ht
 rcases h1 with rfl | ⟨h1, h2, h3⟩
 ·exact ⟨-1, Evt.neg c1 (Evt.neg c2 (Evt.bind ht (Evt.pos (by decide) (Evt.ret _)))), .inl rfl⟩
 obtain ⟨u, hu, h4⟩ := szIntS_eq m t (by omega) (by omega) hm
 rcases h4 with rfl | ⟨h4, h5⟩
 ·exact ⟨-1, Evt.neg c1 (Evt.neg c2 (Evt.bind ht (Evt.neg (by omega) (Evt.bindc hu (Evt.pos (by decide) (Evt.ret _)))))), .inl rfl⟩
 refine ⟨u, Evt.neg c1 (Evt.neg c2 (Evt.bind ht (Evt.neg (by omega) (Evt.bindc hu (Evt.neg (by omega) (Evt.ret _)))))), .inr ⟨h4, by omega, ?_⟩⟩
 obtain ⟨⟨d', e', y⟩, hs, he⟩ := h3
 simp only at he
 have hde : d' = d ∧ e' = e := by
  obtain ⟨K, hK⟩ := he
  have h6 := hK (K + 1) (by omega)
  simp only [laws_toRegex.f, laws_toRegexG.f] at h6
  obtain ⟨z, _, h7⟩ := Option.bind_eq_some_iff.mp h6
  simp only [Option.some.injEq, Prod.mk.injEq] at h7
  exact ⟨h7.1.symm, h7.2.1.symm⟩
 obtain ⟨rfl, rfl⟩ := hde
 refine ⟨y, hs, by omega, ?_⟩
 simp only [laws_toConstraint.f]
 exact Evt.bind he (Evt.bind (toIntS_ev m (by omega)) (Evt.ret _))
theorem eqConstraint_ev (a : Int) (b c : ByteArray) (d : Int) (e : ByteArray) (y : List S42) (m : List Int) (n : Int) (hy : Sm ⟨d, e, y⟩) (hm : m.length ≤ 1048576) : Evt (fun k => laws_eqConstraint.f k a b c d e y m n a b c d e y m n) true := by
 simp only [laws_eqConstraint.f]
 exact Evt.pos trivial (Evt.pos trivial (Evt.pos trivial (Evt.bind (eqRegex_ev _ hy) (Evt.pos rfl (Evt.bind (eqIntS_ev m m (by omega)) (Evt.pos (by simp) (Evt.pos trivial (Evt.ret _))))))))
end Go.Proofs.Ytpppopdmnejcfaa.F
namespace Go.Proofs.Ytpppopdmnejcfaa.F
open Go.RowKit Go.Proofs.YtpppopdmnejcfaaW.PrintWords Go.Proofs.Ytpppopdmnejcfaa.Pl Go.Proofs.Ytpppopdmnejcfaa.A Go.Proofs.Ytpppopdmnejcfaa.Ext
theorem csL_at (l : List S37) (i : Nat) (h : i < l.length) : rd_T37 l (i : Int) = l[i] := by simp [rd_T37, h]
theorem csI_at (l : List S44) (i : Nat) (h : i < l.length) : rd_T44 l (i : Int) = l[i] := by simp [rd_T44, h]
theorem rxL_eta (y : S34) : (⟨y.f0, y.f1, y.f2⟩ : S34) = y := by cases y; rfl
def CsOk (x : S37) : Prop := x.f1.size ≤ 9223372036854775807 ∧ x.f2.size ≤ 9223372036854775807 ∧ (∃ n, RxOk n x.f3) ∧ x.f4.length ≤ 9223372036854775807
def CsSm (y : S44) : Prop := Sm y.f3 ∧ y.f4.length ≤ 1048576 ∧ y.f1.size ≤ 1048576 ∧ y.f2.size ≤ 1048576
def CpK (x : S37) (y : S44) : Prop := CsSm y ∧ Evt (fun k => laws_toConstraint.f k x.f0 x.f1 x.f2 x.f3.f0 x.f3.f1 x.f3.f2 x.f4 x.f5) (y.f0, y.f1, y.f2, y.f3.f0, y.f3.f1, y.f3.f2, y.f4, y.f5)
theorem csI_eta (y : S44) : (⟨y.f0, y.f1, y.f2, (⟨y.f3.f0, y.f3.f1, y.f3.f2⟩ : S42), y.f4, y.f5⟩ : S44) = y := by
 have h := rx_eta y.f3
 rw [h]
theorem szCs_ev (x : S37) (h : CsOk x) (v : Int) (hv : 0 ≤ v) (hv' : v ≤ 1048576) : ∃ t, Evt (fun k => laws_szConstraint.f k x.f0 x.f1 x.f2 x.f3.f0 x.f3.f1 x.f3.f2 x.f4 x.f5 v) t ∧ (t = -1 ∨ (0 ≤ t ∧ t ≤ v ∧ ∃ y, CpK x y)) := by
 obtain ⟨h1, h2, ⟨N, h3⟩, h4⟩ := h
 by_cases c1 : v - x.f1.size < 0
 ·refine ⟨-1, ?_, .inl rfl⟩
  simp only [laws_szConstraint.f]
  rw [w64_sub (by omega) (by omega) h1]
  exact Evt.pos c1 (Evt.ret _)
 by_cases c2 : v - x.f1.size - x.f2.size < 0
 ·refine ⟨-1, ?_, .inl rfl⟩
  simp only [laws_szConstraint.f]
  rw [w64_sub (by omega) (by omega) h1, w64_sub (by omega) (by omega) h2]
  exact Evt.neg c1 (Evt.pos c2 (Evt.ret _))
 obtain ⟨t, ht, hc⟩ := szConstraint_ev x.f0 x.f1 x.f2 x.f3.f0 x.f3.f1 x.f3.f2 x.f4 x.f5 N v hv hv' h1 h2 (by rw [rxL_eta]; exact h3) h4
 refine ⟨t, ht, hc.imp id ?_⟩
 rintro ⟨g1, g2, y, y1, y2, y3⟩
 exact ⟨g1, g2, ⟨x.f0, x.f1, x.f2, ⟨x.f3.f0, x.f3.f1, y⟩, x.f4, x.f5⟩, ⟨y1, y2, show x.f1.size ≤ 1048576 by omega, show x.f2.size ≤ 1048576 by omega⟩, y3⟩
theorem copiesK (l : List S37) (h : ∀ x ∈ l, ∃ y, CpK x y) : ∃ ys : List S44, ys.length = l.length ∧ ∀ (i : Nat) (h : i < l.length) (h' : i < ys.length), CpK l[i] ys[i] := by
 induction l with
 | nil => exact ⟨[], rfl, fun i h => absurd h (by simp)⟩
 | cons x l ih =>
  obtain ⟨y, hy⟩ := h x (by simp)
  obtain ⟨ys, h1, h2⟩ := ih (fun z hz => h z (by simp [hz]))
  refine ⟨y :: ys, by simp [h1], fun i hi hi' => ?_⟩
  cases i with
  | zero => exact hy
  | succ i => exact h2 i (by simpa using hi) (by simpa using hi')
def CpL (l : List S37) (ys : List S44) : Prop := ys.length ≤ 1048576 ∧ (∀ y ∈ ys, CsSm y) ∧ Evt (fun k => laws_toConstraintS.f k l) ys
theorem toCsS_ev (l : List S37) (hl : l.length ≤ 1048576) (h : ∀ x ∈ l, ∃ y, CpK x y) : ∃ ys, CpL l ys := by
 obtain ⟨ys, e, hc⟩ := copiesK l h
 refine ⟨ys, by omega, fun y hy => ?_, ?_⟩
 ·obtain ⟨i, hi, rfl⟩ := List.mem_iff_getElem.1 hy
  exact (hc i (by omega) hi).1
 ·simp only [laws_toConstraintS.f]
  refine Evt.pos (by omega) (Evt.pos (by omega) ?_)
  rw [Int.toNat_natCast]
  have hh : ∀ d i : Nat, i + d = l.length → Evt (fun k => laws_toConstraintS.l0 k l (ys.take i ++ List.replicate (l.length - i) z44) (i : Int)) ys := by
   intro d
   induction d with
   | zero =>
    intro i hi
    refine Evt.step ?_
    simp only [laws_toConstraintS.l0]
    refine Evt.neg (by omega) ((Evt.ret _).cast ?_)
    rw [show l.length - i = 0 by omega, List.take_of_length_le (by omega)]
    simp
   | succ d ih =>
    intro i hi
    have hi' : i < l.length := by omega
    refine Evt.step ?_
    simp only [laws_toConstraintS.l0]
    rw [csL_at l i hi']
    refine Evt.pos (by omega) (Evt.pos (by omega) (Evt.bind (hc i hi' (by omega)).2 (Evt.pos (by simp; omega) ?_)))
    rw [Int.toNat_natCast, w64s (by omega)]
    have hx : (ys.take i).length = i := by rw [List.length_take]; omega
    have e2 : (ys.take i ++ List.replicate (l.length - i) z44).set i (ys[i]'(by omega)) = ys.take (i + 1) ++ List.replicate (l.length - (i + 1)) z44 := by
     rw [List.set_append_right _ _ (by omega), hx, Nat.sub_self, show l.length - i = (l.length - (i + 1)) + 1 by omega, List.replicate_succ, List.set_cons_zero, List.take_succ_eq_append_getElem (by omega), List.append_assoc]
     rfl
    simp only [csI_eta, e2]
    exact ih (i + 1) (by omega)
  simpa using hh l.length 0 (by omega)
theorem szCsS_ev (l : List S37) (hl : l.length ≤ 9223372036854775807) (h : ∀ x ∈ l, CsOk x) (v : Int) (hv : 0 ≤ v) (hv' : v ≤ 1048576) : ∃ t, Evt (fun k => laws_szConstraintS.f k l v) t ∧ (t = -1 ∨ (0 ≤ t ∧ t ≤ v ∧ ∃ ys, CpL l ys)) := by
 simp only [laws_szConstraintS.f]
 rw [w64_sub (by omega) hv' hl]
 by_cases h1 : v - l.length < 0
 ·exact ⟨-1, Evt.pos h1 (Evt.ret _), .inl rfl⟩
 have hh : ∀ d i : Nat, i + d = l.length → ∀ b : Int, 0 ≤ b → b ≤ 1048576 → ∃ t, Evt (fun k => laws_szConstraintS.l0 k l b (i : Int)) t ∧ (t = -1 ∨ (0 ≤ t ∧ t ≤ b ∧ ∀ x ∈ l.drop i, ∃ y, CpK x y)) := by
  intro d
  induction d with
  | zero =>
   intro i hi b hb hb'
   refine ⟨b, Evt.step ?_, .inr ⟨hb, Int.le_refl _, ?_⟩⟩
   ·simp only [laws_szConstraintS.l0]
    exact Evt.neg (by omega) (Evt.ret _)
   ·rw [List.drop_of_length_le (by omega)]
    intro x hx
    cases hx
  | succ d ih =>
   intro i hi b hb hb'
   have hi' : i < l.length := by omega
   obtain ⟨t, ht, hc⟩ := szCs_ev l[i] (h _ (List.getElem_mem hi')) b hb hb'
   by_cases h2 : t < 0
   ·refine ⟨-1, Evt.step ?_, .inl rfl⟩
    simp only [laws_szConstraintS.l0]
    rw [csL_at l i hi']
    exact Evt.pos (by omega) (Evt.pos (by omega) (Evt.bind ht (Evt.pos h2 (Evt.ret _))))
   ·have hc' := hc.resolve_left (by omega)
    obtain ⟨t', ht', hc2⟩ := ih (i + 1) (by omega) t (by omega) (by omega)
    refine ⟨t', Evt.step ?_, ?_⟩
    ·simp only [laws_szConstraintS.l0]
     rw [csL_at l i hi', w64s (by omega)]
     exact Evt.pos (by omega) (Evt.pos (by omega) (Evt.bind ht (Evt.neg h2 ht')))
    ·rcases hc2 with h3 | ⟨h3, h4, h5⟩
     ·exact .inl h3
     ·refine .inr ⟨h3, by omega, ?_⟩
      rw [List.drop_eq_getElem_cons hi']
      intro x hx
      rcases List.mem_cons.1 hx with rfl | hx
      ·exact hc'.2.2
      ·exact h5 x hx
 obtain ⟨t, ht, hc⟩ := hh l.length 0 (by omega) (v - l.length) (by omega) (by omega)
 refine ⟨t, Evt.neg h1 ht, hc.imp id ?_⟩
 rintro ⟨g1, g2, g3⟩
 exact ⟨g1, by omega, toCsS_ev l (by omega) (by simpa using g3)⟩
theorem eqCsS_ev (ys : List S44) (hl : ys.length ≤ 1048576) (h : ∀ y ∈ ys, CsSm y) : Evt (fun k => laws_eqConstraintS.f k ys ys) true := by
 simp only [laws_eqConstraintS.f]
 refine Evt.pos trivial ?_
 have hh := Evt.up (fun k i => laws_eqConstraintS.l0 k ys ys i) ys.length (fun _ => true) ?_ ?_
 ·exact hh
 ·refine Evt.step ?_
  simp only [laws_eqConstraintS.l0]
  exact Evt.neg (by omega) (Evt.ret _)
 ·intro i hi ih
  refine Evt.step ?_
  simp only [laws_eqConstraintS.l0]
  rw [csI_at ys i hi, w64s (by omega)]
  obtain ⟨g1, g2, _, _⟩ := h _ (List.getElem_mem hi)
  exact Evt.pos (by omega) (Evt.pos (by omega) (Evt.pos (by omega) (Evt.bind (eqConstraint_ev _ _ _ _ _ _ _ _ (by rw [rx_eta]; exact g1) g2) (Evt.pos rfl ih))))
end Go.Proofs.Ytpppopdmnejcfaa.F
namespace Go.Proofs.Ytpppopdmnejcfaa.F
open Go.RowKit Go.Proofs.YtpppopdmnejcfaaW.PrintWords Go.Proofs.Ytpppopdmnejcfaa.Pl Go.Proofs.Ytpppopdmnejcfaa.A Go.Proofs.Ytpppopdmnejcfaa.Ext
def zR (d : Int) (e : ByteArray) (l : List S42) : Bool := decide (d = 0) && decide (e.size = 0) && ((l.length : Int) == 0)
theorem spec_l9Zero_eq (d : Int) (e : ByteArray) (l : List S42) : spec_l9Zero.f d e l = some (zR d e l) := by
 unfold spec_l9Zero.f zR
 by_cases h1 : d = 0
 ·by_cases h2 : e.size = 0
  ·rw [if_pos h1, if_pos ((toList_nil_iff _).2 h2)]; simp [h1, h2]
  ·rw [if_pos h1, if_neg (fun h => h2 ((toList_nil_iff _).1 h))]; simp [h2]
 ·rw [if_neg h1]; simp [h1]
theorem impl_isZeroRegex_eq (d : Int) (e : ByteArray) (l : List S42) : impl_isZeroRegex.f d e l = some (zR d e l) := by
 unfold impl_isZeroRegex.f zR
 by_cases h1 : d = 0
 ·by_cases h2 : e.size = 0
  ·rw [if_pos h1, if_pos ((toList_nil_iff _).2 h2)]; simp [h1, h2]
  ·rw [if_pos h1, if_neg (fun h => h2 ((toList_nil_iff _).1 h))]; simp [h2]
 ·rw [if_neg h1]; simp [h1]
def inR (a lo hi : Int) : Bool := decide (lo ≤ a ∧ a ≤ hi)
theorem spec_l1In_eq (a lo hi : Int) : spec_l1In.f a lo hi = some (inR a lo hi) := by
 unfold spec_l1In.f inR
 by_cases h : a ≥ lo
 ·rw [if_pos h]; congr 1; simp [show lo ≤ a from h]
 ·rw [if_neg h]; congr 1; simp; omega
theorem impl_within_eq (a lo hi : Int) : impl_within.f a lo hi = some (inR a lo hi) := by
 unfold impl_within.f inR
 by_cases h : a ≥ lo
 ·rw [if_pos h]; congr 1; simp [show lo ≤ a from h]
 ·rw [if_neg h]; congr 1; simp; omega
def cfs (m : List Int) : Bool := m.all fun c => inR c (-9) 9
theorem rdI_at (m : List Int) (i : Nat) (h : i < m.length) : rd m (i : Int) = m[i] := by simp [rd, h]
theorem spec_l9Coeffs_ev (m : List Int) (hm : m.length ≤ 1048576) : Evt (fun k => spec_l9Coeffs.f k m) (cfs m && ((m.length : Int) == 3)) := by
 have h := Evt.up (fun k i => spec_l9Coeffs.l0 k m i) m.length (fun i => cfs (m.drop i) && ((m.length : Int) == 3)) ?_ ?_
 ·simpa [spec_l9Coeffs.f] using h
 ·refine Evt.step ?_
  simp only [spec_l9Coeffs.l0]
  rw [List.drop_of_length_le (by omega)]
  exact Evt.neg (by omega) ((Evt.ret _).cast (by simp [cfs]))
 ·intro i hi h
  refine Evt.step ?_
  simp only [spec_l9Coeffs.l0]
  rw [rdI_at m i hi, w64s (by omega), List.drop_eq_getElem_cons hi]
  refine Evt.pos (by omega) (Evt.pos (by omega) (Evt.bindc (spec_l1In_eq _ _ _) ?_))
  have e : cfs (m[i] :: m.drop (i + 1)) = (inR m[i] (-9) 9 && cfs (m.drop (i + 1))) := rfl
  rw [e]
  cases inR m[i] (-9) 9 with
  | true => exact Evt.pos rfl (h.cast (by simp))
  | false => exact Evt.neg (by decide) ((Evt.ret _).cast (by simp))
theorem impl_coeffs_ev (m : List Int) (hm : m.length ≤ 1048576) : Evt (fun k => slices_ContainsFunc_int_int_97.f k m) (!cfs m) := by
 simp only [slices_ContainsFunc_int_int_97.f, slices_IndexFunc_int_int_169.f]
 have h : ∀ d i : Nat, i + d = m.length → ∃ r, Evt (fun k => slices_IndexFunc_int_int_169.l0 k m (m.length : Int) (i : Int)) r ∧ decide (r ≥ 0) = !cfs (m.drop i) := by
  intro d
  induction d with
  | zero =>
   intro i hi
   refine ⟨-1, Evt.step ?_, ?_⟩
   ·simp only [slices_IndexFunc_int_int_169.l0]
    exact Evt.neg (by omega) (Evt.ret _)
   ·rw [List.drop_of_length_le (by omega)]; rfl
  | succ d ih =>
   intro i hi
   have hi' : i < m.length := by omega
   have e : cfs (m[i] :: m.drop (i + 1)) = (inR m[i] (-9) 9 && cfs (m.drop (i + 1))) := rfl
   rw [List.drop_eq_getElem_cons hi', e]
   obtain ⟨r, hr, hc⟩ := ih (i + 1) (by omega)
   cases hq : inR m[i] (-9) 9 with
   | true =>
    refine ⟨r, Evt.step ?_, by simpa using hc⟩
    simp only [slices_IndexFunc_int_int_169.l0, impl_IsValidConstraint_1.f]
    rw [rdI_at m i hi', w64s (by omega)]
    exact Evt.pos (by omega) (Evt.pos (by omega) (Evt.pos (by omega) (Evt.bind (Evt.bindc (impl_within_eq _ _ _) (Evt.ret _)) (Evt.neg (by simp [hq]) hr))))
   | false =>
    refine ⟨(i : Int), Evt.step ?_, by simp⟩
    simp only [slices_IndexFunc_int_int_169.l0, impl_IsValidConstraint_1.f]
    rw [rdI_at m i hi']
    exact Evt.pos (by omega) (Evt.pos (by omega) (Evt.pos (by omega) (Evt.bind (Evt.bindc (impl_within_eq _ _ _) (Evt.ret _)) (Evt.pos (by simp [hq]) (Evt.ret _)))))
 obtain ⟨r, hr, hc⟩ := h m.length 0 (by omega)
 exact Evt.bind hr ((Evt.ret _).cast (by rw [hc]; rfl))
def valX (x : Bool) (a : Int) (b c : ByteArray) (d : Int) (e : ByteArray) (l : List S42) (m : List Int) (n : Int) : Bool :=
 if a = 1 ∨ a = 2 then isTm b && (isTm c && (zR d e l && x))
 else if a = 3 ∨ a = 4 then isTm b && (decide (c.size = 0) && (decide (nds 6 ⟨d, e, l⟩ ≤ 16) && x))
 else if a = 5 then decide (b.size = 0) && (decide (c.size = 0) && (zR d e l && ((cfs m && ((m.length : Int) == 3)) && inR n (-99) 99)))
 else false
def valC (a : Int) (b c : ByteArray) (d : Int) (e : ByteArray) (l : List S42) (m : List Int) (n : Int) : Bool :=
 valX (decide (m.length = 0) && (n == 0)) a b c d e l m n
section
variable {a : Int} {b c : ByteArray} {d : Int} {e : ByteArray} {l : List S42} {m : List Int} {n : Int}
theorem and_ev {g h : Nat → Option Bool} {p q : Bool} (hg : Evt g p) (hh : p = true → Evt h q) : Evt (fun k => (g k).bind fun t => if t = true then h k else some false) (p && q) := by
 refine Evt.bind hg ?_
 cases p with
 | true => exact Evt.pos rfl ((hh rfl).cast (by simp))
 | false => exact Evt.neg (by decide) ((Evt.ret _).cast (by simp))
theorem nil_ev {s : ByteArray} {h : Nat → Option Bool} {q : Bool} (hh : s.size = 0 → Evt h q) : Evt (fun k => if s.toList = ([] : List UInt8) then h k else some false) (decide (s.size = 0) && q) := by
 by_cases hs : s.size = 0
 ·exact Evt.pos ((toList_nil_iff _).2 hs) ((hh hs).cast (by simp [hs]))
 ·exact Evt.neg (fun h => hs ((toList_nil_iff _).1 h)) ((Evt.ret _).cast (by simp [hs]))
theorem last_ev {g : Nat → Option Bool} {p : Bool} (hg : Evt g p) : Evt (fun k => (g k).bind fun t => some t) p := Evt.bind hg (Evt.ret _)
theorem spec_j1t (x : Bool) (v : Int) (hb : b.size ≤ 9223372036854775807) (hc : c.size ≤ 9223372036854775807) : Evt (fun k => spec_IsValidConstraint.j1 k x v true a b c d e l m n) (isTm b && (isTm c && (zR d e l && x))) := by
 refine Evt.step ?_
 simp only [spec_IsValidConstraint.j1]
 exact Evt.pos trivial (and_ev (spec_IsTerm_ev b hb) fun _ => and_ev (spec_IsTerm_ev c hc) fun _ => and_ev (Evt.const (spec_l9Zero_eq d e l)) fun _ => Evt.ret _)
theorem spec_j2t (x : Bool) (v : Int) (hb : b.size ≤ 9223372036854775807) (hr : Sm ⟨d, e, l⟩) : Evt (fun k => spec_IsValidConstraint.j2 k x v true a b c d e l m n) (isTm b && (decide (c.size = 0) && (decide (nds 6 ⟨d, e, l⟩ ≤ 16) && x))) := by
 refine Evt.step ?_
 simp only [spec_IsValidConstraint.j2]
 exact Evt.pos trivial (and_ev (spec_IsTerm_ev b hb) fun _ => nil_ev fun _ => and_ev (spec_IsValidRegex_ev ⟨d, e, l⟩ hr) fun _ => Evt.ret _)
theorem spec_IsValidConstraint_ev (hb : b.size ≤ 9223372036854775807) (hc : c.size ≤ 9223372036854775807) (hr : Sm ⟨d, e, l⟩) (hm : m.length ≤ 1048576) : Evt (fun k => spec_IsValidConstraint.f k a b c d e l m n) (valC a b c d e l m n) := by
 have hj : ∀ x : Bool, Evt (fun k => spec_IsValidConstraint.j0 k x a b c d e l m n) (valX x a b c d e l m n) := by
  intro x
  refine Evt.step ?_
  simp only [spec_IsValidConstraint.j0]
  unfold valX
  by_cases h1 : a = 1
  ·subst h1; exact Evt.pos rfl ((spec_j1t x _ hb hc).cast (by simp))
  refine Evt.neg h1 ?_
  by_cases h2 : a = 2
  ·subst h2; exact (spec_j1t x _ hb hc).cast (by simp)
  rw [show (a == 2) = false by simpa using h2, if_neg (by omega)]
  refine Evt.step ?_
  simp only [spec_IsValidConstraint.j1]
  refine Evt.neg (by decide) ?_
  by_cases h3 : a = 3
  ·subst h3; exact Evt.pos rfl ((spec_j2t x _ hb hr).cast (by simp))
  refine Evt.neg h3 ?_
  by_cases h4 : a = 4
  ·subst h4; exact (spec_j2t x _ hb hr).cast (by simp)
  rw [show (a == 4) = false by simpa using h4, if_neg (by omega)]
  refine Evt.step ?_
  simp only [spec_IsValidConstraint.j2]
  refine Evt.neg (by decide) ?_
  by_cases h5 : a = 5
  ·rw [if_pos h5]
   exact Evt.pos h5 (nil_ev fun _ => nil_ev fun _ => and_ev (Evt.const (spec_l9Zero_eq d e l)) fun _ => and_ev (spec_l9Coeffs_ev m hm) fun _ => last_ev (Evt.const (spec_l1In_eq _ _ _)))
  ·rw [if_neg h5]
   exact Evt.neg h5 (Evt.ret _)
 simp only [spec_IsValidConstraint.f]
 unfold valC
 by_cases h0 : m.length = 0
 ·exact Evt.pos (by omega) ((hj _).cast (by simp [h0]))
 ·exact Evt.neg (by omega) ((hj _).cast (by simp [h0]))
theorem impl_j1t (v : Int) : Evt (fun k => impl_IsValidConstraint.j1 k v true a b c d e l m n) (isTm b && (isTm c && (zR d e l))) := by
 refine Evt.step ?_
 simp only [impl_IsValidConstraint.j1]
 exact Evt.pos trivial (and_ev (impl_IsTerm_ev b) fun _ => and_ev (impl_IsTerm_ev c) fun _ => last_ev (Evt.const (impl_isZeroRegex_eq d e l)))
theorem impl_j2t (v : Int) : Evt (fun k => impl_IsValidConstraint.j2 k v true a b c d e l m n) (isTm b && (decide (c.size = 0) && (decide (nds 6 ⟨d, e, l⟩ ≤ 16)))) := by
 refine Evt.step ?_
 simp only [impl_IsValidConstraint.j2]
 exact Evt.pos trivial (and_ev (impl_IsTerm_ev b) fun _ => nil_ev fun _ => last_ev (impl_IsValidRegex_ev ⟨d, e, l⟩))
theorem impl_j0t : Evt (fun k => impl_IsValidConstraint.j0 k true a b c d e l m n) false := by
 refine Evt.step ?_
 simp only [impl_IsValidConstraint.j0]
 exact Evt.pos trivial (Evt.ret _)
theorem impl_IsValidConstraint_ev (hm : m.length ≤ 1048576) : Evt (fun k => impl_IsValidConstraint.f k a b c d e l m n) (valC a b c d e l m n) := by
 have hj : Evt (fun k => impl_IsValidConstraint.j0 k false a b c d e l m n) (valX true a b c d e l m n) := by
  refine Evt.step ?_
  simp only [impl_IsValidConstraint.j0]
  unfold valX
  refine Evt.neg (by decide) ?_
  by_cases h1 : a = 1
  ·subst h1; exact Evt.pos rfl ((impl_j1t _).cast (by simp))
  refine Evt.neg h1 ?_
  by_cases h2 : a = 2
  ·subst h2; exact (impl_j1t _).cast (by simp)
  rw [show (a == 2) = false by simpa using h2, if_neg (by omega)]
  refine Evt.step ?_
  simp only [impl_IsValidConstraint.j1]
  refine Evt.neg (by decide) ?_
  by_cases h3 : a = 3
  ·subst h3; exact Evt.pos rfl ((impl_j2t _).cast (by simp))
  refine Evt.neg h3 ?_
  by_cases h4 : a = 4
  ·subst h4; exact (impl_j2t _).cast (by simp)
  rw [show (a == 4) = false by simpa using h4, if_neg (by omega)]
  refine Evt.step ?_
  simp only [impl_IsValidConstraint.j2]
  refine Evt.neg (by decide) ?_
  by_cases h5 : a = 5
  ·rw [if_pos h5]
   refine Evt.pos h5 (nil_ev fun _ => nil_ev fun _ => and_ev (Evt.const (impl_isZeroRegex_eq d e l)) fun _ => ?_)
   by_cases h3' : m.length = 3
   ·refine Evt.pos (by omega) ?_
    rw [show ((m.length : Int) == 3) = true by simp [h3'], Bool.and_true, Bool.and_comm (cfs m)]
    exact and_ev (Evt.const (impl_within_eq _ _ _)) fun _ => Evt.bind (impl_coeffs_ev m hm) ((Evt.ret _).cast (by simp))
   ·refine Evt.neg (by omega) ((Evt.ret _).cast ?_)
    have e3 : ((m.length : Int) == 3) = false := by simp; omega
    simp [e3]
  ·rw [if_neg h5]
   exact Evt.neg h5 (Evt.ret _)
 simp only [impl_IsValidConstraint.f]
 unfold valC
 have hx : ∀ x, a = 5 → valX x a b c d e l m n = valX true a b c d e l m n := by
  intro x h; subst h; simp [valX]
 have hy : ¬ a = 5 → valX false a b c d e l m n = false := by
  intro h; unfold valX; simp [h]
 by_cases h5 : a = 5
 ·exact Evt.pos h5 (hj.cast (hx _ h5).symm)
 refine Evt.neg h5 ?_
 by_cases h0 : m.length = 0
 ·refine Evt.pos (by omega) ?_
  by_cases hn : n = 0
  ·rw [show (n != 0) = false by simp [hn]]
   exact hj.cast (by simp [h0, hn])
  ·rw [show (n != 0) = true by simp [hn]]
   exact impl_j0t.cast (by rw [show (n == 0) = false by simp [hn]]; simp [hy h5])
 ·exact Evt.neg (by omega) (impl_j0t.cast (by simp [h0, hy h5]))
end
end Go.Proofs.Ytpppopdmnejcfaa.F
namespace Go.Proofs.Ytpppopdmnejcfaa.F
open Go.RowKit Go.Proofs.YtpppopdmnejcfaaW.PrintWords Go.Proofs.Ytpppopdmnejcfaa.Pl Go.Proofs.Ytpppopdmnejcfaa.A Go.Proofs.Ytpppopdmnejcfaa.Ext
theorem szProblem_ev (l : List S37) (hl : l.length ≤ 9223372036854775807) (h : ∀ x ∈ l, CsOk x) (v : Int) (hv : 0 ≤ v) (hv' : v ≤ 1048576) : ∃ t, Evt (fun k => laws_szProblem.f k l v) t ∧ (t = -1 ∨ (0 ≤ t ∧ t ≤ v ∧ ∃ ys, CpL l ys)) := by
 obtain ⟨t, ht, hc⟩ := szCsS_ev l hl h v hv hv'
 simp only [laws_szProblem.f]
 rcases hc with rfl | ⟨h0, h1, h2⟩
 ·exact ⟨-1, Evt.bind ht (Evt.pos (by decide) (Evt.ret _)), .inl rfl⟩
 ·exact ⟨t, Evt.bind ht (Evt.neg (by omega) (Evt.ret _)), .inr ⟨h0, h1, h2⟩⟩
theorem toProblem_ev {l : List S37} {ys : List S44} (h : CpL l ys) : Evt (fun k => laws_toProblem.f k l) ys := by
 simp only [laws_toProblem.f]
 exact Evt.bind h.2.2 (Evt.ret _)
theorem eqProblem_ev {l : List S37} {ys : List S44} (h : CpL l ys) : Evt (fun k => laws_eqProblem.f k ys ys) true := by
 simp only [laws_eqProblem.f]
 exact Evt.bind (eqCsS_ev ys h.1 h.2.1) (Evt.pos rfl (Evt.ret _))
end Go.Proofs.Ytpppopdmnejcfaa.F
namespace Go.Proofs.Ytpppopdmnejcfaa.F
open Go.RowKit Go.Proofs.YtpppopdmnejcfaaW.PrintWords Go.Proofs.Ytpppopdmnejcfaa.Pl Go.Proofs.Ytpppopdmnejcfaa.A Go.Proofs.Ytpppopdmnejcfaa.Ext
section
variable {a : Int} {b c : ByteArray} {d : Int} {e : ByteArray} {l : List S42} {m : List Int} {n : Int}
end
def valK (y : S44) : Bool := valC y.f0 y.f1 y.f2 y.f3.f0 y.f3.f1 y.f3.f2 y.f4 y.f5
def valP (ys : List S44) : Bool := ys.all valK && decide ((ys.length : Int) ≤ 6)
theorem spec_IsValidProblem_ev (ys : List S44) (hl : ys.length ≤ 1048576) (h : ∀ y ∈ ys, CsSm y) : Evt (fun k => spec_IsValidProblem.f k ys) (valP ys) := by
 have hh := Evt.up (fun k i => spec_IsValidProblem.l0 k i ys) ys.length (fun i => (ys.drop i).all valK && decide ((ys.length : Int) ≤ 6)) ?_ ?_
 ·simpa [spec_IsValidProblem.f, valP] using hh
 ·refine Evt.step ?_
  simp only [spec_IsValidProblem.l0]
  rw [List.drop_of_length_le (by omega)]
  exact Evt.neg (by omega) ((Evt.ret _).cast (by simp))
 ·intro i hi hn
  obtain ⟨g1, g2, g3, g4⟩ := h _ (List.getElem_mem hi)
  have hv := spec_IsValidConstraint_ev (a := ys[i].f0) (d := ys[i].f3.f0) (n := ys[i].f5) (Nat.le_trans g3 (by decide)) (Nat.le_trans g4 (by decide)) (by rw [rx_eta]; exact g1) g2
  refine Evt.step ?_
  simp only [spec_IsValidProblem.l0]
  rw [csI_at ys i hi, w64s (by omega), List.drop_eq_getElem_cons hi, List.all_cons]
  refine Evt.pos (by omega) (Evt.pos (by omega) (Evt.bind hv ?_))
  change Evt (fun k => if valK ys[i] = true then _ else _) _
  cases valK ys[i] with
  | true => exact Evt.pos rfl (hn.cast (by simp))
  | false => exact Evt.neg (by decide) ((Evt.ret _).cast (by simp))
theorem impl_IsValidProblem_ev (ys : List S44) (hl : ys.length ≤ 1048576) (h : ∀ y ∈ ys, CsSm y) : Evt (fun k => impl_IsValidProblem.f k ys) (valP ys) := by
 simp only [impl_IsValidProblem.f, impl_Constraint_148.f, impl_Constraint_182.f]
 unfold valP
 by_cases h6 : (ys.length : Int) ≤ 6
 ·refine Evt.pos h6 ?_
  have hh : ∀ d i : Nat, i + d = ys.length → ∃ r, Evt (fun k => impl_Constraint_182.l0 k ys (ys.length : Int) (i : Int)) r ∧ decide (r ≥ 0) = !((ys.drop i).all valK) := by
   intro d
   induction d with
   | zero =>
    intro i hi
    refine ⟨-1, Evt.step ?_, ?_⟩
    ·simp only [impl_Constraint_182.l0]
     exact Evt.neg (by omega) (Evt.ret _)
    ·rw [List.drop_of_length_le (by omega)]; rfl
   | succ d ih =>
    intro i hi
    have hi' : i < ys.length := by omega
    obtain ⟨g1, g2, g3, g4⟩ := h _ (List.getElem_mem hi')
    have hv : Evt (fun k => impl_IsValidConstraint.f k ys[i].f0 ys[i].f1 ys[i].f2 ys[i].f3.f0 ys[i].f3.f1 ys[i].f3.f2 ys[i].f4 ys[i].f5) (valK ys[i]) := impl_IsValidConstraint_ev g2
    rw [List.drop_eq_getElem_cons hi', List.all_cons]
    obtain ⟨r, hr, hc⟩ := ih (i + 1) (by omega)
    cases hq : valK ys[i] with
    | true =>
     refine ⟨r, Evt.step ?_, by simpa using hc⟩
     simp only [impl_Constraint_182.l0, impl_IsValidProblem_1.f]
     rw [csI_at ys i hi', w64s (by omega)]
     exact Evt.pos (by omega) (Evt.pos (by omega) (Evt.pos (by omega) (Evt.bind (Evt.bind hv (Evt.ret _)) (Evt.neg (by simp [hq]) hr))))
    | false =>
     refine ⟨(i : Int), Evt.step ?_, by simp⟩
     simp only [impl_Constraint_182.l0, impl_IsValidProblem_1.f]
     rw [csI_at ys i hi']
     exact Evt.pos (by omega) (Evt.pos (by omega) (Evt.pos (by omega) (Evt.bind (Evt.bind hv (Evt.ret _)) (Evt.pos (by simp [hq]) (Evt.ret _)))))
  obtain ⟨r, hr, hc⟩ := hh ys.length 0 (by omega)
  refine Evt.bind (Evt.bind hr (Evt.ret _)) ((Evt.ret _).cast ?_)
  rw [hc]
  simp [h6]
 ·exact Evt.neg h6 ((Evt.ret _).cast (by simp [h6]))
end Go.Proofs.Ytpppopdmnejcfaa.F
namespace Go.Proofs.Ytpppopdmnejcfaa.F
open Go Go.RowKit Go.Proofs.YtpppopdmnejcfaaW.PrintWords Go.Proofs.Ytpppopdmnejcfaa.Pl Go.Proofs.Ytpppopdmnejcfaa.A Go.Proofs.Ytpppopdmnejcfaa.Ext
def nmB (l : List UInt8) : List Int := l.map fun b => (b.toNat : Int)
theorem strOfNums_nmB (l : List UInt8) : strOfNums (nmB l) = ⟨l.toArray⟩ := by
 simp [strOfNums, nmB, List.map_map, Function.comp_def]
def jn (s : ByteArray) : List ByteArray → Bool → List Int → Option (List Int)
 | [], _, acc => some acc
 | x :: l, fst, acc =>
  if ((if fst = true then acc else acc ++ bytesOf s) ++ bytesOf x).length > 1048576 then none else jn s l false ((if fst = true then acc else acc ++ bytesOf s) ++ bytesOf x)
def outJ (o : Option (List Int)) : ByteArray := match o with | some a => strOfNums a | none => (⟨#[]⟩ : ByteArray)
def joinP (l : List ByteArray) (s : ByteArray) : ByteArray := outJ (jn s l true [])
theorem jn_tail (s : ByteArray) (l : List ByteArray) : ∀ (acc a : List Int), acc.length ≤ 1048576 → jn s l false acc = some a → a = acc ++ nmB (Lib.joinTail s.data.toList (l.map (·.data.toList))) ∧ a.length ≤ 1048576 := by
 induction l with
 | nil =>
  intro acc a ha h
  simp only [jn, Option.some.injEq] at h
  subst h
  exact ⟨by simp [Lib.joinTail, nmB], ha⟩
 | cons x l ih =>
  intro acc a ha h
  simp only [jn, Bool.false_eq_true, if_false] at h
  split at h
  ·cases h
  ·next hl =>
   obtain ⟨h1, h2⟩ := ih _ _ (by omega) h
   refine ⟨?_, h2⟩
   rw [h1]
   simp [Lib.joinTail, nmB, bytesOf]
theorem jn_all (s : ByteArray) (l : List ByteArray) (a : List Int) (h : jn s l true [] = some a) : a = nmB (Lib.join (l.map (·.data.toList)) s.data.toList) ∧ a.length ≤ 1048576 := by
 cases l with
 | nil =>
  simp only [jn, Option.some.injEq] at h
  subst h
  exact ⟨rfl, by decide⟩
 | cons x l =>
  simp only [jn, if_true, List.nil_append] at h
  split at h
  ·cases h
  ·next hl =>
   obtain ⟨h1, h2⟩ := jn_tail s l _ _ (by omega) h
   refine ⟨?_, h2⟩
   rw [h1, List.map_cons, Lib.join_cons]
   simp [nmB, bytesOf]
theorem jn_strings (s : ByteArray) (l : List ByteArray) (hl : l.length ≤ 1048576) (a : List Int) (h : jn s l true [] = some a) : strings_Join.f l s = some (strOfNums a) := by
 obtain ⟨h1, h2⟩ := jn_all s l a h
 have h3 : (Lib.join (l.map (·.data.toList)) s.data.toList).length ≤ 1048576 := by
  rw [h1] at h2
  simpa [nmB] using h2
 unfold strings_Join.f
 rw [if_pos ⟨by omega, by omega⟩, h1, strOfNums_nmB]
 rfl
theorem joinP_size (l : List ByteArray) (s : ByteArray) : (joinP l s).size ≤ 1048576 := by
 unfold joinP
 cases h : jn s l true [] with
 | none => exact Nat.zero_le _
 | some a =>
  have := (jn_all s l a h).2
  show (strOfNums a).size ≤ _
  rw [strOfNums_size]
  exact this
theorem rdS_at (l : List ByteArray) (i : Nat) (h : i < l.length) : rdOf ByteArray.empty l (i : Int) = l[i] := by simp [rdOf, h]
theorem spec_Join_ev (l : List ByteArray) (s : ByteArray) (hl : l.length ≤ 1048576) (hs : s.size ≤ 1048576) (hx : ∀ x ∈ l, x.size ≤ 2097152) : Evt (fun k => spec_Join.f k l s) (joinP l s) := by
 have hh : ∀ d i : Nat, i + d = l.length → ∀ acc : List Int, acc.length ≤ 1048576 → Evt (fun k => spec_Join.l0 k l s acc (i : Int)) (outJ (jn s (l.drop i) (decide (i = 0)) acc)) := by
  intro d
  induction d with
  | zero =>
   intro i hi acc ha
   refine Evt.step ?_
   simp only [spec_Join.l0]
   rw [List.drop_of_length_le (by omega)]
   exact Evt.neg (by omega) (Evt.ret _)
  | succ d ih =>
   intro i hi acc ha
   have hi' : i < l.length := by omega
   have hxi := hx _ (List.getElem_mem hi')
   refine Evt.step ?_
   simp only [spec_Join.l0]
   rw [List.drop_eq_getElem_cons hi', rdS_at l i hi', w64s (by omega)]
   simp only [jn]
   refine Evt.pos (by omega) ?_
   by_cases h0 : i = 0
   ·have hd : decide (i = 0) = true := by simpa using h0
    simp only [if_pos hd]
    refine Evt.neg (by omega) (Evt.pos (by omega) (Evt.pos (by omega) (Evt.bindc rfl ?_)))
    have hn := ih (i + 1) (by omega) (acc ++ bytesOf l[i])
    by_cases hc : (acc ++ bytesOf l[i]).length > 1048576
    ·rw [if_pos hc]
     exact Evt.pos (by omega) (Evt.ret _)
    ·rw [if_neg hc]
     exact Evt.neg (by omega) (hn (by omega))
   ·have hd : ¬ (decide (i = 0) = true) := by simpa using h0
    simp only [if_neg hd]
    refine Evt.pos (by omega) (Evt.pos (by omega) (Evt.bindc rfl (Evt.pos (by omega) (Evt.pos (by rw [List.length_append, bytesOf_length]; omega) (Evt.bindc rfl ?_)))))
    have hn := ih (i + 1) (by omega) (acc ++ bytesOf s ++ bytesOf l[i])
    by_cases hc : (acc ++ bytesOf s ++ bytesOf l[i]).length > 1048576
    ·rw [if_pos hc]
     exact Evt.pos (by omega) (Evt.ret _)
    ·rw [if_neg hc]
     exact Evt.neg (by omega) (hn (by omega))
 exact hh l.length 0 (by omega) [] (by simp)
theorem impl_Join_ev (l : List ByteArray) (s : ByteArray) (hl : l.length ≤ 1048576) (hs : s.size ≤ 1048576) (hx : ∀ x ∈ l, x.size ≤ 2097152) : Evt (fun k => impl_Join.f k l s) (joinP l s) := by
 have hh : ∀ d i : Nat, i + d = l.length → ∀ acc : List Int, acc.length ≤ 1048576 → (∀ a, jn s (l.drop i) (decide (i = 0)) acc = some a → jn s l true [] = some a) → Evt (fun k => impl_Join.l0 k l s (acc.length : Int) l (l.length : Int) (i : Int)) (outJ (jn s (l.drop i) (decide (i = 0)) acc)) := by
  intro d
  induction d with
  | zero =>
   intro i hi acc ha hg
   refine Evt.step ?_
   simp only [impl_Join.l0]
   rw [List.drop_of_length_le (by omega)] at hg ⊢
   refine Evt.neg (by omega) (Evt.bindc (jn_strings s l hl acc (hg acc rfl)) (Evt.ret _))
  | succ d ih =>
   intro i hi acc ha hg
   have hi' : i < l.length := by omega
   have hxi := hx _ (List.getElem_mem hi')
   refine Evt.step ?_
   simp only [impl_Join.l0]
   rw [List.drop_eq_getElem_cons hi'] at hg ⊢
   rw [rdS_at l i hi', w64s (by omega)]
   simp only [jn] at hg ⊢
   refine Evt.pos (by omega) (Evt.pos (by omega) (Evt.pos (by omega) ?_))
   by_cases h0 : i = 0
   ·have hd : decide (i = 0) = true := by simpa using h0
    simp only [if_pos hd] at hg ⊢
    refine Evt.neg (by omega) ?_
    have hn := ih (i + 1) (by omega) (acc ++ bytesOf l[i])
    have hq : wrap64 ((acc.length : Int) + (l[i].size : Int)) = ((acc ++ bytesOf l[i]).length : Int) := by
     rw [w64 (by omega) (by omega), List.length_append, bytesOf_length]
     omega
    rw [hq]
    by_cases hc : (acc ++ bytesOf l[i]).length > 1048576
    ·rw [if_pos hc]
     exact Evt.pos (by omega) (Evt.ret _)
    ·rw [if_neg hc] at hg ⊢
     exact Evt.neg (by omega) (hn (by omega) hg)
   ·have hd : ¬ (decide (i = 0) = true) := by simpa using h0
    simp only [if_neg hd] at hg ⊢
    refine Evt.pos (by omega) ?_
    have hn := ih (i + 1) (by omega) (acc ++ bytesOf s ++ bytesOf l[i])
    have hq : wrap64 (wrap64 ((acc.length : Int) + (s.size : Int)) + (l[i].size : Int)) = ((acc ++ bytesOf s ++ bytesOf l[i]).length : Int) := by
     rw [w64 (x := (acc.length : Int) + (s.size : Int)) (by omega) (by omega), w64 (by omega) (by omega), List.length_append, List.length_append, bytesOf_length, bytesOf_length]
     omega
    rw [hq]
    by_cases hc : (acc ++ bytesOf s ++ bytesOf l[i]).length > 1048576
    ·rw [if_pos hc]
     exact Evt.pos (by omega) (Evt.ret _)
    ·rw [if_neg hc] at hg ⊢
     exact Evt.neg (by omega) (hn (by omega) hg)
 exact hh l.length 0 (by omega) [] (by simp) (fun a h => h)
end Go.Proofs.Ytpppopdmnejcfaa.F
namespace Go.Proofs.Ytpppopdmnejcfaa.F
open Go.RowKit Go.Proofs.YtpppopdmnejcfaaW.PrintWords Go.Proofs.Ytpppopdmnejcfaa.Pl Go.Proofs.Ytpppopdmnejcfaa.A Go.Proofs.Ytpppopdmnejcfaa.Ext
def isSd (c : Int) : Bool := decide (0 ≤ ltI c) || isVr c || decide (c = 35)
theorem spec_l12Side_ev (s : ByteArray) (hs : s.size ≤ 9223372036854775807) : Evt (fun k => spec_l12Side.f k s) ((bytesOf s).all isSd && decide (s.size ≤ 24)) := by
 have h := Evt.up (fun k i => spec_l12Side.l0 k s i) s.size (fun i => ((bytesOf s).drop i).all isSd && decide (s.size ≤ 24)) ?_ ?_
 ·simpa [spec_l12Side.f] using h
 ·refine Evt.step ?_
  simp only [spec_l12Side.l0]
  rw [List.drop_of_length_le (by rw [bytesOf_length]; omega)]
  refine Evt.neg (by omega) (Evt.const ?_)
  have e : ((s.size : Int) ≤ 24) = (s.size ≤ 24) := by apply propext; omega
  simp [e]
 ·intro i hi h
  refine Evt.step ?_
  simp only [spec_l12Side.l0]
  refine Evt.pos (by omega) (Evt.pos (by omega) (Evt.bind (spec_LetterIndex_ev _) ?_))
  have hl : i < (bytesOf s).length := by rw [bytesOf_length]; exact hi
  rw [List.drop_eq_getElem_cons hl, ← bt_get s i hl, w64s (by omega)]
  by_cases hc : ltI (bt s i) < 0
  ·refine Evt.pos hc (Evt.bindc (spec_l8Var_eq _) ?_)
   by_cases hv : isVr (bt s i) = true
   ·exact Evt.pos hv (h.cast (by simp [isSd, hv]))
   ·refine Evt.neg hv ?_
    by_cases h35 : bt s i = 35
    ·exact Evt.pos h35 (h.cast (by simp [isSd, h35]))
    ·exact Evt.neg h35 (Evt.const (by simp [isSd, hv, h35, show ¬ (0 ≤ ltI (bt s i)) by omega]))
  ·exact Evt.neg hc (h.cast (by simp [isSd, show 0 ≤ ltI (bt s i) by omega]))
theorem impl_isSide_ev (s : ByteArray) (hs : s.size ≤ 9223372036854775807) : Evt (fun k => impl_isSide.f k s) ((bytesOf s).all isSd) := by
 have h := Evt.up (fun k i => impl_isSide.l0 k s i) s.size (fun i => ((bytesOf s).drop i).all isSd) ?_ ?_
 ·simpa [impl_isSide.f] using h
 ·refine Evt.step ?_
  simp only [impl_isSide.l0]
  rw [List.drop_of_length_le (by rw [bytesOf_length]; omega)]
  exact Evt.neg (by omega) (Evt.ret _)
 ·intro i hi h
  refine Evt.step ?_
  simp only [impl_isSide.l0]
  refine Evt.pos (by omega) (Evt.pos (by omega) ?_)
  have hl : i < (bytesOf s).length := by rw [bytesOf_length]; exact hi
  rw [List.drop_eq_getElem_cons hl, ← bt_get s i hl, w64s (by omega)]
  by_cases h35 : bt s i = 35
  ·exact Evt.pos h35 (h.cast (by simp [isSd, h35]))
  refine Evt.neg h35 (Evt.bindc (impl_LetterIndex_eq (bt0 _ _) (bt255 _ _)) ?_)
  by_cases hc : ltI (bt s i) < 0
  ·refine Evt.pos hc (Evt.bindc (impl_isVariable_eq (bt0 _ _) (bt255 _ _)) ?_)
   by_cases hv : isVr (bt s i) = true
   ·exact Evt.pos hv (h.cast (by simp [isSd, hv]))
   ·exact Evt.neg hv (Evt.const (by simp [isSd, hv, h35, show ¬ (0 ≤ ltI (bt s i)) by omega]))
  ·exact Evt.neg hc (h.cast (by simp [isSd, show 0 ≤ ltI (bt s i) by omega]))
def isEq (a b : ByteArray) : Bool := ((bytesOf a).all isSd && decide (a.size ≤ 24)) && ((bytesOf b).all isSd && decide (b.size ≤ 24))
theorem spec_IsEquation_ev (a b : ByteArray) (ha : a.size ≤ 9223372036854775807) (hb : b.size ≤ 9223372036854775807) : Evt (fun k => spec_IsEquation.f k a b) (isEq a b) := by
 unfold isEq
 simp only [spec_IsEquation.f]
 refine Evt.bind (spec_l12Side_ev a ha) ?_
 cases h : ((bytesOf a).all isSd && decide (a.size ≤ 24)) with
 | true => exact Evt.pos rfl (Evt.bind (spec_l12Side_ev b hb) (Evt.const (by simp)))
 | false => exact Evt.neg (by simp) (Evt.const (by simp))
theorem impl_IsEquation_ev (a b : ByteArray) (ha : a.size ≤ 9223372036854775807) (hb : b.size ≤ 9223372036854775807) : Evt (fun k => impl_IsEquation.f k a b) (isEq a b) := by
 unfold isEq
 simp only [impl_IsEquation.f]
 refine Evt.bind (impl_isSide_ev a ha) ?_
 cases h : (bytesOf a).all isSd with
 | true =>
  refine Evt.pos rfl (Evt.bind (impl_isSide_ev b hb) ?_)
  cases h2 : (bytesOf b).all isSd with
  | true =>
   refine Evt.pos rfl ?_
   by_cases h3 : a.size ≤ 24
   ·refine Evt.pos (by omega) (Evt.const ?_)
    have e : ((b.size : Int) ≤ 24) = (b.size ≤ 24) := by apply propext; omega
    simp [h3, e]
   ·exact Evt.neg (by omega) (Evt.const (by simp [h3]))
  | false => exact Evt.neg (by simp) (Evt.const (by simp))
 | false => exact Evt.neg (by simp) (Evt.const (by simp))
end Go.Proofs.Ytpppopdmnejcfaa.F
namespace Go.Proofs.Ytpppopdmnejcfaa.F
open Go Go.RowKit Go.Proofs.YtpppopdmnejcfaaW.PrintWords Go.Proofs.Ytpppopdmnejcfaa.Pl Go.Proofs.Ytpppopdmnejcfaa.A Go.Proofs.Ytpppopdmnejcfaa.Ext
def lefts (ys : List S44) : List ByteArray := (ys.filter fun y => decide (y.f0 = 1)).map (·.f1)
def rights (ys : List S44) : List ByteArray := (ys.filter fun y => decide (y.f0 = 1)).map (·.f2)
theorem lefts_cons (y : S44) (ys : List S44) : lefts (y :: ys) = if y.f0 = 1 then y.f1 :: lefts ys else lefts ys := by
 unfold lefts
 by_cases h : y.f0 = 1 <;> simp [h]
theorem rights_cons (y : S44) (ys : List S44) : rights (y :: ys) = if y.f0 = 1 then y.f2 :: rights ys else rights ys := by
 unfold rights
 by_cases h : y.f0 = 1 <;> simp [h]
theorem lefts_len (ys : List S44) : (lefts ys).length ≤ ys.length := by
 unfold lefts
 rw [List.length_map]
 exact List.length_filter_le _ _
theorem rights_len (ys : List S44) : (rights ys).length ≤ ys.length := by
 unfold rights
 rw [List.length_map]
 exact List.length_filter_le _ _
theorem lefts_mem {ys : List S44} (h : ∀ y ∈ ys, CsSm y) : ∀ x ∈ lefts ys, x.size ≤ 2097152 := by
 intro x hx
 unfold lefts at hx
 obtain ⟨y, hy, rfl⟩ := List.mem_map.1 hx
 have := (h y (List.mem_filter.1 hy).1).2.2.1
 omega
theorem rights_mem {ys : List S44} (h : ∀ y ∈ ys, CsSm y) : ∀ x ∈ rights ys, x.size ≤ 2097152 := by
 intro x hx
 unfold rights at hx
 obtain ⟨y, hy, rfl⟩ := List.mem_map.1 hx
 have := (h y (List.mem_filter.1 hy).1).2.2.2
 omega
def hashB : ByteArray := (⟨#[35]⟩ : ByteArray)
theorem hashB_size : hashB.size ≤ 1048576 := by decide
def joinEq (ys : List S44) : ByteArray × ByteArray × Bool :=
 if (valP ys && isEq (joinP (lefts ys) hashB) (joinP (rights ys) hashB)) = true then (joinP (lefts ys) hashB, joinP (rights ys) hashB, true) else ((⟨#[]⟩ : ByteArray), (⟨#[]⟩ : ByteArray), false)
theorem spec_JoinEquations_ev (ys : List S44) (hl : ys.length ≤ 1048576) (h : ∀ y ∈ ys, CsSm y) : Evt (fun k => spec_JoinEquations.f k ys) (joinEq ys) := by
 have hend : Evt (fun k => spec_JoinEquations.l0 k (lefts ys) (rights ys) (ys.length : Int) ys) (joinEq ys) := by
  have l1 := lefts_len ys
  have l2 := rights_len ys
  have s1 := joinP_size (lefts ys) hashB
  have s2 := joinP_size (rights ys) hashB
  refine Evt.step ?_
  simp only [spec_JoinEquations.l0]
  refine Evt.neg (by omega) (Evt.bind (spec_Join_ev _ hashB (by omega) hashB_size (lefts_mem h)) (Evt.bind (spec_Join_ev _ hashB (by omega) hashB_size (rights_mem h)) (Evt.bind (spec_IsValidProblem_ev ys hl h) ?_)))
  unfold joinEq
  cases valP ys with
  | false => exact Evt.neg (by decide) ((Evt.ret _).cast (by simp))
  | true =>
   refine Evt.pos rfl (Evt.bind (spec_IsEquation_ev _ _ (by omega) (by omega)) ?_)
   cases isEq (joinP (lefts ys) hashB) (joinP (rights ys) hashB) with
   | false => exact Evt.neg (by decide) ((Evt.ret _).cast (by simp))
   | true => exact Evt.pos rfl ((Evt.ret _).cast (by simp))
 have hh : ∀ d i : Nat, i + d = ys.length → ∀ p q : List ByteArray, p.length ≤ i → q.length ≤ i → p ++ lefts (ys.drop i) = lefts ys → q ++ rights (ys.drop i) = rights ys → Evt (fun k => spec_JoinEquations.l0 k p q (i : Int) ys) (joinEq ys) := by
  intro d
  induction d with
  | zero =>
   intro i hi p q hp hq h1 h2
   rw [List.drop_of_length_le (by omega)] at h1 h2
   have e1 : p = lefts ys := by simpa [lefts] using h1
   have e2 : q = rights ys := by simpa [rights] using h2
   rw [e1, e2, show i = ys.length by omega]
   exact hend
  | succ d ih =>
   intro i hi p q hp hq h1 h2
   have hi' : i < ys.length := by omega
   rw [List.drop_eq_getElem_cons hi', lefts_cons] at h1
   rw [List.drop_eq_getElem_cons hi', rights_cons] at h2
   refine Evt.step ?_
   simp only [spec_JoinEquations.l0]
   rw [csI_at ys i hi', w64s (by omega)]
   refine Evt.pos (by omega) (Evt.pos (by omega) ?_)
   by_cases hk : ys[i].f0 = 1
   ·rw [if_pos hk] at h1 h2
    exact Evt.pos hk (Evt.pos (by omega) (Evt.pos (by omega) (ih (i + 1) (by omega) _ _ (by simp; omega) (by simp; omega) (by simpa using h1) (by simpa using h2))))
   ·rw [if_neg hk] at h1 h2
    exact Evt.neg hk (ih (i + 1) (by omega) _ _ (by omega) (by omega) h1 h2)
 simp only [spec_JoinEquations.f]
 exact hh ys.length 0 (by omega) [] [] (by simp) (by simp) (by simp) (by simp)
theorem impl_JoinEquations_ev (ys : List S44) (hl : ys.length ≤ 1048576) (h : ∀ y ∈ ys, CsSm y) : Evt (fun k => impl_JoinEquations.f k ys) (joinEq ys) := by
 simp only [impl_JoinEquations.f]
 refine Evt.bind (impl_IsValidProblem_ev ys hl h) ?_
 cases hv : valP ys with
 | false => exact Evt.neg (by decide) ((Evt.ret _).cast (by simp [joinEq, hv]))
 | true =>
  refine Evt.pos rfl ?_
  have hend : Evt (fun k => impl_JoinEquations.l0 k (lefts ys) (rights ys) ys (ys.length : Int) (ys.length : Int)) (joinEq ys) := by
   have l1 := lefts_len ys
   have l2 := rights_len ys
   have s1 := joinP_size (lefts ys) hashB
   have s2 := joinP_size (rights ys) hashB
   refine Evt.step ?_
   simp only [impl_JoinEquations.l0]
   refine Evt.neg (by omega) (Evt.bind (impl_Join_ev _ hashB (by omega) hashB_size (lefts_mem h)) (Evt.bind (impl_Join_ev _ hashB (by omega) hashB_size (rights_mem h)) (Evt.bind (impl_IsEquation_ev _ _ (by omega) (by omega)) ?_)))
   unfold joinEq
   rw [hv]
   cases isEq (joinP (lefts ys) hashB) (joinP (rights ys) hashB) with
   | false => exact Evt.neg (by decide) ((Evt.ret _).cast (by simp))
   | true => exact Evt.pos rfl ((Evt.ret _).cast (by simp))
  have hh : ∀ d i : Nat, i + d = ys.length → ∀ p q : List ByteArray, p.length ≤ i → q.length ≤ i → p ++ lefts (ys.drop i) = lefts ys → q ++ rights (ys.drop i) = rights ys → Evt (fun k => impl_JoinEquations.l0 k p q ys (ys.length : Int) (i : Int)) (joinEq ys) := by
   intro d
   induction d with
   | zero =>
    intro i hi p q hp hq h1 h2
    rw [List.drop_of_length_le (by omega)] at h1 h2
    have e1 : p = lefts ys := by simpa [lefts] using h1
    have e2 : q = rights ys := by simpa [rights] using h2
    rw [e1, e2, show i = ys.length by omega]
    exact hend
   | succ d ih =>
    intro i hi p q hp hq h1 h2
    have hi' : i < ys.length := by omega
    rw [List.drop_eq_getElem_cons hi', lefts_cons] at h1
    rw [List.drop_eq_getElem_cons hi', rights_cons] at h2
    refine Evt.step ?_
    simp only [impl_JoinEquations.l0]
    rw [csI_at ys i hi', w64s (by omega)]
    refine Evt.pos (by omega) (Evt.pos (by omega) (Evt.pos (by omega) ?_))
    by_cases hk : ys[i].f0 = 1
    ·rw [if_pos hk] at h1 h2
     exact Evt.pos hk (Evt.pos (by omega) (Evt.pos (by omega) (ih (i + 1) (by omega) _ _ (by simp; omega) (by simp; omega) (by simpa using h1) (by simpa using h2))))
    ·rw [if_neg hk] at h1 h2
     exact Evt.neg hk (ih (i + 1) (by omega) _ _ (by omega) (by omega) h1 h2)
  exact hh ys.length 0 (by omega) [] [] (by simp) (by simp) (by simp) (by simp)
end Go.Proofs.Ytpppopdmnejcfaa.F
namespace Go.Proofs.Ytpppopdmnejcfaa.Pure
open Go Go.RowKit Go.Proofs.YtpppopdmnejcfaaW.PrintWords Go.Proofs.Ytpppopdmnejcfaa.Pl Go.Proofs.Ytpppopdmnejcfaa.F Go.Proofs.Ytpppopdmnejcfaa.A Go.Proofs.Ytpppopdmnejcfaa.Ext Go.Proofs.Ytpppopdmnejcfaa.BtFnExactJoinEquations
theorem rxOk_of (n : Nat) : ∀ x : S34, wf34N n x → RxOk n x := by
 induction n with
 | zero => intro x h; exact h.elim
 | succ n ih => intro x h; exact ⟨h.2.1, h.2.2.1, fun a ha => ih a (h.2.2.2 a ha)⟩
theorem csOk_of (x : S37) (h : wf37 x) : CsOk x := by
 obtain ⟨_, h1, h2, ⟨n, h3⟩, h4, _⟩ := h
 exact ⟨h1, h2, ⟨n, rxOk_of n _ h3⟩, h4.1⟩
theorem FnExactJoinEquations : FnExactJoinEquations.Pure := by
 intro l hl
 refine Evt.get (g := fun k => laws_FnExactJoinEquations.f k l) ?_
 simp only [laws_FnExactJoinEquations.f]
 obtain ⟨t, ht, hs⟩ := szProblem_ev l hl.1 (fun x hx => csOk_of x (hl.2 x hx)) 1048576 (by omega) (by omega)
 rcases hs with rfl | ⟨h0, h1, ys, hy⟩
 ·exact Evt.bind ht (Evt.pos (by decide) (Evt.ret _))
 have q1 := toProblem_ev hy
 refine Evt.bind ht (Evt.neg (by omega) (Evt.bind q1 (Evt.bind (spec_JoinEquations_ev ys hy.1 hy.2.1) (Evt.bind q1 (Evt.bind (impl_JoinEquations_ev ys hy.1 hy.2.1) (Evt.bindc (a := true) (by simp [laws_eqEquation.f]) (Evt.pos rfl ?_)))))))
 have e : ((joinEq ys).2.2 != (joinEq ys).2.2) = false := by simp
 rw [e]
 refine Evt.step ?_
 simp only [laws_FnExactJoinEquations.j0]
 exact Evt.neg (by decide) (Evt.bind q1 (Evt.bind (eqProblem_ev hy) (Evt.pos rfl (Evt.ret _))))
end Go.Proofs.Ytpppopdmnejcfaa.Pure
namespace Go.Proofs.Ytpppopdmnejcfaa.fnExactJoinEquations
open Go.ChangeShapes Go.WideShapes Go.ChangeAt Go.RowKit Go.Proofs.Ytpppopdmnejcfaa.Br Go.Proofs.YtpppopdmnejcfaaW.PrintWords Go.Proofs.Ytpppopdmnejcfaa.A Go.Proofs.Ytpppopdmnejcfaa.BtFnExactJoinEquations
open Go.ChangeMaps (open_string shut_string)
theorem own : ownKnob Try.prog.godebug = none := by kernel_rfl
theorem laidOut : laidOutB Try.prog = true := by kernel_rfl
set_option maxHeartbeats 2000000 in
theorem lifted (os : Os) (started : os.Started) (H : Type) (enc : TypeId × Value → H) :
  ReturnsInHanded {} Try.checked os 12 .any (Rows.fnExactJoinEquationsSpec.pre6 enc Try.prog Try.f12 Rows.fnExactJoinEquationsRow.domain false) (Rows.fnExactJoinEquationsSpec.post enc Try.prog Try.f12 false true false false) := by
 refine returnsInHanded_of_change_sized (C := Try.checked) own started (by kernel_rfl) Try.func12
  (ChangeSpec.witness6 (enc := enc) (C := Try.checked) false ⟨#[], #[.agg #[.slice none 0 0]], []⟩ 8 (by kernel_rfl) (by kernel_rfl) (by kernel_rfl) (by kernel_rfl)) ?_
 intro W base args ds gs before hval0 hW hcnd hsz0 _
 have hval : ∀ (j : Nat) t v, Try.f12.params[j]? = some t → args[j]? = some v → Value.okWide Try.prog W .any base t v := hval0
 have hW' := hW
 obtain ⟨p, q, hA0, hV, rfl, hfz, hnd⟩ := hW
 have hA : DataW.TrodAll enc Try.prog W 0 (fun _ => true) true Try.f12.params.toList args.toList ds p := hA0
 rw [Try.params12] at hA hval
 obtain ⟨v0, vs0, d0, ds0, p0, q0, hargs, rfl, rfl, h0, r0⟩ := trodAll_cons hA
 obtain ⟨rfl, rfl, rfl⟩ := trodAll_nil r0
 obtain rfl : args = #[v0] := by cases args; simp_all
 obtain ⟨rfl, rfl⟩ := trodVars_none hV
 have k0 := h0
 have lt0 : ∀ x ∈ p0, x.block < W.heap.size := by obtain ⟨m, hm⟩ := k0; exact DataW.trod_lt m _ _ _ hm
 obtain ⟨arr0, rfl, _, _⟩ : ∃ cs, v0 = .agg cs ∧ cs.size = Try.prog.cellsOf 24 ∧ Row.okWide Try.prog W .any base 24 cs := by have z := (hval 0 24 v0 rfl rfl); unfold Value.okWide at z; rw [Try.underlying24] at z; exact z
 obtain ⟨fuel0, hf0⟩ := h0
 obtain ⟨l0_0, hK0, hw0⟩ := (show ∀ n, BrN Try.prog n 24 _ _ from fun n => (br_struct' Try.underlying24 (show Try.prog.cellsOf 24 = 1 by kernel_rfl) (fun n => (bf_one rfl (show Try.prog.cellsOf 22 = 1 by kernel_rfl) (br_slice' Try.underlying22 (show Try.prog.cellsOf 37 = 8 by kernel_rfl) (fun n => (br37 n)) n))) n)) fuel0 H enc W 0 (fun _ => true) true fuel0 _ _ (Nat.le_refl _) hf0
 replace hw0 := hw0
 have w0_0 := hw0
 obtain ⟨cs0, hcs0, hK0⟩ : ∃ cs, (Value.agg arr0).cells.toList = cs ∧ _ := ⟨_, rfl, hK0⟩
 obtain ⟨A0_0, c0_0, rfl, hc0_0, hr0_0⟩ := hK0
 obtain rfl : arr0 = #[.slice A0_0 l0_0.length c0_0] := arr_of hcs0
 clear hA0 hval0 hsz0
 obtain ⟨k, hp⟩ := Pure.FnExactJoinEquations l0_0 w0_0
 refine (laws_FnExactJoinEquations.calls k _ _ l0_0 true W hr0_0 hc0_0 hp).mono fun e W' ⟨he, bel0⟩ => ?_
 subst he
 have bel : Below W.heap.size W W' := bel0
 exact ⟨_, rfl, _, _, _, [], _, [], hW', trodAll_mk1 (shut_bool Try.underlying4 _), (trodAll_cons_mk (Below.trod laidOut (by kernel_rfl) (of_decide_eq_true (by kernel_rfl)) k0 bel lt0) trodAll_mk0), rfl, bel.frame _, fun h => by cases h⟩
theorem fact0 : (Rows.fnExactJoinEquationsRow.inPlace == Try.pinned.checked.prog.inPlace 12) = true := by kernel_rfl
theorem fact1 : (Rows.fnExactJoinEquationsRow.unfollowed == Try.pinned.checked.prog.unfollowed 12) = true := by kernel_rfl
theorem fact2 : (Rows.fnExactJoinEquationsRow.recurses == Try.pinned.checked.prog.recurses 12) = true := by kernel_rfl
theorem fact3 : (Rows.fnExactJoinEquationsRow.named == Try.pinned.checked.prog.varsNamed 12) = true := by kernel_rfl
theorem facts : joinedFacts Try.pinned.checked.prog 12 Try.f12 Rows.fnExactJoinEquationsSpec Rows.fnExactJoinEquationsRow = true := by
 unfold joinedFacts
 rw [fact0, fact1, fact2, fact3]
 kernel_rfl
theorem known : Try.pinned.checked.prog.funcNamed Rows.fnExactJoinEquationsRow.func = some 12 := by kernel_rfl
theorem inst : Try.f12.isInstance Try.pinned.checked.prog Rows.fnExactJoinEquationsRow.origin Rows.fnExactJoinEquationsRow.targs := of_decide_eq_true (by kernel_rfl)
theorem wrap : Try.f12.isWrapper Try.pinned.checked.prog Rows.fnExactJoinEquationsRow.wrapper Rows.fnExactJoinEquationsRow.mainSum := by unfold Func.isWrapper; first | (rw [if_pos (by decide +kernel)]; kernel_rfl) | (rw [if_neg (by decide +kernel)]; exact ⟨rfl, rfl⟩)
theorem over : Rows.fnExactJoinEquationsRow.holds Try.pinned (OpenSpec.ofChange Rows.fnExactJoinEquationsSpec) :=
 OpenClaim.holds_of_wide 12 Try.f12 rfl rfl rfl rfl rfl rfl rfl ⟨rfl, rfl, rfl, rfl, rfl⟩ rfl rfl rfl rfl rfl known Try.func12 facts inst wrap
  (fun os started H enc _ => lifted os started H enc)
theorem proved : Rows.FnExactJoinEquationsSaid := over
#print axioms proved
end Go.Proofs.Ytpppopdmnejcfaa.fnExactJoinEquations
namespace Go.Proofs.Ytpppopdmnejcfaa
theorem fnExactJoinEquations_holds : Rows.FnExactJoinEquationsSaid := fnExactJoinEquations.proved
end Go.Proofs.Ytpppopdmnejcfaa
