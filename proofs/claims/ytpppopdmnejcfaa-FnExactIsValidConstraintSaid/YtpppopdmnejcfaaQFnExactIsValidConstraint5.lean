/- FnExactIsValidConstraint: what its proof needs, put together by this session's program wip/merge.py out of the texts that wip/xp.py printed and of this session's own. -/
import Derived.Test.YtpppopdmnejcfaaQFnExactIsValidConstraint4
import Derived.Test.YtpppopdmnejcfaaRows
import Derived.WalkKit
import Derived.ProofKit
import Derived.OpenShut
import Derived.ShutString
import Derived.ChangeOld
import Derived.Below
import Derived.SizedLaws
import Derived.Lib.SmallJoins
namespace Go.Proofs.Ytpppopdmnejcfaa.A
open Go.RowKit Go.Proofs.Ytpppopdmnejcfaa.Ext Go.Proofs.YtpppopdmnejcfaaW.PrintWords Go.Proofs.YtpppopdmnejcfaaW.PrintLast Go.Proofs.YtpppopdmnejcfaaW.PrintMore
attribute [local go_sem] max2_int min2_int max_two min_two max_three min_three max_four min_four   -- for this text's walks alone
set_option linter.unusedVariables false
set_option linter.unusedSimpArgs false

/-! ### impl_IsValidProblem: function 64 -/
def impl_IsValidProblem.f (k : Nat) (l0_0 : List (S44)) : Option (Bool) := if (l0_0.length : Int) ≤ 6 then ((impl_Constraint_148.f k l0_0).bind fun t64002 => (some (!t64002))) else (some false)
theorem impl_IsValidProblem.mono : ∀ a0 k, LeO (impl_IsValidProblem.f k a0) (impl_IsValidProblem.f (k + 1) a0) := by
  intro a0 k
  unfold impl_IsValidProblem.f
  repeat' first
      | (with_reducible exact impl_Constraint_148.mono _ _)
      | (with_reducible exact LeO.refl _)
      | (with_reducible exact LeO.none _)
      | (with_reducible refine LeO.ite ?_ ?_)
      | (with_reducible refine LeO.bind ?_ (fun _ => ?_))
      | exact impl_Constraint_148.mono _ _
      | exact LeO.none _
      | refine LeO.ite ?_ ?_
      | refine LeO.bind ?_ (fun _ => ?_)
set_option maxHeartbeats 8000000 in
set_option maxRecDepth 100000 in
theorem impl_IsValidProblem.calls (k : Nat) (A0_0 : Option Addr) (c0_0 : Nat) (l0_0 : List (S44)) (r : Bool) (w : World) (hr0_0 : Kd.C k44 w A0_0 l0_0.length l0_0) (hc0_0 : l0_0.length ≤ c0_0) (h : impl_IsValidProblem.f k l0_0 = some r) :
    Calls Try.prog 64 #[.agg #[.slice A0_0 l0_0.length c0_0]] w fun e w' => e = .returned (.bool r) ∧ Below w.heap.size w w' := by
  have hu29 := Try.underlying29
  have HR0_0 := Aside0.mk hr0_0
  have HC0_0 := Aside0.mk hc0_0
  clear hr0_0 hc0_0
  have HB := Aside0.mk (Below.refl w.heap.size w)
  have H : (if (l0_0.length : Int) ≤ 6 then ((impl_Constraint_148.f k l0_0).bind fun t64002 => (some (!t64002))) else (some false)) = some r := h
  clear h
  by_cases c2 : (l0_0.length : Int) ≤ 6
  · rw [if_pos c2] at H
    have c2b0 : decide ((l0_0.length : Int) ≤ 6) = true := decide_eq_true c2
    have c2b1 : decide (l0_0.length ≤ 6) = true := decide_eq_true (by omega)
    clear c2
    replace H := Option.bind_eq_some_iff.mp H
    obtain ⟨t64002, A30, H⟩ := H
    replace H : (some (!t64002)) = some r := H
    have A3 := Aside0.mk A30
    clear A30
    obtain rfl := Option.some.inj H
    go_enter Try.func64, Try.ntmps64
    go_wp2_with (first | ((with_reducible refine gate_dst (N := 1) rfl ?_); refine box_event ?hg (N := 1) ?hd (cs := #[.slice A0_0 l0_0.length c0_0]) (t := 29) ?hr ?_; (case hd => rfl); (case hg => rfl); (case hr => first | (go_simp; done) | (go_simp; rfl)); intro gb64001 hg w4 hbox hb; have n0_ := Aside0.mk (below_step (by repeat (first | (with_reducible first | exact HB.out | apply below_alloc | apply pw_below_drewN | apply below_drew1) | exact HB.out)) hb); have n1_ := Aside0.mk (hbox); have n2_ := Aside0.mk ((by rw [hg]; exact (below_size (by repeat (first | (with_reducible first | exact HB.out | apply below_alloc | apply pw_below_drewN | apply below_drew1) | exact HB.out))) : w.heap.size ≤ gb64001)); have n3_ := Aside0.mk ((by rw [hg]; exact (below_size (by repeat (first | (with_reducible first | exact HB.out | apply below_alloc | apply pw_below_drewN | apply below_drew1) | exact HB.out))) : w.heap.size ≤ gb64001)); clear HB; have HB := n0_; have BK64001 := n1_; have GW64001 := n2_; have GE64001 := n3_; clear n0_ n1_ n2_ n3_; clear hb hbox hg; have hcz5_0 : w4.cell? ⟨gb64001, 0, none⟩ = some (.slice A0_0 l0_0.length c0_0) := (blk_cell BK64001.out 0).trans rfl; have hfz5_0 := blk_frozen BK64001.out 0) | (go_at_call 148; (with_reducible refine (impl_Constraint_148.calls k _ _ l0_0 t64002 _ ?side1 ?side2 A3.out).mono ?_); (case side1 => repeat (first | exact (Kd.C_below HR0_0.out HB.out) | (with_reducible refine Kd.C_alloc ?_ _) | (with_reducible refine Kd.C_drewN ?_ _) | (with_reducible refine Kd.C_drew ?_))); (case side2 => exact HC0_0.out); rintro e w6 ⟨rfl, hb⟩; have n0_ := Aside0.mk (blk_below (g := gb64001) (o := .cells #[.slice A0_0 l0_0.length c0_0] 29 (0, 0)) (by (with_reducible repeat (first | refine blk_drewN ?_ _ | refine blk_drew ?_ | refine blk_alloc ?_ _)); exact BK64001.out) hb); have n1_ := Aside0.mk (below_step (by repeat (first | (with_reducible first | exact HB.out | apply below_alloc | apply pw_below_drewN | apply below_drew1 | refine below_set ?_ GE64001.out) | exact HB.out)) hb); clear BK64001; clear HB; have BK64001 := n0_; have HB := n1_; clear n0_ n1_; (try clear hb); (try clear hb2); (try clear hk); (try clear hi)))
    go_ret
    exact ⟨by first | rfl | (simp [errW_none, errW_some] <;> rfl) | (simp [*, errW_none, errW_some] <;> rfl), by repeat (first | (with_reducible first | exact HB.out | apply below_alloc | apply pw_below_drewN | apply below_drew1 | refine below_set ?_ GE64001.out) | exact HB.out)⟩
  · rw [if_neg c2] at H
    have c2b0 : decide ((l0_0.length : Int) ≤ 6) = false := decide_eq_false c2
    have c2b1 : decide (l0_0.length ≤ 6) = false := decide_eq_false (by omega)
    clear c2
    obtain rfl := Option.some.inj H
    go_enter Try.func64, Try.ntmps64
    go_wp2_with (first | ((with_reducible refine gate_dst (N := 1) rfl ?_); refine box_event ?hg (N := 1) ?hd (cs := #[.slice A0_0 l0_0.length c0_0]) (t := 29) ?hr ?_; (case hd => rfl); (case hg => rfl); (case hr => first | (go_simp; done) | (go_simp; rfl)); intro gb64001 hg w7 hbox hb; have n0_ := Aside0.mk (below_step (by repeat (first | (with_reducible first | exact HB.out | apply below_alloc | apply pw_below_drewN | apply below_drew1) | exact HB.out)) hb); have n1_ := Aside0.mk (hbox); have n2_ := Aside0.mk ((by rw [hg]; exact (below_size (by repeat (first | (with_reducible first | exact HB.out | apply below_alloc | apply pw_below_drewN | apply below_drew1) | exact HB.out))) : w.heap.size ≤ gb64001)); have n3_ := Aside0.mk ((by rw [hg]; exact (below_size (by repeat (first | (with_reducible first | exact HB.out | apply below_alloc | apply pw_below_drewN | apply below_drew1) | exact HB.out))) : w.heap.size ≤ gb64001)); clear HB; have HB := n0_; have BK64001 := n1_; have GW64001 := n2_; have GE64001 := n3_; clear n0_ n1_ n2_ n3_; clear hb hbox hg; have hcz8_0 : w7.cell? ⟨gb64001, 0, none⟩ = some (.slice A0_0 l0_0.length c0_0) := (blk_cell BK64001.out 0).trans rfl; have hfz8_0 := blk_frozen BK64001.out 0))
    go_ret
    exact ⟨by first | rfl | (simp [errW_none, errW_some] <;> rfl) | (simp [*, errW_none, errW_some] <;> rfl), by repeat (first | (with_reducible first | exact HB.out | apply below_alloc | apply pw_below_drewN | apply below_drew1 | refine below_set ?_ GE64001.out) | exact HB.out)⟩

/-! ### impl_VarsOfProblem: function 66 -/
def impl_VarsOfProblem.l0 : Nat → ByteArray → List (S44) → Int → Int → Option (ByteArray)
  | 0, _, _, _, _ => none
  | k + 1, x3, x10, x11, x12 => if x12 < x11 then (if 0 ≤ x12 then (if x12 < (x10.length : Int) then ((impl_VarsOfConstraint.f k ((rd_T44 x10 x12).f0) ((rd_T44 x10 x12).f1) ((rd_T44 x10 x12).f2) ((rd_T44 x10 x12).f3.f0) ((rd_T44 x10 x12).f3.f1) ((rd_T44 x10 x12).f3.f2) ((rd_T44 x10 x12).f4) ((rd_T44 x10 x12).f5)).bind fun t66005 => (if x3.size + t66005.size ≤ 9223372036854775807 then (impl_VarsOfProblem.l0 k (x3 ++ t66005) x10 x11 (wrap64 (x12 + 1))) else (none))) else (none)) else (none)) else ((impl_VarsOf.f k x3).bind fun t66006 => (some t66006))
def impl_VarsOfProblem.f (k : Nat) (l0_0 : List (S44)) : Option (ByteArray) := (impl_IsValidProblem.f k l0_0).bind fun t66002 => (if t66002 = true then (impl_VarsOfProblem.l0 k (⟨#[]⟩ : ByteArray) l0_0 (l0_0.length : Int) 0) else (some (⟨#[]⟩ : ByteArray)))
theorem impl_VarsOfProblem.mono_l : ∀ k, (∀ y0 y1 y2 y3, LeO (impl_VarsOfProblem.l0 k y0 y1 y2 y3) (impl_VarsOfProblem.l0 (k + 1) y0 y1 y2 y3))
  | 0 => fun _ _ _ _ r h => by simp [impl_VarsOfProblem.l0] at h
  | k + 1 => by
    have ih0 := impl_VarsOfProblem.mono_l k
    · intro y0 y1 y2 y3
      unfold impl_VarsOfProblem.l0
      repeat' first
      | (with_reducible exact ih0 _ _ _ _)
      | (with_reducible exact impl_IsValidProblem.mono _ _)
      | (with_reducible exact impl_VarsOf.mono _ _)
      | (with_reducible exact impl_VarsOfConstraint.mono _ _ _ _ _ _ _ _ _)
      | (with_reducible exact LeO.refl _)
      | (with_reducible exact LeO.none _)
      | (with_reducible refine LeO.ite ?_ ?_)
      | (with_reducible refine LeO.bind ?_ (fun _ => ?_))
      | exact ih0 _ _ _ _
      | exact impl_IsValidProblem.mono _ _
      | exact impl_VarsOf.mono _ _
      | exact impl_VarsOfConstraint.mono _ _ _ _ _ _ _ _ _
      | exact LeO.none _
      | refine LeO.ite ?_ ?_
      | refine LeO.bind ?_ (fun _ => ?_)
theorem impl_VarsOfProblem.mono : ∀ a0 k, LeO (impl_VarsOfProblem.f k a0) (impl_VarsOfProblem.f (k + 1) a0) := by
  intro a0 k
  have ih0 := impl_VarsOfProblem.mono_l k
  unfold impl_VarsOfProblem.f
  repeat' first
      | (with_reducible exact ih0 _ _ _ _)
      | (with_reducible exact impl_IsValidProblem.mono _ _)
      | (with_reducible exact impl_VarsOf.mono _ _)
      | (with_reducible exact impl_VarsOfConstraint.mono _ _ _ _ _ _ _ _ _)
      | (with_reducible exact LeO.refl _)
      | (with_reducible exact LeO.none _)
      | (with_reducible refine LeO.ite ?_ ?_)
      | (with_reducible refine LeO.bind ?_ (fun _ => ?_))
      | exact ih0 _ _ _ _
      | exact impl_IsValidProblem.mono _ _
      | exact impl_VarsOf.mono _ _
      | exact impl_VarsOfConstraint.mono _ _ _ _ _ _ _ _ _
      | exact LeO.none _
      | refine LeO.ite ?_ ?_
      | refine LeO.bind ?_ (fun _ => ?_)
set_option maxHeartbeats 8000000 in
set_option maxRecDepth 100000 in
theorem impl_VarsOfProblem.calls (k : Nat) (A0_0 : Option Addr) (c0_0 : Nat) (l0_0 : List (S44)) (r : ByteArray) (w : World) (hr0_0 : Kd.C k44 w A0_0 l0_0.length l0_0) (hc0_0 : l0_0.length ≤ c0_0) (h : impl_VarsOfProblem.f k l0_0 = some r) :
    Calls Try.prog 66 #[.agg #[.slice A0_0 l0_0.length c0_0]] w fun e w' => e = .returned (.string r) ∧ Below w.heap.size w w' := by
  have hu29 := Try.underlying29
  have hu44 := Try.underlying44
  have HR0_0 := Aside0.mk hr0_0
  have HC0_0 := Aside0.mk hc0_0
  clear hr0_0 hc0_0
  have HB := Aside0.mk (Below.refl w.heap.size w)
  have H : ((impl_IsValidProblem.f k l0_0).bind fun t66002 => (if t66002 = true then (impl_VarsOfProblem.l0 k (⟨#[]⟩ : ByteArray) l0_0 (l0_0.length : Int) 0) else (some (⟨#[]⟩ : ByteArray)))) = some r := h
  clear h
  replace H := Option.bind_eq_some_iff.mp H
  obtain ⟨t66002, A20, H⟩ := H
  replace H : (if t66002 = true then (impl_VarsOfProblem.l0 k (⟨#[]⟩ : ByteArray) l0_0 (l0_0.length : Int) 0) else (some (⟨#[]⟩ : ByteArray))) = some r := H
  have A2 := Aside0.mk A20
  clear A20
  by_cases c3 : t66002 = true
  · subst c3
    have H1 : (impl_VarsOfProblem.l0 k (⟨#[]⟩ : ByteArray) l0_0 (l0_0.length : Int) 0) = some r := by rw [if_pos rfl] at H; exact H
    clear H
    have H := H1
    clear H1
    have H' := Aside0.mk H
    clear H
    go_enter Try.func66, Try.ntmps66
    go_wp2_with (first | ((with_reducible refine gate_dst (N := 1) rfl ?_); refine box_event ?hg (N := 1) ?hd (cs := #[.slice A0_0 l0_0.length c0_0]) (t := 29) ?hr ?_; (case hd => rfl); (case hg => rfl); (case hr => first | (go_simp; done) | (go_simp; rfl)); intro gb66001 hg w4 hbox hb; have n0_ := Aside0.mk (below_step (by repeat (first | (with_reducible first | exact HB.out | apply below_alloc | apply pw_below_drewN | apply below_drew1) | exact HB.out)) hb); have n1_ := Aside0.mk (hbox); have n2_ := Aside0.mk ((by rw [hg]; exact (below_size (by repeat (first | (with_reducible first | exact HB.out | apply below_alloc | apply pw_below_drewN | apply below_drew1) | exact HB.out))) : w.heap.size ≤ gb66001)); have n3_ := Aside0.mk ((by rw [hg]; exact (below_size (by repeat (first | (with_reducible first | exact HB.out | apply below_alloc | apply pw_below_drewN | apply below_drew1) | exact HB.out))) : w.heap.size ≤ gb66001)); clear HB; have HB := n0_; have BK66001 := n1_; have GW66001 := n2_; have GE66001 := n3_; clear n0_ n1_ n2_ n3_; clear hb hbox hg; have hcz5_0 : w4.cell? ⟨gb66001, 0, none⟩ = some (.slice A0_0 l0_0.length c0_0) := (blk_cell BK66001.out 0).trans rfl; have hfz5_0 := blk_frozen BK66001.out 0) | ((with_reducible refine gate_callee (f := 64) rfl ?_); refine goesL_ (some 7) rfl rfl Try.func64 (by kernel_rfl) rfl #[.agg #[.slice A0_0 l0_0.length c0_0]] rfl (by (try simp only [List.map_toArray, List.map_cons, List.map_nil]); first | done | rfl | (simp only [List.length_drop, List.length_take]; rfl)) ?_; (with_reducible refine (impl_IsValidProblem.calls k _ _ l0_0 true _ ?side1 ?side2 A2.out).mono ?_); (case side1 => repeat (first | exact (Kd.C_below HR0_0.out HB.out) | (with_reducible refine Kd.C_alloc ?_ _) | (with_reducible refine Kd.C_drewN ?_ _) | (with_reducible refine Kd.C_drew ?_))); (case side2 => exact HC0_0.out); rintro e w6 ⟨rfl, hb⟩; refine ⟨_, rfl, ?_⟩; have n0_ := Aside0.mk (blk_below (g := gb66001) (o := .cells #[.slice A0_0 l0_0.length c0_0] 29 (0, 0)) (by (with_reducible repeat (first | refine blk_drewN ?_ _ | refine blk_drew ?_ | refine blk_alloc ?_ _)); exact BK66001.out) hb); have n1_ := Aside0.mk (below_step (by repeat (first | (with_reducible first | exact HB.out | apply below_alloc | apply pw_below_drewN | apply below_drew1 | refine below_set ?_ GE66001.out) | exact HB.out)) hb); clear BK66001; clear HB; have BK66001 := n0_; have HB := n1_; clear n0_ n1_; (try clear hb); (try clear hb2); (try clear hk); (try clear hi); have hcz7_0 : w6.cell? ⟨gb66001, 0, none⟩ = some (.slice A0_0 l0_0.length c0_0) := (blk_cell BK66001.out 0).trans rfl; have hfz7_0 := blk_frozen BK66001.out 0))
    first | go_loopg [3, 12] k (fun kq v3 v12 w' => ∃ (x3_1 : ByteArray) (x12_1 : Int), v3 = .string x3_1 ∧ v12 = .int .i64 x12_1 ∧ Aside0 (impl_VarsOfProblem.l0 kq x3_1 l0_0 (l0_0.length : Int) x12_1 = some r) ∧ Aside0 (kq ≤ k) ∧ Aside0 (w'.heap[gb66001]? = some (.cells #[(.slice A0_0 l0_0.length c0_0)] 29 (0, 0))) ∧ Aside0 (Below w.heap.size w w')) | (simp only [Act.put, List.setIfInBounds_toArray, List.set_cons_succ, List.set_cons_zero]; go_loopg [3, 12] k (fun kq v3 v12 w' => ∃ (x3_1 : ByteArray) (x12_1 : Int), v3 = .string x3_1 ∧ v12 = .int .i64 x12_1 ∧ Aside0 (impl_VarsOfProblem.l0 kq x3_1 l0_0 (l0_0.length : Int) x12_1 = some r) ∧ Aside0 (kq ≤ k) ∧ Aside0 (w'.heap[gb66001]? = some (.cells #[(.slice A0_0 l0_0.length c0_0)] 29 (0, 0))) ∧ Aside0 (Below w.heap.size w w')))
    case atStart => exact ⟨((⟨#[]⟩ : ByteArray)), (0), (by first | rfl | (simp; done) | (simp [*]; done)), (by first | rfl | (simp; done) | (simp [*]; done)), H', ⟨Nat.le_refl _⟩, ⟨by (with_reducible repeat (first | refine blk_drewN ?_ _ | refine blk_drew ?_ | refine blk_alloc ?_ _)); exact BK66001.out⟩, ⟨by repeat (first | (with_reducible first | exact HB.out | apply below_alloc | apply pw_below_drewN | apply below_drew1 | refine below_set ?_ GE66001.out) | exact HB.out)⟩⟩
    case round =>
      clear H'
      try clear p2
      try clear c3
      try clear c6
      try clear hcz5_0
      try clear hcz7_0
      try clear hfz5_0
      try clear hfz7_0
      obtain ⟨x3_1, x12_1, rfl, rfl, HA, HK1, BK66001, HB⟩ := hrel
      cases gk with
      | zero => exact absurd HA.out (by simp [impl_VarsOfProblem.l0])
      | succ k1 =>
        have H := HA.out
        clear HA
        simp only [impl_VarsOfProblem.l0] at H
        by_cases c8 : x12_1 < (l0_0.length : Int)
        · rw [if_pos c8] at H
          have c8b0 : decide (x12_1 < (l0_0.length : Int)) = true := decide_eq_true c8
          clear c8
          by_cases c9 : 0 ≤ x12_1
          · rw [if_pos c9] at H
            have c9b0 : decide (0 ≤ x12_1) = true := decide_eq_true c9
            clear c9
            by_cases c10 : x12_1 < (l0_0.length : Int)
            · rw [if_pos c10] at H
              have c10b0 : decide (x12_1 < (l0_0.length : Int)) = true := decide_eq_true c10
              clear c10
              replace H := Option.bind_eq_some_iff.mp H
              obtain ⟨t66005, A110, H⟩ := H
              replace H : (if x3_1.size + t66005.size ≤ 9223372036854775807 then (impl_VarsOfProblem.l0 k1 (x3_1 ++ t66005) l0_0 (l0_0.length : Int) (wrap64 (x12_1 + 1))) else (none)) = some r := H
              have A11 := Aside0.mk A110
              clear A110
              by_cases c12 : x3_1.size + t66005.size ≤ 9223372036854775807
              · rw [if_pos c12] at H
                have c12z := c12
                try simp at c12z
                try replace c12z := eq_false (Nat.not_lt.2 c12z)
                have c12b0 := eq_true c12
                have c12b1 : decide (x3_1.size + t66005.size ≤ 9223372036854775807) = true := decide_eq_true c12
                try have c12b2 : (9223372036854775807 < x3_1.size + t66005.size) = False := eq_false (Nat.not_lt.2 c12)
                have H' := Aside0.mk H
                clear H
                have p66003 : 0 ≤ (x12_1 : Int) := of_decide_eq_true (by first | (with_reducible assumption) | assumption)
                have q66003 : x12_1 < (l0_0.length : Int) := of_decide_eq_true (by first | (with_reducible assumption) | assumption)
                obtain ⟨ad66003, A66003_5, c66003_5, A66003_6, c66003_6, e66003, hx66003_0, hx66003_1, hx66003_2, hx66003_3, hx66003_4, hx66003_5, hx66003_6, hx66003_7, hl66003_5, hi66003_5, hl66003_6, hi66003_6⟩ := at_T44 HR0_0.out x12_1 p66003 q66003
                cases e66003
                replace hx66003_0 := (HB.out.cell (World.block_lt_of_cell? w _ hx66003_0)).trans hx66003_0
                replace hx66003_1 := (HB.out.cell (World.block_lt_of_cell? w _ hx66003_1)).trans hx66003_1
                replace hx66003_2 := (HB.out.cell (World.block_lt_of_cell? w _ hx66003_2)).trans hx66003_2
                replace hx66003_3 := (HB.out.cell (World.block_lt_of_cell? w _ hx66003_3)).trans hx66003_3
                replace hx66003_4 := (HB.out.cell (World.block_lt_of_cell? w _ hx66003_4)).trans hx66003_4
                replace hx66003_5 := (HB.out.cell (World.block_lt_of_cell? w _ hx66003_5)).trans hx66003_5
                replace hx66003_6 := (HB.out.cell (World.block_lt_of_cell? w _ hx66003_6)).trans hx66003_6
                replace hx66003_7 := (HB.out.cell (World.block_lt_of_cell? w _ hx66003_7)).trans hx66003_7
                have HR66003_5 := Aside0.mk hi66003_5
                have HC66003_5 := Aside0.mk hl66003_5
                clear hi66003_5 hl66003_5
                have HR66003_6 := Aside0.mk hi66003_6
                have HC66003_6 := Aside0.mk hl66003_6
                clear hi66003_6 hl66003_6
                replace p66003 := eq_true p66003
                replace q66003 := eq_true q66003
                go_wp2_with (first | ((with_reducible refine gate_dst (N := 5) rfl ?_); refine box_event ?hg (N := 5) ?hd (cs := #[.int .i64 0, .string (⟨#[]⟩ : ByteArray), .string (⟨#[]⟩ : ByteArray), .int .i64 0, .string (⟨#[]⟩ : ByteArray), .slice none 0 0, .slice none 0 0, .int .i64 0]) (t := 44) ?hr ?_; (case hd => rfl); (case hg => rfl); (case hr => first | (go_simp; done) | (go_simp; rfl)); intro gb66004 hg w13 hbox hb; have n0_ := Aside0.mk (blk_below (g := gb66001) (o := .cells #[.slice (some ad66003) l0_0.length c0_0] 29 (0, 0)) (by (with_reducible repeat (first | refine blk_drewN ?_ _ | refine blk_drew ?_ | refine blk_alloc ?_ _)); exact BK66001.out) hb); have n1_ := Aside0.mk (below_step (by repeat (first | (with_reducible first | exact HB.out | apply below_alloc | apply pw_below_drewN | apply below_drew1 | refine below_set ?_ GE66001.out) | exact HB.out)) hb); have n2_ := Aside0.mk (hbox); have n3_ := Aside0.mk ((by rw [hg]; exact (below_size (by repeat (first | (with_reducible first | exact HB.out | apply below_alloc | apply pw_below_drewN | apply below_drew1 | refine below_set ?_ GE66001.out) | exact HB.out))) : w.heap.size ≤ gb66004)); have n4_ := Aside0.mk ((by rw [hg]; exact (below_size (by repeat (first | (with_reducible first | exact HB.out | apply below_alloc | apply pw_below_drewN | apply below_drew1 | refine below_set ?_ GE66001.out) | exact HB.out))) : w.heap.size ≤ gb66004)); have n5_ := Aside0.mk ((by rw [hg]; exact Nat.ne_of_lt (blk_lt (g := gb66001) (o := .cells #[.slice (some ad66003) l0_0.length c0_0] 29 (0, 0)) (by (with_reducible repeat (first | refine blk_drewN ?_ _ | refine blk_drew ?_ | refine blk_alloc ?_ _)); exact BK66001.out)) : gb66001 ≠ gb66004)); have n6_ := Aside0.mk ((by rw [hg]; exact Nat.ne_of_gt (blk_lt (g := gb66001) (o := .cells #[.slice (some ad66003) l0_0.length c0_0] 29 (0, 0)) (by (with_reducible repeat (first | refine blk_drewN ?_ _ | refine blk_drew ?_ | refine blk_alloc ?_ _)); exact BK66001.out)) : gb66004 ≠ gb66001)); clear BK66001; clear HB; have BK66001 := n0_; have HB := n1_; have BK66004 := n2_; have GW66004 := n3_; have GE66004 := n4_; have NB66001_66004 := n5_; have NB66004_66001 := n6_; clear n0_ n1_ n2_ n3_ n4_ n5_ n6_; clear hb hbox hg; have hnb14 := NB66004_66001.out; have hnc14 := NB66001_66004.out; have hcz15_0 : w13.cell? ⟨gb66004, 0, none⟩ = some (.int .i64 0) := (blk_cell BK66004.out 0).trans rfl; have hcz15_1 : w13.cell? ⟨gb66004, 1, none⟩ = some (.string (⟨#[]⟩ : ByteArray)) := (blk_cell BK66004.out 1).trans rfl; have hcz15_2 : w13.cell? ⟨gb66004, 2, none⟩ = some (.string (⟨#[]⟩ : ByteArray)) := (blk_cell BK66004.out 2).trans rfl; have hcz15_3 : w13.cell? ⟨gb66004, 3, none⟩ = some (.int .i64 0) := (blk_cell BK66004.out 3).trans rfl; have hcz15_4 : w13.cell? ⟨gb66004, 4, none⟩ = some (.string (⟨#[]⟩ : ByteArray)) := (blk_cell BK66004.out 4).trans rfl; have hcz15_5 : w13.cell? ⟨gb66004, 5, none⟩ = some (.slice none 0 0) := (blk_cell BK66004.out 5).trans rfl; have hcz15_6 : w13.cell? ⟨gb66004, 6, none⟩ = some (.slice none 0 0) := (blk_cell BK66004.out 6).trans rfl; have hcz15_7 : w13.cell? ⟨gb66004, 7, none⟩ = some (.int .i64 0) := (blk_cell BK66004.out 7).trans rfl; have hfz15_0 := blk_frozen BK66004.out 0; have hfz15_1 := blk_frozen BK66004.out 1; have hfz15_2 := blk_frozen BK66004.out 2; have hfz15_3 := blk_frozen BK66004.out 3; have hfz15_4 := blk_frozen BK66004.out 4; have hfz15_5 := blk_frozen BK66004.out 5; have hfz15_6 := blk_frozen BK66004.out 6; have hfz15_7 := blk_frozen BK66004.out 7) | ((with_reducible refine gate_callee (f := 62) rfl ?_); refine goesL_ (some 18) rfl rfl Try.func62 (by kernel_rfl) rfl #[.agg #[.int .i64 ((rd_T44 l0_0 x12_1).f0), .string ((rd_T44 l0_0 x12_1).f1), .string ((rd_T44 l0_0 x12_1).f2), .int .i64 ((rd_T44 l0_0 x12_1).f3.f0), .string ((rd_T44 l0_0 x12_1).f3.f1), .slice A66003_5 ((rd_T44 l0_0 x12_1).f3.f2).length c66003_5, .slice A66003_6 ((rd_T44 l0_0 x12_1).f4).length c66003_6, .int .i64 ((rd_T44 l0_0 x12_1).f5)]] rfl (by (try simp only [List.map_toArray, List.map_cons, List.map_nil]); first | done | rfl | (simp only [List.length_drop, List.length_take]; rfl)) ?_; (with_reducible refine (impl_VarsOfConstraint.calls k1 ((rd_T44 l0_0 x12_1).f0) ((rd_T44 l0_0 x12_1).f1) ((rd_T44 l0_0 x12_1).f2) ((rd_T44 l0_0 x12_1).f3.f0) ((rd_T44 l0_0 x12_1).f3.f1) _ _ ((rd_T44 l0_0 x12_1).f3.f2) _ _ ((rd_T44 l0_0 x12_1).f4) ((rd_T44 l0_0 x12_1).f5) t66005 _ ?side1 ?side2 ?side3 ?side4 A11.out).mono ?_); (case side1 => exact Kd.C_below HR66003_5.out (by repeat (first | (with_reducible first | exact HB.out | apply below_alloc | apply pw_below_drewN | apply below_drew1 | refine below_set ?_ GE66001.out | refine below_set ?_ GE66004.out) | exact HB.out))); (case side2 => exact HC66003_5.out); (case side3 => exact Kd.C_below HR66003_6.out (by repeat (first | (with_reducible first | exact HB.out | apply below_alloc | apply pw_below_drewN | apply below_drew1 | refine below_set ?_ GE66001.out | refine below_set ?_ GE66004.out) | exact HB.out))); (case side4 => exact HC66003_6.out); rintro e w16 ⟨rfl, hb⟩; refine ⟨_, rfl, ?_⟩; have n0_ := Aside0.mk (blk_below (g := gb66001) (o := .cells #[.slice (some ad66003) l0_0.length c0_0] 29 (0, 0)) (by (with_reducible repeat (first | refine blk_drewN ?_ _ | refine blk_drew ?_ | refine blk_alloc ?_ _)); refine blk_far ?_ NB66001_66004.out _; (with_reducible repeat (first | refine blk_drewN ?_ _ | refine blk_drew ?_ | refine blk_alloc ?_ _)); refine blk_far ?_ NB66001_66004.out _; (with_reducible repeat (first | refine blk_drewN ?_ _ | refine blk_drew ?_ | refine blk_alloc ?_ _)); refine blk_far ?_ NB66001_66004.out _; (with_reducible repeat (first | refine blk_drewN ?_ _ | refine blk_drew ?_ | refine blk_alloc ?_ _)); refine blk_far ?_ NB66001_66004.out _; (with_reducible repeat (first | refine blk_drewN ?_ _ | refine blk_drew ?_ | refine blk_alloc ?_ _)); refine blk_far ?_ NB66001_66004.out _; (with_reducible repeat (first | refine blk_drewN ?_ _ | refine blk_drew ?_ | refine blk_alloc ?_ _)); refine blk_far ?_ NB66001_66004.out _; (with_reducible repeat (first | refine blk_drewN ?_ _ | refine blk_drew ?_ | refine blk_alloc ?_ _)); refine blk_far ?_ NB66001_66004.out _; (with_reducible repeat (first | refine blk_drewN ?_ _ | refine blk_drew ?_ | refine blk_alloc ?_ _)); refine blk_far ?_ NB66001_66004.out _; (with_reducible repeat (first | refine blk_drewN ?_ _ | refine blk_drew ?_ | refine blk_alloc ?_ _)); exact BK66001.out) hb); have n1_ := Aside0.mk (blk_below (g := gb66004) (o := .cells #[.int .i64 ((rd_T44 l0_0 x12_1).f0), .string ((rd_T44 l0_0 x12_1).f1), .string ((rd_T44 l0_0 x12_1).f2), .int .i64 ((rd_T44 l0_0 x12_1).f3.f0), .string ((rd_T44 l0_0 x12_1).f3.f1), .slice A66003_5 ((rd_T44 l0_0 x12_1).f3.f2).length c66003_5, .slice A66003_6 ((rd_T44 l0_0 x12_1).f4).length c66003_6, .int .i64 ((rd_T44 l0_0 x12_1).f5)] 44 (0, 0)) (by (with_reducible repeat (first | refine blk_drewN ?_ _ | refine blk_drew ?_ | refine blk_alloc ?_ _)); refine blk_put (cs := #[.int .i64 ((rd_T44 l0_0 x12_1).f0), .string ((rd_T44 l0_0 x12_1).f1), .string ((rd_T44 l0_0 x12_1).f2), .int .i64 ((rd_T44 l0_0 x12_1).f3.f0), .string ((rd_T44 l0_0 x12_1).f3.f1), .slice A66003_5 ((rd_T44 l0_0 x12_1).f3.f2).length c66003_5, .slice A66003_6 ((rd_T44 l0_0 x12_1).f4).length c66003_6, .int .i64 0]) ?_ 7 _ rfl; (with_reducible repeat (first | refine blk_drewN ?_ _ | refine blk_drew ?_ | refine blk_alloc ?_ _)); refine blk_put (cs := #[.int .i64 ((rd_T44 l0_0 x12_1).f0), .string ((rd_T44 l0_0 x12_1).f1), .string ((rd_T44 l0_0 x12_1).f2), .int .i64 ((rd_T44 l0_0 x12_1).f3.f0), .string ((rd_T44 l0_0 x12_1).f3.f1), .slice A66003_5 ((rd_T44 l0_0 x12_1).f3.f2).length c66003_5, .slice none 0 0, .int .i64 0]) ?_ 6 _ rfl; (with_reducible repeat (first | refine blk_drewN ?_ _ | refine blk_drew ?_ | refine blk_alloc ?_ _)); refine blk_put (cs := #[.int .i64 ((rd_T44 l0_0 x12_1).f0), .string ((rd_T44 l0_0 x12_1).f1), .string ((rd_T44 l0_0 x12_1).f2), .int .i64 ((rd_T44 l0_0 x12_1).f3.f0), .string ((rd_T44 l0_0 x12_1).f3.f1), .slice none 0 0, .slice none 0 0, .int .i64 0]) ?_ 5 _ rfl; (with_reducible repeat (first | refine blk_drewN ?_ _ | refine blk_drew ?_ | refine blk_alloc ?_ _)); refine blk_put (cs := #[.int .i64 ((rd_T44 l0_0 x12_1).f0), .string ((rd_T44 l0_0 x12_1).f1), .string ((rd_T44 l0_0 x12_1).f2), .int .i64 ((rd_T44 l0_0 x12_1).f3.f0), .string (⟨#[]⟩ : ByteArray), .slice none 0 0, .slice none 0 0, .int .i64 0]) ?_ 4 _ rfl; (with_reducible repeat (first | refine blk_drewN ?_ _ | refine blk_drew ?_ | refine blk_alloc ?_ _)); refine blk_put (cs := #[.int .i64 ((rd_T44 l0_0 x12_1).f0), .string ((rd_T44 l0_0 x12_1).f1), .string ((rd_T44 l0_0 x12_1).f2), .int .i64 0, .string (⟨#[]⟩ : ByteArray), .slice none 0 0, .slice none 0 0, .int .i64 0]) ?_ 3 _ rfl; (with_reducible repeat (first | refine blk_drewN ?_ _ | refine blk_drew ?_ | refine blk_alloc ?_ _)); refine blk_put (cs := #[.int .i64 ((rd_T44 l0_0 x12_1).f0), .string ((rd_T44 l0_0 x12_1).f1), .string (⟨#[]⟩ : ByteArray), .int .i64 0, .string (⟨#[]⟩ : ByteArray), .slice none 0 0, .slice none 0 0, .int .i64 0]) ?_ 2 _ rfl; (with_reducible repeat (first | refine blk_drewN ?_ _ | refine blk_drew ?_ | refine blk_alloc ?_ _)); refine blk_put (cs := #[.int .i64 ((rd_T44 l0_0 x12_1).f0), .string (⟨#[]⟩ : ByteArray), .string (⟨#[]⟩ : ByteArray), .int .i64 0, .string (⟨#[]⟩ : ByteArray), .slice none 0 0, .slice none 0 0, .int .i64 0]) ?_ 1 _ rfl; (with_reducible repeat (first | refine blk_drewN ?_ _ | refine blk_drew ?_ | refine blk_alloc ?_ _)); refine blk_put (cs := #[.int .i64 0, .string (⟨#[]⟩ : ByteArray), .string (⟨#[]⟩ : ByteArray), .int .i64 0, .string (⟨#[]⟩ : ByteArray), .slice none 0 0, .slice none 0 0, .int .i64 0]) ?_ 0 _ rfl; (with_reducible repeat (first | refine blk_drewN ?_ _ | refine blk_drew ?_ | refine blk_alloc ?_ _)); exact BK66004.out) hb); have n2_ := Aside0.mk (below_step (by repeat (first | (with_reducible first | exact HB.out | apply below_alloc | apply pw_below_drewN | apply below_drew1 | refine below_set ?_ GE66001.out | refine below_set ?_ GE66004.out) | exact HB.out)) hb); clear BK66001; clear BK66004; clear HB; have BK66001 := n0_; have BK66004 := n1_; have HB := n2_; clear n0_ n1_ n2_; (try clear hb); (try clear hb2); (try clear hk); (try clear hi)))
                go_roundg k1
                case measure => have := HK1.out; omega
                case rel => exact ⟨(x3_1 ++ t66005), (wrap64 (x12_1 + 1)), (by first | rfl | (simp; done) | (simp [*]; done)), (by first | rfl | (simp; done) | (simp [*]; done)), H', ⟨by have := HK1.out; omega⟩, ⟨by (with_reducible repeat (first | refine blk_drewN ?_ _ | refine blk_drew ?_ | refine blk_alloc ?_ _)); exact BK66001.out⟩, ⟨by repeat (first | (with_reducible first | exact HB.out | apply below_alloc | apply pw_below_drewN | apply below_drew1 | refine below_set ?_ GE66001.out | refine below_set ?_ GE66004.out) | exact HB.out)⟩⟩
              · rw [if_neg c12] at H
                exact absurd H (by simp)
            · rw [if_neg c10] at H
              exact absurd H (by simp)
          · rw [if_neg c9] at H
            exact absurd H (by simp)
        · rw [if_neg c8] at H
          have c8b0 : decide (x12_1 < (l0_0.length : Int)) = false := decide_eq_false c8
          clear c8
          replace H := Option.bind_eq_some_iff.mp H
          obtain ⟨t66006, A170, H⟩ := H
          replace H : (some t66006) = some r := H
          have A17 := Aside0.mk A170
          clear A170
          obtain rfl := Option.some.inj H
          go_wp2_with (first | ((with_reducible refine gate_callee (f := 47) rfl ?_); refine goesL_ (some 22) rfl rfl Try.func47 (by kernel_rfl) rfl #[.string x3_1] rfl (by (try simp only [List.map_toArray, List.map_cons, List.map_nil]); first | done | rfl | (simp only [List.length_drop, List.length_take]; rfl)) ?_; (with_reducible refine (impl_VarsOf.calls k1 x3_1 t66006 _ A17.out).mono ?_); rintro e w' ⟨rfl, ⟨nd, rfl⟩⟩; refine ⟨_, rfl, ?_⟩))
          go_ret
          exact ⟨by first | rfl | (simp [errW_none, errW_some] <;> rfl) | (simp [*, errW_none, errW_some] <;> rfl), by repeat (first | (with_reducible first | exact HB.out | apply below_alloc | apply pw_below_drewN | apply below_drew1 | refine below_set ?_ GE66001.out) | exact HB.out)⟩
  · replace c3 := Bool.eq_false_iff.mpr c3
    subst c3
    have H1 : (some (⟨#[]⟩ : ByteArray)) = some r := by rw [if_neg (show ¬ (false = true) by decide)] at H; exact H
    clear H
    have H := H1
    clear H1
    obtain rfl := Option.some.inj H
    go_enter Try.func66, Try.ntmps66
    go_wp2_with (first | ((with_reducible refine gate_dst (N := 1) rfl ?_); refine box_event ?hg (N := 1) ?hd (cs := #[.slice A0_0 l0_0.length c0_0]) (t := 29) ?hr ?_; (case hd => rfl); (case hg => rfl); (case hr => first | (go_simp; done) | (go_simp; rfl)); intro gb66001 hg w18 hbox hb; have n0_ := Aside0.mk (below_step (by repeat (first | (with_reducible first | exact HB.out | apply below_alloc | apply pw_below_drewN | apply below_drew1) | exact HB.out)) hb); have n1_ := Aside0.mk (hbox); have n2_ := Aside0.mk ((by rw [hg]; exact (below_size (by repeat (first | (with_reducible first | exact HB.out | apply below_alloc | apply pw_below_drewN | apply below_drew1) | exact HB.out))) : w.heap.size ≤ gb66001)); have n3_ := Aside0.mk ((by rw [hg]; exact (below_size (by repeat (first | (with_reducible first | exact HB.out | apply below_alloc | apply pw_below_drewN | apply below_drew1) | exact HB.out))) : w.heap.size ≤ gb66001)); clear HB; have HB := n0_; have BK66001 := n1_; have GW66001 := n2_; have GE66001 := n3_; clear n0_ n1_ n2_ n3_; clear hb hbox hg; have hcz19_0 : w18.cell? ⟨gb66001, 0, none⟩ = some (.slice A0_0 l0_0.length c0_0) := (blk_cell BK66001.out 0).trans rfl; have hfz19_0 := blk_frozen BK66001.out 0) | ((with_reducible refine gate_callee (f := 64) rfl ?_); refine goesL_ (some 7) rfl rfl Try.func64 (by kernel_rfl) rfl #[.agg #[.slice A0_0 l0_0.length c0_0]] rfl (by (try simp only [List.map_toArray, List.map_cons, List.map_nil]); first | done | rfl | (simp only [List.length_drop, List.length_take]; rfl)) ?_; (with_reducible refine (impl_IsValidProblem.calls k _ _ l0_0 false _ ?side1 ?side2 A2.out).mono ?_); (case side1 => repeat (first | exact (Kd.C_below HR0_0.out HB.out) | (with_reducible refine Kd.C_alloc ?_ _) | (with_reducible refine Kd.C_drewN ?_ _) | (with_reducible refine Kd.C_drew ?_))); (case side2 => exact HC0_0.out); rintro e w20 ⟨rfl, hb⟩; refine ⟨_, rfl, ?_⟩; have n0_ := Aside0.mk (blk_below (g := gb66001) (o := .cells #[.slice A0_0 l0_0.length c0_0] 29 (0, 0)) (by (with_reducible repeat (first | refine blk_drewN ?_ _ | refine blk_drew ?_ | refine blk_alloc ?_ _)); exact BK66001.out) hb); have n1_ := Aside0.mk (below_step (by repeat (first | (with_reducible first | exact HB.out | apply below_alloc | apply pw_below_drewN | apply below_drew1 | refine below_set ?_ GE66001.out) | exact HB.out)) hb); clear BK66001; clear HB; have BK66001 := n0_; have HB := n1_; clear n0_ n1_; (try clear hb); (try clear hb2); (try clear hk); (try clear hi)))
    go_ret
    exact ⟨by first | rfl | (simp [errW_none, errW_some] <;> rfl) | (simp [*, errW_none, errW_some] <;> rfl), by repeat (first | (with_reducible first | exact HB.out | apply below_alloc | apply pw_below_drewN | apply below_drew1 | refine below_set ?_ GE66001.out) | exact HB.out)⟩


end Go.Proofs.Ytpppopdmnejcfaa.A


namespace Go.Proofs.Ytpppopdmnejcfaa.A
open Go.RowKit Go.Proofs.Ytpppopdmnejcfaa.Ext Go.Proofs.YtpppopdmnejcfaaW.PrintWords Go.Proofs.YtpppopdmnejcfaaW.PrintLast Go.Proofs.YtpppopdmnejcfaaW.PrintMore
attribute [local go_sem] max2_int min2_int max_two min_two max_three min_three max_four min_four   -- for this text's walks alone
set_option linter.unusedVariables false
set_option linter.unusedSimpArgs false

/-! ### spec_IsValidProblem: function 63 -/
def spec_IsValidProblem.l0 : Nat → Int → List (S44) → Option (Bool)
  | 0, _, _ => none
  | k + 1, x3, x63002000 => if x3 < (x63002000.length : Int) then (if 0 ≤ x3 then ((spec_IsValidConstraint.f k ((rd_T44 x63002000 x3).f0) ((rd_T44 x63002000 x3).f1) ((rd_T44 x63002000 x3).f2) ((rd_T44 x63002000 x3).f3.f0) ((rd_T44 x63002000 x3).f3.f1) ((rd_T44 x63002000 x3).f3.f2) ((rd_T44 x63002000 x3).f4) ((rd_T44 x63002000 x3).f5)).bind fun t63003 => (if t63003 = true then (spec_IsValidProblem.l0 k (wrap64 (x3 + 1)) x63002000) else (some false))) else (none)) else (some (decide ((x63002000.length : Int) ≤ 6)))
def spec_IsValidProblem.f (k : Nat) (l0_0 : List (S44)) : Option (Bool) := spec_IsValidProblem.l0 k 0 l0_0
theorem spec_IsValidProblem.mono_l : ∀ k, (∀ y0 y1, LeO (spec_IsValidProblem.l0 k y0 y1) (spec_IsValidProblem.l0 (k + 1) y0 y1))
  | 0 => fun _ _ r h => by simp [spec_IsValidProblem.l0] at h
  | k + 1 => by
    have ih0 := spec_IsValidProblem.mono_l k
    · intro y0 y1
      unfold spec_IsValidProblem.l0
      repeat' first
      | (with_reducible exact ih0 _ _)
      | (with_reducible exact spec_IsValidConstraint.mono _ _ _ _ _ _ _ _ _)
      | (with_reducible exact LeO.refl _)
      | (with_reducible exact LeO.none _)
      | (with_reducible refine LeO.ite ?_ ?_)
      | (with_reducible refine LeO.bind ?_ (fun _ => ?_))
      | exact ih0 _ _
      | exact spec_IsValidConstraint.mono _ _ _ _ _ _ _ _ _
      | exact LeO.none _
      | refine LeO.ite ?_ ?_
      | refine LeO.bind ?_ (fun _ => ?_)
theorem spec_IsValidProblem.mono : ∀ a0 k, LeO (spec_IsValidProblem.f k a0) (spec_IsValidProblem.f (k + 1) a0) := by
  intro a0 k
  have ih0 := spec_IsValidProblem.mono_l k
  unfold spec_IsValidProblem.f
  repeat' first
      | (with_reducible exact ih0 _ _)
      | (with_reducible exact spec_IsValidConstraint.mono _ _ _ _ _ _ _ _ _)
      | (with_reducible exact LeO.refl _)
      | (with_reducible exact LeO.none _)
      | (with_reducible refine LeO.ite ?_ ?_)
      | (with_reducible refine LeO.bind ?_ (fun _ => ?_))
      | exact ih0 _ _
      | exact spec_IsValidConstraint.mono _ _ _ _ _ _ _ _ _
      | exact LeO.none _
      | refine LeO.ite ?_ ?_
      | refine LeO.bind ?_ (fun _ => ?_)
set_option maxHeartbeats 8000000 in
set_option maxRecDepth 100000 in
theorem spec_IsValidProblem.calls (k : Nat) (A0_0 : Option Addr) (c0_0 : Nat) (l0_0 : List (S44)) (r : Bool) (w : World) (hr0_0 : Kd.C k44 w A0_0 l0_0.length l0_0) (hc0_0 : l0_0.length ≤ c0_0) (h : spec_IsValidProblem.f k l0_0 = some r) :
    Calls Try.prog 63 #[.agg #[.slice A0_0 l0_0.length c0_0]] w fun e w' => e = .returned (.bool r) ∧ Below w.heap.size w w' := by
  have hu29 := Try.underlying29
  have hu44 := Try.underlying44
  have HR0_0 := Aside0.mk hr0_0
  have HC0_0 := Aside0.mk hc0_0
  clear hr0_0 hc0_0
  have HB := Aside0.mk (Below.refl w.heap.size w)
  have H : (spec_IsValidProblem.l0 k 0 l0_0) = some r := h
  clear h
  have H' := Aside0.mk H
  clear H
  go_enter Try.func63, Try.ntmps63
  go_wp2_with (first | ((with_reducible refine gate_dst (N := 1) rfl ?_); refine box_event ?hg (N := 1) ?hd (cs := #[.slice A0_0 l0_0.length c0_0]) (t := 29) ?hr ?_; (case hd => rfl); (case hg => rfl); (case hr => first | (go_simp; done) | (go_simp; rfl)); intro gb63001 hg w2 hbox hb; have n0_ := Aside0.mk (below_step (by repeat (first | (with_reducible first | exact HB.out | apply below_alloc | apply pw_below_drewN | apply below_drew1) | exact HB.out)) hb); have n1_ := Aside0.mk (hbox); have n2_ := Aside0.mk ((by rw [hg]; exact (below_size (by repeat (first | (with_reducible first | exact HB.out | apply below_alloc | apply pw_below_drewN | apply below_drew1) | exact HB.out))) : w.heap.size ≤ gb63001)); have n3_ := Aside0.mk ((by rw [hg]; exact (below_size (by repeat (first | (with_reducible first | exact HB.out | apply below_alloc | apply pw_below_drewN | apply below_drew1) | exact HB.out))) : w.heap.size ≤ gb63001)); clear HB; have HB := n0_; have BK63001 := n1_; have GW63001 := n2_; have GE63001 := n3_; clear n0_ n1_ n2_ n3_; clear hb hbox hg))
  first | go_loopg [3] k (fun kq v3 w' => ∃ (x3_1 : Int), v3 = .int .i64 x3_1 ∧ Aside0 (spec_IsValidProblem.l0 kq x3_1 l0_0 = some r) ∧ Aside0 (kq ≤ k) ∧ Aside0 (w'.heap[gb63001]? = some (.cells #[(.slice A0_0 l0_0.length c0_0)] 29 (0, 0))) ∧ Aside0 (Below w.heap.size w w')) | (simp only [Act.put, List.setIfInBounds_toArray, List.set_cons_succ, List.set_cons_zero]; go_loopg [3] k (fun kq v3 w' => ∃ (x3_1 : Int), v3 = .int .i64 x3_1 ∧ Aside0 (spec_IsValidProblem.l0 kq x3_1 l0_0 = some r) ∧ Aside0 (kq ≤ k) ∧ Aside0 (w'.heap[gb63001]? = some (.cells #[(.slice A0_0 l0_0.length c0_0)] 29 (0, 0))) ∧ Aside0 (Below w.heap.size w w')))
  case atStart => exact ⟨(0), (by first | rfl | (simp; done) | (simp [*]; done)), H', ⟨Nat.le_refl _⟩, ⟨by (with_reducible repeat (first | refine blk_drewN ?_ _ | refine blk_drew ?_ | refine blk_alloc ?_ _)); exact BK63001.out⟩, ⟨by repeat (first | (with_reducible first | exact HB.out | apply below_alloc | apply pw_below_drewN | apply below_drew1 | refine below_set ?_ GE63001.out) | exact HB.out)⟩⟩
  case round =>
    clear H'
    try clear p2
    obtain ⟨x3_1, rfl, HA, HK1, BK63001, HB⟩ := hrel
    cases gk with
    | zero => exact absurd HA.out (by simp [spec_IsValidProblem.l0])
    | succ k1 =>
      have H := HA.out
      clear HA
      simp only [spec_IsValidProblem.l0] at H
      by_cases c3 : x3_1 < (l0_0.length : Int)
      · rw [if_pos c3] at H
        have c3b0 : decide (x3_1 < (l0_0.length : Int)) = true := decide_eq_true c3
        clear c3
        by_cases c4 : 0 ≤ x3_1
        · rw [if_pos c4] at H
          have c4b0 : decide (0 ≤ x3_1) = true := decide_eq_true c4
          clear c4
          replace H := Option.bind_eq_some_iff.mp H
          obtain ⟨t63003, A50, H⟩ := H
          replace H : (if t63003 = true then (spec_IsValidProblem.l0 k1 (wrap64 (x3_1 + 1)) l0_0) else (some false)) = some r := H
          have A5 := Aside0.mk A50
          clear A50
          by_cases c6 : t63003 = true
          · subst c6
            have H1 : (spec_IsValidProblem.l0 k1 (wrap64 (x3_1 + 1)) l0_0) = some r := by rw [if_pos rfl] at H; exact H
            clear H
            have H := H1
            clear H1
            have H' := Aside0.mk H
            clear H
            have hcz7_0 : wr.cell? ⟨gb63001, 0, none⟩ = some (.slice A0_0 l0_0.length c0_0) := (blk_cell BK63001.out 0).trans rfl
            have hfz7_0 := blk_frozen BK63001.out 0
            have p63002 : 0 ≤ (x3_1 : Int) := of_decide_eq_true (by first | (with_reducible assumption) | assumption)
            have q63002 : x3_1 < (l0_0.length : Int) := of_decide_eq_true (by first | (with_reducible assumption) | assumption)
            obtain ⟨ad63002, A63002_5, c63002_5, A63002_6, c63002_6, e63002, hx63002_0, hx63002_1, hx63002_2, hx63002_3, hx63002_4, hx63002_5, hx63002_6, hx63002_7, hl63002_5, hi63002_5, hl63002_6, hi63002_6⟩ := at_T44 HR0_0.out x3_1 p63002 q63002
            cases e63002
            replace hx63002_0 := (HB.out.cell (World.block_lt_of_cell? w _ hx63002_0)).trans hx63002_0
            replace hx63002_1 := (HB.out.cell (World.block_lt_of_cell? w _ hx63002_1)).trans hx63002_1
            replace hx63002_2 := (HB.out.cell (World.block_lt_of_cell? w _ hx63002_2)).trans hx63002_2
            replace hx63002_3 := (HB.out.cell (World.block_lt_of_cell? w _ hx63002_3)).trans hx63002_3
            replace hx63002_4 := (HB.out.cell (World.block_lt_of_cell? w _ hx63002_4)).trans hx63002_4
            replace hx63002_5 := (HB.out.cell (World.block_lt_of_cell? w _ hx63002_5)).trans hx63002_5
            replace hx63002_6 := (HB.out.cell (World.block_lt_of_cell? w _ hx63002_6)).trans hx63002_6
            replace hx63002_7 := (HB.out.cell (World.block_lt_of_cell? w _ hx63002_7)).trans hx63002_7
            have HR63002_5 := Aside0.mk hi63002_5
            have HC63002_5 := Aside0.mk hl63002_5
            clear hi63002_5 hl63002_5
            have HR63002_6 := Aside0.mk hi63002_6
            have HC63002_6 := Aside0.mk hl63002_6
            clear hi63002_6 hl63002_6
            replace p63002 := eq_true p63002
            replace q63002 := eq_true q63002
            go_wp2_with (first | ((with_reducible refine gate_callee (f := 21) rfl ?_); refine goesL_ (some 16) rfl rfl Try.func21 (by kernel_rfl) rfl #[.agg #[.int .i64 ((rd_T44 l0_0 x3_1).f0), .string ((rd_T44 l0_0 x3_1).f1), .string ((rd_T44 l0_0 x3_1).f2), .int .i64 ((rd_T44 l0_0 x3_1).f3.f0), .string ((rd_T44 l0_0 x3_1).f3.f1), .slice A63002_5 ((rd_T44 l0_0 x3_1).f3.f2).length c63002_5, .slice A63002_6 ((rd_T44 l0_0 x3_1).f4).length c63002_6, .int .i64 ((rd_T44 l0_0 x3_1).f5)]] rfl (by (try simp only [List.map_toArray, List.map_cons, List.map_nil]); first | done | rfl | (simp only [List.length_drop, List.length_take]; rfl)) ?_; (with_reducible refine (spec_IsValidConstraint.calls k1 ((rd_T44 l0_0 x3_1).f0) ((rd_T44 l0_0 x3_1).f1) ((rd_T44 l0_0 x3_1).f2) ((rd_T44 l0_0 x3_1).f3.f0) ((rd_T44 l0_0 x3_1).f3.f1) _ _ ((rd_T44 l0_0 x3_1).f3.f2) _ _ ((rd_T44 l0_0 x3_1).f4) ((rd_T44 l0_0 x3_1).f5) true _ ?side1 ?side2 ?side3 ?side4 A5.out).mono ?_); (case side1 => repeat (first | exact (Kd.C_below HR63002_5.out HB.out) | (with_reducible refine Kd.C_alloc ?_ _) | (with_reducible refine Kd.C_drewN ?_ _) | (with_reducible refine Kd.C_drew ?_))); (case side2 => exact HC63002_5.out); (case side3 => repeat (first | exact (Kd.C_below HR63002_6.out HB.out) | (with_reducible refine Kd.C_alloc ?_ _) | (with_reducible refine Kd.C_drewN ?_ _) | (with_reducible refine Kd.C_drew ?_))); (case side4 => exact HC63002_6.out); rintro e w8 ⟨rfl, hb⟩; refine ⟨_, rfl, ?_⟩; have n0_ := Aside0.mk (blk_below (g := gb63001) (o := .cells #[.slice (some ad63002) l0_0.length c0_0] 29 (0, 0)) (by (with_reducible repeat (first | refine blk_drewN ?_ _ | refine blk_drew ?_ | refine blk_alloc ?_ _)); exact BK63001.out) hb); have n1_ := Aside0.mk (below_step (by repeat (first | (with_reducible first | exact HB.out | apply below_alloc | apply pw_below_drewN | apply below_drew1 | refine below_set ?_ GE63001.out) | exact HB.out)) hb); clear BK63001; clear HB; have BK63001 := n0_; have HB := n1_; clear n0_ n1_; (try clear hb); (try clear hb2); (try clear hk); (try clear hi)))
            go_roundg k1
            case measure => have := HK1.out; omega
            case rel => exact ⟨(wrap64 (x3_1 + 1)), (by first | rfl | (simp; done) | (simp [*]; done)), H', ⟨by have := HK1.out; omega⟩, ⟨by (with_reducible repeat (first | refine blk_drewN ?_ _ | refine blk_drew ?_ | refine blk_alloc ?_ _)); exact BK63001.out⟩, ⟨by repeat (first | (with_reducible first | exact HB.out | apply below_alloc | apply pw_below_drewN | apply below_drew1 | refine below_set ?_ GE63001.out) | exact HB.out)⟩⟩
          · replace c6 := Bool.eq_false_iff.mpr c6
            subst c6
            have H1 : (some false) = some r := by rw [if_neg (show ¬ (false = true) by decide)] at H; exact H
            clear H
            have H := H1
            clear H1
            obtain rfl := Option.some.inj H
            have hcz9_0 : wr.cell? ⟨gb63001, 0, none⟩ = some (.slice A0_0 l0_0.length c0_0) := (blk_cell BK63001.out 0).trans rfl
            have hfz9_0 := blk_frozen BK63001.out 0
            have p63002 : 0 ≤ (x3_1 : Int) := of_decide_eq_true (by first | (with_reducible assumption) | assumption)
            have q63002 : x3_1 < (l0_0.length : Int) := of_decide_eq_true (by first | (with_reducible assumption) | assumption)
            obtain ⟨ad63002, A63002_5, c63002_5, A63002_6, c63002_6, e63002, hx63002_0, hx63002_1, hx63002_2, hx63002_3, hx63002_4, hx63002_5, hx63002_6, hx63002_7, hl63002_5, hi63002_5, hl63002_6, hi63002_6⟩ := at_T44 HR0_0.out x3_1 p63002 q63002
            cases e63002
            replace hx63002_0 := (HB.out.cell (World.block_lt_of_cell? w _ hx63002_0)).trans hx63002_0
            replace hx63002_1 := (HB.out.cell (World.block_lt_of_cell? w _ hx63002_1)).trans hx63002_1
            replace hx63002_2 := (HB.out.cell (World.block_lt_of_cell? w _ hx63002_2)).trans hx63002_2
            replace hx63002_3 := (HB.out.cell (World.block_lt_of_cell? w _ hx63002_3)).trans hx63002_3
            replace hx63002_4 := (HB.out.cell (World.block_lt_of_cell? w _ hx63002_4)).trans hx63002_4
            replace hx63002_5 := (HB.out.cell (World.block_lt_of_cell? w _ hx63002_5)).trans hx63002_5
            replace hx63002_6 := (HB.out.cell (World.block_lt_of_cell? w _ hx63002_6)).trans hx63002_6
            replace hx63002_7 := (HB.out.cell (World.block_lt_of_cell? w _ hx63002_7)).trans hx63002_7
            have HR63002_5 := Aside0.mk hi63002_5
            have HC63002_5 := Aside0.mk hl63002_5
            clear hi63002_5 hl63002_5
            have HR63002_6 := Aside0.mk hi63002_6
            have HC63002_6 := Aside0.mk hl63002_6
            clear hi63002_6 hl63002_6
            replace p63002 := eq_true p63002
            replace q63002 := eq_true q63002
            go_wp2_with (first | ((with_reducible refine gate_callee (f := 21) rfl ?_); refine goesL_ (some 16) rfl rfl Try.func21 (by kernel_rfl) rfl #[.agg #[.int .i64 ((rd_T44 l0_0 x3_1).f0), .string ((rd_T44 l0_0 x3_1).f1), .string ((rd_T44 l0_0 x3_1).f2), .int .i64 ((rd_T44 l0_0 x3_1).f3.f0), .string ((rd_T44 l0_0 x3_1).f3.f1), .slice A63002_5 ((rd_T44 l0_0 x3_1).f3.f2).length c63002_5, .slice A63002_6 ((rd_T44 l0_0 x3_1).f4).length c63002_6, .int .i64 ((rd_T44 l0_0 x3_1).f5)]] rfl (by (try simp only [List.map_toArray, List.map_cons, List.map_nil]); first | done | rfl | (simp only [List.length_drop, List.length_take]; rfl)) ?_; (with_reducible refine (spec_IsValidConstraint.calls k1 ((rd_T44 l0_0 x3_1).f0) ((rd_T44 l0_0 x3_1).f1) ((rd_T44 l0_0 x3_1).f2) ((rd_T44 l0_0 x3_1).f3.f0) ((rd_T44 l0_0 x3_1).f3.f1) _ _ ((rd_T44 l0_0 x3_1).f3.f2) _ _ ((rd_T44 l0_0 x3_1).f4) ((rd_T44 l0_0 x3_1).f5) false _ ?side1 ?side2 ?side3 ?side4 A5.out).mono ?_); (case side1 => repeat (first | exact (Kd.C_below HR63002_5.out HB.out) | (with_reducible refine Kd.C_alloc ?_ _) | (with_reducible refine Kd.C_drewN ?_ _) | (with_reducible refine Kd.C_drew ?_))); (case side2 => exact HC63002_5.out); (case side3 => repeat (first | exact (Kd.C_below HR63002_6.out HB.out) | (with_reducible refine Kd.C_alloc ?_ _) | (with_reducible refine Kd.C_drewN ?_ _) | (with_reducible refine Kd.C_drew ?_))); (case side4 => exact HC63002_6.out); rintro e w10 ⟨rfl, hb⟩; refine ⟨_, rfl, ?_⟩; have n0_ := Aside0.mk (blk_below (g := gb63001) (o := .cells #[.slice (some ad63002) l0_0.length c0_0] 29 (0, 0)) (by (with_reducible repeat (first | refine blk_drewN ?_ _ | refine blk_drew ?_ | refine blk_alloc ?_ _)); exact BK63001.out) hb); have n1_ := Aside0.mk (below_step (by repeat (first | (with_reducible first | exact HB.out | apply below_alloc | apply pw_below_drewN | apply below_drew1 | refine below_set ?_ GE63001.out) | exact HB.out)) hb); clear BK63001; clear HB; have BK63001 := n0_; have HB := n1_; clear n0_ n1_; (try clear hb); (try clear hb2); (try clear hk); (try clear hi)))
            go_ret
            exact ⟨by first | rfl | (simp [errW_none, errW_some] <;> rfl) | (simp [*, errW_none, errW_some] <;> rfl), by repeat (first | (with_reducible first | exact HB.out | apply below_alloc | apply pw_below_drewN | apply below_drew1 | refine below_set ?_ GE63001.out) | exact HB.out)⟩
        · rw [if_neg c4] at H
          exact absurd H (by simp)
      · rw [if_neg c3] at H
        have c3b0 : decide (x3_1 < (l0_0.length : Int)) = false := decide_eq_false c3
        clear c3
        obtain rfl := Option.some.inj H
        have hcz11_0 : wr.cell? ⟨gb63001, 0, none⟩ = some (.slice A0_0 l0_0.length c0_0) := (blk_cell BK63001.out 0).trans rfl
        have hfz11_0 := blk_frozen BK63001.out 0
        go_wp2
        go_ret
        exact ⟨by first | rfl | (simp [errW_none, errW_some] <;> rfl) | (simp [*, errW_none, errW_some] <;> rfl), by repeat (first | (with_reducible first | exact HB.out | apply below_alloc | apply pw_below_drewN | apply below_drew1 | refine below_set ?_ GE63001.out) | exact HB.out)⟩

/-! ### spec_VarsOfProblem: function 65 -/
def spec_VarsOfProblem.l0 : Nat → ByteArray → Int → List (S44) → Option (ByteArray)
  | 0, _, _, _ => none
  | k + 1, x3, x4, x65002000 => if x4 < (x65002000.length : Int) then ((spec_IsValidProblem.f k x65002000).bind fun t65002 => (if t65002 = true then (if 0 ≤ x4 then ((spec_VarsOfConstraint.f k ((rd_T44 x65002000 x4).f0) ((rd_T44 x65002000 x4).f1) ((rd_T44 x65002000 x4).f2) ((rd_T44 x65002000 x4).f3.f0) ((rd_T44 x65002000 x4).f3.f1) ((rd_T44 x65002000 x4).f3.f2) ((rd_T44 x65002000 x4).f4) ((rd_T44 x65002000 x4).f5)).bind fun t65004 => (if x3.size + t65004.size ≤ 9223372036854775807 then (spec_VarsOfProblem.l0 k (x3 ++ t65004) (wrap64 (x4 + 1)) x65002000) else (none))) else (none)) else ((spec_VarsOf.f k x3).bind fun t65005 => (some t65005)))) else ((spec_VarsOf.f k x3).bind fun t65006 => (some t65006))
def spec_VarsOfProblem.f (k : Nat) (l0_0 : List (S44)) : Option (ByteArray) := spec_VarsOfProblem.l0 k (⟨#[]⟩ : ByteArray) 0 l0_0
theorem spec_VarsOfProblem.mono_l : ∀ k, (∀ y0 y1 y2, LeO (spec_VarsOfProblem.l0 k y0 y1 y2) (spec_VarsOfProblem.l0 (k + 1) y0 y1 y2))
  | 0 => fun _ _ _ r h => by simp [spec_VarsOfProblem.l0] at h
  | k + 1 => by
    have ih0 := spec_VarsOfProblem.mono_l k
    · intro y0 y1 y2
      unfold spec_VarsOfProblem.l0
      repeat' first
      | (with_reducible exact ih0 _ _ _)
      | (with_reducible exact spec_IsValidProblem.mono _ _)
      | (with_reducible exact spec_VarsOf.mono _ _)
      | (with_reducible exact spec_VarsOfConstraint.mono _ _ _ _ _ _ _ _ _)
      | (with_reducible exact LeO.refl _)
      | (with_reducible exact LeO.none _)
      | (with_reducible refine LeO.ite ?_ ?_)
      | (with_reducible refine LeO.bind ?_ (fun _ => ?_))
      | exact ih0 _ _ _
      | exact spec_IsValidProblem.mono _ _
      | exact spec_VarsOf.mono _ _
      | exact spec_VarsOfConstraint.mono _ _ _ _ _ _ _ _ _
      | exact LeO.none _
      | refine LeO.ite ?_ ?_
      | refine LeO.bind ?_ (fun _ => ?_)
theorem spec_VarsOfProblem.mono : ∀ a0 k, LeO (spec_VarsOfProblem.f k a0) (spec_VarsOfProblem.f (k + 1) a0) := by
  intro a0 k
  have ih0 := spec_VarsOfProblem.mono_l k
  unfold spec_VarsOfProblem.f
  repeat' first
      | (with_reducible exact ih0 _ _ _)
      | (with_reducible exact spec_IsValidProblem.mono _ _)
      | (with_reducible exact spec_VarsOf.mono _ _)
      | (with_reducible exact spec_VarsOfConstraint.mono _ _ _ _ _ _ _ _ _)
      | (with_reducible exact LeO.refl _)
      | (with_reducible exact LeO.none _)
      | (with_reducible refine LeO.ite ?_ ?_)
      | (with_reducible refine LeO.bind ?_ (fun _ => ?_))
      | exact ih0 _ _ _
      | exact spec_IsValidProblem.mono _ _
      | exact spec_VarsOf.mono _ _
      | exact spec_VarsOfConstraint.mono _ _ _ _ _ _ _ _ _
      | exact LeO.none _
      | refine LeO.ite ?_ ?_
      | refine LeO.bind ?_ (fun _ => ?_)
set_option maxHeartbeats 8000000 in
set_option maxRecDepth 100000 in
theorem spec_VarsOfProblem.calls (k : Nat) (A0_0 : Option Addr) (c0_0 : Nat) (l0_0 : List (S44)) (r : ByteArray) (w : World) (hr0_0 : Kd.C k44 w A0_0 l0_0.length l0_0) (hc0_0 : l0_0.length ≤ c0_0) (h : spec_VarsOfProblem.f k l0_0 = some r) :
    Calls Try.prog 65 #[.agg #[.slice A0_0 l0_0.length c0_0]] w fun e w' => e = .returned (.string r) ∧ Below w.heap.size w w' := by
  have hu29 := Try.underlying29
  have hu44 := Try.underlying44
  have HR0_0 := Aside0.mk hr0_0
  have HC0_0 := Aside0.mk hc0_0
  clear hr0_0 hc0_0
  have HB := Aside0.mk (Below.refl w.heap.size w)
  have H : (spec_VarsOfProblem.l0 k (⟨#[]⟩ : ByteArray) 0 l0_0) = some r := h
  clear h
  have H' := Aside0.mk H
  clear H
  go_enter Try.func65, Try.ntmps65
  go_wp2_with (first | ((with_reducible refine gate_dst (N := 1) rfl ?_); refine box_event ?hg (N := 1) ?hd (cs := #[.slice A0_0 l0_0.length c0_0]) (t := 29) ?hr ?_; (case hd => rfl); (case hg => rfl); (case hr => first | (go_simp; done) | (go_simp; rfl)); intro gb65001 hg w2 hbox hb; have n0_ := Aside0.mk (below_step (by repeat (first | (with_reducible first | exact HB.out | apply below_alloc | apply pw_below_drewN | apply below_drew1) | exact HB.out)) hb); have n1_ := Aside0.mk (hbox); have n2_ := Aside0.mk ((by rw [hg]; exact (below_size (by repeat (first | (with_reducible first | exact HB.out | apply below_alloc | apply pw_below_drewN | apply below_drew1) | exact HB.out))) : w.heap.size ≤ gb65001)); have n3_ := Aside0.mk ((by rw [hg]; exact (below_size (by repeat (first | (with_reducible first | exact HB.out | apply below_alloc | apply pw_below_drewN | apply below_drew1) | exact HB.out))) : w.heap.size ≤ gb65001)); clear HB; have HB := n0_; have BK65001 := n1_; have GW65001 := n2_; have GE65001 := n3_; clear n0_ n1_ n2_ n3_; clear hb hbox hg))
  first | go_loopg [3, 4] k (fun kq v3 v4 w' => ∃ (x3_1 : ByteArray) (x4_1 : Int), v3 = .string x3_1 ∧ v4 = .int .i64 x4_1 ∧ Aside0 (spec_VarsOfProblem.l0 kq x3_1 x4_1 l0_0 = some r) ∧ Aside0 (kq ≤ k) ∧ Aside0 (w'.heap[gb65001]? = some (.cells #[(.slice A0_0 l0_0.length c0_0)] 29 (0, 0))) ∧ Aside0 (Below w.heap.size w w')) | (simp only [Act.put, List.setIfInBounds_toArray, List.set_cons_succ, List.set_cons_zero]; go_loopg [3, 4] k (fun kq v3 v4 w' => ∃ (x3_1 : ByteArray) (x4_1 : Int), v3 = .string x3_1 ∧ v4 = .int .i64 x4_1 ∧ Aside0 (spec_VarsOfProblem.l0 kq x3_1 x4_1 l0_0 = some r) ∧ Aside0 (kq ≤ k) ∧ Aside0 (w'.heap[gb65001]? = some (.cells #[(.slice A0_0 l0_0.length c0_0)] 29 (0, 0))) ∧ Aside0 (Below w.heap.size w w')))
  case atStart => exact ⟨((⟨#[]⟩ : ByteArray)), (0), (by first | rfl | (simp; done) | (simp [*]; done)), (by first | rfl | (simp; done) | (simp [*]; done)), H', ⟨Nat.le_refl _⟩, ⟨by (with_reducible repeat (first | refine blk_drewN ?_ _ | refine blk_drew ?_ | refine blk_alloc ?_ _)); exact BK65001.out⟩, ⟨by repeat (first | (with_reducible first | exact HB.out | apply below_alloc | apply pw_below_drewN | apply below_drew1 | refine below_set ?_ GE65001.out) | exact HB.out)⟩⟩
  case round =>
    clear H'
    try clear p2
    obtain ⟨x3_1, x4_1, rfl, rfl, HA, HK1, BK65001, HB⟩ := hrel
    cases gk with
    | zero => exact absurd HA.out (by simp [spec_VarsOfProblem.l0])
    | succ k1 =>
      have H := HA.out
      clear HA
      simp only [spec_VarsOfProblem.l0] at H
      by_cases c3 : x4_1 < (l0_0.length : Int)
      · rw [if_pos c3] at H
        have c3b0 : decide (x4_1 < (l0_0.length : Int)) = true := decide_eq_true c3
        clear c3
        replace H := Option.bind_eq_some_iff.mp H
        obtain ⟨t65002, A40, H⟩ := H
        replace H : (if t65002 = true then (if 0 ≤ x4_1 then ((spec_VarsOfConstraint.f k1 ((rd_T44 l0_0 x4_1).f0) ((rd_T44 l0_0 x4_1).f1) ((rd_T44 l0_0 x4_1).f2) ((rd_T44 l0_0 x4_1).f3.f0) ((rd_T44 l0_0 x4_1).f3.f1) ((rd_T44 l0_0 x4_1).f3.f2) ((rd_T44 l0_0 x4_1).f4) ((rd_T44 l0_0 x4_1).f5)).bind fun t65004 => (if x3_1.size + t65004.size ≤ 9223372036854775807 then (spec_VarsOfProblem.l0 k1 (x3_1 ++ t65004) (wrap64 (x4_1 + 1)) l0_0) else (none))) else (none)) else ((spec_VarsOf.f k1 x3_1).bind fun t65005 => (some t65005))) = some r := H
        have A4 := Aside0.mk A40
        clear A40
        by_cases c5 : t65002 = true
        · subst c5
          have H1 : (if 0 ≤ x4_1 then ((spec_VarsOfConstraint.f k1 ((rd_T44 l0_0 x4_1).f0) ((rd_T44 l0_0 x4_1).f1) ((rd_T44 l0_0 x4_1).f2) ((rd_T44 l0_0 x4_1).f3.f0) ((rd_T44 l0_0 x4_1).f3.f1) ((rd_T44 l0_0 x4_1).f3.f2) ((rd_T44 l0_0 x4_1).f4) ((rd_T44 l0_0 x4_1).f5)).bind fun t65004 => (if x3_1.size + t65004.size ≤ 9223372036854775807 then (spec_VarsOfProblem.l0 k1 (x3_1 ++ t65004) (wrap64 (x4_1 + 1)) l0_0) else (none))) else (none)) = some r := by rw [if_pos rfl] at H; exact H
          clear H
          have H := H1
          clear H1
          by_cases c6 : 0 ≤ x4_1
          · rw [if_pos c6] at H
            have c6b0 : decide (0 ≤ x4_1) = true := decide_eq_true c6
            clear c6
            replace H := Option.bind_eq_some_iff.mp H
            obtain ⟨t65004, A70, H⟩ := H
            replace H : (if x3_1.size + t65004.size ≤ 9223372036854775807 then (spec_VarsOfProblem.l0 k1 (x3_1 ++ t65004) (wrap64 (x4_1 + 1)) l0_0) else (none)) = some r := H
            have A7 := Aside0.mk A70
            clear A70
            by_cases c8 : x3_1.size + t65004.size ≤ 9223372036854775807
            · rw [if_pos c8] at H
              have c8z := c8
              try simp at c8z
              try replace c8z := eq_false (Nat.not_lt.2 c8z)
              have c8b0 := eq_true c8
              have c8b1 : decide (x3_1.size + t65004.size ≤ 9223372036854775807) = true := decide_eq_true c8
              try have c8b2 : (9223372036854775807 < x3_1.size + t65004.size) = False := eq_false (Nat.not_lt.2 c8)
              have H' := Aside0.mk H
              clear H
              have hcz9_0 : wr.cell? ⟨gb65001, 0, none⟩ = some (.slice A0_0 l0_0.length c0_0) := (blk_cell BK65001.out 0).trans rfl
              have hfz9_0 := blk_frozen BK65001.out 0
              go_wp2_with (first | (go_at_call 63; (with_reducible refine (spec_IsValidProblem.calls k1 _ _ l0_0 true _ ?side1 ?side2 A4.out).mono ?_); (case side1 => repeat (first | exact (Kd.C_below HR0_0.out HB.out) | (with_reducible refine Kd.C_alloc ?_ _) | (with_reducible refine Kd.C_drewN ?_ _) | (with_reducible refine Kd.C_drew ?_))); (case side2 => exact HC0_0.out); rintro e w10 ⟨rfl, hb⟩; have n0_ := Aside0.mk (blk_below (g := gb65001) (o := .cells #[.slice A0_0 l0_0.length c0_0] 29 (0, 0)) (by (with_reducible repeat (first | refine blk_drewN ?_ _ | refine blk_drew ?_ | refine blk_alloc ?_ _)); exact BK65001.out) hb); have n1_ := Aside0.mk (below_step (by repeat (first | (with_reducible first | exact HB.out | apply below_alloc | apply pw_below_drewN | apply below_drew1 | refine below_set ?_ GE65001.out) | exact HB.out)) hb); clear BK65001; clear HB; have BK65001 := n0_; have HB := n1_; clear n0_ n1_; (try clear hb); (try clear hb2); (try clear hk); (try clear hi); have hcz11_0 : w10.cell? ⟨gb65001, 0, none⟩ = some (.slice A0_0 l0_0.length c0_0) := (blk_cell BK65001.out 0).trans rfl; have hfz11_0 := blk_frozen BK65001.out 0; have p65003 : 0 ≤ (x4_1 : Int) := of_decide_eq_true (by first | (with_reducible assumption) | assumption); have q65003 : x4_1 < (l0_0.length : Int) := of_decide_eq_true (by first | (with_reducible assumption) | assumption); obtain ⟨ad65003, A65003_5, c65003_5, A65003_6, c65003_6, e65003, hx65003_0, hx65003_1, hx65003_2, hx65003_3, hx65003_4, hx65003_5, hx65003_6, hx65003_7, hl65003_5, hi65003_5, hl65003_6, hi65003_6⟩ := at_T44 HR0_0.out x4_1 p65003 q65003; cases e65003; replace hx65003_0 := (HB.out.cell (World.block_lt_of_cell? w _ hx65003_0)).trans hx65003_0; replace hx65003_1 := (HB.out.cell (World.block_lt_of_cell? w _ hx65003_1)).trans hx65003_1; replace hx65003_2 := (HB.out.cell (World.block_lt_of_cell? w _ hx65003_2)).trans hx65003_2; replace hx65003_3 := (HB.out.cell (World.block_lt_of_cell? w _ hx65003_3)).trans hx65003_3; replace hx65003_4 := (HB.out.cell (World.block_lt_of_cell? w _ hx65003_4)).trans hx65003_4; replace hx65003_5 := (HB.out.cell (World.block_lt_of_cell? w _ hx65003_5)).trans hx65003_5; replace hx65003_6 := (HB.out.cell (World.block_lt_of_cell? w _ hx65003_6)).trans hx65003_6; replace hx65003_7 := (HB.out.cell (World.block_lt_of_cell? w _ hx65003_7)).trans hx65003_7; have HR65003_5 := Aside0.mk hi65003_5; have HC65003_5 := Aside0.mk hl65003_5; clear hi65003_5 hl65003_5; have HR65003_6 := Aside0.mk hi65003_6; have HC65003_6 := Aside0.mk hl65003_6; clear hi65003_6 hl65003_6; replace p65003 := eq_true p65003; replace q65003 := eq_true q65003) | ((with_reducible refine gate_callee (f := 61) rfl ?_); refine goesL_ (some 22) rfl rfl Try.func61 (by kernel_rfl) rfl #[.agg #[.int .i64 ((rd_T44 l0_0 x4_1).f0), .string ((rd_T44 l0_0 x4_1).f1), .string ((rd_T44 l0_0 x4_1).f2), .int .i64 ((rd_T44 l0_0 x4_1).f3.f0), .string ((rd_T44 l0_0 x4_1).f3.f1), .slice A65003_5 ((rd_T44 l0_0 x4_1).f3.f2).length c65003_5, .slice A65003_6 ((rd_T44 l0_0 x4_1).f4).length c65003_6, .int .i64 ((rd_T44 l0_0 x4_1).f5)]] rfl (by (try simp only [List.map_toArray, List.map_cons, List.map_nil]); first | done | rfl | (simp only [List.length_drop, List.length_take]; rfl)) ?_; (with_reducible refine (spec_VarsOfConstraint.calls k1 ((rd_T44 l0_0 x4_1).f0) ((rd_T44 l0_0 x4_1).f1) ((rd_T44 l0_0 x4_1).f2) ((rd_T44 l0_0 x4_1).f3.f0) ((rd_T44 l0_0 x4_1).f3.f1) _ _ ((rd_T44 l0_0 x4_1).f3.f2) _ _ ((rd_T44 l0_0 x4_1).f4) ((rd_T44 l0_0 x4_1).f5) t65004 _ ?side1 ?side2 ?side3 ?side4 A7.out).mono ?_); (case side1 => repeat (first | exact (Kd.C_below HR65003_5.out HB.out) | (with_reducible refine Kd.C_alloc ?_ _) | (with_reducible refine Kd.C_drewN ?_ _) | (with_reducible refine Kd.C_drew ?_))); (case side2 => exact HC65003_5.out); (case side3 => repeat (first | exact (Kd.C_below HR65003_6.out HB.out) | (with_reducible refine Kd.C_alloc ?_ _) | (with_reducible refine Kd.C_drewN ?_ _) | (with_reducible refine Kd.C_drew ?_))); (case side4 => exact HC65003_6.out); rintro e w12 ⟨rfl, hb⟩; refine ⟨_, rfl, ?_⟩; have n0_ := Aside0.mk (blk_below (g := gb65001) (o := .cells #[.slice (some ad65003) l0_0.length c0_0] 29 (0, 0)) (by (with_reducible repeat (first | refine blk_drewN ?_ _ | refine blk_drew ?_ | refine blk_alloc ?_ _)); exact BK65001.out) hb); have n1_ := Aside0.mk (below_step (by repeat (first | (with_reducible first | exact HB.out | apply below_alloc | apply pw_below_drewN | apply below_drew1 | refine below_set ?_ GE65001.out) | exact HB.out)) hb); clear BK65001; clear HB; have BK65001 := n0_; have HB := n1_; clear n0_ n1_; (try clear hb); (try clear hb2); (try clear hk); (try clear hi)))
              go_roundg k1
              case measure => have := HK1.out; omega
              case rel => exact ⟨(x3_1 ++ t65004), (wrap64 (x4_1 + 1)), (by first | rfl | (simp; done) | (simp [*]; done)), (by first | rfl | (simp; done) | (simp [*]; done)), H', ⟨by have := HK1.out; omega⟩, ⟨by (with_reducible repeat (first | refine blk_drewN ?_ _ | refine blk_drew ?_ | refine blk_alloc ?_ _)); exact BK65001.out⟩, ⟨by repeat (first | (with_reducible first | exact HB.out | apply below_alloc | apply pw_below_drewN | apply below_drew1 | refine below_set ?_ GE65001.out) | exact HB.out)⟩⟩
            · rw [if_neg c8] at H
              exact absurd H (by simp)
          · rw [if_neg c6] at H
            exact absurd H (by simp)
        · replace c5 := Bool.eq_false_iff.mpr c5
          subst c5
          have H1 : ((spec_VarsOf.f k1 x3_1).bind fun t65005 => (some t65005)) = some r := by rw [if_neg (show ¬ (false = true) by decide)] at H; exact H
          clear H
          have H := H1
          clear H1
          replace H := Option.bind_eq_some_iff.mp H
          obtain ⟨t65005, A130, H⟩ := H
          replace H : (some t65005) = some r := H
          have A13 := Aside0.mk A130
          clear A130
          obtain rfl := Option.some.inj H
          have hcz14_0 : wr.cell? ⟨gb65001, 0, none⟩ = some (.slice A0_0 l0_0.length c0_0) := (blk_cell BK65001.out 0).trans rfl
          have hfz14_0 := blk_frozen BK65001.out 0
          go_wp2_with (first | (go_at_call 63; (with_reducible refine (spec_IsValidProblem.calls k1 _ _ l0_0 false _ ?side1 ?side2 A4.out).mono ?_); (case side1 => repeat (first | exact (Kd.C_below HR0_0.out HB.out) | (with_reducible refine Kd.C_alloc ?_ _) | (with_reducible refine Kd.C_drewN ?_ _) | (with_reducible refine Kd.C_drew ?_))); (case side2 => exact HC0_0.out); rintro e w15 ⟨rfl, hb⟩; have n0_ := Aside0.mk (blk_below (g := gb65001) (o := .cells #[.slice A0_0 l0_0.length c0_0] 29 (0, 0)) (by (with_reducible repeat (first | refine blk_drewN ?_ _ | refine blk_drew ?_ | refine blk_alloc ?_ _)); exact BK65001.out) hb); have n1_ := Aside0.mk (below_step (by repeat (first | (with_reducible first | exact HB.out | apply below_alloc | apply pw_below_drewN | apply below_drew1 | refine below_set ?_ GE65001.out) | exact HB.out)) hb); clear BK65001; clear HB; have BK65001 := n0_; have HB := n1_; clear n0_ n1_; (try clear hb); (try clear hb2); (try clear hk); (try clear hi)) | ((with_reducible refine gate_callee (f := 48) rfl ?_); refine goesL_ (some 25) rfl rfl Try.func48 (by kernel_rfl) rfl #[.string x3_1] rfl (by (try simp only [List.map_toArray, List.map_cons, List.map_nil]); first | done | rfl | (simp only [List.length_drop, List.length_take]; rfl)) ?_; (with_reducible refine (spec_VarsOf.calls k1 x3_1 t65005 _ A13.out).mono ?_); rintro e w' ⟨rfl, ⟨nd, rfl⟩⟩; refine ⟨_, rfl, ?_⟩))
          go_ret
          exact ⟨by first | rfl | (simp [errW_none, errW_some] <;> rfl) | (simp [*, errW_none, errW_some] <;> rfl), by repeat (first | (with_reducible first | exact HB.out | apply below_alloc | apply pw_below_drewN | apply below_drew1 | refine below_set ?_ GE65001.out) | exact HB.out)⟩
      · rw [if_neg c3] at H
        have c3b0 : decide (x4_1 < (l0_0.length : Int)) = false := decide_eq_false c3
        clear c3
        replace H := Option.bind_eq_some_iff.mp H
        obtain ⟨t65006, A160, H⟩ := H
        replace H : (some t65006) = some r := H
        have A16 := Aside0.mk A160
        clear A160
        obtain rfl := Option.some.inj H
        have hcz17_0 : wr.cell? ⟨gb65001, 0, none⟩ = some (.slice A0_0 l0_0.length c0_0) := (blk_cell BK65001.out 0).trans rfl
        have hfz17_0 := blk_frozen BK65001.out 0
        go_wp2_with (first | ((with_reducible refine gate_callee (f := 48) rfl ?_); refine goesL_ (some 25) rfl rfl Try.func48 (by kernel_rfl) rfl #[.string x3_1] rfl (by (try simp only [List.map_toArray, List.map_cons, List.map_nil]); first | done | rfl | (simp only [List.length_drop, List.length_take]; rfl)) ?_; (with_reducible refine (spec_VarsOf.calls k1 x3_1 t65006 _ A16.out).mono ?_); rintro e w' ⟨rfl, ⟨nd, rfl⟩⟩; refine ⟨_, rfl, ?_⟩))
        go_ret
        exact ⟨by first | rfl | (simp [errW_none, errW_some] <;> rfl) | (simp [*, errW_none, errW_some] <;> rfl), by repeat (first | (with_reducible first | exact HB.out | apply below_alloc | apply pw_below_drewN | apply below_drew1 | refine below_set ?_ GE65001.out) | exact HB.out)⟩


end Go.Proofs.Ytpppopdmnejcfaa.A


namespace Go.Proofs.Ytpppopdmnejcfaa.A
open Go.RowKit Go.Proofs.Ytpppopdmnejcfaa.Ext Go.Proofs.YtpppopdmnejcfaaW.PrintWords Go.Proofs.YtpppopdmnejcfaaW.PrintLast Go.Proofs.YtpppopdmnejcfaaW.PrintMore
attribute [local go_sem] max2_int min2_int max_two min_two max_three min_three max_four min_four   -- for this text's walks alone
set_option linter.unusedVariables false
set_option linter.unusedSimpArgs false

/-! ### spec_BoundOf: function 67 -/
def spec_BoundOf.j0 : Nat → Int → Bool → Option (Int)
  | 0, _, _ => none
  | k + 1, x8, x9 => if x9 = true then (some 5) else (if x8 = 2 then (some 3) else (some 2))
def spec_BoundOf.f (k : Nat) (l0_0 : List (S44)) : Option (Int) := (spec_IsValidProblem.f k l0_0).bind fun t67002 => (if t67002 = true then ((spec_VarsOfProblem.f k l0_0).bind fun t67003 => (if (t67003.size : Int) = 0 then (spec_BoundOf.j0 k (t67003.size : Int) ((t67003.size : Int) == 0)) else (spec_BoundOf.j0 k (t67003.size : Int) ((t67003.size : Int) == 1)))) else (some (-1)))
theorem spec_BoundOf.mono_l : ∀ k, (∀ y0 y1, LeO (spec_BoundOf.j0 k y0 y1) (spec_BoundOf.j0 (k + 1) y0 y1))
  | 0 => fun _ _ r h => by simp [spec_BoundOf.j0] at h
  | k + 1 => by
    have ih0 := spec_BoundOf.mono_l k
    · intro y0 y1
      unfold spec_BoundOf.j0
      repeat' first
      | (with_reducible exact ih0 _ _)
      | (with_reducible exact spec_IsValidProblem.mono _ _)
      | (with_reducible exact spec_VarsOfProblem.mono _ _)
      | (with_reducible exact LeO.refl _)
      | (with_reducible exact LeO.none _)
      | (with_reducible refine LeO.ite ?_ ?_)
      | (with_reducible refine LeO.bind ?_ (fun _ => ?_))
      | exact ih0 _ _
      | exact spec_IsValidProblem.mono _ _
      | exact spec_VarsOfProblem.mono _ _
      | exact LeO.none _
      | refine LeO.ite ?_ ?_
      | refine LeO.bind ?_ (fun _ => ?_)
theorem spec_BoundOf.mono : ∀ a0 k, LeO (spec_BoundOf.f k a0) (spec_BoundOf.f (k + 1) a0) := by
  intro a0 k
  have ih0 := spec_BoundOf.mono_l k
  unfold spec_BoundOf.f
  repeat' first
      | (with_reducible exact ih0 _ _)
      | (with_reducible exact spec_IsValidProblem.mono _ _)
      | (with_reducible exact spec_VarsOfProblem.mono _ _)
      | (with_reducible exact LeO.refl _)
      | (with_reducible exact LeO.none _)
      | (with_reducible refine LeO.ite ?_ ?_)
      | (with_reducible refine LeO.bind ?_ (fun _ => ?_))
      | exact ih0 _ _
      | exact spec_IsValidProblem.mono _ _
      | exact spec_VarsOfProblem.mono _ _
      | exact LeO.none _
      | refine LeO.ite ?_ ?_
      | refine LeO.bind ?_ (fun _ => ?_)
set_option maxHeartbeats 8000000 in
set_option maxRecDepth 100000 in
theorem spec_BoundOf.calls (k : Nat) (A0_0 : Option Addr) (c0_0 : Nat) (l0_0 : List (S44)) (r : Int) (w : World) (hr0_0 : Kd.C k44 w A0_0 l0_0.length l0_0) (hc0_0 : l0_0.length ≤ c0_0) (h : spec_BoundOf.f k l0_0 = some r) :
    Calls Try.prog 67 #[.agg #[.slice A0_0 l0_0.length c0_0]] w fun e w' => e = .returned (.int .i64 r) ∧ Below w.heap.size w w' := by
  have hu29 := Try.underlying29
  have HR0_0 := Aside0.mk hr0_0
  have HC0_0 := Aside0.mk hc0_0
  clear hr0_0 hc0_0
  have HB := Aside0.mk (Below.refl w.heap.size w)
  have H : ((spec_IsValidProblem.f k l0_0).bind fun t67002 => (if t67002 = true then ((spec_VarsOfProblem.f k l0_0).bind fun t67003 => (if (t67003.size : Int) = 0 then (spec_BoundOf.j0 k (t67003.size : Int) ((t67003.size : Int) == 0)) else (spec_BoundOf.j0 k (t67003.size : Int) ((t67003.size : Int) == 1)))) else (some (-1)))) = some r := h
  clear h
  replace H := Option.bind_eq_some_iff.mp H
  obtain ⟨t67002, A20, H⟩ := H
  replace H : (if t67002 = true then ((spec_VarsOfProblem.f k l0_0).bind fun t67003 => (if (t67003.size : Int) = 0 then (spec_BoundOf.j0 k (t67003.size : Int) ((t67003.size : Int) == 0)) else (spec_BoundOf.j0 k (t67003.size : Int) ((t67003.size : Int) == 1)))) else (some (-1))) = some r := H
  have A2 := Aside0.mk A20
  clear A20
  by_cases c3 : t67002 = true
  · subst c3
    have H1 : ((spec_VarsOfProblem.f k l0_0).bind fun t67003 => (if (t67003.size : Int) = 0 then (spec_BoundOf.j0 k (t67003.size : Int) ((t67003.size : Int) == 0)) else (spec_BoundOf.j0 k (t67003.size : Int) ((t67003.size : Int) == 1)))) = some r := by rw [if_pos rfl] at H; exact H
    clear H
    have H := H1
    clear H1
    replace H := Option.bind_eq_some_iff.mp H
    obtain ⟨t67003, A40, H⟩ := H
    replace H : (if (t67003.size : Int) = 0 then (spec_BoundOf.j0 k (t67003.size : Int) ((t67003.size : Int) == 0)) else (spec_BoundOf.j0 k (t67003.size : Int) ((t67003.size : Int) == 1))) = some r := H
    have A4 := Aside0.mk A40
    clear A40
    have HC5 := Aside0.mk H
    clear H
    go_enter Try.func67, Try.ntmps67
    go_upto_if 9 with (first | ((with_reducible refine gate_dst (N := 1) rfl ?_); refine box_event ?hg (N := 1) ?hd (cs := #[.slice A0_0 l0_0.length c0_0]) (t := 29) ?hr ?_; (case hd => rfl); (case hg => rfl); (case hr => first | (go_simp; done) | (go_simp; rfl)); intro gb67001 hg w6 hbox hb; have n0_ := Aside0.mk (below_step (by repeat (first | (with_reducible first | exact HB.out | apply below_alloc | apply pw_below_drewN | apply below_drew1) | exact HB.out)) hb); have n1_ := Aside0.mk (hbox); have n2_ := Aside0.mk ((by rw [hg]; exact (below_size (by repeat (first | (with_reducible first | exact HB.out | apply below_alloc | apply pw_below_drewN | apply below_drew1) | exact HB.out))) : w.heap.size ≤ gb67001)); have n3_ := Aside0.mk ((by rw [hg]; exact (below_size (by repeat (first | (with_reducible first | exact HB.out | apply below_alloc | apply pw_below_drewN | apply below_drew1) | exact HB.out))) : w.heap.size ≤ gb67001)); clear HB; have HB := n0_; have BK67001 := n1_; have GW67001 := n2_; have GE67001 := n3_; clear n0_ n1_ n2_ n3_; clear hb hbox hg; have hcz7_0 : w6.cell? ⟨gb67001, 0, none⟩ = some (.slice A0_0 l0_0.length c0_0) := (blk_cell BK67001.out 0).trans rfl; have hfz7_0 := blk_frozen BK67001.out 0) | ((with_reducible refine gate_callee (f := 63) rfl ?_); refine goesL_ (some 4) rfl rfl Try.func63 (by kernel_rfl) rfl #[.agg #[.slice A0_0 l0_0.length c0_0]] rfl (by (try simp only [List.map_toArray, List.map_cons, List.map_nil]); first | done | rfl | (simp only [List.length_drop, List.length_take]; rfl)) ?_; (with_reducible refine (spec_IsValidProblem.calls k _ _ l0_0 true _ ?side1 ?side2 A2.out).mono ?_); (case side1 => repeat (first | exact (Kd.C_below HR0_0.out HB.out) | (with_reducible refine Kd.C_alloc ?_ _) | (with_reducible refine Kd.C_drewN ?_ _) | (with_reducible refine Kd.C_drew ?_))); (case side2 => exact HC0_0.out); rintro e w8 ⟨rfl, hb⟩; refine ⟨_, rfl, ?_⟩; have n0_ := Aside0.mk (blk_below (g := gb67001) (o := .cells #[.slice A0_0 l0_0.length c0_0] 29 (0, 0)) (by (with_reducible repeat (first | refine blk_drewN ?_ _ | refine blk_drew ?_ | refine blk_alloc ?_ _)); exact BK67001.out) hb); have n1_ := Aside0.mk (below_step (by repeat (first | (with_reducible first | exact HB.out | apply below_alloc | apply pw_below_drewN | apply below_drew1 | refine below_set ?_ GE67001.out) | exact HB.out)) hb); clear BK67001; clear HB; have BK67001 := n0_; have HB := n1_; clear n0_ n1_; (try clear hb); (try clear hb2); (try clear hk); (try clear hi); have hcz9_0 : w8.cell? ⟨gb67001, 0, none⟩ = some (.slice A0_0 l0_0.length c0_0) := (blk_cell BK67001.out 0).trans rfl; have hfz9_0 := blk_frozen BK67001.out 0) | ((with_reducible refine gate_callee (f := 65) rfl ?_); refine goesL_ (some 7) rfl rfl Try.func65 (by kernel_rfl) rfl #[.agg #[.slice A0_0 l0_0.length c0_0]] rfl (by (try simp only [List.map_toArray, List.map_cons, List.map_nil]); first | done | rfl | (simp only [List.length_drop, List.length_take]; rfl)) ?_; (with_reducible refine (spec_VarsOfProblem.calls k _ _ l0_0 t67003 _ ?side1 ?side2 A4.out).mono ?_); (case side1 => repeat (first | exact (Kd.C_below HR0_0.out HB.out) | (with_reducible refine Kd.C_alloc ?_ _) | (with_reducible refine Kd.C_drewN ?_ _) | (with_reducible refine Kd.C_drew ?_))); (case side2 => exact HC0_0.out); rintro e w10 ⟨rfl, hb⟩; refine ⟨_, rfl, ?_⟩; have n0_ := Aside0.mk (blk_below (g := gb67001) (o := .cells #[.slice A0_0 l0_0.length c0_0] 29 (0, 0)) (by (with_reducible repeat (first | refine blk_drewN ?_ _ | refine blk_drew ?_ | refine blk_alloc ?_ _)); exact BK67001.out) hb); have n1_ := Aside0.mk (below_step (by repeat (first | (with_reducible first | exact HB.out | apply below_alloc | apply pw_below_drewN | apply below_drew1 | refine below_set ?_ GE67001.out) | exact HB.out)) hb); clear BK67001; clear HB; have BK67001 := n0_; have HB := n1_; clear n0_ n1_; (try clear hb); (try clear hb2); (try clear hk); (try clear hi)))
    (try simp only [Act.put, List.setIfInBounds_toArray, List.set_cons_zero, List.set_cons_succ])
    go_cut [9] (fun v9 wc => ∃ (kq : Nat) (x9_4 : Bool), v9 = .bool x9_4 ∧ Aside0 (spec_BoundOf.j0 kq (t67003.size : Int) x9_4 = some r) ∧ Aside0 (kq ≤ k) ∧ Aside0 (wc.heap[gb67001]? = some (.cells #[(.slice A0_0 l0_0.length c0_0)] 29 (0, 0))) ∧ Aside0 (Below w.heap.size w wc))
    case first =>
      have H := HC5.out
      clear HC5
      by_cases c11 : (t67003.size : Int) = 0
      · rw [if_pos c11] at H
        have c11b0 : ((t67003.size : Int) == 0) = true := beq_iff_eq.mpr c11
        have c11b1 : ((t67003.size : Int) != 0) = false := bne_eq_false_iff_eq.mpr c11
        clear c11
        (first | rw [c11b0] | (simp only [i64_w, i32_w]; rw [c11b0]) | skip)
        have H' := Aside0.mk H
        clear H
        go_wp2
        go_meet
        case rel => exact ⟨_, (((t67003.size : Int) == 0)), (by first | rfl | (simp; done) | (simp [*]; done)), H', ⟨by first | omega | exact Nat.le_refl _⟩, ⟨by (with_reducible repeat (first | refine blk_drewN ?_ _ | refine blk_drew ?_ | refine blk_alloc ?_ _)); exact BK67001.out⟩, ⟨by repeat (first | (with_reducible first | exact HB.out | apply below_alloc | apply pw_below_drewN | apply below_drew1 | refine below_set ?_ GE67001.out) | exact HB.out)⟩⟩
      · rw [if_neg c11] at H
        have c11b0 : ((t67003.size : Int) == 0) = false := beq_eq_false_iff_ne.mpr c11
        have c11b1 : ((t67003.size : Int) != 0) = true := bne_iff_ne.mpr c11
        (first | rw [c11b0] | (simp only [i64_w, i32_w]; rw [c11b0]) | skip)
        have H' := Aside0.mk H
        clear H
        go_wp2
        go_meet
        case rel => exact ⟨_, (((t67003.size : Int) == 1)), (by first | rfl | (simp; done) | (simp [*]; done)), H', ⟨by first | omega | exact Nat.le_refl _⟩, ⟨by (with_reducible repeat (first | refine blk_drewN ?_ _ | refine blk_drew ?_ | refine blk_alloc ?_ _)); exact BK67001.out⟩, ⟨by repeat (first | (with_reducible first | exact HB.out | apply below_alloc | apply pw_below_drewN | apply below_drew1 | refine below_set ?_ GE67001.out) | exact HB.out)⟩⟩
    case rest =>
      clear HC5
      try clear c1
      try clear p2
      try clear c3
      try clear c6
      try clear c11
      try clear c11b0
      try clear c11b1
      try clear hcz7_0
      try clear hcz9_0
      try clear hfz7_0
      try clear hfz9_0
      obtain ⟨kq, x9_4, rfl, HA, HJ4, BK67001, HB⟩ := hcut
      cases kq with
      | zero => exact absurd HA.out (by simp [spec_BoundOf.j0])
      | succ kj4 =>
        have H := HA.out
        clear HA
        simp only [spec_BoundOf.j0] at H
        by_cases c12 : x9_4 = true
        · subst c12
          have H1 : (some 5) = some r := by rw [if_pos rfl] at H; exact H
          clear H
          have H := H1
          clear H1
          obtain rfl := Option.some.inj H
          go_wp2
          go_ret
          exact ⟨by first | rfl | (simp [errW_none, errW_some] <;> rfl) | (simp [*, errW_none, errW_some] <;> rfl), by repeat (first | (with_reducible first | exact HB.out | apply below_alloc | apply pw_below_drewN | apply below_drew1 | refine below_set ?_ GE67001.out) | exact HB.out)⟩
        · replace c12 := Bool.eq_false_iff.mpr c12
          subst c12
          have H1 : (if (t67003.size : Int) = 2 then (some 3) else (some 2)) = some r := by rw [if_neg (show ¬ (false = true) by decide)] at H; exact H
          clear H
          have H := H1
          clear H1
          by_cases c13 : (t67003.size : Int) = 2
          · rw [if_pos c13] at H
            have c13b0 : ((t67003.size : Int) == 2) = true := beq_iff_eq.mpr c13
            have c13b1 : ((t67003.size : Int) != 2) = false := bne_eq_false_iff_eq.mpr c13
            clear c13
            obtain rfl := Option.some.inj H
            go_wp2
            go_ret
            exact ⟨by first | rfl | (simp [errW_none, errW_some] <;> rfl) | (simp [*, errW_none, errW_some] <;> rfl), by repeat (first | (with_reducible first | exact HB.out | apply below_alloc | apply pw_below_drewN | apply below_drew1 | refine below_set ?_ GE67001.out) | exact HB.out)⟩
          · rw [if_neg c13] at H
            have c13b0 : ((t67003.size : Int) == 2) = false := beq_eq_false_iff_ne.mpr c13
            have c13b1 : ((t67003.size : Int) != 2) = true := bne_iff_ne.mpr c13
            obtain rfl := Option.some.inj H
            go_wp2
            go_ret
            exact ⟨by first | rfl | (simp [errW_none, errW_some] <;> rfl) | (simp [*, errW_none, errW_some] <;> rfl), by repeat (first | (with_reducible first | exact HB.out | apply below_alloc | apply pw_below_drewN | apply below_drew1 | refine below_set ?_ GE67001.out) | exact HB.out)⟩
  · replace c3 := Bool.eq_false_iff.mpr c3
    subst c3
    have H1 : (some (-1)) = some r := by rw [if_neg (show ¬ (false = true) by decide)] at H; exact H
    clear H
    have H := H1
    clear H1
    obtain rfl := Option.some.inj H
    go_enter Try.func67, Try.ntmps67
    go_wp2_with (first | ((with_reducible refine gate_dst (N := 1) rfl ?_); refine box_event ?hg (N := 1) ?hd (cs := #[.slice A0_0 l0_0.length c0_0]) (t := 29) ?hr ?_; (case hd => rfl); (case hg => rfl); (case hr => first | (go_simp; done) | (go_simp; rfl)); intro gb67001 hg w14 hbox hb; have n0_ := Aside0.mk (below_step (by repeat (first | (with_reducible first | exact HB.out | apply below_alloc | apply pw_below_drewN | apply below_drew1) | exact HB.out)) hb); have n1_ := Aside0.mk (hbox); have n2_ := Aside0.mk ((by rw [hg]; exact (below_size (by repeat (first | (with_reducible first | exact HB.out | apply below_alloc | apply pw_below_drewN | apply below_drew1) | exact HB.out))) : w.heap.size ≤ gb67001)); have n3_ := Aside0.mk ((by rw [hg]; exact (below_size (by repeat (first | (with_reducible first | exact HB.out | apply below_alloc | apply pw_below_drewN | apply below_drew1) | exact HB.out))) : w.heap.size ≤ gb67001)); clear HB; have HB := n0_; have BK67001 := n1_; have GW67001 := n2_; have GE67001 := n3_; clear n0_ n1_ n2_ n3_; clear hb hbox hg; have hcz15_0 : w14.cell? ⟨gb67001, 0, none⟩ = some (.slice A0_0 l0_0.length c0_0) := (blk_cell BK67001.out 0).trans rfl; have hfz15_0 := blk_frozen BK67001.out 0) | ((with_reducible refine gate_callee (f := 63) rfl ?_); refine goesL_ (some 4) rfl rfl Try.func63 (by kernel_rfl) rfl #[.agg #[.slice A0_0 l0_0.length c0_0]] rfl (by (try simp only [List.map_toArray, List.map_cons, List.map_nil]); first | done | rfl | (simp only [List.length_drop, List.length_take]; rfl)) ?_; (with_reducible refine (spec_IsValidProblem.calls k _ _ l0_0 false _ ?side1 ?side2 A2.out).mono ?_); (case side1 => repeat (first | exact (Kd.C_below HR0_0.out HB.out) | (with_reducible refine Kd.C_alloc ?_ _) | (with_reducible refine Kd.C_drewN ?_ _) | (with_reducible refine Kd.C_drew ?_))); (case side2 => exact HC0_0.out); rintro e w16 ⟨rfl, hb⟩; refine ⟨_, rfl, ?_⟩; have n0_ := Aside0.mk (blk_below (g := gb67001) (o := .cells #[.slice A0_0 l0_0.length c0_0] 29 (0, 0)) (by (with_reducible repeat (first | refine blk_drewN ?_ _ | refine blk_drew ?_ | refine blk_alloc ?_ _)); exact BK67001.out) hb); have n1_ := Aside0.mk (below_step (by repeat (first | (with_reducible first | exact HB.out | apply below_alloc | apply pw_below_drewN | apply below_drew1 | refine below_set ?_ GE67001.out) | exact HB.out)) hb); clear BK67001; clear HB; have BK67001 := n0_; have HB := n1_; clear n0_ n1_; (try clear hb); (try clear hb2); (try clear hk); (try clear hi)))
    go_ret
    exact ⟨by first | rfl | (simp [errW_none, errW_some] <;> rfl) | (simp [*, errW_none, errW_some] <;> rfl), by repeat (first | (with_reducible first | exact HB.out | apply below_alloc | apply pw_below_drewN | apply below_drew1 | refine below_set ?_ GE67001.out) | exact HB.out)⟩


end Go.Proofs.Ytpppopdmnejcfaa.A


namespace Go.Proofs.Ytpppopdmnejcfaa.A
open Go.RowKit Go.Proofs.Ytpppopdmnejcfaa.Ext Go.Proofs.YtpppopdmnejcfaaW.PrintWords Go.Proofs.YtpppopdmnejcfaaW.PrintLast Go.Proofs.YtpppopdmnejcfaaW.PrintMore
attribute [local go_sem] max2_int min2_int max_two min_two max_three min_three max_four min_four   -- for this text's walks alone
set_option linter.unusedVariables false
set_option linter.unusedSimpArgs false

/-! ### impl_BoundOf: function 68 -/
def impl_BoundOf.f (k : Nat) (l0_0 : List (S44)) : Option (Int) := (impl_IsValidProblem.f k l0_0).bind fun t68002 => (if t68002 = true then ((some (([5, 5, 3, 2] : List Int) : List Int)).bind fun y68003 => ((impl_VarsOfProblem.f k l0_0).bind fun t68006 => (if 0 ≤ (t68006.size : Int) then (if (t68006.size : Int) < (y68003.length : Int) then (some (rd y68003 (t68006.size : Int))) else (none)) else (none)))) else (some (-1)))
theorem impl_BoundOf.mono : ∀ a0 k, LeO (impl_BoundOf.f k a0) (impl_BoundOf.f (k + 1) a0) := by
  intro a0 k
  unfold impl_BoundOf.f
  repeat' first
      | (with_reducible exact impl_IsValidProblem.mono _ _)
      | (with_reducible exact impl_VarsOfProblem.mono _ _)
      | (with_reducible exact LeO.refl _)
      | (with_reducible exact LeO.none _)
      | (with_reducible refine LeO.ite ?_ ?_)
      | (with_reducible refine LeO.bind ?_ (fun _ => ?_))
      | exact impl_IsValidProblem.mono _ _
      | exact impl_VarsOfProblem.mono _ _
      | exact LeO.none _
      | refine LeO.ite ?_ ?_
      | refine LeO.bind ?_ (fun _ => ?_)
set_option maxHeartbeats 8000000 in
set_option maxRecDepth 100000 in
theorem impl_BoundOf.calls (k : Nat) (A0_0 : Option Addr) (c0_0 : Nat) (l0_0 : List (S44)) (r : Int) (w : World) (hr0_0 : Kd.C k44 w A0_0 l0_0.length l0_0) (hc0_0 : l0_0.length ≤ c0_0) (h : impl_BoundOf.f k l0_0 = some r) :
    Calls Try.prog 68 #[.agg #[.slice A0_0 l0_0.length c0_0]] w fun e w' => e = .returned (.int .i64 r) ∧ Below w.heap.size w w' := by
  have hu29 := Try.underlying29
  have HR0_0 := Aside0.mk hr0_0
  have HC0_0 := Aside0.mk hc0_0
  clear hr0_0 hc0_0
  have HB := Aside0.mk (Below.refl w.heap.size w)
  have H : ((impl_IsValidProblem.f k l0_0).bind fun t68002 => (if t68002 = true then ((some (([5, 5, 3, 2] : List Int) : List Int)).bind fun y68003 => ((impl_VarsOfProblem.f k l0_0).bind fun t68006 => (if 0 ≤ (t68006.size : Int) then (if (t68006.size : Int) < (y68003.length : Int) then (some (rd y68003 (t68006.size : Int))) else (none)) else (none)))) else (some (-1)))) = some r := h
  clear h
  replace H := Option.bind_eq_some_iff.mp H
  obtain ⟨t68002, A20, H⟩ := H
  replace H : (if t68002 = true then ((some (([5, 5, 3, 2] : List Int) : List Int)).bind fun y68003 => ((impl_VarsOfProblem.f k l0_0).bind fun t68006 => (if 0 ≤ (t68006.size : Int) then (if (t68006.size : Int) < (y68003.length : Int) then (some (rd y68003 (t68006.size : Int))) else (none)) else (none)))) else (some (-1))) = some r := H
  have A2 := Aside0.mk A20
  clear A20
  by_cases c3 : t68002 = true
  · subst c3
    have H1 : ((some (([5, 5, 3, 2] : List Int) : List Int)).bind fun y68003 => ((impl_VarsOfProblem.f k l0_0).bind fun t68006 => (if 0 ≤ (t68006.size : Int) then (if (t68006.size : Int) < (y68003.length : Int) then (some (rd y68003 (t68006.size : Int))) else (none)) else (none)))) = some r := by rw [if_pos rfl] at H; exact H
    clear H
    have H := H1
    clear H1
    obtain ⟨y68003, hy68003⟩ : ∃ y_ : List Int, y_ = (([5, 5, 3, 2] : List Int)) := ⟨_, rfl⟩
    replace H : ((impl_VarsOfProblem.f k l0_0).bind fun t68006 => (if 0 ≤ (t68006.size : Int) then (if (t68006.size : Int) < (y68003.length : Int) then (some (rd y68003 (t68006.size : Int))) else (none)) else (none))) = some r := by first | (rw [hy68003]; with_reducible exact H) | (have H2_ := (Option.bind_some _ _).symm.trans H; rw [hy68003]; with_reducible exact H2_) | (have H2_ := (Option.bind_some _ _).symm.trans H; with_reducible exact H2_) | with_reducible exact H | (rw [hy68003]; exact H) | exact H
    have Ny68003 := Aside0.mk hy68003
    clear hy68003
    replace H := Option.bind_eq_some_iff.mp H
    obtain ⟨t68006, A40, H⟩ := H
    replace H : (if 0 ≤ (t68006.size : Int) then (if (t68006.size : Int) < (y68003.length : Int) then (some (rd y68003 (t68006.size : Int))) else (none)) else (none)) = some r := H
    have A4 := Aside0.mk A40
    clear A40
    by_cases c5 : 0 ≤ (t68006.size : Int)
    · rw [if_pos c5] at H
      have c5b0 : decide (0 ≤ (t68006.size : Int)) = true := decide_eq_true c5
      have c5b1 : decide (0 ≤ t68006.size) = true := decide_eq_true (by omega)
      clear c5
      by_cases c6 : (t68006.size : Int) < (y68003.length : Int)
      · rw [if_pos c6] at H
        have c6b0 : decide ((t68006.size : Int) < (y68003.length : Int)) = true := decide_eq_true c6
        have c6b1 : decide (t68006.size < y68003.length) = true := decide_eq_true (Int.ofNat_lt.mp c6)
        clear c6
        obtain rfl := Option.some.inj H
        go_enter Try.func68, Try.ntmps68
        go_wp2_with (first | ((with_reducible refine gate_dst (N := 1) rfl ?_); refine box_event ?hg (N := 1) ?hd (cs := #[.slice A0_0 l0_0.length c0_0]) (t := 29) ?hr ?_; (case hd => rfl); (case hg => rfl); (case hr => first | (go_simp; done) | (go_simp; rfl)); intro gb68001 hg w7 hbox hb; have n0_ := Aside0.mk (below_step (by repeat (first | (with_reducible first | exact HB.out | apply below_alloc | apply pw_below_drewN | apply below_drew1) | exact HB.out)) hb); have n1_ := Aside0.mk (hbox); have n2_ := Aside0.mk ((by rw [hg]; exact (below_size (by repeat (first | (with_reducible first | exact HB.out | apply below_alloc | apply pw_below_drewN | apply below_drew1) | exact HB.out))) : w.heap.size ≤ gb68001)); have n3_ := Aside0.mk ((by rw [hg]; exact (below_size (by repeat (first | (with_reducible first | exact HB.out | apply below_alloc | apply pw_below_drewN | apply below_drew1) | exact HB.out))) : w.heap.size ≤ gb68001)); clear HB; have HB := n0_; have BK68001 := n1_; have GW68001 := n2_; have GE68001 := n3_; clear n0_ n1_ n2_ n3_; clear hb hbox hg; have hcz8_0 : w7.cell? ⟨gb68001, 0, none⟩ = some (.slice A0_0 l0_0.length c0_0) := (blk_cell BK68001.out 0).trans rfl; have hfz8_0 := blk_frozen BK68001.out 0) | ((with_reducible refine gate_callee (f := 64) rfl ?_); refine goesL_ (some 4) rfl rfl Try.func64 (by kernel_rfl) rfl #[.agg #[.slice A0_0 l0_0.length c0_0]] rfl (by (try simp only [List.map_toArray, List.map_cons, List.map_nil]); first | done | rfl | (simp only [List.length_drop, List.length_take]; rfl)) ?_; (with_reducible refine (impl_IsValidProblem.calls k _ _ l0_0 true _ ?side1 ?side2 A2.out).mono ?_); (case side1 => repeat (first | exact (Kd.C_below HR0_0.out HB.out) | (with_reducible refine Kd.C_alloc ?_ _) | (with_reducible refine Kd.C_drewN ?_ _) | (with_reducible refine Kd.C_drew ?_))); (case side2 => exact HC0_0.out); rintro e w9 ⟨rfl, hb⟩; refine ⟨_, rfl, ?_⟩; have n0_ := Aside0.mk (blk_below (g := gb68001) (o := .cells #[.slice A0_0 l0_0.length c0_0] 29 (0, 0)) (by (with_reducible repeat (first | refine blk_drewN ?_ _ | refine blk_drew ?_ | refine blk_alloc ?_ _)); exact BK68001.out) hb); have n1_ := Aside0.mk (below_step (by repeat (first | (with_reducible first | exact HB.out | apply below_alloc | apply pw_below_drewN | apply below_drew1 | refine below_set ?_ GE68001.out) | exact HB.out)) hb); clear BK68001; clear HB; have BK68001 := n0_; have HB := n1_; clear n0_ n1_; (try clear hb); (try clear hb2); (try clear hk); (try clear hi)) | ((with_reducible refine gate_dst (N := 6) rfl ?_); refine Kd.R_lit (Kd.int .i64) _ 3 ?hg (N := 6) ?hd (xs := ([5, 5, 3, 2] : List Int)) (inner := [.int .i64 5, .int .i64 5, .int .i64 3, .int .i64 2]) (ok := fun _ => True) (okp := fun _ => True) ?hr ?hp (fun _ hk => hk) trivial (Below.refl _ _) (Nat.le_refl _) (by simp) ?_; (case hd => rfl); (case hg => rfl); (case hr => first | (go_simp; done) | (go_simp; rfl)); (case hp => exact (Reps.one (show Kd.M (Kd.int .i64) _ _ _ 5 [.int .i64 5] from rfl) (Reps.one (show Kd.M (Kd.int .i64) _ _ _ 5 [.int .i64 5] from rfl) (Reps.one (show Kd.M (Kd.int .i64) _ _ _ 3 [.int .i64 3] from rfl) (Reps.one (show Kd.M (Kd.int .i64) _ _ _ 2 [.int .i64 2] from rfl) (Reps.none _ _)))))); intro v68004 w10 ho11 hb hg_ hnew_; clear hg_ hnew_; (first | rw [← Ny68003.out] at ho11 | (simp only [Int.reduceToNat] at ho11; rw [← Ny68003.out] at ho11)); have n0_ := Aside0.mk (Kd.R_lower ho11 (below_size (by repeat (first | (with_reducible first | exact HB.out | apply below_alloc | apply pw_below_drewN | apply below_drew1 | refine below_set ?_ GE68001.out) | exact HB.out)))); have n1_ := Aside0.mk (blk_below (g := gb68001) (o := .cells #[.slice A0_0 l0_0.length c0_0] 29 (0, 0)) (by (with_reducible repeat (first | refine blk_drewN ?_ _ | refine blk_drew ?_ | refine blk_alloc ?_ _)); exact BK68001.out) hb); have n2_ := Aside0.mk (below_step (by repeat (first | (with_reducible first | exact HB.out | apply below_alloc | apply pw_below_drewN | apply below_drew1 | refine below_set ?_ GE68001.out) | exact HB.out)) hb); clear BK68001; clear HB; have HO68005 := n0_; have BK68001 := n1_; have HB := n2_; clear n0_ n1_ n2_; clear hb ho11; have hcz12_0 : w10.cell? ⟨gb68001, 0, none⟩ = some (.slice A0_0 l0_0.length c0_0) := (blk_cell BK68001.out 0).trans rfl; have hfz12_0 := blk_frozen BK68001.out 0) | ((with_reducible refine gate_callee (f := 66) rfl ?_); refine goesL_ (some 8) rfl rfl Try.func66 (by kernel_rfl) rfl #[.agg #[.slice A0_0 l0_0.length c0_0]] rfl (by (try simp only [List.map_toArray, List.map_cons, List.map_nil]); first | done | rfl | (simp only [List.length_drop, List.length_take]; rfl)) ?_; (with_reducible refine (impl_VarsOfProblem.calls k _ _ l0_0 t68006 _ ?side1 ?side2 A4.out).mono ?_); (case side1 => repeat (first | exact (Kd.C_below HR0_0.out HB.out) | (with_reducible refine Kd.C_alloc ?_ _) | (with_reducible refine Kd.C_drewN ?_ _) | (with_reducible refine Kd.C_drew ?_))); (case side2 => exact HC0_0.out); rintro e w13 ⟨rfl, hb⟩; refine ⟨_, rfl, ?_⟩; have n0_ := Aside0.mk (Kd.R_below (by (with_reducible repeat (first | apply Kd.R_alloc | apply Kd.R_drewN | apply Kd.R_drew)); exact HO68005.out) hb); have n1_ := Aside0.mk (blk_below (g := gb68001) (o := .cells #[.slice A0_0 l0_0.length c0_0] 29 (0, 0)) (by (with_reducible repeat (first | refine blk_drewN ?_ _ | refine blk_drew ?_ | refine blk_alloc ?_ _)); exact BK68001.out) hb); have n2_ := Aside0.mk (below_step (by repeat (first | (with_reducible first | exact HB.out | apply below_alloc | apply pw_below_drewN | apply below_drew1 | refine below_set ?_ GE68001.out) | exact HB.out)) hb); clear HO68005; clear BK68001; clear HB; have HO68005 := n0_; have BK68001 := n1_; have HB := n2_; clear n0_ n1_ n2_; (try clear hb); (try clear hb2); (try clear hk); (try clear hi); obtain ⟨Ao14, co14, eo14⟩ := Kd.R_slice HO68005.out; subst eo14; have p68007 : 0 ≤ ((t68006.size : Int) : Int) := of_decide_eq_true (by first | (with_reducible assumption) | assumption); have q68007 : (t68006.size : Int) < (y68003.length : Int) := of_decide_eq_true (by first | (with_reducible assumption) | assumption); obtain ⟨ad68007, e68007, hx68007_0⟩ := Kd.at_int (Kd.R_reads' HO68005.out).2.2 (t68006.size : Int) p68007 q68007; (try simp only [Int.toNat_natCast] at hx68007_0); cases e68007; replace p68007 := eq_true p68007; replace q68007 := eq_true q68007))
        go_ret
        exact ⟨by first | rfl | (simp [errW_none, errW_some] <;> rfl) | (simp [*, errW_none, errW_some] <;> rfl), by repeat (first | (with_reducible first | exact HB.out | apply below_alloc | apply pw_below_drewN | apply below_drew1 | refine below_set ?_ GE68001.out) | exact HB.out)⟩
      · rw [if_neg c6] at H
        exact absurd H (by simp)
    · rw [if_neg c5] at H
      exact absurd H (by simp)
  · replace c3 := Bool.eq_false_iff.mpr c3
    subst c3
    have H1 : (some (-1)) = some r := by rw [if_neg (show ¬ (false = true) by decide)] at H; exact H
    clear H
    have H := H1
    clear H1
    obtain rfl := Option.some.inj H
    go_enter Try.func68, Try.ntmps68
    go_wp2_with (first | ((with_reducible refine gate_dst (N := 1) rfl ?_); refine box_event ?hg (N := 1) ?hd (cs := #[.slice A0_0 l0_0.length c0_0]) (t := 29) ?hr ?_; (case hd => rfl); (case hg => rfl); (case hr => first | (go_simp; done) | (go_simp; rfl)); intro gb68001 hg w15 hbox hb; have n0_ := Aside0.mk (below_step (by repeat (first | (with_reducible first | exact HB.out | apply below_alloc | apply pw_below_drewN | apply below_drew1) | exact HB.out)) hb); have n1_ := Aside0.mk (hbox); have n2_ := Aside0.mk ((by rw [hg]; exact (below_size (by repeat (first | (with_reducible first | exact HB.out | apply below_alloc | apply pw_below_drewN | apply below_drew1) | exact HB.out))) : w.heap.size ≤ gb68001)); have n3_ := Aside0.mk ((by rw [hg]; exact (below_size (by repeat (first | (with_reducible first | exact HB.out | apply below_alloc | apply pw_below_drewN | apply below_drew1) | exact HB.out))) : w.heap.size ≤ gb68001)); clear HB; have HB := n0_; have BK68001 := n1_; have GW68001 := n2_; have GE68001 := n3_; clear n0_ n1_ n2_ n3_; clear hb hbox hg; have hcz16_0 : w15.cell? ⟨gb68001, 0, none⟩ = some (.slice A0_0 l0_0.length c0_0) := (blk_cell BK68001.out 0).trans rfl; have hfz16_0 := blk_frozen BK68001.out 0) | ((with_reducible refine gate_callee (f := 64) rfl ?_); refine goesL_ (some 4) rfl rfl Try.func64 (by kernel_rfl) rfl #[.agg #[.slice A0_0 l0_0.length c0_0]] rfl (by (try simp only [List.map_toArray, List.map_cons, List.map_nil]); first | done | rfl | (simp only [List.length_drop, List.length_take]; rfl)) ?_; (with_reducible refine (impl_IsValidProblem.calls k _ _ l0_0 false _ ?side1 ?side2 A2.out).mono ?_); (case side1 => repeat (first | exact (Kd.C_below HR0_0.out HB.out) | (with_reducible refine Kd.C_alloc ?_ _) | (with_reducible refine Kd.C_drewN ?_ _) | (with_reducible refine Kd.C_drew ?_))); (case side2 => exact HC0_0.out); rintro e w17 ⟨rfl, hb⟩; refine ⟨_, rfl, ?_⟩; have n0_ := Aside0.mk (blk_below (g := gb68001) (o := .cells #[.slice A0_0 l0_0.length c0_0] 29 (0, 0)) (by (with_reducible repeat (first | refine blk_drewN ?_ _ | refine blk_drew ?_ | refine blk_alloc ?_ _)); exact BK68001.out) hb); have n1_ := Aside0.mk (below_step (by repeat (first | (with_reducible first | exact HB.out | apply below_alloc | apply pw_below_drewN | apply below_drew1 | refine below_set ?_ GE68001.out) | exact HB.out)) hb); clear BK68001; clear HB; have BK68001 := n0_; have HB := n1_; clear n0_ n1_; (try clear hb); (try clear hb2); (try clear hk); (try clear hi)))
    go_ret
    exact ⟨by first | rfl | (simp [errW_none, errW_some] <;> rfl) | (simp [*, errW_none, errW_some] <;> rfl), by repeat (first | (with_reducible first | exact HB.out | apply below_alloc | apply pw_below_drewN | apply below_drew1 | refine below_set ?_ GE68001.out) | exact HB.out)⟩


end Go.Proofs.Ytpppopdmnejcfaa.A


namespace Go.Proofs.Ytpppopdmnejcfaa.F
set_option linter.unusedVariables false
set_option linter.unusedSimpArgs false
open Go.RowKit Go.Proofs.YtpppopdmnejcfaaW.PrintWords Go.Proofs.Ytpppopdmnejcfaa.Pl Go.Proofs.Ytpppopdmnejcfaa.A Go.Proofs.Ytpppopdmnejcfaa.Ext

section
variable {a : Int} {b c : ByteArray} {d : Int} {e : ByteArray} {l : List S42} {m : List Int} {n : Int}
theorem valC_bounds (h : valC a b c d e l m n = true) : m.length ≤ 3 ∧ b.size ≤ 12 ∧ c.size ≤ 12 := by
  unfold valC valX at h
  split at h
  · simp only [isTm, Bool.and_eq_true, decide_eq_true_eq, beq_iff_eq] at h
    obtain ⟨⟨_, h1⟩, ⟨_, h2⟩, _, h4, _⟩ := h
    omega
  · split at h
    · simp only [isTm, Bool.and_eq_true, decide_eq_true_eq, beq_iff_eq] at h
      obtain ⟨⟨_, h1⟩, h2, _, h4, _⟩ := h
      omega
    · split at h
      · simp only [Bool.and_eq_true, decide_eq_true_eq, beq_iff_eq] at h
        obtain ⟨h1, h2, _, ⟨_, h4⟩, _⟩ := h
        omega
      · cases h
/-- The variables that have a coefficient, behind what was there. -/
def catV : List Int → Nat → ByteArray → ByteArray
  | [], _, acc => acc
  | q :: m, i, acc => catV m (i + 1) (if q = 0 then acc else acc ++ (⟨#[88, 89, 90]⟩ : ByteArray).extract ((i : Nat) : Int).toNat ((i + 1 : Nat) : Int).toNat)
def varsC (a : Int) (b c : ByteArray) (d : Int) (e : ByteArray) (l : List S42) (m : List Int) (n : Int) : ByteArray :=
  if valC a b c d e l m n = true then varsB (catV m 0 (b ++ c)) else (⟨#[]⟩ : ByteArray)
theorem catV_size (m : List Int) : ∀ (i : Nat) (acc : ByteArray), i + m.length ≤ 3 → (catV m i acc).size ≤ acc.size + m.length := by
  induction m with
  | nil => intro i acc h; exact Nat.le_refl _
  | cons q m ih =>
    intro i acc h
    simp only [List.length_cons] at h
    have hx := ext_size (i : Int) (by omega) (by omega)
    simp only [catV, List.length_cons]
    by_cases hq : q = 0
    · rw [if_pos hq]; have := ih (i + 1) acc (by omega); omega
    · rw [if_neg hq]
      have := ih (i + 1) (acc ++ (⟨#[88, 89, 90]⟩ : ByteArray).extract ((i : Nat) : Int).toNat ((i + 1 : Nat) : Int).toNat) (by omega)
      have hs : (acc ++ (⟨#[88, 89, 90]⟩ : ByteArray).extract ((i : Nat) : Int).toNat ((i + 1 : Nat) : Int).toNat).size = acc.size + 1 := by
        rw [ByteArray.size_append, show ((i + 1 : Nat) : Int) = (i : Int) + 1 by omega, hx]
      omega
theorem spec_VarsOfConstraint_ev (hb : b.size ≤ 9223372036854775807) (hc : c.size ≤ 9223372036854775807) (hr : Sm ⟨d, e, l⟩) (hm : m.length ≤ 1048576) : Evt (fun k => spec_VarsOfConstraint.f k a b c d e l m n) (varsC a b c d e l m n) := by
  simp only [spec_VarsOfConstraint.f]
  unfold varsC
  refine Evt.bind (spec_IsValidConstraint_ev hb hc hr hm) ?_
  cases hv : valC a b c d e l m n with
  | false => exact Evt.neg (by decide) (Evt.ret _)
  | true =>
    obtain ⟨g1, g2, g3⟩ := valC_bounds hv
    refine Evt.pos rfl (Evt.pos (by omega) ?_)
    have hh : ∀ j i : Nat, i + j = m.length → ∀ acc : ByteArray, acc.size ≤ 100 + i → Evt (fun k => spec_VarsOfConstraint.l0 k acc (i : Int) a b c d e l m n) (varsB (catV (m.drop i) i acc)) := by
      intro j
      induction j with
      | zero =>
        intro i hi acc ha
        refine Evt.step ?_
        simp only [spec_VarsOfConstraint.l0]
        rw [List.drop_of_length_le (by omega)]
        exact Evt.neg (by omega) (Evt.bind (spec_VarsOf_ev acc (by omega)) (Evt.ret _))
      | succ j ih =>
        intro i hi acc ha
        have hi' : i < m.length := by omega
        have hx := ext_size (i : Int) (by omega) (by omega)
        refine Evt.step ?_
        simp only [spec_VarsOfConstraint.l0]
        rw [List.drop_eq_getElem_cons hi', rdI_at m i hi', w64s (by omega)]
        refine Evt.pos (by omega) (Evt.pos (by omega) ?_)
        simp only [catV]
        by_cases hq : m[i] = 0
        · rw [if_pos hq]
          exact Evt.pos hq (ih (i + 1) (by omega) acc (by omega))
        · rw [if_neg hq]
          have hs : ((⟨#[88, 89, 90]⟩ : ByteArray).extract ((i : Nat) : Int).toNat ((i + 1 : Nat) : Int).toNat).size = 1 := by
            rw [show ((i + 1 : Nat) : Int) = (i : Int) + 1 by omega, hx]
          refine Evt.neg hq (Evt.pos (by omega) (Evt.pos (by omega) (Evt.pos (by rw [hs]; omega) ?_)))
          exact ih (i + 1) (by omega) _ (by rw [ByteArray.size_append, hs]; omega)
    have := hh m.length 0 (by omega) (b ++ c) (by rw [ByteArray.size_append]; omega)
    rw [if_pos rfl]
    simpa using this
theorem impl_VarsOfConstraint_ev (hm : m.length ≤ 1048576) : Evt (fun k => impl_VarsOfConstraint.f k a b c d e l m n) (varsC a b c d e l m n) := by
  simp only [impl_VarsOfConstraint.f]
  unfold varsC
  refine Evt.bind (impl_IsValidConstraint_ev hm) ?_
  cases hv : valC a b c d e l m n with
  | false => exact Evt.neg (by decide) (Evt.ret _)
  | true =>
    obtain ⟨g1, g2, g3⟩ := valC_bounds hv
    refine Evt.pos rfl (Evt.pos (by omega) ?_)
    have hh : ∀ j i : Nat, i + j = m.length → ∀ acc : ByteArray, acc.size ≤ 100 + i → Evt (fun k => impl_VarsOfConstraint.l0 k acc m (m.length : Int) (i : Int)) (varsB (catV (m.drop i) i acc)) := by
      intro j
      induction j with
      | zero =>
        intro i hi acc ha
        refine Evt.step ?_
        simp only [impl_VarsOfConstraint.l0]
        rw [List.drop_of_length_le (by omega)]
        exact Evt.neg (by omega) (Evt.bind (impl_VarsOf_ev acc) (Evt.ret _))
      | succ j ih =>
        intro i hi acc ha
        have hi' : i < m.length := by omega
        have hx := ext_size (i : Int) (by omega) (by omega)
        refine Evt.step ?_
        simp only [impl_VarsOfConstraint.l0]
        rw [List.drop_eq_getElem_cons hi', rdI_at m i hi', w64s (by omega)]
        refine Evt.pos (by omega) (Evt.pos (by omega) (Evt.pos (by omega) ?_))
        simp only [catV]
        by_cases hq : m[i] = 0
        · rw [if_pos hq]
          exact Evt.pos hq (ih (i + 1) (by omega) acc (by omega))
        · rw [if_neg hq]
          have hs : ((⟨#[88, 89, 90]⟩ : ByteArray).extract ((i : Nat) : Int).toNat ((i + 1 : Nat) : Int).toNat).size = 1 := by
            rw [show ((i + 1 : Nat) : Int) = (i : Int) + 1 by omega, hx]
          refine Evt.neg hq (Evt.pos (by omega) (Evt.pos (by omega) (Evt.pos (by rw [hs]; omega) ?_)))
          exact ih (i + 1) (by omega) _ (by rw [ByteArray.size_append, hs]; omega)
    have := hh m.length 0 (by omega) (b ++ c) (by rw [ByteArray.size_append]; omega)
    rw [if_pos rfl]
    simpa using this
end
theorem vr_size (p : Int → Bool) (n : Nat) : ∀ (i : Int) (acc : ByteArray), 0 ≤ i → i + n = 3 → (vr p n i acc).size ≤ acc.size + n := by
  induction n with
  | zero => intro i acc _ _; exact Nat.le_refl _
  | succ n ih =>
    intro i acc h0 hi
    have hx := ext_size i h0 (by omega)
    unfold vr
    split
    · have := ih (i + 1) (acc ++ ((⟨#[88, 89, 90]⟩ : ByteArray).extract (i : Int).toNat ((i + 1) : Int).toNat)) (by omega) (by omega)
      rw [ByteArray.size_append, hx] at this
      omega
    · have := ih (i + 1) acc (by omega) (by omega)
      omega
theorem varsB_size (s : ByteArray) : (varsB s).size ≤ 3 := by
  have := vr_size (fun c => decide (c ∈ bytesOf s)) 3 0 (⟨#[]⟩ : ByteArray) (by omega) (by omega)
  have e : (⟨#[]⟩ : ByteArray).size = 0 := rfl
  unfold varsB
  omega
def valK (y : S44) : Bool := valC y.f0 y.f1 y.f2 y.f3.f0 y.f3.f1 y.f3.f2 y.f4 y.f5
def varsK (y : S44) : ByteArray := varsC y.f0 y.f1 y.f2 y.f3.f0 y.f3.f1 y.f3.f2 y.f4 y.f5
def valP (ys : List S44) : Bool := ys.all valK && decide ((ys.length : Int) ≤ 6)
theorem varsK_size (y : S44) : (varsK y).size ≤ 3 := by
  unfold varsK varsC
  split
  · exact varsB_size _
  · exact Nat.zero_le _
theorem spec_IsValidProblem_ev (ys : List S44) (hl : ys.length ≤ 1048576) (h : ∀ y ∈ ys, CsSm y) : Evt (fun k => spec_IsValidProblem.f k ys) (valP ys) := by
  have hh := Evt.up (fun k i => spec_IsValidProblem.l0 k i ys) ys.length (fun i => (ys.drop i).all valK && decide ((ys.length : Int) ≤ 6)) ?_ ?_
  · simpa [spec_IsValidProblem.f, valP] using hh
  · refine Evt.step ?_
    simp only [spec_IsValidProblem.l0]
    rw [List.drop_of_length_le (by omega)]
    exact Evt.neg (by omega) ((Evt.ret _).cast (by simp))
  · intro i hi hn
    obtain ⟨g1, g2, g3, g4⟩ := h _ (List.getElem_mem hi)
    have hv := spec_IsValidConstraint_ev (a := ys[i].f0) (d := ys[i].f3.f0) (n := ys[i].f5) (Nat.le_trans g3 (by decide)) (Nat.le_trans g4 (by decide)) (by rw [rx_eta]; exact g1) g2
    refine Evt.step ?_
    simp only [spec_IsValidProblem.l0]
    rw [csI_at ys i hi, w64s (by omega), List.drop_eq_getElem_cons hi, List.all_cons]
    refine Evt.pos (by omega) (Evt.pos (by omega) (Evt.bind hv ?_))
    change Evt (fun k => if valK ys[i] = true then _ else _) _
    cases valK ys[i] with
    | true => exact Evt.pos rfl (hn.cast (by simp))
    | false => exact Evt.neg (by decide) ((Evt.ret _).cast (by simp))
theorem impl_IsValidProblem_ev (ys : List S44) (hl : ys.length ≤ 1048576) (h : ∀ y ∈ ys, CsSm y) : Evt (fun k => impl_IsValidProblem.f k ys) (valP ys) := by
  simp only [impl_IsValidProblem.f, impl_Constraint_148.f, impl_Constraint_182.f]
  unfold valP
  by_cases h6 : (ys.length : Int) ≤ 6
  · refine Evt.pos h6 ?_
    have hh : ∀ d i : Nat, i + d = ys.length → ∃ r, Evt (fun k => impl_Constraint_182.l0 k ys (ys.length : Int) (i : Int)) r ∧ decide (r ≥ 0) = !((ys.drop i).all valK) := by
      intro d
      induction d with
      | zero =>
        intro i hi
        refine ⟨-1, Evt.step ?_, ?_⟩
        · simp only [impl_Constraint_182.l0]
          exact Evt.neg (by omega) (Evt.ret _)
        · rw [List.drop_of_length_le (by omega)]; rfl
      | succ d ih =>
        intro i hi
        have hi' : i < ys.length := by omega
        obtain ⟨g1, g2, g3, g4⟩ := h _ (List.getElem_mem hi')
        have hv : Evt (fun k => impl_IsValidConstraint.f k ys[i].f0 ys[i].f1 ys[i].f2 ys[i].f3.f0 ys[i].f3.f1 ys[i].f3.f2 ys[i].f4 ys[i].f5) (valK ys[i]) := impl_IsValidConstraint_ev g2
        rw [List.drop_eq_getElem_cons hi', List.all_cons]
        obtain ⟨r, hr, hc⟩ := ih (i + 1) (by omega)
        cases hq : valK ys[i] with
        | true =>
          refine ⟨r, Evt.step ?_, by simpa using hc⟩
          simp only [impl_Constraint_182.l0, impl_IsValidProblem_1.f]
          rw [csI_at ys i hi', w64s (by omega)]
          exact Evt.pos (by omega) (Evt.pos (by omega) (Evt.pos (by omega) (Evt.bind (Evt.bind hv (Evt.ret _)) (Evt.neg (by simp [hq]) hr))))
        | false =>
          refine ⟨(i : Int), Evt.step ?_, by simp⟩
          simp only [impl_Constraint_182.l0, impl_IsValidProblem_1.f]
          rw [csI_at ys i hi']
          exact Evt.pos (by omega) (Evt.pos (by omega) (Evt.pos (by omega) (Evt.bind (Evt.bind hv (Evt.ret _)) (Evt.pos (by simp [hq]) (Evt.ret _)))))
    obtain ⟨r, hr, hc⟩ := hh ys.length 0 (by omega)
    refine Evt.bind (Evt.bind hr (Evt.ret _)) ((Evt.ret _).cast ?_)
    rw [hc]
    simp [h6]
  · exact Evt.neg h6 ((Evt.ret _).cast (by simp [h6]))
/-- All the variables of the constraints, one behind the other. -/
def catP : List S44 → ByteArray → ByteArray
  | [], acc => acc
  | y :: ys, acc => catP ys (acc ++ varsK y)
def varsP (ys : List S44) : ByteArray := if valP ys = true then varsB (catP ys (⟨#[]⟩ : ByteArray)) else (⟨#[]⟩ : ByteArray)
theorem varsP_size (ys : List S44) : (varsP ys).size ≤ 3 := by
  unfold varsP
  split
  · exact varsB_size _
  · exact Nat.zero_le _
theorem varsB_nil : varsB (⟨#[]⟩ : ByteArray) = (⟨#[]⟩ : ByteArray) := by decide
theorem valP_len {ys : List S44} (h : valP ys = true) : ys.length ≤ 6 := by
  unfold valP at h
  simp at h
  omega
-- IF impl_VarsOfProblem.f
theorem impl_VarsOfProblem_ev (ys : List S44) (hl : ys.length ≤ 1048576) (h : ∀ y ∈ ys, CsSm y) : Evt (fun k => impl_VarsOfProblem.f k ys) (varsP ys) := by
  simp only [impl_VarsOfProblem.f]
  unfold varsP
  refine Evt.bind (impl_IsValidProblem_ev ys hl h) ?_
  cases hv : valP ys with
  | false => exact Evt.neg (by decide) (Evt.ret _)
  | true =>
    have h6 := valP_len hv
    refine Evt.pos rfl ?_
    rw [if_pos rfl]
    have hh : ∀ d i : Nat, i + d = ys.length → ∀ acc : ByteArray, acc.size ≤ 3 * i → Evt (fun k => impl_VarsOfProblem.l0 k acc ys (ys.length : Int) (i : Int)) (varsB (catP (ys.drop i) acc)) := by
      intro d
      induction d with
      | zero =>
        intro i hi acc ha
        refine Evt.step ?_
        simp only [impl_VarsOfProblem.l0]
        rw [List.drop_of_length_le (by omega)]
        exact Evt.neg (by omega) (Evt.bind (impl_VarsOf_ev acc) (Evt.ret _))
      | succ d ih =>
        intro i hi acc ha
        have hi' : i < ys.length := by omega
        obtain ⟨g1, g2, g3, g4⟩ := h _ (List.getElem_mem hi')
        have hv : Evt (fun k => impl_VarsOfConstraint.f k ys[i].f0 ys[i].f1 ys[i].f2 ys[i].f3.f0 ys[i].f3.f1 ys[i].f3.f2 ys[i].f4 ys[i].f5) (varsK ys[i]) := impl_VarsOfConstraint_ev g2
        have hs := varsK_size ys[i]
        refine Evt.step ?_
        simp only [impl_VarsOfProblem.l0]
        rw [csI_at ys i hi', w64s (by omega), List.drop_eq_getElem_cons hi']
        exact Evt.pos (by omega) (Evt.pos (by omega) (Evt.pos (by omega) (Evt.bind hv (Evt.pos (by omega) (ih (i + 1) (by omega) _ (by rw [ByteArray.size_append]; omega))))))
    exact hh ys.length 0 (by omega) _ (Nat.zero_le _)
theorem spec_VarsOfProblem_ev (ys : List S44) (hl : ys.length ≤ 1048576) (h : ∀ y ∈ ys, CsSm y) : Evt (fun k => spec_VarsOfProblem.f k ys) (varsP ys) := by
  simp only [spec_VarsOfProblem.f]
  unfold varsP
  have hp := spec_IsValidProblem_ev ys hl h
  cases hv : valP ys with
  | false =>
    refine Evt.step ?_
    simp only [spec_VarsOfProblem.l0]
    have hn : 0 < ys.length := by
      cases ys with
      | nil => simp [valP] at hv
      | cons y ys => simp
    rw [hv] at hp
    exact Evt.pos (by omega) (Evt.bind hp (Evt.neg (by decide) (Evt.bind (spec_VarsOf_ev _ (by decide)) ((Evt.ret _).cast varsB_nil))))
  | true =>
    have h6 := valP_len hv
    rw [hv] at hp
    rw [if_pos rfl]
    have hh : ∀ d i : Nat, i + d = ys.length → ∀ acc : ByteArray, acc.size ≤ 3 * i → Evt (fun k => spec_VarsOfProblem.l0 k acc (i : Int) ys) (varsB (catP (ys.drop i) acc)) := by
      intro d
      induction d with
      | zero =>
        intro i hi acc ha
        refine Evt.step ?_
        simp only [spec_VarsOfProblem.l0]
        rw [List.drop_of_length_le (by omega)]
        exact Evt.neg (by omega) (Evt.bind (spec_VarsOf_ev acc (by omega)) (Evt.ret _))
      | succ d ih =>
        intro i hi acc ha
        have hi' : i < ys.length := by omega
        obtain ⟨g1, g2, g3, g4⟩ := h _ (List.getElem_mem hi')
        have hv : Evt (fun k => spec_VarsOfConstraint.f k ys[i].f0 ys[i].f1 ys[i].f2 ys[i].f3.f0 ys[i].f3.f1 ys[i].f3.f2 ys[i].f4 ys[i].f5) (varsK ys[i]) := spec_VarsOfConstraint_ev (Nat.le_trans g3 (by decide)) (Nat.le_trans g4 (by decide)) (by rw [rx_eta]; exact g1) g2
        have hs := varsK_size ys[i]
        refine Evt.step ?_
        simp only [spec_VarsOfProblem.l0]
        rw [csI_at ys i hi', w64s (by omega), List.drop_eq_getElem_cons hi']
        exact Evt.pos (by omega) (Evt.bind hp (Evt.pos rfl (Evt.pos (by omega) (Evt.bind hv (Evt.pos (by omega) (ih (i + 1) (by omega) _ (by rw [ByteArray.size_append]; omega)))))))
    exact hh ys.length 0 (by omega) _ (Nat.zero_le _)
def boundP (ys : List S44) : Int := if valP ys = true then (if (varsP ys).size ≤ 1 then 5 else if (varsP ys).size = 2 then 3 else 2) else -1
theorem impl_BoundOf_ev (ys : List S44) (hl : ys.length ≤ 1048576) (h : ∀ y ∈ ys, CsSm y) : Evt (fun k => impl_BoundOf.f k ys) (boundP ys) := by
  simp only [impl_BoundOf.f]
  unfold boundP
  refine Evt.bind (impl_IsValidProblem_ev ys hl h) ?_
  cases hv : valP ys with
  | false => exact Evt.neg (by decide) (Evt.ret _)
  | true =>
    have h3 := varsP_size ys
    rw [if_pos rfl]
    refine Evt.pos rfl (Evt.bindc rfl (Evt.bind (impl_VarsOfProblem_ev ys hl h) (Evt.pos (by omega) (Evt.pos (by simp; omega) ((Evt.ret _).cast ?_)))))
    generalize (varsP ys).size = s at *
    match s, h3 with
    | 0, _ => rfl
    | 1, _ => rfl
    | 2, _ => rfl
    | 3, _ => rfl
theorem spec_BoundOf_ev (ys : List S44) (hl : ys.length ≤ 1048576) (h : ∀ y ∈ ys, CsSm y) : Evt (fun k => spec_BoundOf.f k ys) (boundP ys) := by
  simp only [spec_BoundOf.f]
  unfold boundP
  refine Evt.bind (spec_IsValidProblem_ev ys hl h) ?_
  cases hv : valP ys with
  | false => exact Evt.neg (by decide) (Evt.ret _)
  | true =>
    have h3 := varsP_size ys
    rw [if_pos rfl]
    refine Evt.pos rfl (Evt.bind (spec_VarsOfProblem_ev ys hl h) ?_)
    have hj : ∀ (s : Nat) (x : Bool), s ≤ 3 → (x = true ↔ s ≤ 1) → Evt (fun k => spec_BoundOf.j0 k (s : Int) x) (if s ≤ 1 then 5 else if s = 2 then 3 else 2) := by
      intro s x hs hx
      refine Evt.step ?_
      simp only [spec_BoundOf.j0]
      by_cases h1 : s ≤ 1
      · rw [if_pos h1]; exact Evt.pos (hx.2 h1) (Evt.ret _)
      · rw [if_neg h1]
        refine Evt.neg (fun h => h1 (hx.1 h)) ?_
        by_cases h2 : s = 2
        · rw [if_pos h2]; exact Evt.pos (by omega) (Evt.ret _)
        · rw [if_neg h2]; exact Evt.neg (by omega) (Evt.ret _)
    generalize (varsP ys).size = s at *
    by_cases h0 : s = 0
    · subst h0; exact Evt.pos rfl (hj 0 _ (by omega) (by simp))
    · refine Evt.neg (by omega) (hj s _ h3 ?_)
      simp; omega
end Go.Proofs.Ytpppopdmnejcfaa.F

namespace Go.Proofs.Ytpppopdmnejcfaa.Pure
set_option linter.unusedVariables false
set_option linter.unusedSimpArgs false
open Go Go.RowKit Go.Proofs.YtpppopdmnejcfaaW.PrintWords Go.Proofs.Ytpppopdmnejcfaa.Pl Go.Proofs.Ytpppopdmnejcfaa.F Go.Proofs.Ytpppopdmnejcfaa.A Go.Proofs.Ytpppopdmnejcfaa.Ext Go.Proofs.Ytpppopdmnejcfaa.BtFnExactIsValidConstraint

theorem rxOk_of (n : Nat) : ∀ x : S34, wf34N n x → RxOk n x := by
  induction n with
  | zero => intro x h; exact h.elim
  | succ n ih => intro x h; exact ⟨h.2.1, h.2.2.1, fun a ha => ih a (h.2.2.2 a ha)⟩
theorem rxOk_mono : ∀ n (x : S34), RxOk n x → RxOk (n + 1) x := by
  intro n
  induction n with
  | zero => intro x h; exact h.elim
  | succ n ih => intro x h; exact ⟨h.1, h.2.1, fun a ha => ih a (h.2.2 a ha)⟩
theorem rxOk_le {n m : Nat} (h : n ≤ m) (x : S34) (hx : RxOk n x) : RxOk m x := by
  induction h with
  | refl => exact hx
  | step _ ih => exact rxOk_mono _ _ ih
theorem rxOk_top (d : Int) (e : ByteArray) (l : List S34) (he : e.size ≤ 9223372036854775807) (hl : l.length ≤ 9223372036854775807 ∧ ∀ a ∈ l, wf34 a) : ∃ n, RxOk n ⟨d, e, l⟩ := by
  obtain ⟨h1, h2⟩ := hl
  have h3 : ∃ n, ∀ a ∈ l, RxOk n a := by
    clear h1
    induction l with
    | nil => exact ⟨0, fun a ha => by cases ha⟩
    | cons x l ih =>
      obtain ⟨n, hn⟩ := ih (fun a ha => h2 a (List.mem_cons_of_mem _ ha))
      obtain ⟨m, hm⟩ := h2 x (List.mem_cons_self ..)
      refine ⟨max n m, fun a ha => ?_⟩
      rcases List.mem_cons.1 ha with rfl | ha
      · exact rxOk_le (by omega) _ (rxOk_of m _ hm)
      · exact rxOk_le (by omega) _ (hn a ha)
  obtain ⟨n, hn⟩ := h3
  exact ⟨n + 1, he, h1, hn⟩
theorem FnExactIsValidConstraint : FnExactIsValidConstraint.Pure := by
  intro a b c d e l m n _ hb hc _ he hl hm _
  obtain ⟨N, hN⟩ := rxOk_top d e l he hl
  refine Evt.get (g := fun k => laws_FnExactIsValidConstraint.f k a b c d e l m n) ?_
  simp only [laws_FnExactIsValidConstraint.f]
  obtain ⟨t, ht, hs⟩ := szConstraint_ev a b c d e l m n N 1048576 (by omega) (by omega) hb hc hN hm.1
  rcases hs with rfl | ⟨h0, h1, y, y1, y2, q1⟩
  · exact Evt.bind ht (Evt.pos (by decide) (Evt.ret _))
  exact Evt.bind ht (Evt.neg (by omega) (Evt.bind q1 (Evt.bind (spec_IsValidConstraint_ev hb hc y1 y2) (Evt.bind q1 (Evt.bind (impl_IsValidConstraint_ev y2) (Evt.neg (by simp) (Evt.bind q1 (Evt.bind (eqConstraint_ev a b c d e y m n y1 y2) (Evt.pos rfl (Evt.ret _))))))))))

end Go.Proofs.Ytpppopdmnejcfaa.Pure


namespace Go.Proofs.Ytpppopdmnejcfaa.fnExactIsValidConstraint
open Go.ChangeShapes Go.WideShapes Go.ChangeAt Go.RowKit Go.Proofs.Ytpppopdmnejcfaa.Br Go.Proofs.YtpppopdmnejcfaaW.PrintWords Go.Proofs.Ytpppopdmnejcfaa.A Go.Proofs.Ytpppopdmnejcfaa.BtFnExactIsValidConstraint
open Go.ChangeMaps (open_string shut_string)
set_option linter.unusedVariables false
theorem own : ownKnob Try.prog.godebug = none := by kernel_rfl
theorem laidOut : laidOutB Try.prog = true := by kernel_rfl
set_option maxHeartbeats 2000000 in
set_option maxRecDepth 100000 in
theorem lifted (os : Os) (started : os.Started) (H : Type) (enc : TypeId × Value → H) :
    ReturnsInHanded {} Try.checked os 4 .any (Rows.fnExactIsValidConstraintSpec.pre6 enc Try.prog Try.f4 Rows.fnExactIsValidConstraintRow.domain false) (Rows.fnExactIsValidConstraintSpec.post enc Try.prog Try.f4 false true false false) := by
  refine returnsInHanded_of_change_sized (C := Try.checked) own started (by kernel_rfl) Try.func4
    (ChangeSpec.witness6 (enc := enc) (C := Try.checked) false ⟨#[], #[.agg #[.int .i64 0, .string ByteArray.empty, .string ByteArray.empty, .int .i64 0, .string ByteArray.empty, .slice none 0 0, .slice none 0 0, .int .i64 0]], []⟩ 8 (by kernel_rfl) (by kernel_rfl) (by kernel_rfl) (by kernel_rfl)) ?_
  intro W base args ds gs before hval0 hW hcnd hsz0 _
  have hval : ∀ (j : Nat) t v, Try.f4.params[j]? = some t → args[j]? = some v → Value.okWide Try.prog W .any base t v := hval0
  have hW' := hW
  obtain ⟨p, q, hA0, hV, rfl, hfz, hnd⟩ := hW
  have hA : DataW.TrodAll enc Try.prog W 0 (fun _ => true) true Try.f4.params.toList args.toList ds p := hA0
  rw [Try.params4] at hA hval
  obtain ⟨v0, vs0, d0, ds0, p0, q0, hargs, rfl, rfl, h0, r0⟩ := trodAll_cons hA
  obtain ⟨rfl, rfl, rfl⟩ := trodAll_nil r0
  obtain rfl : args = #[v0] := by cases args; simp_all
  obtain ⟨rfl, rfl⟩ := trodVars_none hV
  have k0 := h0
  have lt0 : ∀ x ∈ p0, x.block < W.heap.size := by obtain ⟨m, hm⟩ := k0; exact DataW.trod_lt m _ _ _ hm
  obtain ⟨arr0, rfl, _, _⟩ : ∃ cs, v0 = .agg cs ∧ cs.size = Try.prog.cellsOf 37 ∧ Row.okWide Try.prog W .any base 37 cs := by have z := (hval 0 37 v0 rfl rfl); unfold Value.okWide at z; rw [Try.underlying37] at z; exact z
  obtain ⟨fuel0, hf0⟩ := h0
  obtain ⟨x0, hK0, hw0⟩ := (show ∀ n, BrN Try.prog n 37 _ _ from fun n => (br_struct' Try.underlying37 (show Try.prog.cellsOf 37 = 8 by kernel_rfl) (fun n => (bf_cons rfl (show Try.prog.cellsOf 3 = 1 by kernel_rfl) (br_int Try.underlying3 n) (bf_cons rfl (show Try.prog.cellsOf 9 = 1 by kernel_rfl) (br_string Try.underlying9 n) (bf_cons rfl (show Try.prog.cellsOf 9 = 1 by kernel_rfl) (br_string Try.underlying9 n) (bf_cons rfl (show Try.prog.cellsOf 34 = 3 by kernel_rfl) (br_struct' Try.underlying34 (show Try.prog.cellsOf 34 = 3 by kernel_rfl) (fun n => (bf_cons rfl (show Try.prog.cellsOf 3 = 1 by kernel_rfl) (br_int Try.underlying3 n) (bf_cons rfl (show Try.prog.cellsOf 9 = 1 by kernel_rfl) (br_string Try.underlying9 n) (bf_one rfl (show Try.prog.cellsOf 32 = 1 by kernel_rfl) (br_slice' Try.underlying32 (show Try.prog.cellsOf 34 = 3 by kernel_rfl) (fun n => (br34 n)) n)) (of_decide_eq_true (by kernel_rfl))) (of_decide_eq_true (by kernel_rfl)))) n) (bf_cons rfl (show Try.prog.cellsOf 35 = 1 by kernel_rfl) (br_slice' Try.underlying35 (show Try.prog.cellsOf 3 = 1 by kernel_rfl) (fun n => (br_int Try.underlying3 n)) n) (bf_one rfl (show Try.prog.cellsOf 3 = 1 by kernel_rfl) (br_int Try.underlying3 n)) (of_decide_eq_true (by kernel_rfl))) (of_decide_eq_true (by kernel_rfl))) (of_decide_eq_true (by kernel_rfl))) (of_decide_eq_true (by kernel_rfl))) (of_decide_eq_true (by kernel_rfl)))) n)) fuel0 H enc W 0 (fun _ => true) true fuel0 _ _ (Nat.le_refl _) hf0
  obtain ⟨a0_0, ⟨a0_1, ⟨a0_2, ⟨⟨a0_3, ⟨a0_4, l0_5⟩⟩, ⟨l0_6, a0_7⟩⟩⟩⟩⟩ := x0
  replace hw0 := hw0
  obtain ⟨w0_0, ⟨w0_1, ⟨w0_2, ⟨⟨w0_3, ⟨w0_4, w0_5⟩⟩, ⟨w0_6, w0_7⟩⟩⟩⟩⟩ := hw0
  obtain ⟨cs0, hcs0, hK0⟩ : ∃ cs, (Value.agg arr0).cells.toList = cs ∧ _ := ⟨_, rfl, hK0⟩
  obtain ⟨_, _, rfl, rfl, ⟨_, _, rfl, rfl, ⟨_, _, rfl, rfl, ⟨_, _, rfl, ⟨_, _, rfl, rfl, ⟨_, _, rfl, rfl, ⟨A0_5, c0_5, rfl, hc0_5, hr0_5⟩⟩⟩, ⟨_, _, rfl, ⟨A0_6, c0_6, rfl, hc0_6, hr0_6⟩, rfl⟩⟩⟩⟩⟩ := hK0
  obtain rfl : arr0 = #[.int .i64 a0_0, .string a0_1, .string a0_2, .int .i64 a0_3, .string a0_4, .slice A0_5 l0_5.length c0_5, .slice A0_6 l0_6.length c0_6, .int .i64 a0_7] := arr_of hcs0
  clear hA0 hval0 hsz0
  obtain ⟨k, hp⟩ := Pure.FnExactIsValidConstraint a0_0 a0_1 a0_2 a0_3 a0_4 l0_5 l0_6 a0_7 w0_0 w0_1 w0_2 w0_3 w0_4 w0_5 w0_6 w0_7
  refine (laws_FnExactIsValidConstraint.calls k a0_0 a0_1 a0_2 a0_3 a0_4 _ _ l0_5 _ _ l0_6 a0_7 true W hr0_5 hc0_5 hr0_6 hc0_6 hp rfl).mono fun e W' ⟨he, bel0⟩ => ?_
  subst he
  have bel : Below W.heap.size W W' := bel0
  exact ⟨_, rfl, _, _, _, [], _, [], hW', trodAll_mk1 (shut_bool Try.underlying4 _), (trodAll_cons_mk (Below.trod laidOut (by kernel_rfl) (of_decide_eq_true (by kernel_rfl)) k0 bel lt0) trodAll_mk0), rfl, bel.frame _, fun h => by cases h⟩
theorem fact0 : (Rows.fnExactIsValidConstraintRow.inPlace == Try.pinned.checked.prog.inPlace 4) = true := by kernel_rfl
theorem fact1 : (Rows.fnExactIsValidConstraintRow.unfollowed == Try.pinned.checked.prog.unfollowed 4) = true := by kernel_rfl
theorem fact2 : (Rows.fnExactIsValidConstraintRow.recurses == Try.pinned.checked.prog.recurses 4) = true := by kernel_rfl
theorem fact3 : (Rows.fnExactIsValidConstraintRow.named == Try.pinned.checked.prog.varsNamed 4) = true := by kernel_rfl
theorem facts : joinedFacts Try.pinned.checked.prog 4 Try.f4 Rows.fnExactIsValidConstraintSpec Rows.fnExactIsValidConstraintRow = true := by
  unfold joinedFacts
  rw [fact0, fact1, fact2, fact3]
  kernel_rfl
theorem known : Try.pinned.checked.prog.funcNamed Rows.fnExactIsValidConstraintRow.func = some 4 := by kernel_rfl
theorem inst : Try.f4.isInstance Try.pinned.checked.prog Rows.fnExactIsValidConstraintRow.origin Rows.fnExactIsValidConstraintRow.targs := of_decide_eq_true (by kernel_rfl)
theorem wrap : Try.f4.isWrapper Try.pinned.checked.prog Rows.fnExactIsValidConstraintRow.wrapper Rows.fnExactIsValidConstraintRow.mainSum := by unfold Func.isWrapper; first | (rw [if_pos (by decide +kernel)]; kernel_rfl) | (rw [if_neg (by decide +kernel)]; exact ⟨rfl, rfl⟩)
theorem over : Rows.fnExactIsValidConstraintRow.holds Try.pinned (OpenSpec.ofChange Rows.fnExactIsValidConstraintSpec) :=
  OpenClaim.holds_of_wide 4 Try.f4 rfl rfl rfl rfl rfl rfl rfl ⟨rfl, rfl, rfl, rfl, rfl⟩ rfl rfl rfl rfl rfl known Try.func4 facts inst wrap
    (fun os started H enc _ => lifted os started H enc)
theorem proved : Rows.FnExactIsValidConstraintSaid := over
#print axioms proved
end Go.Proofs.Ytpppopdmnejcfaa.fnExactIsValidConstraint
namespace Go.Proofs.Ytpppopdmnejcfaa
/-- The row, under a short name, for the claim. -/
theorem fnExactIsValidConstraint_holds : Rows.FnExactIsValidConstraintSaid := fnExactIsValidConstraint.proved
end Go.Proofs.Ytpppopdmnejcfaa
