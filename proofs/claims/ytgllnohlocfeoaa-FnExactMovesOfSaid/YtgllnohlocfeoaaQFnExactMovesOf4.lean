/- FnExactMovesOf: what its proof needs, put together by this session's program wip/merge.py out of the texts that wip/xp.py printed and of this session's own. -/
import Derived.Test.YtgllnohlocfeoaaQFnExactMovesOf3
import Derived.ChangeArms
import Derived.ChangeReads
import Derived.DataReads
import Derived.DataElems
import Derived.Lib.Strings
import Derived.Lib.Bytealg
import Derived.Test.YtgllnohlocfeoaaRows
import Derived.WalkKit
import Derived.ProofKit
import Derived.OpenShut
import Derived.ShutString
import Derived.ChangeOld
import Derived.Below
import Derived.SizedLaws
import Derived.Lib.SmallJoins
namespace Go.Proofs.Ytgllnohlocfeoaa.A
open Go.RowKit Go.Proofs.Ytgllnohlocfeoaa.Ext Go.Proofs.YtgllnohlocfeoaaW.PrintWords Go.Proofs.YtgllnohlocfeoaaW.PrintLast Go.Proofs.YtgllnohlocfeoaaW.PrintMore
attribute [local go_sem] max2_int min2_int max_two min_two max_three min_three max_four min_four   -- for this text's walks alone
set_option linter.unusedVariables false
set_option linter.unusedSimpArgs false

/-! ### laws_FnExactMovesOf: function 4 -/
def laws_FnExactMovesOf.f (k : Nat) (a0_0 : ByteArray) (a0_1 : ByteArray) : Option (Bool) := (laws_szEquation.f a0_0 a0_1 1048576).bind fun t4002 => (if t4002 < 0 then (some true) else ((laws_toEquation.f a0_0 a0_1).bind fun bt4003 => ((spec_MovesOf.f k bt4003.1 bt4003.2).bind fun t4005 => ((laws_toEquation.f a0_0 a0_1).bind fun bt4008 => ((impl_MovesOf.f k bt4008.1 bt4008.2).bind fun t4010 => ((laws_eqMoveS.f k t4010 t4005).bind fun t4013 => (if t4013 = true then ((laws_markMoveS.f k t4010 1).bind fun bt4014 => ((laws_heldMoveS.f k bt4014.2 1).bind fun t4016 => (if t4016 < 0 then (some false) else (if t4016 = bt4014.1 then ((laws_toEquation.f a0_0 a0_1).bind fun bt4017 => ((impl_MovesOf.f k bt4017.1 bt4017.2).bind fun t4019 => ((laws_eqMoveS.f k t4019 t4005).bind fun t4022 => (if t4022 = true then ((laws_heldMoveS.f k bt4014.2 1).bind fun t4023 => (if t4023 < 0 then (some false) else (if t4023 = bt4014.1 then (some true) else (some false)))) else (some false))))) else (some false))))) else (some false))))))))
theorem laws_FnExactMovesOf.mono : ∀ a0 a1 k, LeO (laws_FnExactMovesOf.f k a0 a1) (laws_FnExactMovesOf.f (k + 1) a0 a1) := by
  intro a0 a1 k
  unfold laws_FnExactMovesOf.f
  repeat' first
      | (with_reducible exact impl_MovesOf.mono _ _ _)
      | (with_reducible exact laws_eqMoveS.mono _ _ _)
      | (with_reducible exact laws_heldMoveS.mono _ _ _)
      | (with_reducible exact laws_markMoveS.mono _ _ _)
      | (with_reducible exact spec_MovesOf.mono _ _ _)
      | (with_reducible exact LeO.refl _)
      | (with_reducible exact LeO.none _)
      | (with_reducible refine LeO.ite ?_ ?_)
      | (with_reducible refine LeO.bind ?_ (fun _ => ?_))
      | exact impl_MovesOf.mono _ _ _
      | exact laws_eqMoveS.mono _ _ _
      | exact laws_heldMoveS.mono _ _ _
      | exact laws_markMoveS.mono _ _ _
      | exact spec_MovesOf.mono _ _ _
      | exact LeO.none _
      | refine LeO.ite ?_ ?_
      | refine LeO.bind ?_ (fun _ => ?_)
set_option maxHeartbeats 8000000 in
set_option maxRecDepth 100000 in
theorem laws_FnExactMovesOf.calls (k : Nat) (a0_0 : ByteArray) (a0_1 : ByteArray) (r : Bool) (w : World) (h : laws_FnExactMovesOf.f k a0_0 a0_1 = some r) (hr_ : r = true) :
    Calls Try.prog 4 #[.agg #[.string a0_0, .string a0_1]] w fun e w' => e = .returned (.bool r) ∧ Below w.heap.size w w' := by
  have HRT_ := Aside0.mk hr_
  clear hr_
  have hu30 := Try.underlying30
  have HB := Aside0.mk (Below.refl w.heap.size w)
  have H : ((laws_szEquation.f a0_0 a0_1 1048576).bind fun t4002 => (if t4002 < 0 then (some true) else ((laws_toEquation.f a0_0 a0_1).bind fun bt4003 => ((spec_MovesOf.f k bt4003.1 bt4003.2).bind fun t4005 => ((laws_toEquation.f a0_0 a0_1).bind fun bt4008 => ((impl_MovesOf.f k bt4008.1 bt4008.2).bind fun t4010 => ((laws_eqMoveS.f k t4010 t4005).bind fun t4013 => (if t4013 = true then ((laws_markMoveS.f k t4010 1).bind fun bt4014 => ((laws_heldMoveS.f k bt4014.2 1).bind fun t4016 => (if t4016 < 0 then (some false) else (if t4016 = bt4014.1 then ((laws_toEquation.f a0_0 a0_1).bind fun bt4017 => ((impl_MovesOf.f k bt4017.1 bt4017.2).bind fun t4019 => ((laws_eqMoveS.f k t4019 t4005).bind fun t4022 => (if t4022 = true then ((laws_heldMoveS.f k bt4014.2 1).bind fun t4023 => (if t4023 < 0 then (some false) else (if t4023 = bt4014.1 then (some true) else (some false)))) else (some false))))) else (some false))))) else (some false))))))))) = some r := h
  clear h
  replace H := Option.bind_eq_some_iff.mp H
  obtain ⟨t4002, A20, H⟩ := H
  replace H : (if t4002 < 0 then (some true) else ((laws_toEquation.f a0_0 a0_1).bind fun bt4003 => ((spec_MovesOf.f k bt4003.1 bt4003.2).bind fun t4005 => ((laws_toEquation.f a0_0 a0_1).bind fun bt4008 => ((impl_MovesOf.f k bt4008.1 bt4008.2).bind fun t4010 => ((laws_eqMoveS.f k t4010 t4005).bind fun t4013 => (if t4013 = true then ((laws_markMoveS.f k t4010 1).bind fun bt4014 => ((laws_heldMoveS.f k bt4014.2 1).bind fun t4016 => (if t4016 < 0 then (some false) else (if t4016 = bt4014.1 then ((laws_toEquation.f a0_0 a0_1).bind fun bt4017 => ((impl_MovesOf.f k bt4017.1 bt4017.2).bind fun t4019 => ((laws_eqMoveS.f k t4019 t4005).bind fun t4022 => (if t4022 = true then ((laws_heldMoveS.f k bt4014.2 1).bind fun t4023 => (if t4023 < 0 then (some false) else (if t4023 = bt4014.1 then (some true) else (some false)))) else (some false))))) else (some false))))) else (some false)))))))) = some r := H
  have A2 := Aside0.mk A20
  clear A20
  by_cases c3 : t4002 < 0
  · rw [if_pos c3] at H
    have c3b0 : decide (t4002 < 0) = true := decide_eq_true c3
    clear c3
    obtain rfl := Option.some.inj H
    go_enter Try.func4, Try.ntmps4
    go_wp2_with (first | ((with_reducible refine gate_dst (N := 1) rfl ?_); refine box_event ?hg (N := 1) ?hd (cs := #[.string a0_0, .string a0_1]) (t := 30) ?hr ?_; (case hd => rfl); (case hg => rfl); (case hr => first | (go_simp; done) | (go_simp; rfl)); intro gb4001 hg w4 hbox hb; have n0_ := Aside0.mk (below_step (by repeat (first | (with_reducible first | exact HB.out | apply below_alloc | apply pw_below_drewN | apply below_drew1) | exact HB.out)) hb); have n1_ := Aside0.mk (hbox); have n2_ := Aside0.mk ((by rw [hg]; exact (below_size (by repeat (first | (with_reducible first | exact HB.out | apply below_alloc | apply pw_below_drewN | apply below_drew1) | exact HB.out))) : w.heap.size ≤ gb4001)); have n3_ := Aside0.mk ((by rw [hg]; exact (below_size (by repeat (first | (with_reducible first | exact HB.out | apply below_alloc | apply pw_below_drewN | apply below_drew1) | exact HB.out))) : w.heap.size ≤ gb4001)); clear HB; have HB := n0_; have BK4001 := n1_; have GW4001 := n2_; have GE4001 := n3_; clear n0_ n1_ n2_ n3_; clear hb hbox hg; have hcz5_0 : w4.cell? ⟨gb4001, 0, none⟩ = some (.string a0_0) := (blk_cell BK4001.out 0).trans rfl; have hcz5_1 : w4.cell? ⟨gb4001, 1, none⟩ = some (.string a0_1) := (blk_cell BK4001.out 1).trans rfl; have hfz5_0 := blk_frozen BK4001.out 0; have hfz5_1 := blk_frozen BK4001.out 1) | ((with_reducible refine gate_callee (f := 10) rfl ?_); refine goesL_ (some 11) rfl rfl Try.func10 (by kernel_rfl) rfl #[.agg #[.string a0_0, .string a0_1], .int .i64 1048576] rfl (by (try simp only [List.map_toArray, List.map_cons, List.map_nil]); first | done | rfl | (simp only [List.length_drop, List.length_take]; rfl)) ?_; (with_reducible refine (laws_szEquation.calls a0_0 a0_1 1048576 t4002 _ A2.out).mono ?_); rintro e w6 ⟨rfl, hb⟩; refine ⟨_, rfl, ?_⟩; have n0_ := Aside0.mk (blk_below (g := gb4001) (o := .cells #[.string a0_0, .string a0_1] 30 (0, 0)) (by (with_reducible repeat (first | refine blk_drewN ?_ _ | refine blk_drew ?_ | refine blk_alloc ?_ _)); exact BK4001.out) hb); have n1_ := Aside0.mk (below_step (by repeat (first | (with_reducible first | exact HB.out | apply below_alloc | apply pw_below_drewN | apply below_drew1 | refine below_set ?_ GE4001.out) | exact HB.out)) hb); clear BK4001; clear HB; have BK4001 := n0_; have HB := n1_; clear n0_ n1_; (try clear hb); (try clear hb2); (try clear hk); (try clear hi)))
    go_ret
    exact ⟨by first | rfl | (simp [errW_none, errW_some] <;> rfl) | (simp [*, errW_none, errW_some] <;> rfl), by repeat (first | (with_reducible first | exact HB.out | apply below_alloc | apply pw_below_drewN | apply below_drew1 | refine below_set ?_ GE4001.out) | exact HB.out)⟩
  · rw [if_neg c3] at H
    have c3b0 : decide (t4002 < 0) = false := decide_eq_false c3
    clear c3
    replace H := Option.bind_eq_some_iff.mp H
    obtain ⟨⟨t4003, t4004⟩, A70, H⟩ := H
    replace H : ((spec_MovesOf.f k t4003 t4004).bind fun t4005 => ((laws_toEquation.f a0_0 a0_1).bind fun bt4008 => ((impl_MovesOf.f k bt4008.1 bt4008.2).bind fun t4010 => ((laws_eqMoveS.f k t4010 t4005).bind fun t4013 => (if t4013 = true then ((laws_markMoveS.f k t4010 1).bind fun bt4014 => ((laws_heldMoveS.f k bt4014.2 1).bind fun t4016 => (if t4016 < 0 then (some false) else (if t4016 = bt4014.1 then ((laws_toEquation.f a0_0 a0_1).bind fun bt4017 => ((impl_MovesOf.f k bt4017.1 bt4017.2).bind fun t4019 => ((laws_eqMoveS.f k t4019 t4005).bind fun t4022 => (if t4022 = true then ((laws_heldMoveS.f k bt4014.2 1).bind fun t4023 => (if t4023 < 0 then (some false) else (if t4023 = bt4014.1 then (some true) else (some false)))) else (some false))))) else (some false))))) else (some false)))))) = some r := H
    have A7 := Aside0.mk A70
    clear A70
    replace H := Option.bind_eq_some_iff.mp H
    obtain ⟨t4005, A80, H⟩ := H
    replace H : ((laws_toEquation.f a0_0 a0_1).bind fun bt4008 => ((impl_MovesOf.f k bt4008.1 bt4008.2).bind fun t4010 => ((laws_eqMoveS.f k t4010 t4005).bind fun t4013 => (if t4013 = true then ((laws_markMoveS.f k t4010 1).bind fun bt4014 => ((laws_heldMoveS.f k bt4014.2 1).bind fun t4016 => (if t4016 < 0 then (some false) else (if t4016 = bt4014.1 then ((laws_toEquation.f a0_0 a0_1).bind fun bt4017 => ((impl_MovesOf.f k bt4017.1 bt4017.2).bind fun t4019 => ((laws_eqMoveS.f k t4019 t4005).bind fun t4022 => (if t4022 = true then ((laws_heldMoveS.f k bt4014.2 1).bind fun t4023 => (if t4023 < 0 then (some false) else (if t4023 = bt4014.1 then (some true) else (some false)))) else (some false))))) else (some false))))) else (some false))))) = some r := H
    have A8 := Aside0.mk A80
    clear A80
    replace H := Option.bind_eq_some_iff.mp H
    obtain ⟨⟨t4008, t4009⟩, A90, H⟩ := H
    replace H : ((impl_MovesOf.f k t4008 t4009).bind fun t4010 => ((laws_eqMoveS.f k t4010 t4005).bind fun t4013 => (if t4013 = true then ((laws_markMoveS.f k t4010 1).bind fun bt4014 => ((laws_heldMoveS.f k bt4014.2 1).bind fun t4016 => (if t4016 < 0 then (some false) else (if t4016 = bt4014.1 then ((laws_toEquation.f a0_0 a0_1).bind fun bt4017 => ((impl_MovesOf.f k bt4017.1 bt4017.2).bind fun t4019 => ((laws_eqMoveS.f k t4019 t4005).bind fun t4022 => (if t4022 = true then ((laws_heldMoveS.f k bt4014.2 1).bind fun t4023 => (if t4023 < 0 then (some false) else (if t4023 = bt4014.1 then (some true) else (some false)))) else (some false))))) else (some false))))) else (some false)))) = some r := H
    have A9 := Aside0.mk A90
    clear A90
    replace H := Option.bind_eq_some_iff.mp H
    obtain ⟨t4010, A100, H⟩ := H
    replace H : ((laws_eqMoveS.f k t4010 t4005).bind fun t4013 => (if t4013 = true then ((laws_markMoveS.f k t4010 1).bind fun bt4014 => ((laws_heldMoveS.f k bt4014.2 1).bind fun t4016 => (if t4016 < 0 then (some false) else (if t4016 = bt4014.1 then ((laws_toEquation.f a0_0 a0_1).bind fun bt4017 => ((impl_MovesOf.f k bt4017.1 bt4017.2).bind fun t4019 => ((laws_eqMoveS.f k t4019 t4005).bind fun t4022 => (if t4022 = true then ((laws_heldMoveS.f k bt4014.2 1).bind fun t4023 => (if t4023 < 0 then (some false) else (if t4023 = bt4014.1 then (some true) else (some false)))) else (some false))))) else (some false))))) else (some false))) = some r := H
    have A10 := Aside0.mk A100
    clear A100
    replace H := Option.bind_eq_some_iff.mp H
    obtain ⟨t4013, A110, H⟩ := H
    replace H : (if t4013 = true then ((laws_markMoveS.f k t4010 1).bind fun bt4014 => ((laws_heldMoveS.f k bt4014.2 1).bind fun t4016 => (if t4016 < 0 then (some false) else (if t4016 = bt4014.1 then ((laws_toEquation.f a0_0 a0_1).bind fun bt4017 => ((impl_MovesOf.f k bt4017.1 bt4017.2).bind fun t4019 => ((laws_eqMoveS.f k t4019 t4005).bind fun t4022 => (if t4022 = true then ((laws_heldMoveS.f k bt4014.2 1).bind fun t4023 => (if t4023 < 0 then (some false) else (if t4023 = bt4014.1 then (some true) else (some false)))) else (some false))))) else (some false))))) else (some false)) = some r := H
    have A11 := Aside0.mk A110
    clear A110
    by_cases c12 : t4013 = true
    · subst c12
      have H1 : ((laws_markMoveS.f k t4010 1).bind fun bt4014 => ((laws_heldMoveS.f k bt4014.2 1).bind fun t4016 => (if t4016 < 0 then (some false) else (if t4016 = bt4014.1 then ((laws_toEquation.f a0_0 a0_1).bind fun bt4017 => ((impl_MovesOf.f k bt4017.1 bt4017.2).bind fun t4019 => ((laws_eqMoveS.f k t4019 t4005).bind fun t4022 => (if t4022 = true then ((laws_heldMoveS.f k bt4014.2 1).bind fun t4023 => (if t4023 < 0 then (some false) else (if t4023 = bt4014.1 then (some true) else (some false)))) else (some false))))) else (some false))))) = some r := by rw [if_pos rfl] at H; exact H
      clear H
      have H := H1
      clear H1
      replace H := Option.bind_eq_some_iff.mp H
      obtain ⟨⟨t4014, t4015⟩, A130, H⟩ := H
      replace H : ((laws_heldMoveS.f k t4015 1).bind fun t4016 => (if t4016 < 0 then (some false) else (if t4016 = t4014 then ((laws_toEquation.f a0_0 a0_1).bind fun bt4017 => ((impl_MovesOf.f k bt4017.1 bt4017.2).bind fun t4019 => ((laws_eqMoveS.f k t4019 t4005).bind fun t4022 => (if t4022 = true then ((laws_heldMoveS.f k t4015 1).bind fun t4023 => (if t4023 < 0 then (some false) else (if t4023 = t4014 then (some true) else (some false)))) else (some false))))) else (some false)))) = some r := H
      have A13 := Aside0.mk A130
      clear A130
      replace H := Option.bind_eq_some_iff.mp H
      obtain ⟨t4016, A140, H⟩ := H
      replace H : (if t4016 < 0 then (some false) else (if t4016 = t4014 then ((laws_toEquation.f a0_0 a0_1).bind fun bt4017 => ((impl_MovesOf.f k bt4017.1 bt4017.2).bind fun t4019 => ((laws_eqMoveS.f k t4019 t4005).bind fun t4022 => (if t4022 = true then ((laws_heldMoveS.f k t4015 1).bind fun t4023 => (if t4023 < 0 then (some false) else (if t4023 = t4014 then (some true) else (some false)))) else (some false))))) else (some false))) = some r := H
      have A14 := Aside0.mk A140
      clear A140
      by_cases c15 : t4016 < 0
      · rw [if_pos c15] at H
        have c15b0 : decide (t4016 < 0) = true := decide_eq_true c15
        clear c15
        exact absurd ((Option.some.inj H).trans HRT_.out) (by decide)
      · rw [if_neg c15] at H
        have c15b0 : decide (t4016 < 0) = false := decide_eq_false c15
        clear c15
        by_cases c30 : t4016 = t4014
        · rw [if_pos c30] at H
          have c30b0 : (t4016 == t4014) = true := beq_iff_eq.mpr c30
          have c30b1 : (t4016 != t4014) = false := bne_eq_false_iff_eq.mpr c30
          clear c30
          replace H := Option.bind_eq_some_iff.mp H
          obtain ⟨⟨t4017, t4018⟩, A310, H⟩ := H
          replace H : ((impl_MovesOf.f k t4017 t4018).bind fun t4019 => ((laws_eqMoveS.f k t4019 t4005).bind fun t4022 => (if t4022 = true then ((laws_heldMoveS.f k t4015 1).bind fun t4023 => (if t4023 < 0 then (some false) else (if t4023 = t4014 then (some true) else (some false)))) else (some false)))) = some r := H
          have A31 := Aside0.mk A310
          clear A310
          replace H := Option.bind_eq_some_iff.mp H
          obtain ⟨t4019, A320, H⟩ := H
          replace H : ((laws_eqMoveS.f k t4019 t4005).bind fun t4022 => (if t4022 = true then ((laws_heldMoveS.f k t4015 1).bind fun t4023 => (if t4023 < 0 then (some false) else (if t4023 = t4014 then (some true) else (some false)))) else (some false))) = some r := H
          have A32 := Aside0.mk A320
          clear A320
          replace H := Option.bind_eq_some_iff.mp H
          obtain ⟨t4022, A330, H⟩ := H
          replace H : (if t4022 = true then ((laws_heldMoveS.f k t4015 1).bind fun t4023 => (if t4023 < 0 then (some false) else (if t4023 = t4014 then (some true) else (some false)))) else (some false)) = some r := H
          have A33 := Aside0.mk A330
          clear A330
          by_cases c34 : t4022 = true
          · subst c34
            have H1 : ((laws_heldMoveS.f k t4015 1).bind fun t4023 => (if t4023 < 0 then (some false) else (if t4023 = t4014 then (some true) else (some false)))) = some r := by rw [if_pos rfl] at H; exact H
            clear H
            have H := H1
            clear H1
            replace H := Option.bind_eq_some_iff.mp H
            obtain ⟨t4023, A350, H⟩ := H
            replace H : (if t4023 < 0 then (some false) else (if t4023 = t4014 then (some true) else (some false))) = some r := H
            have A35 := Aside0.mk A350
            clear A350
            by_cases c36 : t4023 < 0
            · rw [if_pos c36] at H
              have c36b0 : decide (t4023 < 0) = true := decide_eq_true c36
              clear c36
              exact absurd ((Option.some.inj H).trans HRT_.out) (by decide)
            · rw [if_neg c36] at H
              have c36b0 : decide (t4023 < 0) = false := decide_eq_false c36
              clear c36
              by_cases c57 : t4023 = t4014
              · rw [if_pos c57] at H
                have c57b0 : (t4023 == t4014) = true := beq_iff_eq.mpr c57
                have c57b1 : (t4023 != t4014) = false := bne_eq_false_iff_eq.mpr c57
                clear c57
                obtain rfl := Option.some.inj H
                go_enter Try.func4, Try.ntmps4
                go_wp2_with (first | ((with_reducible refine gate_dst (N := 1) rfl ?_); refine box_event ?hg (N := 1) ?hd (cs := #[.string a0_0, .string a0_1]) (t := 30) ?hr ?_; (case hd => rfl); (case hg => rfl); (case hr => first | (go_simp; done) | (go_simp; rfl)); intro gb4001 hg w58 hbox hb; have n0_ := Aside0.mk (below_step (by repeat (first | (with_reducible first | exact HB.out | apply below_alloc | apply pw_below_drewN | apply below_drew1) | exact HB.out)) hb); have n1_ := Aside0.mk (hbox); have n2_ := Aside0.mk ((by rw [hg]; exact (below_size (by repeat (first | (with_reducible first | exact HB.out | apply below_alloc | apply pw_below_drewN | apply below_drew1) | exact HB.out))) : w.heap.size ≤ gb4001)); have n3_ := Aside0.mk ((by rw [hg]; exact (below_size (by repeat (first | (with_reducible first | exact HB.out | apply below_alloc | apply pw_below_drewN | apply below_drew1) | exact HB.out))) : w.heap.size ≤ gb4001)); clear HB; have HB := n0_; have BK4001 := n1_; have GW4001 := n2_; have GE4001 := n3_; clear n0_ n1_ n2_ n3_; clear hb hbox hg; have hcz59_0 : w58.cell? ⟨gb4001, 0, none⟩ = some (.string a0_0) := (blk_cell BK4001.out 0).trans rfl; have hcz59_1 : w58.cell? ⟨gb4001, 1, none⟩ = some (.string a0_1) := (blk_cell BK4001.out 1).trans rfl; have hfz59_0 := blk_frozen BK4001.out 0; have hfz59_1 := blk_frozen BK4001.out 1) | ((with_reducible refine gate_callee (f := 10) rfl ?_); refine goesL_ (some 11) rfl rfl Try.func10 (by kernel_rfl) rfl #[.agg #[.string a0_0, .string a0_1], .int .i64 1048576] rfl (by (try simp only [List.map_toArray, List.map_cons, List.map_nil]); first | done | rfl | (simp only [List.length_drop, List.length_take]; rfl)) ?_; (with_reducible refine (laws_szEquation.calls a0_0 a0_1 1048576 t4002 _ A2.out).mono ?_); rintro e w60 ⟨rfl, hb⟩; refine ⟨_, rfl, ?_⟩; have n0_ := Aside0.mk (blk_below (g := gb4001) (o := .cells #[.string a0_0, .string a0_1] 30 (0, 0)) (by (with_reducible repeat (first | refine blk_drewN ?_ _ | refine blk_drew ?_ | refine blk_alloc ?_ _)); exact BK4001.out) hb); have n1_ := Aside0.mk (below_step (by repeat (first | (with_reducible first | exact HB.out | apply below_alloc | apply pw_below_drewN | apply below_drew1 | refine below_set ?_ GE4001.out) | exact HB.out)) hb); clear BK4001; clear HB; have BK4001 := n0_; have HB := n1_; clear n0_ n1_; (try clear hb); (try clear hb2); (try clear hk); (try clear hi); have hcz61_0 : w60.cell? ⟨gb4001, 0, none⟩ = some (.string a0_0) := (blk_cell BK4001.out 0).trans rfl; have hcz61_1 : w60.cell? ⟨gb4001, 1, none⟩ = some (.string a0_1) := (blk_cell BK4001.out 1).trans rfl; have hfz61_0 := blk_frozen BK4001.out 0; have hfz61_1 := blk_frozen BK4001.out 1) | ((with_reducible refine gate_callee (f := 12) rfl ?_); refine goesL_ (some 15) rfl rfl Try.func12 (by kernel_rfl) rfl #[.agg #[.string a0_0, .string a0_1]] rfl (by (try simp only [List.map_toArray, List.map_cons, List.map_nil]); first | done | rfl | (simp only [List.length_drop, List.length_take]; rfl)) ?_; (with_reducible refine (laws_toEquation.calls a0_0 a0_1 t4003 t4004 _ A7.out).mono ?_); rintro e w62 ⟨rfl, hb⟩; refine ⟨_, rfl, ?_⟩; have n0_ := Aside0.mk (blk_below (g := gb4001) (o := .cells #[.string a0_0, .string a0_1] 30 (0, 0)) (by (with_reducible repeat (first | refine blk_drewN ?_ _ | refine blk_drew ?_ | refine blk_alloc ?_ _)); exact BK4001.out) hb); have n1_ := Aside0.mk (below_step (by repeat (first | (with_reducible first | exact HB.out | apply below_alloc | apply pw_below_drewN | apply below_drew1 | refine below_set ?_ GE4001.out) | exact HB.out)) hb); clear BK4001; clear HB; have BK4001 := n0_; have HB := n1_; clear n0_ n1_; (try clear hb); (try clear hb2); (try clear hk); (try clear hi)) | ((with_reducible refine gate_callee (f := 11) rfl ?_); refine goesL_ (some 16) rfl rfl Try.func11 (by kernel_rfl) rfl #[.agg #[.string t4003, .string t4004]] rfl (by (try simp only [List.map_toArray, List.map_cons, List.map_nil]); first | done | rfl | (simp only [List.length_drop, List.length_take]; rfl)) ?_; (with_reducible refine (spec_MovesOf.calls k t4003 t4004 t4005 _ A8.out).mono ?_); rintro e w63 ⟨v4006, rfl, ho0, hb⟩; refine ⟨_, rfl, ?_⟩; have n0_ := Aside0.mk (Kd.R_lower ho0 (below_size (by repeat (first | (with_reducible first | exact HB.out | apply below_alloc | apply pw_below_drewN | apply below_drew1 | refine below_set ?_ GE4001.out) | exact HB.out)))); have n1_ := Aside0.mk (blk_below (g := gb4001) (o := .cells #[.string a0_0, .string a0_1] 30 (0, 0)) (by (with_reducible repeat (first | refine blk_drewN ?_ _ | refine blk_drew ?_ | refine blk_alloc ?_ _)); exact BK4001.out) hb); have n2_ := Aside0.mk (below_step (by repeat (first | (with_reducible first | exact HB.out | apply below_alloc | apply pw_below_drewN | apply below_drew1 | refine below_set ?_ GE4001.out) | exact HB.out)) hb); clear BK4001; clear HB; have HO4007 := n0_; have BK4001 := n1_; have HB := n2_; clear n0_ n1_ n2_; (try clear hb); (try clear hb2); (try clear hk); (try clear hi); (try clear ho0); have hcz64_0 : w63.cell? ⟨gb4001, 0, none⟩ = some (.string a0_0) := (blk_cell BK4001.out 0).trans rfl; have hcz64_1 : w63.cell? ⟨gb4001, 1, none⟩ = some (.string a0_1) := (blk_cell BK4001.out 1).trans rfl; have hfz64_0 := blk_frozen BK4001.out 0; have hfz64_1 := blk_frozen BK4001.out 1) | ((with_reducible refine gate_callee (f := 12) rfl ?_); refine goesL_ (some 18) rfl rfl Try.func12 (by kernel_rfl) rfl #[.agg #[.string a0_0, .string a0_1]] rfl (by (try simp only [List.map_toArray, List.map_cons, List.map_nil]); first | done | rfl | (simp only [List.length_drop, List.length_take]; rfl)) ?_; (with_reducible refine (laws_toEquation.calls a0_0 a0_1 t4008 t4009 _ A9.out).mono ?_); rintro e w65 ⟨rfl, hb⟩; refine ⟨_, rfl, ?_⟩; have n0_ := Aside0.mk (Kd.R_below (by (with_reducible repeat (first | apply Kd.R_alloc | apply Kd.R_drewN | apply Kd.R_drew)); exact HO4007.out) hb); have n1_ := Aside0.mk (blk_below (g := gb4001) (o := .cells #[.string a0_0, .string a0_1] 30 (0, 0)) (by (with_reducible repeat (first | refine blk_drewN ?_ _ | refine blk_drew ?_ | refine blk_alloc ?_ _)); exact BK4001.out) hb); have n2_ := Aside0.mk (below_step (by repeat (first | (with_reducible first | exact HB.out | apply below_alloc | apply pw_below_drewN | apply below_drew1 | refine below_set ?_ GE4001.out) | exact HB.out)) hb); clear HO4007; clear BK4001; clear HB; have HO4007 := n0_; have BK4001 := n1_; have HB := n2_; clear n0_ n1_ n2_; (try clear hb); (try clear hb2); (try clear hk); (try clear hi)) | ((with_reducible refine gate_callee (f := 13) rfl ?_); refine goesL_ (some 19) rfl rfl Try.func13 (by kernel_rfl) rfl #[.agg #[.string t4008, .string t4009]] rfl (by (try simp only [List.map_toArray, List.map_cons, List.map_nil]); first | done | rfl | (simp only [List.length_drop, List.length_take]; rfl)) ?_; (with_reducible refine (impl_MovesOf.calls k t4008 t4009 t4010 _ A10.out).mono ?_); rintro e w66 ⟨v4011, rfl, ho0, hb⟩; refine ⟨_, rfl, ?_⟩; have n0_ := Aside0.mk (Kd.R_elder' (by (with_reducible repeat (first | apply Kd.R_alloc | apply Kd.R_drewN | apply Kd.R_drew)); exact HO4007.out) (Kd.R_base ho0) hb); have n1_ := Aside0.mk (Kd.R_lower (Kd.R_new' ho0 (Kd.R_lt (by (with_reducible repeat (first | apply Kd.R_alloc | apply Kd.R_drewN | apply Kd.R_drew)); exact HO4007.out))) (below_size (by repeat (first | (with_reducible first | exact HB.out | apply below_alloc | apply pw_below_drewN | apply below_drew1 | refine below_set ?_ GE4001.out) | exact HB.out)))); have n2_ := Aside0.mk (blk_below (g := gb4001) (o := .cells #[.string a0_0, .string a0_1] 30 (0, 0)) (by (with_reducible repeat (first | refine blk_drewN ?_ _ | refine blk_drew ?_ | refine blk_alloc ?_ _)); exact BK4001.out) hb); have n3_ := Aside0.mk (below_step (by repeat (first | (with_reducible first | exact HB.out | apply below_alloc | apply pw_below_drewN | apply below_drew1 | refine below_set ?_ GE4001.out) | exact HB.out)) hb); clear HO4007; clear BK4001; clear HB; have HO4007 := n0_; have HO4012 := n1_; have BK4001 := n2_; have HB := n3_; clear n0_ n1_ n2_ n3_; (try clear hb); (try clear hb2); (try clear hk); (try clear hi); (try clear ho0); obtain ⟨Ao67, co67, eo67⟩ := Kd.R_slice HO4012.out; subst eo67; obtain ⟨Ao68, co68, eo68⟩ := Kd.R_slice HO4007.out; subst eo68) | ((with_reducible refine gate_callee (f := 14) rfl ?_); refine goesL_ (some 22) rfl rfl Try.func14 (by kernel_rfl) rfl #[.slice Ao67 t4010.length co67, .slice Ao68 t4005.length co68] rfl (by (try simp only [List.map_toArray, List.map_cons, List.map_nil]); first | done | rfl | (simp only [List.length_drop, List.length_take]; rfl)) ?_; (with_reducible refine (laws_eqMoveS.calls k _ _ t4010 _ _ t4005 true _ ?side1 ?side2 ?side3 ?side4 A11.out).mono ?_); (case side1 => repeat (first | exact (Kd.R_reads' HO4012.out).2.2 | (with_reducible refine Kd.C_alloc ?_ _) | (with_reducible refine Kd.C_drewN ?_ _) | (with_reducible refine Kd.C_drew ?_))); (case side2 => exact (Kd.R_reads' HO4012.out).2.1); (case side3 => repeat (first | exact (Kd.R_reads' HO4007.out).2.2 | (with_reducible refine Kd.C_alloc ?_ _) | (with_reducible refine Kd.C_drewN ?_ _) | (with_reducible refine Kd.C_drew ?_))); (case side4 => exact (Kd.R_reads' HO4007.out).2.1); rintro e w69 ⟨rfl, hb⟩; refine ⟨_, rfl, ?_⟩; have n0_ := Aside0.mk (Kd.R_below (by (with_reducible repeat (first | apply Kd.R_alloc | apply Kd.R_drewN | apply Kd.R_drew)); exact HO4007.out) hb); have n1_ := Aside0.mk (Kd.R_below (by (with_reducible repeat (first | apply Kd.R_alloc | apply Kd.R_drewN | apply Kd.R_drew)); exact HO4012.out) hb); have n2_ := Aside0.mk (blk_below (g := gb4001) (o := .cells #[.string a0_0, .string a0_1] 30 (0, 0)) (by (with_reducible repeat (first | refine blk_drewN ?_ _ | refine blk_drew ?_ | refine blk_alloc ?_ _)); exact BK4001.out) hb); have n3_ := Aside0.mk (below_step (by repeat (first | (with_reducible first | exact HB.out | apply below_alloc | apply pw_below_drewN | apply below_drew1 | refine below_set ?_ GE4001.out) | exact HB.out)) hb); clear HO4007; clear HO4012; clear BK4001; clear HB; have HO4007 := n0_; have HO4012 := n1_; have BK4001 := n2_; have HB := n3_; clear n0_ n1_ n2_ n3_; (try clear hb); (try clear hb2); (try clear hk); (try clear hi)) | ((with_reducible refine gate_callee (f := 15) rfl ?_); refine goesL_ (some 26) rfl rfl Try.func15 (by kernel_rfl) rfl #[.slice Ao67 t4010.length co67, .int .i64 1] rfl (by (try simp only [List.map_toArray, List.map_cons, List.map_nil]); first | done | rfl | (simp only [List.length_drop, List.length_take]; rfl)) ?_; (with_reducible refine (laws_markMoveS.calls k (fun k_ => some k_ = (.slice Ao67 t4010.length co67 : Value).ownBlock) (.slice Ao67 t4010.length co67) t4010 1 t4014 t4015 w _ ?side1 ?side2 A13.out).mono ?_); (case side1 => repeat (first | (with_reducible first | exact HB.out | apply below_alloc | apply pw_below_drewN | apply below_drew1 | refine below_set ?_ GE4001.out) | exact HB.out)); (case side2 => exact Kd.R_tight rfl HO4012.out); rintro e w70 ⟨rfl, hy0, hb, hkp⟩; refine ⟨_, rfl, ?_⟩; have n0_ := Aside0.mk (blk_kept (by (with_reducible repeat (first | refine blk_drewN ?_ _ | refine blk_drew ?_ | refine blk_alloc ?_ _)); exact BK4001.out) hkp (fun hs_ => (fun e_ => (Kd.R_ne HO4012.out BK4001.out (by decide)) e_) hs_)); have n1_ := Aside0.mk (Kd.R_mono (ok' := fun k_ => some k_ ≠ (.slice Ao67 t4010.length co67 : Value).ownBlock) (Kd.R_keptB (HO4007.out) hkp (fun k_ hk_ hs_ => (hk_.2) hs_)) (fun k_ hk_ => hk_.1.2)); have n2_ := Aside0.mk (Kd.R_reok rfl hy0 (fun k_ e_ => HO4012.out.1 k_ e_)); have n3_ := Aside0.mk (hb); clear BK4001; clear HO4007; clear HO4012; clear HB; have BK4001 := n0_; have HO4007 := n1_; have HO4012 := n2_; have HB := n3_; clear n0_ n1_ n2_ n3_; (try clear hb); (try clear hkp); (try clear hy0)) | ((with_reducible refine gate_callee (f := 16) rfl ?_); refine goesL_ (some 29) rfl rfl Try.func16 (by kernel_rfl) rfl #[.slice Ao67 t4015.length co67, .int .i64 1] rfl (by (try simp only [List.map_toArray, List.map_cons, List.map_nil]); first | done | (rw [show t4015.length = t4010.length from (Kd.R_reads' HO4012.out).1.symm] <;> rfl) | rfl | (simp only [List.length_drop, List.length_take]; rfl)) ?_; (with_reducible refine (laws_heldMoveS.calls k _ _ t4015 1 t4016 _ ?side1 ?side2 A14.out).mono ?_); (case side1 => repeat (first | exact (Kd.R_reads' HO4012.out).2.2 | (with_reducible refine Kd.C_alloc ?_ _) | (with_reducible refine Kd.C_drewN ?_ _) | (with_reducible refine Kd.C_drew ?_))); (case side2 => rw [show t4015.length = t4010.length from (Kd.R_reads' HO4012.out).1.symm]; exact (Kd.R_reads' HO4012.out).2.1); rintro e w71 ⟨rfl, hb⟩; refine ⟨_, rfl, ?_⟩; have n0_ := Aside0.mk (Kd.R_below (by (with_reducible repeat (first | apply Kd.R_alloc | apply Kd.R_drewN | apply Kd.R_drew)); exact HO4007.out) hb); have n1_ := Aside0.mk (Kd.R_below (by (with_reducible repeat (first | apply Kd.R_alloc | apply Kd.R_drewN | apply Kd.R_drew)); exact HO4012.out) hb); have n2_ := Aside0.mk (blk_below (g := gb4001) (o := .cells #[.string a0_0, .string a0_1] 30 (0, 0)) (by (with_reducible repeat (first | refine blk_drewN ?_ _ | refine blk_drew ?_ | refine blk_alloc ?_ _)); exact BK4001.out) hb); have n3_ := Aside0.mk (below_step (by repeat (first | (with_reducible first | exact HB.out | apply below_alloc | apply pw_below_drewN | apply below_drew1 | refine below_set ?_ GE4001.out) | exact HB.out)) hb); clear HO4007; clear HO4012; clear BK4001; clear HB; have HO4007 := n0_; have HO4012 := n1_; have BK4001 := n2_; have HB := n3_; clear n0_ n1_ n2_ n3_; (try clear hb); (try clear hb2); (try clear hk); (try clear hi); have hcz72_0 : w71.cell? ⟨gb4001, 0, none⟩ = some (.string a0_0) := (blk_cell BK4001.out 0).trans rfl; have hcz72_1 : w71.cell? ⟨gb4001, 1, none⟩ = some (.string a0_1) := (blk_cell BK4001.out 1).trans rfl; have hfz72_0 := blk_frozen BK4001.out 0; have hfz72_1 := blk_frozen BK4001.out 1) | ((with_reducible refine gate_callee (f := 12) rfl ?_); refine goesL_ (some 36) rfl rfl Try.func12 (by kernel_rfl) rfl #[.agg #[.string a0_0, .string a0_1]] rfl (by (try simp only [List.map_toArray, List.map_cons, List.map_nil]); first | done | rfl | (simp only [List.length_drop, List.length_take]; rfl)) ?_; (with_reducible refine (laws_toEquation.calls a0_0 a0_1 t4017 t4018 _ A31.out).mono ?_); rintro e w73 ⟨rfl, hb⟩; refine ⟨_, rfl, ?_⟩; have n0_ := Aside0.mk (Kd.R_below (by (with_reducible repeat (first | apply Kd.R_alloc | apply Kd.R_drewN | apply Kd.R_drew)); exact HO4007.out) hb); have n1_ := Aside0.mk (Kd.R_below (by (with_reducible repeat (first | apply Kd.R_alloc | apply Kd.R_drewN | apply Kd.R_drew)); exact HO4012.out) hb); have n2_ := Aside0.mk (blk_below (g := gb4001) (o := .cells #[.string a0_0, .string a0_1] 30 (0, 0)) (by (with_reducible repeat (first | refine blk_drewN ?_ _ | refine blk_drew ?_ | refine blk_alloc ?_ _)); exact BK4001.out) hb); have n3_ := Aside0.mk (below_step (by repeat (first | (with_reducible first | exact HB.out | apply below_alloc | apply pw_below_drewN | apply below_drew1 | refine below_set ?_ GE4001.out) | exact HB.out)) hb); clear HO4007; clear HO4012; clear BK4001; clear HB; have HO4007 := n0_; have HO4012 := n1_; have BK4001 := n2_; have HB := n3_; clear n0_ n1_ n2_ n3_; (try clear hb); (try clear hb2); (try clear hk); (try clear hi)) | ((with_reducible refine gate_callee (f := 13) rfl ?_); refine goesL_ (some 37) rfl rfl Try.func13 (by kernel_rfl) rfl #[.agg #[.string t4017, .string t4018]] rfl (by (try simp only [List.map_toArray, List.map_cons, List.map_nil]); first | done | rfl | (simp only [List.length_drop, List.length_take]; rfl)) ?_; (with_reducible refine (impl_MovesOf.calls k t4017 t4018 t4019 _ A32.out).mono ?_); rintro e w74 ⟨v4020, rfl, ho0, hb⟩; refine ⟨_, rfl, ?_⟩; have n0_ := Aside0.mk (Kd.R_elder' (by (with_reducible repeat (first | apply Kd.R_alloc | apply Kd.R_drewN | apply Kd.R_drew)); exact HO4007.out) (Kd.R_base ho0) hb); have n1_ := Aside0.mk (Kd.R_elder' (by (with_reducible repeat (first | apply Kd.R_alloc | apply Kd.R_drewN | apply Kd.R_drew)); exact HO4012.out) (Kd.R_base ho0) hb); have n2_ := Aside0.mk (Kd.R_lower (Kd.R_new' (Kd.R_new' ho0 (Kd.R_lt (by (with_reducible repeat (first | apply Kd.R_alloc | apply Kd.R_drewN | apply Kd.R_drew)); exact HO4007.out))) (Kd.R_lt (by (with_reducible repeat (first | apply Kd.R_alloc | apply Kd.R_drewN | apply Kd.R_drew)); exact HO4012.out))) (below_size (by repeat (first | (with_reducible first | exact HB.out | apply below_alloc | apply pw_below_drewN | apply below_drew1 | refine below_set ?_ GE4001.out) | exact HB.out)))); have n3_ := Aside0.mk (blk_below (g := gb4001) (o := .cells #[.string a0_0, .string a0_1] 30 (0, 0)) (by (with_reducible repeat (first | refine blk_drewN ?_ _ | refine blk_drew ?_ | refine blk_alloc ?_ _)); exact BK4001.out) hb); have n4_ := Aside0.mk (below_step (by repeat (first | (with_reducible first | exact HB.out | apply below_alloc | apply pw_below_drewN | apply below_drew1 | refine below_set ?_ GE4001.out) | exact HB.out)) hb); clear HO4007; clear HO4012; clear BK4001; clear HB; have HO4007 := n0_; have HO4012 := n1_; have HO4021 := n2_; have BK4001 := n3_; have HB := n4_; clear n0_ n1_ n2_ n3_ n4_; (try clear hb); (try clear hb2); (try clear hk); (try clear hi); (try clear ho0); obtain ⟨Ao75, co75, eo75⟩ := Kd.R_slice HO4021.out; subst eo75) | ((with_reducible refine gate_callee (f := 14) rfl ?_); refine goesL_ (some 40) rfl rfl Try.func14 (by kernel_rfl) rfl #[.slice Ao75 t4019.length co75, .slice Ao68 t4005.length co68] rfl (by (try simp only [List.map_toArray, List.map_cons, List.map_nil]); first | done | rfl | (simp only [List.length_drop, List.length_take]; rfl)) ?_; (with_reducible refine (laws_eqMoveS.calls k _ _ t4019 _ _ t4005 true _ ?side1 ?side2 ?side3 ?side4 A33.out).mono ?_); (case side1 => repeat (first | exact (Kd.R_reads' HO4021.out).2.2 | (with_reducible refine Kd.C_alloc ?_ _) | (with_reducible refine Kd.C_drewN ?_ _) | (with_reducible refine Kd.C_drew ?_))); (case side2 => exact (Kd.R_reads' HO4021.out).2.1); (case side3 => repeat (first | exact (Kd.R_reads' HO4007.out).2.2 | (with_reducible refine Kd.C_alloc ?_ _) | (with_reducible refine Kd.C_drewN ?_ _) | (with_reducible refine Kd.C_drew ?_))); (case side4 => exact (Kd.R_reads' HO4007.out).2.1); rintro e w76 ⟨rfl, hb⟩; refine ⟨_, rfl, ?_⟩; have n0_ := Aside0.mk (Kd.R_below (by (with_reducible repeat (first | apply Kd.R_alloc | apply Kd.R_drewN | apply Kd.R_drew)); exact HO4007.out) hb); have n1_ := Aside0.mk (Kd.R_below (by (with_reducible repeat (first | apply Kd.R_alloc | apply Kd.R_drewN | apply Kd.R_drew)); exact HO4012.out) hb); have n2_ := Aside0.mk (Kd.R_below (by (with_reducible repeat (first | apply Kd.R_alloc | apply Kd.R_drewN | apply Kd.R_drew)); exact HO4021.out) hb); have n3_ := Aside0.mk (blk_below (g := gb4001) (o := .cells #[.string a0_0, .string a0_1] 30 (0, 0)) (by (with_reducible repeat (first | refine blk_drewN ?_ _ | refine blk_drew ?_ | refine blk_alloc ?_ _)); exact BK4001.out) hb); have n4_ := Aside0.mk (below_step (by repeat (first | (with_reducible first | exact HB.out | apply below_alloc | apply pw_below_drewN | apply below_drew1 | refine below_set ?_ GE4001.out) | exact HB.out)) hb); clear HO4007; clear HO4012; clear HO4021; clear BK4001; clear HB; have HO4007 := n0_; have HO4012 := n1_; have HO4021 := n2_; have BK4001 := n3_; have HB := n4_; clear n0_ n1_ n2_ n3_ n4_; (try clear hb); (try clear hb2); (try clear hk); (try clear hi)) | ((with_reducible refine gate_callee (f := 16) rfl ?_); refine goesL_ (some 44) rfl rfl Try.func16 (by kernel_rfl) rfl #[.slice Ao67 t4015.length co67, .int .i64 1] rfl (by (try simp only [List.map_toArray, List.map_cons, List.map_nil]); first | done | (rw [show t4015.length = t4010.length from (Kd.R_reads' HO4012.out).1.symm] <;> rfl) | rfl | (simp only [List.length_drop, List.length_take]; rfl)) ?_; (with_reducible refine (laws_heldMoveS.calls k _ _ t4015 1 t4023 _ ?side1 ?side2 A35.out).mono ?_); (case side1 => repeat (first | exact (Kd.R_reads' HO4012.out).2.2 | (with_reducible refine Kd.C_alloc ?_ _) | (with_reducible refine Kd.C_drewN ?_ _) | (with_reducible refine Kd.C_drew ?_))); (case side2 => rw [show t4015.length = t4010.length from (Kd.R_reads' HO4012.out).1.symm]; exact (Kd.R_reads' HO4012.out).2.1); rintro e w77 ⟨rfl, hb⟩; refine ⟨_, rfl, ?_⟩; have n0_ := Aside0.mk (Kd.R_below (by (with_reducible repeat (first | apply Kd.R_alloc | apply Kd.R_drewN | apply Kd.R_drew)); exact HO4007.out) hb); have n1_ := Aside0.mk (Kd.R_below (by (with_reducible repeat (first | apply Kd.R_alloc | apply Kd.R_drewN | apply Kd.R_drew)); exact HO4012.out) hb); have n2_ := Aside0.mk (Kd.R_below (by (with_reducible repeat (first | apply Kd.R_alloc | apply Kd.R_drewN | apply Kd.R_drew)); exact HO4021.out) hb); have n3_ := Aside0.mk (blk_below (g := gb4001) (o := .cells #[.string a0_0, .string a0_1] 30 (0, 0)) (by (with_reducible repeat (first | refine blk_drewN ?_ _ | refine blk_drew ?_ | refine blk_alloc ?_ _)); exact BK4001.out) hb); have n4_ := Aside0.mk (below_step (by repeat (first | (with_reducible first | exact HB.out | apply below_alloc | apply pw_below_drewN | apply below_drew1 | refine below_set ?_ GE4001.out) | exact HB.out)) hb); clear HO4007; clear HO4012; clear HO4021; clear BK4001; clear HB; have HO4007 := n0_; have HO4012 := n1_; have HO4021 := n2_; have BK4001 := n3_; have HB := n4_; clear n0_ n1_ n2_ n3_ n4_; (try clear hb); (try clear hb2); (try clear hk); (try clear hi)))
                go_ret
                exact ⟨by first | rfl | (simp [errW_none, errW_some] <;> rfl) | (simp [*, errW_none, errW_some] <;> rfl), by repeat (first | (with_reducible first | exact HB.out | apply below_alloc | apply pw_below_drewN | apply below_drew1 | refine below_set ?_ GE4001.out) | exact HB.out)⟩
              · rw [if_neg c57] at H
                have c57b0 : (t4023 == t4014) = false := beq_eq_false_iff_ne.mpr c57
                have c57b1 : (t4023 != t4014) = true := bne_iff_ne.mpr c57
                exact absurd ((Option.some.inj H).trans HRT_.out) (by decide)
          · replace c34 := Bool.eq_false_iff.mpr c34
            subst c34
            have H1 : (some false) = some r := by rw [if_neg (show ¬ (false = true) by decide)] at H; exact H
            clear H
            have H := H1
            clear H1
            exact absurd ((Option.some.inj H).trans HRT_.out) (by decide)
        · rw [if_neg c30] at H
          have c30b0 : (t4016 == t4014) = false := beq_eq_false_iff_ne.mpr c30
          have c30b1 : (t4016 != t4014) = true := bne_iff_ne.mpr c30
          exact absurd ((Option.some.inj H).trans HRT_.out) (by decide)
    · replace c12 := Bool.eq_false_iff.mpr c12
      subst c12
      have H1 : (some false) = some r := by rw [if_neg (show ¬ (false = true) by decide)] at H; exact H
      clear H
      have H := H1
      clear H1
      exact absurd ((Option.some.inj H).trans HRT_.out) (by decide)

end Go.Proofs.Ytgllnohlocfeoaa.A


namespace Go.Proofs.Ytgllnohlocfeoaa.Br
set_option linter.unusedVariables false
set_option linter.unusedSimpArgs false
open Go Go.Proofs.YtgllnohlocfeoaaW.PrintWords

/-- Whatever reads at type t, with at most n of fuel, is of kind d and well formed. -/
def BrN (P : Program) (n : Nat) (t : TypeId) {α : Type} (d : Kd α) (wf : α → Prop) : Prop :=
  ∀ (H : Type) (enc : TypeId × Value → H) (w : World) (base : Nat) (spare : Nat → Bool) (held : Bool) (m : Nat) (cs : List Value) (x : DataW H × List MemPlace),
    m ≤ n → DataW.trod enc P w base spare held m t cs = some x → ∃ a, d.K w a cs ∧ wf a
def Br (P : Program) (t : TypeId) {α : Type} (d : Kd α) (wf : α → Prop) : Prop := ∀ n, BrN P n t d wf

/-- The same of the fields of a struct, from offset o on. -/
def BF (P : Program) (n : Nat) (fs : List Field) (o : Nat) {α : Type} (d : Kd α) (wf : α → Prop) : Prop :=
  ∀ (H : Type) (enc : TypeId × Value → H) (w : World) (base : Nat) (spare : Nat → Bool) (held : Bool) (m : Nat) (cs : List Value) (xs : List (DataW H × List MemPlace)),
    m ≤ n → cs.length = d.sz → xs.length = fs.length →
    (∀ (i : Nat) (f : Field), fs[i]? = some f → DataW.trod enc P w base spare held m f.type ((cs.drop (f.offset - o)).take (P.cellsOf f.type)) = xs[i]?) → ∃ a, d.K w a cs ∧ wf a

theorem BrN.mono {P : Program} {n m : Nat} {t : TypeId} {α : Type} {d : Kd α} {wf : α → Prop} (h : BrN P n t d wf) (hm : m ≤ n) : BrN P m t d wf :=
  fun H enc w base spare held k cs x hk => h H enc w base spare held k cs x (Nat.le_trans hk hm)
theorem BrN.imp {P : Program} {n : Nat} {t : TypeId} {α : Type} {d : Kd α} {wf wf' : α → Prop} (h : BrN P n t d wf) (hi : ∀ a, wf a → wf' a) : BrN P n t d wf' :=
  fun H enc w base spare held k cs x hk hx => by
    obtain ⟨a, h1, h2⟩ := h H enc w base spare held k cs x hk hx
    exact ⟨a, h1, hi a h2⟩
theorem BrN.zero (P : Program) (t : TypeId) {α : Type} (d : Kd α) (wf : α → Prop) : BrN P 0 t d wf := by
  intro H enc w base spare held m cs x hm hx
  obtain rfl : m = 0 := by omega
  simp [DataW.trod] at hx

theorem br_string {P : Program} {t : TypeId} (ht : P.underlying t = some .string) (n : Nat) : BrN P n t Kd.string (fun s => s.size ≤ 9223372036854775807) := by
  intro H enc w base spare held m cs x _ hx
  obtain ⟨a, rfl, _, hw⟩ := DataW.trod_string ht hx
  exact ⟨a, rfl, by simpa [maxLen] using hw⟩

theorem bf_one {P : Program} {n o : Nat} {f : Field} {α : Type} {d : Kd α} {wf : α → Prop} (ho : f.offset = o) (hs : P.cellsOf f.type = d.sz) (h : BrN P n f.type d wf) : BF P n [f] o d wf := by
  intro H enc w base spare held m cs xs hm hl hx hf
  have g := hf 0 f rfl
  rw [ho, Nat.sub_self, List.drop_zero, hs, ← hl, List.take_length, List.getElem?_eq_getElem (by simp at hx; omega)] at g
  exact h H enc w base spare held m cs _ hm g
theorem bf_cons {P : Program} {n o : Nat} {f : Field} {fs : List Field} {α β : Type} {d : Kd α} {d' : Kd β} {wf : α → Prop} {wf' : β → Prop} (ho : f.offset = o) (hs : P.cellsOf f.type = d.sz) (h : BrN P n f.type d wf)
    (hfs : BF P n fs (o + d.sz) d' wf') (hle : ∀ g ∈ fs, o + d.sz ≤ g.offset) : BF P n (f :: fs) o (Kd.pair d d') (fun x => wf x.1 ∧ wf' x.2) := by
  intro H enc w base spare held m cs xs hm hl hx hf
  have hl' : cs.length = d.sz + d'.sz := hl
  have g := hf 0 f rfl
  rw [ho, Nat.sub_self, List.drop_zero, hs, List.getElem?_eq_getElem (by simp at hx; omega)] at g
  obtain ⟨a, ha, hwa⟩ := h H enc w base spare held m _ _ hm g
  cases xs with
  | nil => simp at hx
  | cons y ys =>
    obtain ⟨b, hb, hwb⟩ := hfs H enc w base spare held m (cs.drop d.sz) ys hm (by rw [List.length_drop]; omega) (by simpa using hx) (fun i q hq => by
      have g2 := hf (i + 1) q (by simpa using hq)
      have hm : q ∈ fs := List.mem_of_getElem? hq
      have := hle q hm
      rw [List.drop_drop, show d.sz + (q.offset - (o + d.sz)) = q.offset - o by omega]
      simpa using g2)
    exact ⟨(a, b), ⟨cs.take d.sz, cs.drop d.sz, (List.take_append_drop _ _).symm, ha, hb⟩, hwa, hwb⟩
theorem br_struct {P : Program} {t : TypeId} {fs : Array Field} {α : Type} {d : Kd α} {wf : α → Prop} {n : Nat} (ht : P.underlying t = some (.struct fs)) (hs : P.cellsOf t = d.sz) (h : BF P n fs.toList 0 d wf) : BrN P (n + 1) t d wf := by
  intro H enc w base spare held m cs x hm hx
  obtain ⟨xs, k, rfl, _, hl, hxs, hf⟩ := DataW.trod_struct ht hx
  exact h H enc w base spare held k cs xs (by omega) (by rw [hl, hs]) (by simpa using hxs) (fun i f hi => by simpa using hf i f (by simpa using hi))
theorem br_struct' {P : Program} {t : TypeId} {fs : Array Field} {α : Type} {d : Kd α} {wf : α → Prop} (ht : P.underlying t = some (.struct fs)) (hs : P.cellsOf t = d.sz) (h : ∀ n, BF P n fs.toList 0 d wf) (n : Nat) : BrN P n t d wf :=
  (br_struct ht hs (h n)).mono (Nat.le_succ n)
theorem arr_of {xs : Array Value} {l : List Value} (h : xs.toList = l) : xs = l.toArray := by rw [← h]

end Go.Proofs.Ytgllnohlocfeoaa.Br


namespace Go.Proofs.Ytgllnohlocfeoaa.Pure
open Go Go.RowKit Go.Proofs.Ytgllnohlocfeoaa.Br Go.Proofs.YtgllnohlocfeoaaW.PrintWords Go.Proofs.YtgllnohlocfeoaaW.PrintLast Go.Proofs.Ytgllnohlocfeoaa.A Go.Proofs.Ytgllnohlocfeoaa.Ext
set_option linter.unusedVariables false
def FnExactMovesOf.Pure : Prop := ∀ (a0_0 : ByteArray) (a0_1 : ByteArray), ((a0_0 : ByteArray).size ≤ 9223372036854775807) → ((a0_1 : ByteArray).size ≤ 9223372036854775807) → ∃ k, laws_FnExactMovesOf.f k a0_0 a0_1 = some true
end Go.Proofs.Ytgllnohlocfeoaa.Pure

namespace Go.Proofs.Ytgllnohlocfeoaa.Pl
set_option linter.unusedVariables false
set_option linter.unusedSimpArgs false
open Go.RowKit Go.Proofs.YtgllnohlocfeoaaW.PrintWords

/-- From some number of rounds on, it answers r. -/
def Evt {α : Type} (g : Nat → Option α) (r : α) : Prop := ∃ K, ∀ k, K ≤ k → g k = some r
section
variable {α β : Type}
theorem Evt.const {g : Option α} {r : α} (h : g = some r) : Evt (fun _ => g) r := ⟨0, fun _ _ => h⟩
theorem Evt.ret (r : α) : Evt (fun _ => some r) r := Evt.const rfl
theorem Evt.bind {g : Nat → Option α} {f : Nat → α → Option β} {a : α} {r : β} (hg : Evt g a) (hf : Evt (fun k => f k a) r) : Evt (fun k => (g k).bind (f k)) r := by
  obtain ⟨K, hK⟩ := hg
  obtain ⟨L, hL⟩ := hf
  exact ⟨max K L, fun k hk => by show (g k).bind (f k) = some r; rw [hK k (by omega)]; exact hL k (by omega)⟩
theorem Evt.bindc {g : Option α} {f : Nat → α → Option β} {a : α} {r : β} (hg : g = some a) (hf : Evt (fun k => f k a) r) : Evt (fun k => g.bind (f k)) r := Evt.bind (Evt.const hg) hf
theorem Evt.step {g : Nat → Option α} {r : α} (h : Evt (fun k => g (k + 1)) r) : Evt g r := by
  obtain ⟨K, hK⟩ := h
  exact ⟨K + 1, fun k hk => by
    obtain ⟨m, rfl⟩ : ∃ m, k = m + 1 := ⟨k - 1, by omega⟩
    exact hK m (by omega)⟩
theorem Evt.pos {c : Prop} [Decidable c] {t e : Nat → Option α} {r : α} (h : c) (ht : Evt t r) : Evt (fun k => if c then t k else e k) r := by
  obtain ⟨K, hK⟩ := ht
  exact ⟨K, fun k hk => (if_pos h).trans (hK k hk)⟩
theorem Evt.neg {c : Prop} [Decidable c] {t e : Nat → Option α} {r : α} (h : ¬ c) (ht : Evt e r) : Evt (fun k => if c then t k else e k) r := by
  obtain ⟨K, hK⟩ := ht
  exact ⟨K, fun k hk => (if_neg h).trans (hK k hk)⟩
theorem Evt.ite {c : Prop} [Decidable c] {t e : Nat → Option α} {x y : α} (ht : c → Evt t x) (he : ¬ c → Evt e y) : Evt (fun k => if c then t k else e k) (if c then x else y) := by
  by_cases h : c
  · rw [if_pos h]; exact Evt.pos h (ht h)
  · rw [if_neg h]; exact Evt.neg h (he h)
theorem Evt.get {g : Nat → Option α} {r : α} (h : Evt g r) : ∃ k, g k = some r := by
  obtain ⟨K, hK⟩ := h
  exact ⟨K, hK K (Nat.le_refl _)⟩
theorem Evt.of_eq {g g' : Nat → Option α} {r : α} (h : ∀ k, g k = g' k) (h' : Evt g' r) : Evt g r := by
  obtain ⟨K, hK⟩ := h'
  exact ⟨K, fun k hk => by rw [h]; exact hK k hk⟩
theorem Evt.cast {g : Nat → Option α} {r r' : α} (h : Evt g r) (e : r = r') : Evt g r' := e ▸ h
/-- A loop that counts up from 0 to n: what it answers at i is R i. -/
theorem Evt.up (l : Nat → Int → Option α) (n : Nat) (R : Nat → α) (hend : Evt (fun k => l k (n : Int)) (R n))
    (hstep : ∀ i : Nat, i < n → Evt (fun k => l k ((i + 1 : Nat) : Int)) (R (i + 1)) → Evt (fun k => l k (i : Int)) (R i)) : Evt (fun k => l k 0) (R 0) := by
  have h : ∀ d i : Nat, i + d = n → Evt (fun k => l k (i : Int)) (R i) := by
    intro d
    induction d with
    | zero => intro i hi; obtain rfl : i = n := by omega
              exact hend
    | succ d ih => intro i hi; exact hstep i (by omega) (ih (i + 1) (by omega))
  exact h n 0 (by omega)
end

theorem w64 {x : Int} (h : -9223372036854775808 ≤ x) (h' : x ≤ 9223372036854775807) : wrap64 x = x := by unfold wrap64; omega
/-- The counter's next value. -/
theorem w64s {i : Nat} (h : i < 9223372036854775807) : wrap64 ((i : Int) + 1) = ((i + 1 : Nat) : Int) := by
  rw [w64 (by omega) (by omega)]; omega

theorem bt0 (s : ByteArray) (i : Int) : 0 ≤ bt s i := (bt_range s i).1
theorem bt255 (s : ByteArray) (i : Int) : bt s i ≤ 255 := (bt_range s i).2
theorem bt_get (s : ByteArray) (i : Nat) (h : i < (bytesOf s).length) : bt s (i : Int) = (bytesOf s)[i] := by
  rw [← rd_bytesOf]
  simp [rd, h]
theorem bytesOf_inj {s t : ByteArray} (h : bytesOf s = bytesOf t) : s = t := by
  have h1 : s.data.toList = t.data.toList := by
    refine List.map_inj_right (f := fun b : UInt8 => (b.toNat : Int)) (fun x y hxy => ?_) |>.1 h
    exact UInt8.toNat_inj.1 (Int.ofNat_inj.1 hxy)
  cases s; cases t
  simp only [ByteArray.mk.injEq]
  exact Array.toList_inj.1 h1
theorem toList_eq_iff (s t : ByteArray) : s.toList = t.toList ↔ s = t := by
  rw [Lib.toList_data, Lib.toList_data]
  constructor
  · intro h
    cases s; cases t
    simp only [ByteArray.mk.injEq]
    exact Array.toList_inj.1 h
  · rintro rfl; rfl
theorem toList_nil_iff (s : ByteArray) : s.toList = ([] : List UInt8) ↔ s.size = 0 := by
  rw [Lib.toList_data, ← data_length, List.length_eq_zero_iff]
theorem mem_bytes (s : ByteArray) {c : Int} (h : c ∈ bytesOf s) : 0 ≤ c ∧ c ≤ 255 := by
  unfold bytesOf at h
  obtain ⟨b, _, rfl⟩ := List.mem_map.1 h
  have := b.toNat_lt
  omega
theorem bytesOf_append (s t : ByteArray) : bytesOf (s ++ t) = bytesOf s ++ bytesOf t := by
  simp [bytesOf, ByteArray.data_append]
theorem bytesOf_extract (s : ByteArray) (a b : Nat) : bytesOf (s.extract a b) = ((bytesOf s).drop a).take (b - a) := by
  have h := Lib.extract_toList s a b
  rw [Lib.toList_data] at h
  unfold bytesOf
  rw [h, List.map_take, List.map_drop]
theorem bytesOf_tail (s : ByteArray) (a : Nat) : bytesOf (s.extract a s.size) = (bytesOf s).drop a := by
  rw [bytesOf_extract, List.take_of_length_le]
  rw [List.length_drop, bytesOf_length]
  exact Nat.le_refl _

/-- A letter's number. -/
def ltI (c : Int) : Int := if 97 = c then 0 else if 98 = c then 1 else if 99 = c then 2 else -1
def varI (c : Int) : Int := if 88 = c then 0 else if 89 = c then 1 else if 90 = c then 2 else -1
def isVr (c : Int) : Bool := decide (88 ≤ c ∧ c ≤ 90)
theorem ix_abc : ∀ n : Nat, n < 256 → Lib.indexByte [97, 98, 99] n.toUInt8 = ltI (n : Int) := by decide +kernel
theorem ix_XYZ : ∀ n : Nat, n < 256 → Lib.indexByte [88, 89, 90] n.toUInt8 = varI (n : Int) := by decide +kernel
theorem varI_isVar (c : Int) : decide (varI c ≥ 0) = isVr c := by
  unfold varI isVr
  split
  · subst_vars; rfl
  · split
    · subst_vars; rfl
    · split
      · subst_vars; rfl
      · simp; omega
theorem ltI_nonneg (c : Int) : 0 ≤ ltI c ↔ (97 ≤ c ∧ c ≤ 99) := by
  unfold ltI
  split
  · subst_vars; simp
  · split
    · subst_vars; simp
    · split
      · subst_vars; simp
      · simp; omega
theorem ltI_le (c : Int) : ltI c ≤ 2 := by
  unfold ltI
  repeat' split
  all_goals omega
theorem ltI_ge (c : Int) : -1 ≤ ltI c := by
  unfold ltI
  repeat' split
  all_goals omega
theorem bt_abc0 : bt (⟨#[97, 98, 99]⟩ : ByteArray) 0 = 97 := by decide
theorem bt_abc1 : bt (⟨#[97, 98, 99]⟩ : ByteArray) 1 = 98 := by decide
theorem bt_abc2 : bt (⟨#[97, 98, 99]⟩ : ByteArray) 2 = 99 := by decide
theorem bt_XYZ0 : bt (⟨#[88, 89, 90]⟩ : ByteArray) 0 = 88 := by decide
theorem bt_XYZ1 : bt (⟨#[88, 89, 90]⟩ : ByteArray) 1 = 89 := by decide
theorem bt_XYZ2 : bt (⟨#[88, 89, 90]⟩ : ByteArray) 2 = 90 := by decide
theorem w64_a : wrap64 1 = 1 := by unfold wrap64; omega
theorem w64_b : wrap64 2 = 2 := by unfold wrap64; omega
theorem w64_c : wrap64 3 = 3 := by unfold wrap64; omega
theorem w64_1 : wrap64 (0 + 1) = 1 := by unfold wrap64; omega
theorem w64_2 : wrap64 (1 + 1) = 2 := by unfold wrap64; omega
theorem w64_3 : wrap64 (2 + 1) = 3 := by unfold wrap64; omega

theorem indexByte_nonneg (l : List UInt8) (c : UInt8) : 0 ≤ Lib.indexByte l c ↔ c ∈ l := by
  induction l with
  | nil => simp [Lib.indexByte]
  | cons b l ih =>
    unfold Lib.indexByte
    by_cases h : b = c
    · subst h; simp
    · have hb : (b == c) = false := by simpa using h
      rw [hb]
      have hge := Lib.indexByte_ge l c
      by_cases h2 : Lib.indexByte l c = -1
      · simp only [h2]
        simp
        refine ⟨fun e => h e.symm, fun hm => ?_⟩
        have := ih.2 hm
        omega
      · have h3 : (Lib.indexByte l c == -1) = false := by simpa using h2
        rw [h3]
        simp
        constructor
        · intro _; exact .inr (ih.1 (by omega))
        · rintro (e | hm)
          · exact absurd e.symm h
          · have := ih.2 hm; omega
theorem mem_data (s : ByteArray) (n : Nat) (hn : n < 256) : n.toUInt8 ∈ s.data.toList ↔ (n : Int) ∈ bytesOf s := by
  unfold bytesOf
  rw [List.mem_map]
  constructor
  · intro h
    exact ⟨_, h, by simp [Nat.mod_eq_of_lt hn]⟩
  · rintro ⟨b, hb, e⟩
    have e2 : b.toNat = n := by omega
    subst e2
    simpa using hb
theorem w64_sub {a : Int} {n : Nat} (ha : -1 ≤ a) (ha' : a ≤ 1048576) (hn : n ≤ 9223372036854775807) : wrap64 (a - (n : Int)) = a - (n : Int) := w64 (by omega) (by omega)
end Go.Proofs.Ytgllnohlocfeoaa.Pl

namespace Go.Proofs.Ytgllnohlocfeoaa.F
set_option linter.unusedVariables false
set_option linter.unusedSimpArgs false
open Go.RowKit Go.Proofs.YtgllnohlocfeoaaW.PrintWords Go.Proofs.Ytgllnohlocfeoaa.Pl Go.Proofs.Ytgllnohlocfeoaa.A Go.Proofs.Ytgllnohlocfeoaa.Ext

theorem spec_LetterIndex_ev (c : Int) : Evt (fun k => spec_LetterIndex.f k c) (ltI c) := by
  refine ⟨4, fun k hk => ?_⟩
  obtain ⟨m, rfl⟩ : ∃ m, k = m + 4 := ⟨k - 4, by omega⟩
  unfold ltI
  by_cases h0 : (97 : Int) = c
  · simp [spec_LetterIndex.f, spec_LetterIndex.l0, w64_a, w64_b, w64_c, bt_abc0, bt_abc1, bt_abc2, h0]
  · by_cases h1 : (98 : Int) = c
    · simp [spec_LetterIndex.f, spec_LetterIndex.l0, w64_a, w64_b, w64_c, bt_abc0, bt_abc1, bt_abc2, h0, h1]
    · by_cases h2 : (99 : Int) = c
      · simp [spec_LetterIndex.f, spec_LetterIndex.l0, w64_a, w64_b, w64_c, bt_abc0, bt_abc1, bt_abc2, h0, h1, h2]
      · simp [spec_LetterIndex.f, spec_LetterIndex.l0, w64_a, w64_b, w64_c, bt_abc0, bt_abc1, bt_abc2, h0, h1, h2]
theorem impl_LetterIndex_eq {c : Int} (h0 : 0 ≤ c) (h1 : c ≤ 255) : impl_LetterIndex.f c = some (ltI c) := by
  obtain ⟨n, rfl⟩ := Int.eq_ofNat_of_zero_le h0
  simp only [impl_LetterIndex.f, strings_IndexByte.f, Option.bind_some]
  rw [Int.toNat_natCast]
  exact congrArg some (ix_abc n (by omega))


end Go.Proofs.Ytgllnohlocfeoaa.F


namespace Go.Proofs.Ytgllnohlocfeoaa.F
set_option linter.unusedVariables false
set_option linter.unusedSimpArgs false
open Go.RowKit Go.Proofs.YtgllnohlocfeoaaW.PrintWords Go.Proofs.Ytgllnohlocfeoaa.Pl Go.Proofs.Ytgllnohlocfeoaa.A Go.Proofs.Ytgllnohlocfeoaa.Ext

theorem impl_isVariable_eq {c : Int} (h0 : 0 ≤ c) (h1 : c ≤ 255) : impl_isVariable.f c = some (isVr c) := by
  obtain ⟨n, rfl⟩ := Int.eq_ofNat_of_zero_le h0
  simp only [impl_isVariable.f, strings_IndexByte.f, Option.bind_some]
  rw [Int.toNat_natCast, ← varI_isVar, ← ix_XYZ n (by omega)]
theorem spec_l8Var_eq (c : Int) : spec_l8Var.f c = some (isVr c) := by
  unfold spec_l8Var.f isVr
  by_cases h : c ≥ 88
  · rw [if_pos h]; simp [show 88 ≤ c from h]
  · rw [if_neg h]; simp [show ¬ 88 ≤ c from h]


end Go.Proofs.Ytgllnohlocfeoaa.F


namespace Go.Proofs.Ytgllnohlocfeoaa.F
set_option linter.unusedVariables false
set_option linter.unusedSimpArgs false
open Go.RowKit Go.Proofs.YtgllnohlocfeoaaW.PrintWords Go.Proofs.Ytgllnohlocfeoaa.Pl Go.Proofs.Ytgllnohlocfeoaa.A Go.Proofs.Ytgllnohlocfeoaa.Ext

/-- How many first bytes are equal. -/
def cp : List Int → List Int → Nat
  | x :: xs, y :: ys => if x = y then cp xs ys + 1 else 0
  | _, _ => 0
theorem cp_nil_r (xs : List Int) : cp xs [] = 0 := by cases xs <;> rfl
theorem cp_nil_l (xs : List Int) : cp [] xs = 0 := by cases xs <;> rfl
def stripB (a b : ByteArray) : ByteArray × ByteArray := (a.extract (cp (bytesOf a) (bytesOf b)) a.size, b.extract (cp (bytesOf a) (bytesOf b)) b.size)
theorem spec_StripEquation_ev (a b : ByteArray) (ha : a.size ≤ 9223372036854775807) (hb : b.size ≤ 9223372036854775807) : Evt (fun k => spec_StripEquation.f k a b) (stripB a b) := by
  have h : ∀ d i : Nat, i + d = a.size → i ≤ b.size → Evt (fun k => spec_StripEquation.l0 k (i : Int) a b) (a.extract (i + cp ((bytesOf a).drop i) ((bytesOf b).drop i)) a.size, b.extract (i + cp ((bytesOf a).drop i) ((bytesOf b).drop i)) b.size) := by
    intro d
    induction d with
    | zero =>
      intro i hi hb2
      refine Evt.step ?_
      simp only [spec_StripEquation.l0]
      refine Evt.neg (by omega) (Evt.pos (by omega) (Evt.pos (by omega) (Evt.pos (by omega) (Evt.const ?_))))
      rw [List.drop_of_length_le (l := bytesOf a) (by rw [bytesOf_length]; omega), cp_nil_l]
      simp
    | succ d ih =>
      intro i hi hb2
      have hl : i < (bytesOf a).length := by rw [bytesOf_length]; omega
      refine Evt.step ?_
      simp only [spec_StripEquation.l0]
      refine Evt.pos (by omega) ?_
      by_cases h2 : i < b.size
      · have hl2 : i < (bytesOf b).length := by rw [bytesOf_length]; omega
        refine Evt.pos (by omega) (Evt.pos (by omega) ?_)
        rw [List.drop_eq_getElem_cons hl, List.drop_eq_getElem_cons hl2, ← bt_get a i hl, ← bt_get b i hl2, w64s (by omega)]
        by_cases hc : bt a i = bt b i
        · refine Evt.pos hc ((ih (i + 1) (by omega) (by omega)).cast ?_)
          simp only [cp, hc, if_true]
          rw [show i + 1 + cp ((bytesOf a).drop (i + 1)) ((bytesOf b).drop (i + 1)) = i + (cp ((bytesOf a).drop (i + 1)) ((bytesOf b).drop (i + 1)) + 1) by omega]
        · refine Evt.neg hc (Evt.pos (by omega) (Evt.pos (by omega) (Evt.const ?_)))
          simp [cp, hc]
      · refine Evt.neg (by omega) (Evt.pos (by omega) (Evt.pos (by omega) (Evt.pos (by omega) (Evt.const ?_))))
        rw [List.drop_of_length_le (l := bytesOf b) (by rw [bytesOf_length]; omega), cp_nil_r]
        simp
  have := h a.size 0 (by omega) (by omega)
  simpa [spec_StripEquation.f, stripB] using this
theorem extract_all (a : ByteArray) : a.extract 0 a.size = a := bytesOf_inj (by rw [bytesOf_tail]; rfl)
theorem extract_one (a : ByteArray) (n : Nat) : (a.extract 1 a.size).extract n (a.extract 1 a.size).size = a.extract (n + 1) a.size :=
  bytesOf_inj (by rw [bytesOf_tail, bytesOf_tail, bytesOf_tail, List.drop_drop, Nat.add_comm])
theorem impl_StripEquation_ev (a b : ByteArray) : Evt (fun k => impl_StripEquation.f k a b) (stripB a b) := by
  have h : ∀ (n : Nat) (a b : ByteArray), a.size = n → Evt (fun k => impl_StripEquation.l0 k a b) (stripB a b) := by
    intro n
    induction n with
    | zero =>
      intro a b hn
      refine Evt.step ?_
      simp only [impl_StripEquation.l0]
      refine Evt.pos ((toList_nil_iff a).2 hn) (Evt.const ?_)
      have e : bytesOf a = [] := List.length_eq_zero_iff.1 (by rw [bytesOf_length]; exact hn)
      simp only [stripB, e, cp_nil_l, extract_all]
    | succ n ih =>
      intro a b hn
      refine Evt.step ?_
      simp only [impl_StripEquation.l0]
      refine Evt.neg (fun h => by rw [toList_nil_iff] at h; omega) ?_
      by_cases hb : b.size = 0
      · refine Evt.pos ((toList_nil_iff b).2 hb) (Evt.const ?_)
        have e : bytesOf b = [] := List.length_eq_zero_iff.1 (by rw [bytesOf_length]; exact hb)
        simp only [stripB, e, cp_nil_r, extract_all]
      · refine Evt.neg (fun h => hb ((toList_nil_iff b).1 h)) (Evt.pos (by omega) (Evt.pos (by omega) ?_))
        have hl : 0 < (bytesOf a).length := by rw [bytesOf_length]; omega
        have hl2 : 0 < (bytesOf b).length := by rw [bytesOf_length]; omega
        have ea : bytesOf a = bt a 0 :: (bytesOf a).drop 1 := by
          have := List.drop_eq_getElem_cons hl
          rw [List.drop_zero, ← bt_get a 0 hl] at this
          exact this
        have eb : bytesOf b = bt b 0 :: (bytesOf b).drop 1 := by
          have := List.drop_eq_getElem_cons hl2
          rw [List.drop_zero, ← bt_get b 0 hl2] at this
          exact this
        by_cases hc : bt a 0 = bt b 0
        · refine Evt.pos hc (Evt.pos (by omega) (Evt.pos (by omega) ((ih _ _ ?_).cast ?_)))
          · rw [← bytesOf_length, bytesOf_tail, List.length_drop, bytesOf_length]; omega
          · have e1 : cp (bytesOf a) (bytesOf b) = cp ((bytesOf a).drop 1) ((bytesOf b).drop 1) + 1 := by
              rw [ea, eb]
              simp [cp, hc]
            simp only [stripB, extract_one, bytesOf_tail, e1]
        · refine Evt.neg hc (Evt.const ?_)
          have e1 : cp (bytesOf a) (bytesOf b) = 0 := by
            rw [ea, eb]
            simp [cp, hc]
          simp only [stripB, e1, extract_all]
  exact h a.size a b rfl

theorem size_append' (a b : ByteArray) : (a ++ b).size = a.size + b.size := ByteArray.size_append
theorem stripB_size (a b : ByteArray) : (stripB a b).1.size ≤ a.size ∧ (stripB a b).2.size ≤ b.size := by
  unfold stripB
  constructor
  · rw [← bytesOf_length, bytesOf_tail, List.length_drop, bytesOf_length]; omega
  · rw [← bytesOf_length, bytesOf_tail, List.length_drop, bytesOf_length]; omega
theorem spec_l12Hard_ev (s : ByteArray) (hs : s.size ≤ 9223372036854775807) : Evt (fun k => spec_l12Hard.f k s) (!(bytesOf s).all isVr) := by
  have h := Evt.up (fun k i => spec_l12Hard.l0 k s i) s.size (fun i => !((bytesOf s).drop i).all isVr) ?_ ?_
  · simpa [spec_l12Hard.f] using h
  · refine Evt.step ?_
    simp only [spec_l12Hard.l0]
    rw [List.drop_of_length_le (by rw [bytesOf_length]; omega)]
    exact Evt.neg (by omega) (Evt.const rfl)
  · intro i hi h
    refine Evt.step ?_
    simp only [spec_l12Hard.l0]
    refine Evt.pos (by omega) (Evt.pos (by omega) (Evt.bindc (spec_l8Var_eq _) ?_))
    have hl : i < (bytesOf s).length := by rw [bytesOf_length]; exact hi
    rw [List.drop_eq_getElem_cons hl, ← bt_get s i hl, w64s (by omega)]
    by_cases hv : isVr (bt s i) = true
    · exact Evt.pos hv (h.cast (by simp [hv]))
    · exact Evt.neg hv (Evt.const (by simp [hv]))
theorem impl_onlyVariables_ev (s : ByteArray) (hs : s.size ≤ 9223372036854775807) : Evt (fun k => impl_onlyVariables.f k s) ((bytesOf s).all isVr) := by
  have h := Evt.up (fun k i => impl_onlyVariables.l0 k s i) s.size (fun i => ((bytesOf s).drop i).all isVr) ?_ ?_
  · simpa [impl_onlyVariables.f] using h
  · refine Evt.step ?_
    simp only [impl_onlyVariables.l0]
    rw [List.drop_of_length_le (by rw [bytesOf_length]; omega)]
    exact Evt.neg (by omega) (Evt.const rfl)
  · intro i hi h
    refine Evt.step ?_
    simp only [impl_onlyVariables.l0]
    refine Evt.pos (by omega) (Evt.pos (by omega) (Evt.bindc (impl_isVariable_eq (bt0 _ _) (bt255 _ _)) ?_))
    have hl : i < (bytesOf s).length := by rw [bytesOf_length]; exact hi
    rw [List.drop_eq_getElem_cons hl, ← bt_get s i hl, w64s (by omega)]
    by_cases hv : isVr (bt s i) = true
    · exact Evt.pos hv (h.cast (by simp [hv]))
    · exact Evt.neg hv (Evt.const (by simp [hv]))
/-- A clash of two sides that are stripped. -/
def clashS (a b : ByteArray) : Bool := if a.size = 0 ∨ b.size = 0 then !(bytesOf (a ++ b)).all isVr else !isVr (bt a 0) && !isVr (bt b 0)
def clashB (a b : ByteArray) : Bool := clashS (stripB a b).1 (stripB a b).2
theorem spec_IsClash_ev (a b : ByteArray) (h : a.size + b.size ≤ 9223372036854775807) : Evt (fun k => spec_IsClash.f k a b) (clashB a b) := by
  unfold clashB
  simp only [spec_IsClash.f]
  refine Evt.bind (spec_StripEquation_ev a b (by omega) (by omega)) ?_
  have hs := stripB_size a b
  generalize stripB a b = p at hs ⊢
  obtain ⟨x, y⟩ := p
  simp only at hs ⊢
  have hj : ∀ e : Bool, e = decide (x.size = 0 ∨ y.size = 0) → Evt (fun k => spec_IsClash.j0 k e x y) (clashS x y) := by
    intro e he
    refine Evt.step ?_
    simp only [spec_IsClash.j0]
    unfold clashS
    by_cases hc : x.size = 0 ∨ y.size = 0
    · rw [if_pos hc]
      refine Evt.pos (by rw [he]; exact decide_eq_true hc) (Evt.pos (by omega) (Evt.bind (spec_l12Hard_ev _ (by rw [size_append']; omega)) (Evt.const rfl)))
    · rw [if_neg hc]
      refine Evt.neg (by rw [he, decide_eq_false hc]; decide) (Evt.pos (by omega) (Evt.bindc (spec_l8Var_eq _) ?_))
      by_cases hv : isVr (bt x 0) = true
      · exact Evt.pos hv (Evt.const (by simp [hv]))
      · exact Evt.neg hv (Evt.pos (by omega) (Evt.bindc (spec_l8Var_eq _) (Evt.const (by simp [hv]))))
  by_cases h0 : x.size = 0
  · exact Evt.pos ((toList_nil_iff x).2 h0) (hj _ (by simp [h0]))
  · refine Evt.neg (fun e => h0 ((toList_nil_iff x).1 e)) (hj _ ?_)
    rw [Bool.eq_iff_iff]
    simp [h0, toList_nil_iff]
theorem impl_IsClash_ev (a b : ByteArray) (h : a.size + b.size ≤ 9223372036854775807) : Evt (fun k => impl_IsClash.f k a b) (clashB a b) := by
  unfold clashB
  simp only [impl_IsClash.f]
  refine Evt.bind (impl_StripEquation_ev a b) ?_
  have hs := stripB_size a b
  generalize stripB a b = p at hs ⊢
  obtain ⟨x, y⟩ := p
  simp only at hs ⊢
  have hj : ∀ e : Bool, e = decide (x.size = 0 ∨ y.size = 0) → Evt (fun k => impl_IsClash.j0 k e x y) (clashS x y) := by
    intro e he
    refine Evt.step ?_
    simp only [impl_IsClash.j0]
    unfold clashS
    by_cases hc : x.size = 0 ∨ y.size = 0
    · rw [if_pos hc]
      refine Evt.pos (by rw [he]; exact decide_eq_true hc) (Evt.pos (by omega) (Evt.bind (impl_onlyVariables_ev _ (by rw [size_append']; omega)) (Evt.const rfl)))
    · rw [if_neg hc]
      refine Evt.neg (by rw [he, decide_eq_false hc]; decide) (Evt.pos (by omega) (Evt.bindc (impl_isVariable_eq (bt0 _ _) (bt255 _ _)) ?_))
      by_cases hv : isVr (bt x 0) = true
      · exact Evt.pos hv (Evt.const (by simp [hv]))
      · exact Evt.neg hv (Evt.pos (by omega) (Evt.bindc (impl_isVariable_eq (bt0 _ _) (bt255 _ _)) (Evt.const (by simp [hv]))))
  by_cases h0 : x.size = 0
  · exact Evt.pos ((toList_nil_iff x).2 h0) (hj _ (by simp [h0]))
  · refine Evt.neg (fun e => h0 ((toList_nil_iff x).1 e)) (hj _ ?_)
    rw [Bool.eq_iff_iff]
    simp [h0, toList_nil_iff]

end Go.Proofs.Ytgllnohlocfeoaa.F


namespace Go.Proofs.Ytgllnohlocfeoaa.F
set_option linter.unusedVariables false
set_option linter.unusedSimpArgs false
open Go Go.RowKit Go.Proofs.YtgllnohlocfeoaaW.PrintWords Go.Proofs.Ytgllnohlocfeoaa.Pl Go.Proofs.Ytgllnohlocfeoaa.A Go.Proofs.Ytgllnohlocfeoaa.Ext

/-- The moves that put x's word first. -/
def pairM (x y : Int) : List S58 := if isVr x = true then ⟨x, (⟨#[]⟩ : ByteArray)⟩ :: (if (isVr y || decide (0 ≤ ltI y)) = true then [⟨x, strOfNums [y, x]⟩] else []) else []
theorem pairM_len (x y : Int) : (pairM x y).length ≤ 2 := by
  unfold pairM
  repeat' split
  all_goals simp
theorem spec_l12First_ev (x y : Int) : Evt (fun k => spec_l12First.f k x y) (pairM x y) := by
  simp only [spec_l12First.f]
  unfold pairM
  refine Evt.bindc rfl (Evt.bindc (spec_l8Var_eq _) ?_)
  by_cases hx : isVr x = true
  · rw [if_pos hx]
    refine Evt.pos hx (Evt.pos (by simp) (Evt.bindc rfl (Evt.bindc (spec_l8Var_eq _) ?_)))
    by_cases hy : isVr y = true
    · exact Evt.pos hy (Evt.pos (by simp) ((Evt.ret _).cast (by simp [hy])))
    · refine Evt.neg hy (Evt.bind (spec_LetterIndex_ev _) ?_)
      by_cases hl : ltI y ≥ 0
      · exact Evt.pos hl (Evt.pos (by simp) ((Evt.ret _).cast (by simp [show 0 ≤ ltI y from hl])))
      · exact Evt.neg hl ((Evt.ret _).cast (by simp [hy, show ¬ 0 ≤ ltI y from hl]))
  · rw [if_neg hx]
    exact Evt.neg hx (Evt.ret _)
/-- The moves of an equation whose sides begin differently. -/
def movesS (a b : ByteArray) : List S58 :=
  if (a.size = 0 ∧ b.size = 0) ∨ clashB a b = true then [] else if a.size = 0 then [⟨bt b 0, (⟨#[]⟩ : ByteArray)⟩] else if b.size = 0 then [⟨bt a 0, (⟨#[]⟩ : ByteArray)⟩] else pairM (bt a 0) (bt b 0) ++ pairM (bt b 0) (bt a 0)
def movesB (a b : ByteArray) : List S58 := movesS (stripB a b).1 (stripB a b).2
theorem movesB_len (a b : ByteArray) : (movesB a b).length ≤ 4 := by
  unfold movesB movesS
  have h1 := pairM_len (bt (stripB a b).1 0) (bt (stripB a b).2 0)
  have h2 := pairM_len (bt (stripB a b).2 0) (bt (stripB a b).1 0)
  repeat' split
  all_goals simp
  omega
theorem nil_iff (a : ByteArray) : a.toList = ([] : List UInt8) ↔ a.size = 0 := toList_nil_iff a
theorem spec_MovesOf_ev (a b : ByteArray) (h : a.size + b.size ≤ 9223372036854775807) : Evt (fun k => spec_MovesOf.f k a b) (movesB a b) := by
  simp only [spec_MovesOf.f]
  refine Evt.bind (spec_StripEquation_ev a b (by omega) (by omega)) ?_
  have hsz := stripB_size a b
  unfold movesB
  generalize hp : (stripB a b).1 = p at hsz ⊢
  generalize hq : (stripB a b).2 = q at hsz ⊢
  have hc := spec_IsClash_ev p q (by omega)
  have hj : ∀ x : Bool, (x = true ↔ ((p.size = 0 ∧ q.size = 0) ∨ clashB p q = true)) → Evt (fun k => spec_MovesOf.j0 k x p q) (movesS p q) := by
    intro x hx
    refine Evt.step ?_
    simp only [spec_MovesOf.j0]
    unfold movesS
    by_cases h0 : (p.size = 0 ∧ q.size = 0) ∨ clashB p q = true
    · rw [if_pos h0]
      exact Evt.pos (hx.2 h0) (Evt.ret _)
    · rw [if_neg h0]
      refine Evt.neg (fun h => h0 (hx.1 h)) ?_
      have hpq : ¬ (p.size = 0 ∧ q.size = 0) := fun h => h0 (.inl h)
      by_cases h1 : p.size = 0
      · rw [if_pos h1]
        exact Evt.pos ((nil_iff p).2 h1) (Evt.pos (by omega) (Evt.ret _))
      · rw [if_neg h1]
        refine Evt.neg (fun h => h1 ((nil_iff p).1 h)) ?_
        by_cases h2 : q.size = 0
        · rw [if_pos h2]
          exact Evt.pos ((nil_iff q).2 h2) (Evt.pos (by omega) (Evt.ret _))
        · rw [if_neg h2]
          have l1 := pairM_len (bt p 0) (bt q 0)
          have l2 := pairM_len (bt q 0) (bt p 0)
          exact Evt.neg (fun h => h2 ((nil_iff q).1 h)) (Evt.pos (by omega) (Evt.pos (by omega) (Evt.bind (spec_l12First_ev _ _) (Evt.bind (spec_l12First_ev _ _) (Evt.pos (by omega) (Evt.ret _))))))
  by_cases h1 : p.size = 0
  · refine Evt.pos ((nil_iff p).2 h1) ?_
    by_cases h2 : q.size = 0
    · exact Evt.pos ((nil_iff q).2 h2) (hj true (by simp [h1, h2]))
    · exact Evt.neg (fun h => h2 ((nil_iff q).1 h)) (Evt.bind hc (hj _ (by simp [h2])))
  · exact Evt.neg (fun h => h1 ((nil_iff p).1 h)) (Evt.bind hc (hj _ (by simp [h1])))
theorem app_nil_l {p q : ByteArray} (h : p.size = 0) : p ++ q = q := by
  apply bytesOf_inj
  rw [bytesOf_append]
  have : bytesOf p = [] := List.length_eq_zero_iff.1 (by rw [bytesOf_length]; exact h)
  rw [this, List.nil_append]
theorem app_nil_r {p q : ByteArray} (h : q.size = 0) : p ++ q = p := by
  apply bytesOf_inj
  rw [bytesOf_append]
  have : bytesOf q = [] := List.length_eq_zero_iff.1 (by rw [bytesOf_length]; exact h)
  rw [this, List.append_nil]
theorem impl_MovesOf_step (x y : Int) (hx : 0 ≤ x ∧ x ≤ 255) (hy : 0 ≤ y ∧ y ≤ 255) (l : List S60) (i : Nat) (hi : i < l.length) (hl : l.length = 2) (e : rd_T60 l (i : Int) = ⟨x, y⟩) (acc r : List S58) (ha : acc.length ≤ 4) (hn : Evt (fun k => impl_MovesOf.l0 k (acc ++ pairM x y) l (l.length : Int) ((i + 1 : Nat) : Int)) r) : Evt (fun k => impl_MovesOf.l0 k acc l (l.length : Int) (i : Int)) r := by
  refine Evt.step ?_
  simp only [impl_MovesOf.l0]
  rw [e, w64s (by omega)]
  unfold pairM at hn
  refine Evt.pos (by omega) (Evt.pos (by omega) (Evt.pos (by omega) (Evt.bindc (impl_isVariable_eq hx.1 hx.2) ?_)))
  by_cases hv : isVr x = true
  · rw [if_pos hv] at hn
    refine Evt.pos hv (Evt.pos (by omega) (Evt.bindc rfl (Evt.bindc (impl_isVariable_eq hy.1 hy.2) ?_)))
    by_cases hw : isVr y = true
    · rw [if_pos (by simp [hw])] at hn
      exact Evt.pos hw (Evt.pos (by simp; omega) (by simpa using hn))
    · refine Evt.neg hw (Evt.bindc (impl_LetterIndex_eq hy.1 hy.2) ?_)
      by_cases hq : ltI y ≥ 0
      · rw [if_pos (by simp [show 0 ≤ ltI y from hq])] at hn
        exact Evt.pos hq (Evt.pos (by simp; omega) (by simpa using hn))
      · rw [if_neg (by simp [hw]; omega)] at hn
        exact Evt.neg hq (by simpa using hn)
  · rw [if_neg hv] at hn
    exact Evt.neg hv (by simpa using hn)
theorem impl_MovesOf_ev (a b : ByteArray) (h : a.size + b.size ≤ 9223372036854775807) : Evt (fun k => impl_MovesOf.f k a b) (movesB a b) := by
  simp only [impl_MovesOf.f]
  refine Evt.bind (impl_StripEquation_ev a b) ?_
  have hsz := stripB_size a b
  unfold movesB
  generalize hp : (stripB a b).1 = p at hsz ⊢
  generalize hq : (stripB a b).2 = q at hsz ⊢
  have hc := impl_IsClash_ev p q (by omega)
  have hj1t : (p.size = 0 ∨ q.size = 0) → ¬ (p.size = 0 ∧ q.size = 0) → Evt (fun k => impl_MovesOf.j1 k true p q) (if p.size = 0 then [(⟨bt q 0, (⟨#[]⟩ : ByteArray)⟩ : S58)] else [⟨bt p 0, (⟨#[]⟩ : ByteArray)⟩]) := by
    intro h1 h2
    refine Evt.step ?_
    simp only [impl_MovesOf.j1]
    refine Evt.pos trivial (Evt.pos (by omega) (Evt.pos (by rw [ByteArray.size_append]; omega) ((Evt.ret _).cast ?_)))
    by_cases h3 : p.size = 0
    · rw [if_pos h3, app_nil_l h3]
    · rw [if_neg h3, app_nil_r (by omega)]
  have hj1f : ¬ p.size = 0 → ¬ q.size = 0 → Evt (fun k => impl_MovesOf.j1 k false p q) (pairM (bt p 0) (bt q 0) ++ pairM (bt q 0) (bt p 0)) := by
    intro h1 h2
    have l1 := pairM_len (bt p 0) (bt q 0)
    refine Evt.step ?_
    simp only [impl_MovesOf.j1]
    refine Evt.neg (by decide) (Evt.pos (by omega) (Evt.pos (by omega) (Evt.bindc rfl ?_)))
    refine impl_MovesOf_step (bt p 0) (bt q 0) ⟨bt0 _ _, bt255 _ _⟩ ⟨bt0 _ _, bt255 _ _⟩ [⟨bt p 0, bt q 0⟩, ⟨bt q 0, bt p 0⟩] 0 (by simp) rfl rfl [] _ (by simp) ?_
    refine impl_MovesOf_step (bt q 0) (bt p 0) ⟨bt0 _ _, bt255 _ _⟩ ⟨bt0 _ _, bt255 _ _⟩ [⟨bt p 0, bt q 0⟩, ⟨bt q 0, bt p 0⟩] 1 (by simp) rfl rfl _ _ (by simp; omega) ?_
    refine Evt.step ?_
    simp only [impl_MovesOf.l0]
    exact Evt.neg (by simp) ((Evt.ret _).cast (by simp))
  have hj : ∀ x : Bool, (x = true ↔ ((p.size = 0 ∧ q.size = 0) ∨ clashB p q = true)) → Evt (fun k => impl_MovesOf.j0 k x p q) (movesS p q) := by
    intro x hx
    refine Evt.step ?_
    simp only [impl_MovesOf.j0]
    unfold movesS
    by_cases h0 : (p.size = 0 ∧ q.size = 0) ∨ clashB p q = true
    · rw [if_pos h0]
      exact Evt.pos (hx.2 h0) (Evt.ret _)
    · rw [if_neg h0]
      refine Evt.neg (fun h => h0 (hx.1 h)) ?_
      have hpq : ¬ (p.size = 0 ∧ q.size = 0) := fun h => h0 (.inl h)
      by_cases h1 : p.size = 0
      · have := hj1t (.inl h1) hpq
        rw [if_pos h1] at this ⊢
        exact Evt.pos ((nil_iff p).2 h1) this
      · rw [if_neg h1]
        refine Evt.neg (fun h => h1 ((nil_iff p).1 h)) ?_
        by_cases h2 : q.size = 0
        · have := hj1t (.inr h2) hpq
          rw [if_neg h1] at this
          rw [if_pos h2, show (q.toList == ([] : List UInt8)) = true by rw [(nil_iff q).2 h2]; rfl]
          exact this
        · have e : (q.toList == ([] : List UInt8)) = false := by
            rw [beq_eq_false_iff_ne]
            exact fun h => h2 ((nil_iff q).1 h)
          rw [if_neg h2, e]
          exact hj1f h1 h2
  refine Evt.pos (by omega) ?_
  by_cases h1 : p.size = 0 ∧ q.size = 0
  · refine Evt.pos ((nil_iff _).2 (by rw [ByteArray.size_append]; omega)) (hj true (by simp [h1]))
  · refine Evt.neg (fun h => h1 ?_) (Evt.bind hc (hj _ (by simp only [h1, false_or])))
    have := (nil_iff _).1 h
    rw [ByteArray.size_append] at this
    omega
theorem eqMoveS_ev (l : List S58) (hl : l.length ≤ 1000) : Evt (fun k => laws_eqMoveS.f k l l) true := by
  simp only [laws_eqMoveS.f]
  refine Evt.pos trivial ?_
  refine Evt.up (fun k i => laws_eqMoveS.l0 k l l i) l.length (fun _ => true) ?_ ?_
  · refine Evt.step ?_
    simp only [laws_eqMoveS.l0]
    exact Evt.neg (by omega) (Evt.ret _)
  · intro i hi ih
    refine Evt.step ?_
    simp only [laws_eqMoveS.l0]
    rw [w64s (by omega)]
    exact Evt.pos (by omega) (Evt.pos (by omega) (Evt.pos (by omega) (Evt.bindc (a := true) (by simp [laws_eqMove.f]) (Evt.pos rfl ih))))
theorem markText_ok (n : Int) (hn : n ≤ 1000000) : ∃ t, Evt (fun k => laws_markText.f k n) t := by
  simp only [laws_markText.f]
  by_cases h0 : n ≤ 0
  · exact ⟨_, Evt.pos h0 (Evt.ret _)⟩
  have hh : ∀ (m : Nat) (x : Int) (acc : ByteArray), 0 ≤ x → x ≤ m → acc.size + x ≤ 2000000 → ∃ t, Evt (fun k => laws_markText.l0 k x acc) t := by
    intro m
    induction m with
    | zero =>
      intro x acc h0 h1 h2
      refine ⟨(⟨#[109]⟩ : ByteArray) ++ acc, Evt.step ?_⟩
      simp only [laws_markText.l0]
      have e109 : (⟨#[109]⟩ : ByteArray).size = 1 := rfl
      exact Evt.neg (by omega) (Evt.pos (by omega) (Evt.ret _))
    | succ m ih =>
      intro x acc h0 h1 h2
      by_cases hx : x > 0
      · have hd : Int.tdiv x 10 = x / 10 := Int.tdiv_eq_ediv_of_nonneg h0
        have hs : (strOfNums [(wrap64 (48 + (Int.tmod x 10))) % 256]).size = 1 := by rw [strOfNums_size]; rfl
        have hq : wrap64 (Int.tdiv x 10) = x / 10 := by rw [hd]; exact w64 (by omega) (by omega)
        obtain ⟨t, ht⟩ := ih (wrap64 (Int.tdiv x 10)) (strOfNums [(wrap64 (48 + (Int.tmod x 10))) % 256] ++ acc) (by rw [hq]; omega) (by rw [hq]; omega) (by rw [hq, ByteArray.size_append, hs]; omega)
        refine ⟨t, Evt.step ?_⟩
        simp only [laws_markText.l0]
        exact Evt.pos hx (Evt.bindc rfl (Evt.pos (by rw [hs]; omega) ht))
      · refine ⟨(⟨#[109]⟩ : ByteArray) ++ acc, Evt.step ?_⟩
        simp only [laws_markText.l0]
        exact Evt.neg hx (Evt.pos (by omega) (Evt.ret _))
  obtain ⟨t, ht⟩ := hh n.toNat n (⟨#[]⟩ : ByteArray) (by omega) (by omega) (by show ((0 : Nat) : Int) + n ≤ 2000000; omega)
  exact ⟨t, Evt.neg h0 ht⟩
theorem markMoveS_ok (l : List S58) (hl : l.length ≤ 1000) : ∃ (m : Int) (l' : List S58), Evt (fun k => laws_markMoveS.f k l 1) (m, l') ∧ Evt (fun k => laws_heldMoveS.f k l' 1) m ∧ 0 ≤ m := by
  have hT : ∃ T : Nat → ByteArray, ∀ i : Nat, i ≤ 1000 → Evt (fun k => laws_markText.f k ((2 + 2 * i : Nat) : Int)) (T i) := by
    have : ∀ i : Nat, ∃ t, i ≤ 1000 → Evt (fun k => laws_markText.f k ((2 + 2 * i : Nat) : Int)) t := by
      intro i
      by_cases hi : i ≤ 1000
      · obtain ⟨t, ht⟩ := markText_ok ((2 + 2 * i : Nat) : Int) (by omega)
        exact ⟨t, fun _ => ht⟩
      · exact ⟨⟨#[]⟩, fun h => absurd h hi⟩
    exact ⟨fun i => (this i).choose, fun i hi => (this i).choose_spec hi⟩
  obtain ⟨T, hT⟩ := hT
  let mk : Nat → S58 := fun i => ⟨((1 + 2 * i : Nat) : Int) % 256, T i⟩
  have rdm : ∀ (n i : Nat), i < n → rd_T58 ((List.range n).map mk) (i : Int) = mk i := by
    intro n i hi
    simp [rd_T58, hi]
  refine ⟨((1 + 2 * l.length : Nat) : Int), (List.range l.length).map mk, ?_, ?_, by omega⟩
  · simp only [laws_markMoveS.f]
    have hh : ∀ d i : Nat, i + d = l.length → Evt (fun k => laws_markMoveS.l0 k ((List.range i).map mk ++ l.drop i) ((1 + 2 * i : Nat) : Int) (i : Int)) (((1 + 2 * l.length : Nat) : Int), (List.range l.length).map mk) := by
      intro d
      induction d with
      | zero =>
        intro i hi
        refine Evt.step ?_
        simp only [laws_markMoveS.l0]
        have e : i = l.length := by omega
        subst e
        rw [List.drop_of_length_le (Nat.le_refl _), List.append_nil]
        exact Evt.neg (by simp) (Evt.ret _)
      | succ d ih =>
        intro i hi
        have hi' : i < l.length := by omega
        have hx : ((List.range i).map mk).length = i := by simp
        refine Evt.step ?_
        simp only [laws_markMoveS.l0]
        rw [List.drop_eq_getElem_cons hi']
        have s1 : ∀ u v : S58, ((List.range i).map mk ++ u :: l.drop (i + 1)).set i v = (List.range i).map mk ++ v :: l.drop (i + 1) := by
          intro u v
          rw [List.set_append_right _ _ (by omega), hx, Nat.sub_self, List.set_cons_zero]
        have s2 : ∀ u : S58, rd_T58 ((List.range i).map mk ++ u :: l.drop (i + 1)) (i : Int) = u := by
          intro u
          unfold rd_T58
          rw [Int.toNat_natCast, List.getD_eq_getElem?_getD, List.getElem?_append_right (by omega), hx, Nat.sub_self]
          rfl
        have hw : wrap64 (((1 + 2 * i : Nat) : Int) + 1) = ((2 + 2 * i : Nat) : Int) := by rw [w64 (by omega) (by omega)]; omega
        rw [Int.toNat_natCast, s1, s2]
        refine Evt.pos (by rw [List.length_append, List.length_cons, List.length_drop, hx]; omega) (Evt.pos (by omega) (Evt.bindc rfl ?_))
        rw [hw]
        refine Evt.bind (hT i (by omega)) ?_
        rw [s1, s2, w64s (i := i) (by omega), show wrap64 (((2 + 2 * i : Nat) : Int) + 1) = ((1 + 2 * (i + 1) : Nat) : Int) by rw [w64 (by omega) (by omega)]; omega]
        have hn := ih (i + 1) (by omega)
        rw [List.range_succ, List.map_append, List.append_assoc] at hn
        exact hn
    have := hh l.length 0 (by omega)
    simpa using this
  · simp only [laws_heldMoveS.f]
    have hh : ∀ d i : Nat, i + d = l.length → Evt (fun k => laws_heldMoveS.l0 k ((List.range l.length).map mk) ((1 + 2 * i : Nat) : Int) (i : Int)) ((1 + 2 * l.length : Nat) : Int) := by
      intro d
      induction d with
      | zero =>
        intro i hi
        refine Evt.step ?_
        simp only [laws_heldMoveS.l0]
        rw [show i = l.length by omega]
        exact Evt.neg (by simp) (Evt.ret _)
      | succ d ih =>
        intro i hi
        have hw : wrap64 (((1 + 2 * i : Nat) : Int) + 1) = ((2 + 2 * i : Nat) : Int) := by rw [w64 (by omega) (by omega)]; omega
        refine Evt.step ?_
        simp only [laws_heldMoveS.l0]
        rw [rdm l.length i (by omega), hw, w64s (i := i) (by omega), show wrap64 (((2 + 2 * i : Nat) : Int) + 1) = ((1 + 2 * (i + 1) : Nat) : Int) by rw [w64 (by omega) (by omega)]; omega]
        exact Evt.pos (by simp; omega) (Evt.pos (by omega) (Evt.pos rfl (Evt.bind (hT i (by omega)) (Evt.pos rfl (ih (i + 1) (by omega))))))
    have := hh l.length 0 (by omega)
    simpa using this

end Go.Proofs.Ytgllnohlocfeoaa.F


namespace Go.Proofs.Ytgllnohlocfeoaa.F
set_option linter.unusedVariables false
set_option linter.unusedSimpArgs false
open Go.RowKit Go.Proofs.YtgllnohlocfeoaaW.PrintWords Go.Proofs.Ytgllnohlocfeoaa.Pl Go.Proofs.Ytgllnohlocfeoaa.A

theorem szEquation_eq (a b : ByteArray) (ha : a.size ≤ 9223372036854775807) (hb : b.size ≤ 9223372036854775807) :
    ∃ t, laws_szEquation.f a b 1048576 = some t ∧ (t < 0 ∨ a.size + b.size ≤ 1048576) := by
  unfold laws_szEquation.f
  rw [w64_sub (by omega) (by omega) ha]
  by_cases h1 : (1048576 : Int) - a.size < 0
  · exact ⟨-1, by rw [if_pos h1], .inl (by omega)⟩
  rw [if_neg h1, w64_sub (by omega) (by omega) hb]
  by_cases h2 : (1048576 : Int) - a.size - b.size < 0
  · exact ⟨-1, by rw [if_pos h2], .inl (by omega)⟩
  rw [if_neg h2]
  exact ⟨_, rfl, .inr (by omega)⟩

end Go.Proofs.Ytgllnohlocfeoaa.F


namespace Go.Proofs.Ytgllnohlocfeoaa.Pure
set_option linter.unusedVariables false
set_option linter.unusedSimpArgs false
open Go Go.RowKit Go.Proofs.YtgllnohlocfeoaaW.PrintWords Go.Proofs.Ytgllnohlocfeoaa.Pl Go.Proofs.Ytgllnohlocfeoaa.F Go.Proofs.Ytgllnohlocfeoaa.A Go.Proofs.Ytgllnohlocfeoaa.Ext

theorem FnExactMovesOf : FnExactMovesOf.Pure := by
  intro a b ha hb
  obtain ⟨t, ht, hs⟩ := szEquation_eq a b ha hb
  refine Evt.get (g := fun k => laws_FnExactMovesOf.f k a b) ?_
  simp only [laws_FnExactMovesOf.f]
  refine Evt.bindc ht ?_
  by_cases h : t < 0
  · exact Evt.pos h (Evt.ret _)
  have hl := movesB_len a b
  have h1 := spec_MovesOf_ev a b (by omega)
  have h2 := impl_MovesOf_ev a b (by omega)
  obtain ⟨m, l', e1, e2, hm⟩ := markMoveS_ok (movesB a b) (by omega)
  have he := eqMoveS_ev (movesB a b) (by omega)
  exact Evt.neg h (Evt.bindc rfl (Evt.bind h1 (Evt.bindc rfl (Evt.bind h2 (Evt.bind he (Evt.pos rfl (Evt.bind e1 (Evt.bind e2 (Evt.neg (by omega) (Evt.pos rfl (Evt.bindc rfl (Evt.bind h2 (Evt.bind he (Evt.pos rfl (Evt.bind e2 (Evt.neg (by omega) (Evt.pos rfl (Evt.ret _))))))))))))))))))

end Go.Proofs.Ytgllnohlocfeoaa.Pure


namespace Go.Proofs.Ytgllnohlocfeoaa.fnExactMovesOf
open Go.ChangeShapes Go.WideShapes Go.ChangeAt Go.RowKit Go.Proofs.Ytgllnohlocfeoaa.Br Go.Proofs.YtgllnohlocfeoaaW.PrintWords Go.Proofs.Ytgllnohlocfeoaa.A
open Go.ChangeMaps (open_string shut_string)
set_option linter.unusedVariables false
theorem own : ownKnob Try.prog.godebug = none := by kernel_rfl
theorem laidOut : laidOutB Try.prog = true := by kernel_rfl
set_option maxHeartbeats 2000000 in
set_option maxRecDepth 100000 in
theorem lifted (os : Os) (started : os.Started) (H : Type) (enc : TypeId × Value → H) :
    ReturnsInHanded {} Try.checked os 4 .any (Rows.fnExactMovesOfSpec.pre6 enc Try.prog Try.f4 Rows.fnExactMovesOfRow.domain false) (Rows.fnExactMovesOfSpec.post enc Try.prog Try.f4 false true false false) := by
  refine returnsInHanded_of_change_sized (C := Try.checked) own started (by kernel_rfl) Try.func4
    (ChangeSpec.witness6 (enc := enc) (C := Try.checked) false ⟨#[], #[.agg #[.string ByteArray.empty, .string ByteArray.empty]], []⟩ 8 (by kernel_rfl) (by kernel_rfl) (by kernel_rfl) (by kernel_rfl)) ?_
  intro W base args ds gs before hval0 hW hcnd hsz0 _
  have hval : ∀ (j : Nat) t v, Try.f4.params[j]? = some t → args[j]? = some v → Value.okWide Try.prog W .any base t v := hval0
  have hW' := hW
  obtain ⟨p, q, hA0, hV, rfl, hfz, hnd⟩ := hW
  have hA : DataW.TrodAll enc Try.prog W 0 (fun _ => true) true Try.f4.params.toList args.toList ds p := hA0
  rw [Try.params4] at hA hval
  obtain ⟨v0, vs0, d0, ds0, p0, q0, hargs, rfl, rfl, h0, r0⟩ := trodAll_cons hA
  obtain ⟨rfl, rfl, rfl⟩ := trodAll_nil r0
  obtain rfl : args = #[v0] := by cases args; simp_all
  obtain ⟨rfl, rfl⟩ := trodVars_none hV
  have k0 := h0
  have lt0 : ∀ x ∈ p0, x.block < W.heap.size := by obtain ⟨m, hm⟩ := k0; exact DataW.trod_lt m _ _ _ hm
  obtain ⟨arr0, rfl, _, _⟩ : ∃ cs, v0 = .agg cs ∧ cs.size = Try.prog.cellsOf 30 ∧ Row.okWide Try.prog W .any base 30 cs := by have z := (hval 0 30 v0 rfl rfl); unfold Value.okWide at z; rw [Try.underlying30] at z; exact z
  obtain ⟨fuel0, hf0⟩ := h0
  obtain ⟨x0, hK0, hw0⟩ := (show ∀ n, BrN Try.prog n 30 _ _ from fun n => (br_struct' Try.underlying30 (show Try.prog.cellsOf 30 = 2 by kernel_rfl) (fun n => (bf_cons rfl (show Try.prog.cellsOf 9 = 1 by kernel_rfl) (br_string Try.underlying9 n) (bf_one rfl (show Try.prog.cellsOf 9 = 1 by kernel_rfl) (br_string Try.underlying9 n)) (of_decide_eq_true (by kernel_rfl)))) n)) fuel0 H enc W 0 (fun _ => true) true fuel0 _ _ (Nat.le_refl _) hf0
  obtain ⟨a0_0, a0_1⟩ := x0
  replace hw0 := hw0
  obtain ⟨w0_0, w0_1⟩ := hw0
  obtain ⟨cs0, hcs0, hK0⟩ : ∃ cs, (Value.agg arr0).cells.toList = cs ∧ _ := ⟨_, rfl, hK0⟩
  obtain ⟨_, _, rfl, rfl, rfl⟩ := hK0
  obtain rfl : arr0 = #[.string a0_0, .string a0_1] := arr_of hcs0
  clear hA0 hval0 hsz0
  obtain ⟨k, hp⟩ := Pure.FnExactMovesOf a0_0 a0_1 w0_0 w0_1
  refine (laws_FnExactMovesOf.calls k a0_0 a0_1 true W  hp rfl).mono fun e W' ⟨he, bel0⟩ => ?_
  subst he
  have bel : Below W.heap.size W W' := bel0
  exact ⟨_, rfl, _, _, _, [], _, [], hW', trodAll_mk1 (shut_bool Try.underlying4 _), (trodAll_cons_mk (Below.trod laidOut (by kernel_rfl) (of_decide_eq_true (by kernel_rfl)) k0 bel lt0) trodAll_mk0), rfl, bel.frame _, fun h => by cases h⟩
theorem fact0 : (Rows.fnExactMovesOfRow.inPlace == Try.pinned.checked.prog.inPlace 4) = true := by kernel_rfl
theorem fact1 : (Rows.fnExactMovesOfRow.unfollowed == Try.pinned.checked.prog.unfollowed 4) = true := by kernel_rfl
theorem fact2 : (Rows.fnExactMovesOfRow.recurses == Try.pinned.checked.prog.recurses 4) = true := by kernel_rfl
theorem fact3 : (Rows.fnExactMovesOfRow.named == Try.pinned.checked.prog.varsNamed 4) = true := by kernel_rfl
theorem facts : joinedFacts Try.pinned.checked.prog 4 Try.f4 Rows.fnExactMovesOfSpec Rows.fnExactMovesOfRow = true := by
  unfold joinedFacts
  rw [fact0, fact1, fact2, fact3]
  kernel_rfl
theorem known : Try.pinned.checked.prog.funcNamed Rows.fnExactMovesOfRow.func = some 4 := by kernel_rfl
theorem inst : Try.f4.isInstance Try.pinned.checked.prog Rows.fnExactMovesOfRow.origin Rows.fnExactMovesOfRow.targs := of_decide_eq_true (by kernel_rfl)
theorem wrap : Try.f4.isWrapper Try.pinned.checked.prog Rows.fnExactMovesOfRow.wrapper Rows.fnExactMovesOfRow.mainSum := by unfold Func.isWrapper; first | (rw [if_pos (by decide +kernel)]; kernel_rfl) | (rw [if_neg (by decide +kernel)]; exact ⟨rfl, rfl⟩)
theorem over : Rows.fnExactMovesOfRow.holds Try.pinned (OpenSpec.ofChange Rows.fnExactMovesOfSpec) :=
  OpenClaim.holds_of_wide 4 Try.f4 rfl rfl rfl rfl rfl rfl rfl ⟨rfl, rfl, rfl, rfl, rfl⟩ rfl rfl rfl rfl rfl known Try.func4 facts inst wrap
    (fun os started H enc _ => lifted os started H enc)
theorem proved : Rows.FnExactMovesOfSaid := over
#print axioms proved
end Go.Proofs.Ytgllnohlocfeoaa.fnExactMovesOf
namespace Go.Proofs.Ytgllnohlocfeoaa
/-- The row, under a short name, for the claim. -/
theorem fnExactMovesOf_holds : Rows.FnExactMovesOfSaid := fnExactMovesOf.proved
end Go.Proofs.Ytgllnohlocfeoaa
