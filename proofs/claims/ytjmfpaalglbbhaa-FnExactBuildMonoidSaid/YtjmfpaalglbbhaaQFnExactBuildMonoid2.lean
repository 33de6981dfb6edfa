/- FnExactBuildMonoid: what its proof needs, put together by this session's program wip/merge.py out of the texts that wip/xp.py printed and of this session's own. -/
import Derived.Test.YtjmfpaalglbbhaaQFnExactBuildMonoid1
import Derived.Test.YtjmfpaalglbbhaaProg
import Derived.Laws.EntriesVeiled
namespace Go.Proofs.Ytjmfpaalglbbhaa.A
open Go.RowKit Go.Proofs.Ytjmfpaalglbbhaa.Ext Go.Proofs.YtjmfpaalglbbhaaW.PrintWords Go.Proofs.YtjmfpaalglbbhaaW.PrintLast Go.Proofs.YtjmfpaalglbbhaaW.PrintMore
attribute [local go_sem] max2_int min2_int max_two min_two max_three min_three max_four min_four   -- for this text's walks alone
set_option linter.unusedVariables false
set_option linter.unusedSimpArgs false

/-! ### spec_IsValidDfa: function 61 -/
mutual
def spec_IsValidDfa.j0 : Nat → Int → Bool → List Bool → List (List Int) → Option (Bool)
  | 0, _, _, _, _ => none
  | k + 1, x3, x18, x61002000, x61002001 => if x18 = true then (some false) else (spec_IsValidDfa.l0 k x3 0 x61002000 x61002001)
def spec_IsValidDfa.l0 : Nat → Int → Int → List Bool → List (List Int) → Option (Bool)
  | 0, _, _, _, _ => none
  | k + 1, x3, x4, x61002000, x61002001 => if x4 < x3 then (if 0 ≤ x4 then (if x4 < (x61002001.length : Int) then (if ((rd_L1 x61002001 x4).length : Int) = 3 then (spec_IsValidDfa.l1 k x3 x4 0 x61002000 x61002001) else (some false)) else (none)) else (none)) else (some true)
def spec_IsValidDfa.l1 : Nat → Int → Int → Int → List Bool → List (List Int) → Option (Bool)
  | 0, _, _, _, _, _ => none
  | k + 1, x3, x4, x5, x61002000, x61002001 => if 0 ≤ x4 then (if x4 < (x61002001.length : Int) then (if x5 < ((rd_L1 x61002001 x4).length : Int) then (if 0 ≤ x5 then ((spec_l1In.f (rd (rd_L1 x61002001 x4) x5) 0 (wrap64 (x3 - 1))).bind fun t61007 => (if t61007 = true then (spec_IsValidDfa.l1 k x3 x4 (wrap64 (x5 + 1)) x61002000 x61002001) else (some false))) else (none)) else (spec_IsValidDfa.l0 k x3 (wrap64 (x4 + 1)) x61002000 x61002001)) else (none)) else (none)
end
def spec_IsValidDfa.f (k : Nat) (l0_0 : List Bool) (l0_1 : List (List Int)) : Option (Bool) := (spec_l1In.f (l0_0.length : Int) 1 40).bind fun t61002 => (if t61002 = true then (spec_IsValidDfa.j0 k (l0_0.length : Int) ((l0_1.length : Int) != (l0_0.length : Int)) l0_0 l0_1) else (spec_IsValidDfa.j0 k (l0_0.length : Int) true l0_0 l0_1))
theorem spec_IsValidDfa.mono_l : ∀ k, (∀ y0 y1 y2 y3, LeO (spec_IsValidDfa.j0 k y0 y1 y2 y3) (spec_IsValidDfa.j0 (k + 1) y0 y1 y2 y3)) ∧ (∀ y0 y1 y2 y3, LeO (spec_IsValidDfa.l0 k y0 y1 y2 y3) (spec_IsValidDfa.l0 (k + 1) y0 y1 y2 y3)) ∧ (∀ y0 y1 y2 y3 y4, LeO (spec_IsValidDfa.l1 k y0 y1 y2 y3 y4) (spec_IsValidDfa.l1 (k + 1) y0 y1 y2 y3 y4))
  | 0 => ⟨fun _ _ _ _ r h => by simp [spec_IsValidDfa.j0] at h, fun _ _ _ _ r h => by simp [spec_IsValidDfa.l0] at h, fun _ _ _ _ _ r h => by simp [spec_IsValidDfa.l1] at h⟩
  | k + 1 => by
    obtain ⟨ih0, ih1, ih2⟩ := spec_IsValidDfa.mono_l k
    refine ⟨?_, ?_, ?_⟩
    · intro y0 y1 y2 y3
      unfold spec_IsValidDfa.j0
      repeat' first
      | (with_reducible exact ih0 _ _ _ _)
      | (with_reducible exact ih1 _ _ _ _)
      | (with_reducible exact ih2 _ _ _ _ _)
      | (with_reducible exact LeO.refl _)
      | (with_reducible exact LeO.none _)
      | (with_reducible refine LeO.ite ?_ ?_)
      | (with_reducible refine LeO.bind ?_ (fun _ => ?_))
      | exact ih0 _ _ _ _
      | exact ih1 _ _ _ _
      | exact ih2 _ _ _ _ _
      | exact LeO.none _
      | refine LeO.ite ?_ ?_
      | refine LeO.bind ?_ (fun _ => ?_)
    · intro y0 y1 y2 y3
      unfold spec_IsValidDfa.l0
      repeat' first
      | (with_reducible exact ih0 _ _ _ _)
      | (with_reducible exact ih1 _ _ _ _)
      | (with_reducible exact ih2 _ _ _ _ _)
      | (with_reducible exact LeO.refl _)
      | (with_reducible exact LeO.none _)
      | (with_reducible refine LeO.ite ?_ ?_)
      | (with_reducible refine LeO.bind ?_ (fun _ => ?_))
      | exact ih0 _ _ _ _
      | exact ih1 _ _ _ _
      | exact ih2 _ _ _ _ _
      | exact LeO.none _
      | refine LeO.ite ?_ ?_
      | refine LeO.bind ?_ (fun _ => ?_)
    · intro y0 y1 y2 y3 y4
      unfold spec_IsValidDfa.l1
      repeat' first
      | (with_reducible exact ih0 _ _ _ _)
      | (with_reducible exact ih1 _ _ _ _)
      | (with_reducible exact ih2 _ _ _ _ _)
      | (with_reducible exact LeO.refl _)
      | (with_reducible exact LeO.none _)
      | (with_reducible refine LeO.ite ?_ ?_)
      | (with_reducible refine LeO.bind ?_ (fun _ => ?_))
      | exact ih0 _ _ _ _
      | exact ih1 _ _ _ _
      | exact ih2 _ _ _ _ _
      | exact LeO.none _
      | refine LeO.ite ?_ ?_
      | refine LeO.bind ?_ (fun _ => ?_)
theorem spec_IsValidDfa.mono : ∀ a0 a1 k, LeO (spec_IsValidDfa.f k a0 a1) (spec_IsValidDfa.f (k + 1) a0 a1) := by
  intro a0 a1 k
  obtain ⟨ih0, ih1, ih2⟩ := spec_IsValidDfa.mono_l k
  unfold spec_IsValidDfa.f
  repeat' first
      | (with_reducible exact ih0 _ _ _ _)
      | (with_reducible exact ih1 _ _ _ _)
      | (with_reducible exact ih2 _ _ _ _ _)
      | (with_reducible exact LeO.refl _)
      | (with_reducible exact LeO.none _)
      | (with_reducible refine LeO.ite ?_ ?_)
      | (with_reducible refine LeO.bind ?_ (fun _ => ?_))
      | exact ih0 _ _ _ _
      | exact ih1 _ _ _ _
      | exact ih2 _ _ _ _ _
      | exact LeO.none _
      | refine LeO.ite ?_ ?_
      | refine LeO.bind ?_ (fun _ => ?_)
set_option maxHeartbeats 8000000 in
set_option maxRecDepth 100000 in
theorem spec_IsValidDfa.calls (k : Nat) (A0_0 : Option Addr) (c0_0 : Nat) (l0_0 : List Bool) (A0_1 : Option Addr) (c0_1 : Nat) (l0_1 : List (List Int)) (r : Bool) (w : World) (hr0_0 : Kd.C Kd.bool w A0_0 l0_0.length l0_0) (hc0_0 : l0_0.length ≤ c0_0) (hr0_1 : Kd.C (Kd.slice 3 (Kd.int .i64)) w A0_1 l0_1.length l0_1) (hc0_1 : l0_1.length ≤ c0_1) (h : spec_IsValidDfa.f k l0_0 l0_1 = some r) :
    Calls Try.prog 61 #[.agg #[.slice A0_0 l0_0.length c0_0, .slice A0_1 l0_1.length c0_1]] w fun e w' => e = .returned (.bool r) ∧ Below w.heap.size w w' := by
  have hu49 := Try.underlying49
  have HR0_0 := Aside0.mk hr0_0
  have HC0_0 := Aside0.mk hc0_0
  clear hr0_0 hc0_0
  have HR0_1 := Aside0.mk hr0_1
  have HC0_1 := Aside0.mk hc0_1
  clear hr0_1 hc0_1
  have HB := Aside0.mk (Below.refl w.heap.size w)
  have H : ((spec_l1In.f (l0_0.length : Int) 1 40).bind fun t61002 => (if t61002 = true then (spec_IsValidDfa.j0 k (l0_0.length : Int) ((l0_1.length : Int) != (l0_0.length : Int)) l0_0 l0_1) else (spec_IsValidDfa.j0 k (l0_0.length : Int) true l0_0 l0_1))) = some r := h
  clear h
  have HC2 := Aside0.mk H
  clear H
  go_enter Try.func61, Try.ntmps61
  go_upto_region 2 with (first | ((with_reducible refine gate_dst (N := 1) rfl ?_); (try (refine gate_guard (by rfl) ?_; dsimp only)); refine box_event ?hg (N := 1) ?hd (cs := #[.slice A0_0 l0_0.length c0_0, .slice A0_1 l0_1.length c0_1]) (t := 49) ?hr ?_; (case hd => rfl); (case hg => rfl); (case hr => first | (go_simp; done) | (go_simp; rfl)); intro gb61001 hg w3 hbox hb; have n0_ := Aside0.mk (below_step (by repeat (first | (with_reducible first | exact HB.out | apply below_alloc | apply pw_below_drewN | apply below_drew1) | exact HB.out)) hb); have n1_ := Aside0.mk (hbox); have n2_ := Aside0.mk ((by rw [hg]; exact (below_size (by repeat (first | (with_reducible first | exact HB.out | apply below_alloc | apply pw_below_drewN | apply below_drew1) | exact HB.out))) : w.heap.size ≤ gb61001)); have n3_ := Aside0.mk ((by rw [hg]; exact (below_size (by repeat (first | (with_reducible first | exact HB.out | apply below_alloc | apply pw_below_drewN | apply below_drew1) | exact HB.out))) : w.heap.size ≤ gb61001)); clear HB; have HB := n0_; have BK61001 := n1_; have GW61001 := n2_; have GE61001 := n3_; clear n0_ n1_ n2_ n3_; clear hb hbox hg; have hcz4_0 : w3.cell? ⟨gb61001, 0, none⟩ = some (.slice A0_0 l0_0.length c0_0) := (blk_cell BK61001.out 0).trans rfl; have hcz4_1 : w3.cell? ⟨gb61001, 1, none⟩ = some (.slice A0_1 l0_1.length c0_1) := (blk_cell BK61001.out 1).trans rfl; have hfz4_0 := blk_frozen BK61001.out 0; have hfz4_1 := blk_frozen BK61001.out 1))
  (try simp only [Act.put, List.setIfInBounds_toArray, List.set_cons_zero, List.set_cons_succ])
  go_cut [18] (fun v18 wc => ∃ (kq : Nat) (x18_1 : Bool), v18 = .bool x18_1 ∧ Aside0 (spec_IsValidDfa.j0 kq (l0_0.length : Int) x18_1 l0_0 l0_1 = some r) ∧ Aside0 (kq ≤ k) ∧ Aside0 (wc.heap[gb61001]? = some (.cells #[(.slice A0_0 l0_0.length c0_0), (.slice A0_1 l0_1.length c0_1)] 49 (0, 0))) ∧ Aside0 (Below w.heap.size w wc))
  case first =>
    have H := HC2.out
    clear HC2
    replace H := Option.bind_eq_some_iff.mp H
    obtain ⟨t61002, A50, H⟩ := H
    replace H : (if t61002 = true then (spec_IsValidDfa.j0 k (l0_0.length : Int) ((l0_1.length : Int) != (l0_0.length : Int)) l0_0 l0_1) else (spec_IsValidDfa.j0 k (l0_0.length : Int) true l0_0 l0_1)) = some r := H
    have A5 := Aside0.mk A50
    clear A50
    by_cases c6 : t61002 = true
    · subst c6
      have H1 : (spec_IsValidDfa.j0 k (l0_0.length : Int) ((l0_1.length : Int) != (l0_0.length : Int)) l0_0 l0_1) = some r := by rw [if_pos rfl] at H; exact H
      clear H
      have H := H1
      clear H1
      have H' := Aside0.mk H
      clear H
      go_wp2_with (first | ((with_reducible refine gate_callee (f := 84) rfl ?_); refine goesL_ (some 10) rfl rfl Try.func84 (by kernel_rfl) rfl #[.int .i64 (l0_0.length : Int), .int .i64 1, .int .i64 40] rfl (by (try simp only [List.map_toArray, List.map_cons, List.map_nil]); first | done | rfl | (simp only [List.length_drop, List.length_take]; rfl)) ?_; (with_reducible refine (spec_l1In.calls (l0_0.length : Int) 1 40 true _ A5.out).mono ?_); rintro e w' ⟨rfl, ⟨nd, rfl⟩⟩; refine ⟨_, rfl, ?_⟩; have hcz7_0 : w3.cell? ⟨gb61001, 0, none⟩ = some (.slice A0_0 l0_0.length c0_0) := (blk_cell BK61001.out 0).trans rfl; have hcz7_1 : w3.cell? ⟨gb61001, 1, none⟩ = some (.slice A0_1 l0_1.length c0_1) := (blk_cell BK61001.out 1).trans rfl; have hfz7_0 := blk_frozen BK61001.out 0; have hfz7_1 := blk_frozen BK61001.out 1))
      go_meet
      case rel => exact ⟨_, (((l0_1.length : Int) != (l0_0.length : Int))), (by first | rfl | (simp; done) | (simp [*]; done)), H', ⟨by first | omega | exact Nat.le_refl _⟩, ⟨by (with_reducible repeat (first | refine blk_drewN ?_ _ | refine blk_drew ?_ | refine blk_alloc ?_ _)); exact BK61001.out⟩, ⟨by repeat (first | (with_reducible first | exact HB.out | apply below_alloc | apply pw_below_drewN | apply below_drew1 | refine below_set ?_ GE61001.out) | exact HB.out)⟩⟩
    · replace c6 := Bool.eq_false_iff.mpr c6
      subst c6
      have H1 : (spec_IsValidDfa.j0 k (l0_0.length : Int) true l0_0 l0_1) = some r := by rw [if_neg (show ¬ (false = true) by decide)] at H; exact H
      clear H
      have H := H1
      clear H1
      have H' := Aside0.mk H
      clear H
      go_wp2_with (first | ((with_reducible refine gate_callee (f := 84) rfl ?_); refine goesL_ (some 10) rfl rfl Try.func84 (by kernel_rfl) rfl #[.int .i64 (l0_0.length : Int), .int .i64 1, .int .i64 40] rfl (by (try simp only [List.map_toArray, List.map_cons, List.map_nil]); first | done | rfl | (simp only [List.length_drop, List.length_take]; rfl)) ?_; (with_reducible refine (spec_l1In.calls (l0_0.length : Int) 1 40 false _ A5.out).mono ?_); rintro e w' ⟨rfl, ⟨nd, rfl⟩⟩; refine ⟨_, rfl, ?_⟩))
      go_meet
      case rel => exact ⟨_, (true), (by first | rfl | (simp; done) | (simp [*]; done)), H', ⟨by first | omega | exact Nat.le_refl _⟩, ⟨by (with_reducible repeat (first | refine blk_drewN ?_ _ | refine blk_drew ?_ | refine blk_alloc ?_ _)); exact BK61001.out⟩, ⟨by repeat (first | (with_reducible first | exact HB.out | apply below_alloc | apply pw_below_drewN | apply below_drew1 | refine below_set ?_ GE61001.out) | exact HB.out)⟩⟩
  case rest =>
    clear HC2
    try clear p2
    try clear c6
    try clear hcz4_0
    try clear hcz4_1
    try clear hcz7_0
    try clear hcz7_1
    try clear hfz4_0
    try clear hfz4_1
    try clear hfz7_0
    try clear hfz7_1
    obtain ⟨kq, x18_1, rfl, HA, HJ1, BK61001, HB⟩ := hcut
    cases kq with
    | zero => exact absurd HA.out (by simp [spec_IsValidDfa.j0])
    | succ kj1 =>
      have H := HA.out
      clear HA
      simp only [spec_IsValidDfa.j0] at H
      by_cases c8 : x18_1 = true
      · subst c8
        have H1 : (some false) = some r := by rw [if_pos rfl] at H; exact H
        clear H
        have H := H1
        clear H1
        obtain rfl := Option.some.inj H
        go_wp2
        go_ret
        exact ⟨by first | rfl | (simp [errW_none, errW_some] <;> rfl) | (simp [*, errW_none, errW_some] <;> rfl), by repeat (first | (with_reducible first | exact HB.out | apply below_alloc | apply pw_below_drewN | apply below_drew1 | refine below_set ?_ GE61001.out) | exact HB.out)⟩
      · replace c8 := Bool.eq_false_iff.mpr c8
        subst c8
        have H1 : (spec_IsValidDfa.l0 kj1 (l0_0.length : Int) 0 l0_0 l0_1) = some r := by rw [if_neg (show ¬ (false = true) by decide)] at H; exact H
        clear H
        have H := H1
        clear H1
        have H' := Aside0.mk H
        clear H
        go_wp2
        first | go_loopg [4] kj1 (fun kq v4 w' => ∃ (x4_2 : Int), v4 = .int .i64 x4_2 ∧ Aside0 (spec_IsValidDfa.l0 kq (l0_0.length : Int) x4_2 l0_0 l0_1 = some r) ∧ Aside0 (kq ≤ kj1) ∧ Aside0 (w'.heap[gb61001]? = some (.cells #[(.slice A0_0 l0_0.length c0_0), (.slice A0_1 l0_1.length c0_1)] 49 (0, 0))) ∧ Aside0 (Below w.heap.size w w')) | (simp only [Act.put, List.setIfInBounds_toArray, List.set_cons_succ, List.set_cons_zero]; go_loopg [4] kj1 (fun kq v4 w' => ∃ (x4_2 : Int), v4 = .int .i64 x4_2 ∧ Aside0 (spec_IsValidDfa.l0 kq (l0_0.length : Int) x4_2 l0_0 l0_1 = some r) ∧ Aside0 (kq ≤ kj1) ∧ Aside0 (w'.heap[gb61001]? = some (.cells #[(.slice A0_0 l0_0.length c0_0), (.slice A0_1 l0_1.length c0_1)] 49 (0, 0))) ∧ Aside0 (Below w.heap.size w w')))
        case atStart => exact ⟨(0), (by first | rfl | (simp; done) | (simp [*]; done)), H', ⟨Nat.le_refl _⟩, ⟨by (with_reducible repeat (first | refine blk_drewN ?_ _ | refine blk_drew ?_ | refine blk_alloc ?_ _)); exact BK61001.out⟩, ⟨by repeat (first | (with_reducible first | exact HB.out | apply below_alloc | apply pw_below_drewN | apply below_drew1 | refine below_set ?_ GE61001.out) | exact HB.out)⟩⟩
        case round =>
          clear H'
          try clear p2
          try clear c6
          try clear c8
          try clear hcz4_0
          try clear hcz4_1
          try clear hcz7_0
          try clear hcz7_1
          try clear hfz4_0
          try clear hfz4_1
          try clear hfz7_0
          try clear hfz7_1
          try clear p2
          obtain ⟨x4_2, rfl, HA, HK2, BK61001, HB⟩ := hrel
          cases gk with
          | zero => exact absurd HA.out (by simp [spec_IsValidDfa.l0])
          | succ k2 =>
            have H := HA.out
            clear HA
            simp only [spec_IsValidDfa.l0] at H
            by_cases c9 : x4_2 < (l0_0.length : Int)
            · rw [if_pos c9] at H
              have c9b0 : decide (x4_2 < (l0_0.length : Int)) = true := decide_eq_true c9
              clear c9
              by_cases c10 : 0 ≤ x4_2
              · rw [if_pos c10] at H
                have c10b0 : decide (0 ≤ x4_2) = true := decide_eq_true c10
                clear c10
                by_cases c11 : x4_2 < (l0_1.length : Int)
                · rw [if_pos c11] at H
                  have c11b0 : decide (x4_2 < (l0_1.length : Int)) = true := decide_eq_true c11
                  clear c11
                  by_cases c12 : ((rd_L1 l0_1 x4_2).length : Int) = 3
                  · rw [if_pos c12] at H
                    have c12b0 : (((rd_L1 l0_1 x4_2).length : Int) == 3) = true := beq_iff_eq.mpr c12
                    have c12b1 : (((rd_L1 l0_1 x4_2).length : Int) != 3) = false := bne_eq_false_iff_eq.mpr c12
                    clear c12
                    have H' := Aside0.mk H
                    clear H
                    have hcz13_0 : wr.cell? ⟨gb61001, 0, none⟩ = some (.slice A0_0 l0_0.length c0_0) := (blk_cell BK61001.out 0).trans rfl
                    have hcz13_1 : wr.cell? ⟨gb61001, 1, none⟩ = some (.slice A0_1 l0_1.length c0_1) := (blk_cell BK61001.out 1).trans rfl
                    have hfz13_0 := blk_frozen BK61001.out 0
                    have hfz13_1 := blk_frozen BK61001.out 1
                    have p61003 : 0 ≤ (x4_2 : Int) := of_decide_eq_true (by first | (with_reducible assumption) | assumption)
                    have q61003 : x4_2 < (l0_1.length : Int) := of_decide_eq_true (by first | (with_reducible assumption) | assumption)
                    obtain ⟨ad61003, A61003_0, c61003_0, e61003, hx61003_0, hl61003_0, hi61003_0⟩ := at_L1 HR0_1.out x4_2 p61003 q61003
                    cases e61003
                    replace hx61003_0 := (HB.out.cell (World.block_lt_of_cell? w _ hx61003_0)).trans hx61003_0
                    have HR61003_0 := Aside0.mk hi61003_0
                    have HC61003_0 := Aside0.mk hl61003_0
                    clear hi61003_0 hl61003_0
                    replace p61003 := eq_true p61003
                    replace q61003 := eq_true q61003
                    go_wp2
                    first | go_loopg [5] k2 (fun kq v5 w' => ∃ (x5_3 : Int), v5 = .int .i64 x5_3 ∧ Aside0 (spec_IsValidDfa.l1 kq (l0_0.length : Int) x4_2 x5_3 l0_0 l0_1 = some r) ∧ Aside0 (kq ≤ k2) ∧ Aside0 (w'.heap[gb61001]? = some (.cells #[(.slice A0_0 l0_0.length c0_0), (.slice (some ad61003) l0_1.length c0_1)] 49 (0, 0))) ∧ Aside0 (Below w.heap.size w w')) | (simp only [Act.put, List.setIfInBounds_toArray, List.set_cons_succ, List.set_cons_zero]; go_loopg [5] k2 (fun kq v5 w' => ∃ (x5_3 : Int), v5 = .int .i64 x5_3 ∧ Aside0 (spec_IsValidDfa.l1 kq (l0_0.length : Int) x4_2 x5_3 l0_0 l0_1 = some r) ∧ Aside0 (kq ≤ k2) ∧ Aside0 (w'.heap[gb61001]? = some (.cells #[(.slice A0_0 l0_0.length c0_0), (.slice (some ad61003) l0_1.length c0_1)] 49 (0, 0))) ∧ Aside0 (Below w.heap.size w w')))
                    case atStart => exact ⟨(0), (by first | rfl | (simp; done) | (simp [*]; done)), H', ⟨Nat.le_refl _⟩, ⟨by (with_reducible repeat (first | refine blk_drewN ?_ _ | refine blk_drew ?_ | refine blk_alloc ?_ _)); exact BK61001.out⟩, ⟨by repeat (first | (with_reducible first | exact HB.out | apply below_alloc | apply pw_below_drewN | apply below_drew1 | refine below_set ?_ GE61001.out) | exact HB.out)⟩⟩
                    case round =>
                      clear H'
                      try clear c1
                      try clear p2
                      try clear c6
                      try clear p6
                      try clear q6
                      try clear hx6
                      try clear c8
                      try clear c9
                      try clear c9b0
                      try clear c10
                      try clear c10b0
                      try clear c11
                      try clear c11b0
                      try clear c12
                      try clear c12b0
                      try clear c12b1
                      try clear hcz13_0
                      try clear hcz13_1
                      try clear hcz4_0
                      try clear hcz4_1
                      try clear hcz7_0
                      try clear hcz7_1
                      try clear hfz13_0
                      try clear hfz13_1
                      try clear hfz4_0
                      try clear hfz4_1
                      try clear hfz7_0
                      try clear hfz7_1
                      try clear hx61003_0
                      try clear p2
                      try clear p61003
                      try clear q61003
                      obtain ⟨x5_3, rfl, HA, HK3, BK61001, HB⟩ := hrel
                      cases gk with
                      | zero => exact absurd HA.out (by simp [spec_IsValidDfa.l1])
                      | succ k3 =>
                        have H := HA.out
                        clear HA
                        simp only [spec_IsValidDfa.l1] at H
                        by_cases c14 : 0 ≤ x4_2
                        · rw [if_pos c14] at H
                          have c14b0 : decide (0 ≤ x4_2) = true := decide_eq_true c14
                          clear c14
                          by_cases c15 : x4_2 < (l0_1.length : Int)
                          · rw [if_pos c15] at H
                            have c15b0 : decide (x4_2 < (l0_1.length : Int)) = true := decide_eq_true c15
                            clear c15
                            by_cases c16 : x5_3 < ((rd_L1 l0_1 x4_2).length : Int)
                            · rw [if_pos c16] at H
                              have c16b0 : decide (x5_3 < ((rd_L1 l0_1 x4_2).length : Int)) = true := decide_eq_true c16
                              clear c16
                              by_cases c17 : 0 ≤ x5_3
                              · rw [if_pos c17] at H
                                have c17b0 : decide (0 ≤ x5_3) = true := decide_eq_true c17
                                clear c17
                                replace H := Option.bind_eq_some_iff.mp H
                                obtain ⟨t61007, A180, H⟩ := H
                                replace H : (if t61007 = true then (spec_IsValidDfa.l1 k3 (l0_0.length : Int) x4_2 (wrap64 (x5_3 + 1)) l0_0 l0_1) else (some false)) = some r := H
                                have A18 := Aside0.mk A180
                                clear A180
                                by_cases c19 : t61007 = true
                                · subst c19
                                  have H1 : (spec_IsValidDfa.l1 k3 (l0_0.length : Int) x4_2 (wrap64 (x5_3 + 1)) l0_0 l0_1) = some r := by rw [if_pos rfl] at H; exact H
                                  clear H
                                  have H := H1
                                  clear H1
                                  have H' := Aside0.mk H
                                  clear H
                                  have hcz20_0 : wr.cell? ⟨gb61001, 0, none⟩ = some (.slice A0_0 l0_0.length c0_0) := (blk_cell BK61001.out 0).trans rfl
                                  have hcz20_1 : wr.cell? ⟨gb61001, 1, none⟩ = some (.slice (some ad61003) l0_1.length c0_1) := (blk_cell BK61001.out 1).trans rfl
                                  have hfz20_0 := blk_frozen BK61001.out 0
                                  have hfz20_1 := blk_frozen BK61001.out 1
                                  have p61004 : 0 ≤ (x4_2 : Int) := of_decide_eq_true (by first | (with_reducible assumption) | assumption)
                                  have q61004 : x4_2 < (l0_1.length : Int) := of_decide_eq_true (by first | (with_reducible assumption) | assumption)
                                  obtain ⟨ad61004, A61004_0, c61004_0, e61004, hx61004_0, hl61004_0, hi61004_0⟩ := at_L1 HR0_1.out x4_2 p61004 q61004
                                  obtain rfl : ad61003 = ad61004 := (by injection e61004)
                                  replace hx61004_0 := (HB.out.cell (World.block_lt_of_cell? w _ hx61004_0)).trans hx61004_0
                                  have HR61004_0 := Aside0.mk hi61004_0
                                  have HC61004_0 := Aside0.mk hl61004_0
                                  clear hi61004_0 hl61004_0
                                  replace p61004 := eq_true p61004
                                  replace q61004 := eq_true q61004
                                  have p61005 : 0 ≤ (x4_2 : Int) := of_decide_eq_true (by first | (with_reducible assumption) | assumption)
                                  have q61005 : x4_2 < (l0_1.length : Int) := of_decide_eq_true (by first | (with_reducible assumption) | assumption)
                                  obtain ⟨ad61005, A61005_0, c61005_0, e61005, hx61005_0, hl61005_0, hi61005_0⟩ := at_L1 HR0_1.out x4_2 p61005 q61005
                                  obtain rfl : ad61003 = ad61005 := (by injection e61005)
                                  replace hx61005_0 := (HB.out.cell (World.block_lt_of_cell? w _ hx61005_0)).trans hx61005_0
                                  have HR61005_0 := Aside0.mk hi61005_0
                                  have HC61005_0 := Aside0.mk hl61005_0
                                  clear hi61005_0 hl61005_0
                                  replace p61005 := eq_true p61005
                                  replace q61005 := eq_true q61005
                                  have ea_ := Option.some.inj (hx61004_0.symm.trans hx61005_0)
                                  injection ea_ with ea_ en_ ec_
                                  subst ea_
                                  subst ec_
                                  clear en_
                                  have p61006 : 0 ≤ (x5_3 : Int) := of_decide_eq_true (by first | (with_reducible assumption) | assumption)
                                  have q61006 : x5_3 < ((rd_L1 l0_1 x4_2).length : Int) := of_decide_eq_true (by first | (with_reducible assumption) | assumption)
                                  obtain ⟨ad61006, e61006, hx61006_0⟩ := Kd.at_int HR61005_0.out x5_3 p61006 q61006
                                  cases e61006
                                  replace hx61006_0 := (HB.out.cell (World.block_lt_of_cell? w _ hx61006_0)).trans hx61006_0
                                  replace p61006 := eq_true p61006
                                  replace q61006 := eq_true q61006
                                  go_wp2_with (first | ((with_reducible refine gate_callee (f := 84) rfl ?_); refine goesL_ (some 51) rfl rfl Try.func84 (by kernel_rfl) rfl #[.int .i64 (rd (rd_L1 l0_1 x4_2) x5_3), .int .i64 0, .int .i64 (wrap64 ((l0_0.length : Int) - 1))] rfl (by (try simp only [List.map_toArray, List.map_cons, List.map_nil]); first | done | rfl | (simp only [List.length_drop, List.length_take]; rfl)) ?_; (with_reducible refine (spec_l1In.calls (rd (rd_L1 l0_1 x4_2) x5_3) 0 (wrap64 ((l0_0.length : Int) - 1)) true _ A18.out).mono ?_); rintro e w' ⟨rfl, ⟨nd, rfl⟩⟩; refine ⟨_, rfl, ?_⟩))
                                  go_roundg k3
                                  case measure => have := HJ1.out; have := HK2.out; have := HK3.out; omega
                                  case rel => exact ⟨(wrap64 (x5_3 + 1)), (by first | rfl | (simp; done) | (simp [*]; done)), H', ⟨by have := HJ1.out; have := HK2.out; have := HK3.out; omega⟩, ⟨by (with_reducible repeat (first | refine blk_drewN ?_ _ | refine blk_drew ?_ | refine blk_alloc ?_ _)); exact BK61001.out⟩, ⟨by repeat (first | (with_reducible first | exact HB.out | apply below_alloc | apply pw_below_drewN | apply below_drew1 | refine below_set ?_ GE61001.out) | exact HB.out)⟩⟩
                                · replace c19 := Bool.eq_false_iff.mpr c19
                                  subst c19
                                  have H1 : (some false) = some r := by rw [if_neg (show ¬ (false = true) by decide)] at H; exact H
                                  clear H
                                  have H := H1
                                  clear H1
                                  obtain rfl := Option.some.inj H
                                  have hcz21_0 : wr.cell? ⟨gb61001, 0, none⟩ = some (.slice A0_0 l0_0.length c0_0) := (blk_cell BK61001.out 0).trans rfl
                                  have hcz21_1 : wr.cell? ⟨gb61001, 1, none⟩ = some (.slice (some ad61003) l0_1.length c0_1) := (blk_cell BK61001.out 1).trans rfl
                                  have hfz21_0 := blk_frozen BK61001.out 0
                                  have hfz21_1 := blk_frozen BK61001.out 1
                                  have p61004 : 0 ≤ (x4_2 : Int) := of_decide_eq_true (by first | (with_reducible assumption) | assumption)
                                  have q61004 : x4_2 < (l0_1.length : Int) := of_decide_eq_true (by first | (with_reducible assumption) | assumption)
                                  obtain ⟨ad61004, A61004_0, c61004_0, e61004, hx61004_0, hl61004_0, hi61004_0⟩ := at_L1 HR0_1.out x4_2 p61004 q61004
                                  obtain rfl : ad61003 = ad61004 := (by injection e61004)
                                  replace hx61004_0 := (HB.out.cell (World.block_lt_of_cell? w _ hx61004_0)).trans hx61004_0
                                  have HR61004_0 := Aside0.mk hi61004_0
                                  have HC61004_0 := Aside0.mk hl61004_0
                                  clear hi61004_0 hl61004_0
                                  replace p61004 := eq_true p61004
                                  replace q61004 := eq_true q61004
                                  have p61005 : 0 ≤ (x4_2 : Int) := of_decide_eq_true (by first | (with_reducible assumption) | assumption)
                                  have q61005 : x4_2 < (l0_1.length : Int) := of_decide_eq_true (by first | (with_reducible assumption) | assumption)
                                  obtain ⟨ad61005, A61005_0, c61005_0, e61005, hx61005_0, hl61005_0, hi61005_0⟩ := at_L1 HR0_1.out x4_2 p61005 q61005
                                  obtain rfl : ad61003 = ad61005 := (by injection e61005)
                                  replace hx61005_0 := (HB.out.cell (World.block_lt_of_cell? w _ hx61005_0)).trans hx61005_0
                                  have HR61005_0 := Aside0.mk hi61005_0
                                  have HC61005_0 := Aside0.mk hl61005_0
                                  clear hi61005_0 hl61005_0
                                  replace p61005 := eq_true p61005
                                  replace q61005 := eq_true q61005
                                  have ea_ := Option.some.inj (hx61004_0.symm.trans hx61005_0)
                                  injection ea_ with ea_ en_ ec_
                                  subst ea_
                                  subst ec_
                                  clear en_
                                  have p61006 : 0 ≤ (x5_3 : Int) := of_decide_eq_true (by first | (with_reducible assumption) | assumption)
                                  have q61006 : x5_3 < ((rd_L1 l0_1 x4_2).length : Int) := of_decide_eq_true (by first | (with_reducible assumption) | assumption)
                                  obtain ⟨ad61006, e61006, hx61006_0⟩ := Kd.at_int HR61005_0.out x5_3 p61006 q61006
                                  cases e61006
                                  replace hx61006_0 := (HB.out.cell (World.block_lt_of_cell? w _ hx61006_0)).trans hx61006_0
                                  replace p61006 := eq_true p61006
                                  replace q61006 := eq_true q61006
                                  go_wp2_with (first | ((with_reducible refine gate_callee (f := 84) rfl ?_); refine goesL_ (some 51) rfl rfl Try.func84 (by kernel_rfl) rfl #[.int .i64 (rd (rd_L1 l0_1 x4_2) x5_3), .int .i64 0, .int .i64 (wrap64 ((l0_0.length : Int) - 1))] rfl (by (try simp only [List.map_toArray, List.map_cons, List.map_nil]); first | done | rfl | (simp only [List.length_drop, List.length_take]; rfl)) ?_; (with_reducible refine (spec_l1In.calls (rd (rd_L1 l0_1 x4_2) x5_3) 0 (wrap64 ((l0_0.length : Int) - 1)) false _ A18.out).mono ?_); rintro e w' ⟨rfl, ⟨nd, rfl⟩⟩; refine ⟨_, rfl, ?_⟩))
                                  go_ret
                                  exact ⟨by first | rfl | (simp [errW_none, errW_some] <;> rfl) | (simp [*, errW_none, errW_some] <;> rfl), by repeat (first | (with_reducible first | exact HB.out | apply below_alloc | apply pw_below_drewN | apply below_drew1 | refine below_set ?_ GE61001.out) | exact HB.out)⟩
                              · rw [if_neg c17] at H
                                exact absurd H (by simp)
                            · rw [if_neg c16] at H
                              have c16b0 : decide (x5_3 < ((rd_L1 l0_1 x4_2).length : Int)) = false := decide_eq_false c16
                              clear c16
                              have H' := Aside0.mk H
                              clear H
                              have hcz22_0 : wr.cell? ⟨gb61001, 0, none⟩ = some (.slice A0_0 l0_0.length c0_0) := (blk_cell BK61001.out 0).trans rfl
                              have hcz22_1 : wr.cell? ⟨gb61001, 1, none⟩ = some (.slice (some ad61003) l0_1.length c0_1) := (blk_cell BK61001.out 1).trans rfl
                              have hfz22_0 := blk_frozen BK61001.out 0
                              have hfz22_1 := blk_frozen BK61001.out 1
                              have p61004 : 0 ≤ (x4_2 : Int) := of_decide_eq_true (by first | (with_reducible assumption) | assumption)
                              have q61004 : x4_2 < (l0_1.length : Int) := of_decide_eq_true (by first | (with_reducible assumption) | assumption)
                              obtain ⟨ad61004, A61004_0, c61004_0, e61004, hx61004_0, hl61004_0, hi61004_0⟩ := at_L1 HR0_1.out x4_2 p61004 q61004
                              obtain rfl : ad61003 = ad61004 := (by injection e61004)
                              replace hx61004_0 := (HB.out.cell (World.block_lt_of_cell? w _ hx61004_0)).trans hx61004_0
                              have HR61004_0 := Aside0.mk hi61004_0
                              have HC61004_0 := Aside0.mk hl61004_0
                              clear hi61004_0 hl61004_0
                              replace p61004 := eq_true p61004
                              replace q61004 := eq_true q61004
                              go_wp2
                              go_roundg k3
                              case measure => have := HJ1.out; have := HK2.out; have := HK3.out; omega
                              case rel => exact ⟨(wrap64 (x4_2 + 1)), (by first | rfl | (simp; done) | (simp [*]; done)), H', ⟨by have := HJ1.out; have := HK2.out; have := HK3.out; omega⟩, ⟨by (with_reducible repeat (first | refine blk_drewN ?_ _ | refine blk_drew ?_ | refine blk_alloc ?_ _)); exact BK61001.out⟩, ⟨by repeat (first | (with_reducible first | exact HB.out | apply below_alloc | apply pw_below_drewN | apply below_drew1 | refine below_set ?_ GE61001.out) | exact HB.out)⟩⟩
                          · rw [if_neg c15] at H
                            exact absurd H (by simp)
                        · rw [if_neg c14] at H
                          exact absurd H (by simp)
                  · rw [if_neg c12] at H
                    have c12b0 : (((rd_L1 l0_1 x4_2).length : Int) == 3) = false := beq_eq_false_iff_ne.mpr c12
                    have c12b1 : (((rd_L1 l0_1 x4_2).length : Int) != 3) = true := bne_iff_ne.mpr c12
                    obtain rfl := Option.some.inj H
                    have hcz23_0 : wr.cell? ⟨gb61001, 0, none⟩ = some (.slice A0_0 l0_0.length c0_0) := (blk_cell BK61001.out 0).trans rfl
                    have hcz23_1 : wr.cell? ⟨gb61001, 1, none⟩ = some (.slice A0_1 l0_1.length c0_1) := (blk_cell BK61001.out 1).trans rfl
                    have hfz23_0 := blk_frozen BK61001.out 0
                    have hfz23_1 := blk_frozen BK61001.out 1
                    have p61003 : 0 ≤ (x4_2 : Int) := of_decide_eq_true (by first | (with_reducible assumption) | assumption)
                    have q61003 : x4_2 < (l0_1.length : Int) := of_decide_eq_true (by first | (with_reducible assumption) | assumption)
                    obtain ⟨ad61003, A61003_0, c61003_0, e61003, hx61003_0, hl61003_0, hi61003_0⟩ := at_L1 HR0_1.out x4_2 p61003 q61003
                    cases e61003
                    replace hx61003_0 := (HB.out.cell (World.block_lt_of_cell? w _ hx61003_0)).trans hx61003_0
                    have HR61003_0 := Aside0.mk hi61003_0
                    have HC61003_0 := Aside0.mk hl61003_0
                    clear hi61003_0 hl61003_0
                    replace p61003 := eq_true p61003
                    replace q61003 := eq_true q61003
                    go_wp2
                    go_ret
                    exact ⟨by first | rfl | (simp [errW_none, errW_some] <;> rfl) | (simp [*, errW_none, errW_some] <;> rfl), by repeat (first | (with_reducible first | exact HB.out | apply below_alloc | apply pw_below_drewN | apply below_drew1 | refine below_set ?_ GE61001.out) | exact HB.out)⟩
                · rw [if_neg c11] at H
                  exact absurd H (by simp)
              · rw [if_neg c10] at H
                exact absurd H (by simp)
            · rw [if_neg c9] at H
              have c9b0 : decide (x4_2 < (l0_0.length : Int)) = false := decide_eq_false c9
              clear c9
              obtain rfl := Option.some.inj H
              go_wp2
              go_ret
              exact ⟨by first | rfl | (simp [errW_none, errW_some] <;> rfl) | (simp [*, errW_none, errW_some] <;> rfl), by repeat (first | (with_reducible first | exact HB.out | apply below_alloc | apply pw_below_drewN | apply below_drew1 | refine below_set ?_ GE61001.out) | exact HB.out)⟩

/-! ### spec_l5Ints: function 111 -/
def spec_l5Ints.l0 : Nat → List Int → List Int → Int → Option (Bool)
  | 0, _, _, _ => none
  | k + 1, x0, x1, x5 => if x5 < (x0.length : Int) then (if 0 ≤ x5 then (if x5 < (x1.length : Int) then (if (rd x0 x5) = (rd x1 x5) then (spec_l5Ints.l0 k x0 x1 (wrap64 (x5 + 1))) else (some false)) else (none)) else (none)) else (some true)
def spec_l5Ints.f (k : Nat) (l0 : List Int) (l1 : List Int) : Option (Bool) := if (l0.length : Int) = (l1.length : Int) then (spec_l5Ints.l0 k l0 l1 0) else (some false)
theorem spec_l5Ints.mono_l : ∀ k, (∀ y0 y1 y2, LeO (spec_l5Ints.l0 k y0 y1 y2) (spec_l5Ints.l0 (k + 1) y0 y1 y2))
  | 0 => fun _ _ _ r h => by simp [spec_l5Ints.l0] at h
  | k + 1 => by
    have ih0 := spec_l5Ints.mono_l k
    · intro y0 y1 y2
      unfold spec_l5Ints.l0
      repeat' first
      | (with_reducible exact ih0 _ _ _)
      | (with_reducible exact LeO.refl _)
      | (with_reducible exact LeO.none _)
      | (with_reducible refine LeO.ite ?_ ?_)
      | (with_reducible refine LeO.bind ?_ (fun _ => ?_))
      | exact ih0 _ _ _
      | exact LeO.none _
      | refine LeO.ite ?_ ?_
      | refine LeO.bind ?_ (fun _ => ?_)
theorem spec_l5Ints.mono : ∀ a0 a1 k, LeO (spec_l5Ints.f k a0 a1) (spec_l5Ints.f (k + 1) a0 a1) := by
  intro a0 a1 k
  have ih0 := spec_l5Ints.mono_l k
  unfold spec_l5Ints.f
  repeat' first
      | (with_reducible exact ih0 _ _ _)
      | (with_reducible exact LeO.refl _)
      | (with_reducible exact LeO.none _)
      | (with_reducible refine LeO.ite ?_ ?_)
      | (with_reducible refine LeO.bind ?_ (fun _ => ?_))
      | exact ih0 _ _ _
      | exact LeO.none _
      | refine LeO.ite ?_ ?_
      | refine LeO.bind ?_ (fun _ => ?_)
set_option maxHeartbeats 8000000 in
set_option maxRecDepth 100000 in
theorem spec_l5Ints.calls (k : Nat) (A0 : Option Addr) (c0 : Nat) (l0 : List Int) (A1 : Option Addr) (c1 : Nat) (l1 : List Int) (r : Bool) (w : World) (hr0 : Kd.C (Kd.int .i64) w A0 l0.length l0) (hc0 : l0.length ≤ c0) (hr1 : Kd.C (Kd.int .i64) w A1 l1.length l1) (hc1 : l1.length ≤ c1) (h : spec_l5Ints.f k l0 l1 = some r) :
    Calls Try.prog 111 #[.slice A0 l0.length c0, .slice A1 l1.length c1] w fun e w' => e = .returned (.bool r) ∧ Drawn0 w w' := by
  have HR0 := Aside0.mk hr0
  have HC0 := Aside0.mk hc0
  clear hr0 hc0
  have HR1 := Aside0.mk hr1
  have HC1 := Aside0.mk hc1
  clear hr1 hc1
  have H : (if (l0.length : Int) = (l1.length : Int) then (spec_l5Ints.l0 k l0 l1 0) else (some false)) = some r := h
  clear h
  by_cases c3 : (l0.length : Int) = (l1.length : Int)
  · rw [if_pos c3] at H
    have c3b0 : ((l0.length : Int) == (l1.length : Int)) = true := beq_iff_eq.mpr c3
    have c3b1 : ((l0.length : Int) != (l1.length : Int)) = false := bne_eq_false_iff_eq.mpr c3
    have c3b2 : (l0.length == l1.length) = true := by first | simpa using c3 | (simp at c3 ⊢; omega)
    clear c3
    have H' := Aside0.mk H
    clear H
    go_enter Try.func111, Try.ntmps111
    go_wp2
    repeat (go_quiet (fail); try go_wp2)
    first | go_loopg [5] k (fun kq v5 w' => ∃ (x5_1 : Int), v5 = .int .i64 x5_1 ∧ Aside0 (spec_l5Ints.l0 kq l0 l1 x5_1 = some r) ∧ Aside0 (kq ≤ k) ∧ Drawn0 w w') | (simp only [Act.put, List.setIfInBounds_toArray, List.set_cons_succ, List.set_cons_zero]; go_loopg [5] k (fun kq v5 w' => ∃ (x5_1 : Int), v5 = .int .i64 x5_1 ∧ Aside0 (spec_l5Ints.l0 kq l0 l1 x5_1 = some r) ∧ Aside0 (kq ≤ k) ∧ Drawn0 w w'))
    case atStart => exact ⟨(0), (by first | rfl | (simp; done) | (simp [*]; done)), H', ⟨Nat.le_refl _⟩, by repeat (first | exact Drawn0.refl _ | apply Drawn0.step)⟩
    case round =>
      clear H'
      try clear c1
      try clear p2
      try clear c3
      try clear c3b0
      try clear c3b1
      try clear c3b2
      obtain ⟨x5_1, rfl, HA, HK1, ⟨m1, rfl⟩⟩ := hrel
      cases gk with
      | zero => exact absurd HA.out (by simp [spec_l5Ints.l0])
      | succ k1 =>
        have H := HA.out
        clear HA
        simp only [spec_l5Ints.l0] at H
        by_cases c4 : x5_1 < (l0.length : Int)
        · rw [if_pos c4] at H
          have c4b0 : decide (x5_1 < (l0.length : Int)) = true := decide_eq_true c4
          clear c4
          by_cases c5 : 0 ≤ x5_1
          · rw [if_pos c5] at H
            have c5b0 : decide (0 ≤ x5_1) = true := decide_eq_true c5
            clear c5
            by_cases c6 : x5_1 < (l1.length : Int)
            · rw [if_pos c6] at H
              have c6b0 : decide (x5_1 < (l1.length : Int)) = true := decide_eq_true c6
              clear c6
              by_cases c7 : (rd l0 x5_1) = (rd l1 x5_1)
              · rw [if_pos c7] at H
                have c7b0 : ((rd l0 x5_1) == (rd l1 x5_1)) = true := beq_iff_eq.mpr c7
                have c7b1 : ((rd l0 x5_1) != (rd l1 x5_1)) = false := bne_eq_false_iff_eq.mpr c7
                clear c7
                have H' := Aside0.mk H
                clear H
                have p111001 : 0 ≤ (x5_1 : Int) := of_decide_eq_true (by first | (with_reducible assumption) | assumption)
                have q111001 : x5_1 < (l0.length : Int) := of_decide_eq_true (by first | (with_reducible assumption) | assumption)
                obtain ⟨ad111001, e111001, hx111001_0⟩ := Kd.at_int HR0.out x5_1 p111001 q111001
                cases e111001
                replace p111001 := eq_true p111001
                replace q111001 := eq_true q111001
                have p111002 : 0 ≤ (x5_1 : Int) := of_decide_eq_true (by first | (with_reducible assumption) | assumption)
                have q111002 : x5_1 < (l1.length : Int) := of_decide_eq_true (by first | (with_reducible assumption) | assumption)
                obtain ⟨ad111002, e111002, hx111002_0⟩ := Kd.at_int HR1.out x5_1 p111002 q111002
                cases e111002
                replace p111002 := eq_true p111002
                replace q111002 := eq_true q111002
                go_wp2
                repeat (go_quiet (fail); try go_wp2)
                go_roundg k1
                case measure => have := HK1.out; omega
                case rel => exact ⟨(wrap64 (x5_1 + 1)), (by first | rfl | (simp; done) | (simp [*]; done)), H', ⟨by have := HK1.out; omega⟩, by repeat (first | exact Drawn0.refl _ | apply Drawn0.step)⟩
              · rw [if_neg c7] at H
                have c7b0 : ((rd l0 x5_1) == (rd l1 x5_1)) = false := beq_eq_false_iff_ne.mpr c7
                have c7b1 : ((rd l0 x5_1) != (rd l1 x5_1)) = true := bne_iff_ne.mpr c7
                obtain rfl := Option.some.inj H
                have p111001 : 0 ≤ (x5_1 : Int) := of_decide_eq_true (by first | (with_reducible assumption) | assumption)
                have q111001 : x5_1 < (l0.length : Int) := of_decide_eq_true (by first | (with_reducible assumption) | assumption)
                obtain ⟨ad111001, e111001, hx111001_0⟩ := Kd.at_int HR0.out x5_1 p111001 q111001
                cases e111001
                replace p111001 := eq_true p111001
                replace q111001 := eq_true q111001
                have p111002 : 0 ≤ (x5_1 : Int) := of_decide_eq_true (by first | (with_reducible assumption) | assumption)
                have q111002 : x5_1 < (l1.length : Int) := of_decide_eq_true (by first | (with_reducible assumption) | assumption)
                obtain ⟨ad111002, e111002, hx111002_0⟩ := Kd.at_int HR1.out x5_1 p111002 q111002
                cases e111002
                replace p111002 := eq_true p111002
                replace q111002 := eq_true q111002
                go_wp2
                repeat (go_quiet (fail); try go_wp2)
                go_ret
                exact ⟨by first | rfl | (simp; done) | (simp [*]; done), by repeat (first | exact Drawn0.refl _ | apply Drawn0.step)⟩
            · rw [if_neg c6] at H
              exact absurd H (by simp)
          · rw [if_neg c5] at H
            exact absurd H (by simp)
        · rw [if_neg c4] at H
          have c4b0 : decide (x5_1 < (l0.length : Int)) = false := decide_eq_false c4
          clear c4
          obtain rfl := Option.some.inj H
          go_wp2
          repeat (go_quiet (fail); try go_wp2)
          go_ret
          exact ⟨by first | rfl | (simp; done) | (simp [*]; done), by repeat (first | exact Drawn0.refl _ | apply Drawn0.step)⟩
  · rw [if_neg c3] at H
    have c3b0 : ((l0.length : Int) == (l1.length : Int)) = false := beq_eq_false_iff_ne.mpr c3
    have c3b1 : ((l0.length : Int) != (l1.length : Int)) = true := bne_iff_ne.mpr c3
    have c3b2 : (l0.length == l1.length) = false := by first | simpa using c3 | (simp at c3 ⊢; omega)
    obtain rfl := Option.some.inj H
    go_enter Try.func111, Try.ntmps111
    go_wp2
    repeat (go_quiet (fail); try go_wp2)
    go_ret
    exact ⟨by first | rfl | (simp; done) | (simp [*]; done), by repeat (first | exact Drawn0.refl _ | apply Drawn0.step)⟩


end Go.Proofs.Ytjmfpaalglbbhaa.A


namespace Go.Proofs.Ytjmfpaalglbbhaa.A
open Go.RowKit Go.Proofs.Ytjmfpaalglbbhaa.Ext Go.Proofs.YtjmfpaalglbbhaaW.PrintWords Go.Proofs.YtjmfpaalglbbhaaW.PrintLast Go.Proofs.YtjmfpaalglbbhaaW.PrintMore
attribute [local go_sem] max2_int min2_int max_two min_two max_three min_three max_four min_four   -- for this text's walks alone
set_option linter.unusedVariables false
set_option linter.unusedSimpArgs false

/-! ### slices_Equal_int_int: function 70 -/
def slices_Equal_int_int.l0 : Nat → List Int → List Int → Int → Int → Option (Bool)
  | 0, _, _, _, _ => none
  | k + 1, x0, x1, x12, x13 => if x13 < x12 then (if 0 ≤ x13 then (if x13 < (x0.length : Int) then (if x13 < (x1.length : Int) then (if (rd x0 x13) = (rd x1 x13) then (slices_Equal_int_int.l0 k x0 x1 x12 (wrap64 (x13 + 1))) else (some false)) else (none)) else (none)) else (none)) else (some true)
def slices_Equal_int_int.f (k : Nat) (l0 : List Int) (l1 : List Int) : Option (Bool) := if (l0.length : Int) = (l1.length : Int) then (slices_Equal_int_int.l0 k l0 l1 (l0.length : Int) 0) else (some false)
theorem slices_Equal_int_int.mono_l : ∀ k, (∀ y0 y1 y2 y3, LeO (slices_Equal_int_int.l0 k y0 y1 y2 y3) (slices_Equal_int_int.l0 (k + 1) y0 y1 y2 y3))
  | 0 => fun _ _ _ _ r h => by simp [slices_Equal_int_int.l0] at h
  | k + 1 => by
    have ih0 := slices_Equal_int_int.mono_l k
    · intro y0 y1 y2 y3
      unfold slices_Equal_int_int.l0
      repeat' first
      | (with_reducible exact ih0 _ _ _ _)
      | (with_reducible exact LeO.refl _)
      | (with_reducible exact LeO.none _)
      | (with_reducible refine LeO.ite ?_ ?_)
      | (with_reducible refine LeO.bind ?_ (fun _ => ?_))
      | exact ih0 _ _ _ _
      | exact LeO.none _
      | refine LeO.ite ?_ ?_
      | refine LeO.bind ?_ (fun _ => ?_)
theorem slices_Equal_int_int.mono : ∀ a0 a1 k, LeO (slices_Equal_int_int.f k a0 a1) (slices_Equal_int_int.f (k + 1) a0 a1) := by
  intro a0 a1 k
  have ih0 := slices_Equal_int_int.mono_l k
  unfold slices_Equal_int_int.f
  repeat' first
      | (with_reducible exact ih0 _ _ _ _)
      | (with_reducible exact LeO.refl _)
      | (with_reducible exact LeO.none _)
      | (with_reducible refine LeO.ite ?_ ?_)
      | (with_reducible refine LeO.bind ?_ (fun _ => ?_))
      | exact ih0 _ _ _ _
      | exact LeO.none _
      | refine LeO.ite ?_ ?_
      | refine LeO.bind ?_ (fun _ => ?_)
set_option maxHeartbeats 8000000 in
set_option maxRecDepth 100000 in
theorem slices_Equal_int_int.calls (k : Nat) (A0 : Option Addr) (c0 : Nat) (l0 : List Int) (A1 : Option Addr) (c1 : Nat) (l1 : List Int) (r : Bool) (w : World) (hr0 : Kd.C (Kd.int .i64) w A0 l0.length l0) (hc0 : l0.length ≤ c0) (hr1 : Kd.C (Kd.int .i64) w A1 l1.length l1) (hc1 : l1.length ≤ c1) (h : slices_Equal_int_int.f k l0 l1 = some r) :
    Calls Try.prog 70 #[.slice A0 l0.length c0, .slice A1 l1.length c1] w fun e w' => e = .returned (.bool r) ∧ Drawn0 w w' := by
  have HR0 := Aside0.mk hr0
  have HC0 := Aside0.mk hc0
  clear hr0 hc0
  have HR1 := Aside0.mk hr1
  have HC1 := Aside0.mk hc1
  clear hr1 hc1
  have H : (if (l0.length : Int) = (l1.length : Int) then (slices_Equal_int_int.l0 k l0 l1 (l0.length : Int) 0) else (some false)) = some r := h
  clear h
  by_cases c3 : (l0.length : Int) = (l1.length : Int)
  · rw [if_pos c3] at H
    have c3b0 : ((l0.length : Int) == (l1.length : Int)) = true := beq_iff_eq.mpr c3
    have c3b1 : ((l0.length : Int) != (l1.length : Int)) = false := bne_eq_false_iff_eq.mpr c3
    have c3b2 : (l0.length == l1.length) = true := by first | simpa using c3 | (simp at c3 ⊢; omega)
    clear c3
    have H' := Aside0.mk H
    clear H
    go_enter Try.func70, Try.ntmps70
    go_wp2
    repeat (go_quiet (fail); try go_wp2)
    first | go_loopg [13] k (fun kq v13 w' => ∃ (x13_1 : Int), v13 = .int .i64 x13_1 ∧ Aside0 (slices_Equal_int_int.l0 kq l0 l1 (l0.length : Int) x13_1 = some r) ∧ Aside0 (kq ≤ k) ∧ Drawn0 w w') | (simp only [Act.put, List.setIfInBounds_toArray, List.set_cons_succ, List.set_cons_zero]; go_loopg [13] k (fun kq v13 w' => ∃ (x13_1 : Int), v13 = .int .i64 x13_1 ∧ Aside0 (slices_Equal_int_int.l0 kq l0 l1 (l0.length : Int) x13_1 = some r) ∧ Aside0 (kq ≤ k) ∧ Drawn0 w w'))
    case atStart => exact ⟨(0), (by first | rfl | (simp; done) | (simp [*]; done)), H', ⟨Nat.le_refl _⟩, by repeat (first | exact Drawn0.refl _ | apply Drawn0.step)⟩
    case round =>
      clear H'
      try clear c1
      try clear p2
      try clear c3
      try clear c3b0
      try clear c3b1
      try clear c3b2
      obtain ⟨x13_1, rfl, HA, HK1, ⟨m1, rfl⟩⟩ := hrel
      cases gk with
      | zero => exact absurd HA.out (by simp [slices_Equal_int_int.l0])
      | succ k1 =>
        have H := HA.out
        clear HA
        simp only [slices_Equal_int_int.l0] at H
        by_cases c4 : x13_1 < (l0.length : Int)
        · rw [if_pos c4] at H
          have c4b0 : decide (x13_1 < (l0.length : Int)) = true := decide_eq_true c4
          clear c4
          by_cases c5 : 0 ≤ x13_1
          · rw [if_pos c5] at H
            have c5b0 : decide (0 ≤ x13_1) = true := decide_eq_true c5
            clear c5
            by_cases c6 : x13_1 < (l0.length : Int)
            · rw [if_pos c6] at H
              have c6b0 : decide (x13_1 < (l0.length : Int)) = true := decide_eq_true c6
              clear c6
              by_cases c7 : x13_1 < (l1.length : Int)
              · rw [if_pos c7] at H
                have c7b0 : decide (x13_1 < (l1.length : Int)) = true := decide_eq_true c7
                clear c7
                by_cases c8 : (rd l0 x13_1) = (rd l1 x13_1)
                · rw [if_pos c8] at H
                  have c8b0 : ((rd l0 x13_1) == (rd l1 x13_1)) = true := beq_iff_eq.mpr c8
                  have c8b1 : ((rd l0 x13_1) != (rd l1 x13_1)) = false := bne_eq_false_iff_eq.mpr c8
                  clear c8
                  have H' := Aside0.mk H
                  clear H
                  have p70001 : 0 ≤ (x13_1 : Int) := of_decide_eq_true (by first | (with_reducible assumption) | assumption)
                  have q70001 : x13_1 < (l0.length : Int) := of_decide_eq_true (by first | (with_reducible assumption) | assumption)
                  obtain ⟨ad70001, e70001, hx70001_0⟩ := Kd.at_int HR0.out x13_1 p70001 q70001
                  cases e70001
                  replace p70001 := eq_true p70001
                  replace q70001 := eq_true q70001
                  have p70002 : 0 ≤ (x13_1 : Int) := of_decide_eq_true (by first | (with_reducible assumption) | assumption)
                  have q70002 : x13_1 < (l1.length : Int) := of_decide_eq_true (by first | (with_reducible assumption) | assumption)
                  obtain ⟨ad70002, e70002, hx70002_0⟩ := Kd.at_int HR1.out x13_1 p70002 q70002
                  cases e70002
                  replace p70002 := eq_true p70002
                  replace q70002 := eq_true q70002
                  go_wp2
                  repeat (go_quiet (fail); try go_wp2)
                  go_roundg k1
                  case measure => have := HK1.out; omega
                  case rel => exact ⟨(wrap64 (x13_1 + 1)), (by first | rfl | (simp; done) | (simp [*]; done)), H', ⟨by have := HK1.out; omega⟩, by repeat (first | exact Drawn0.refl _ | apply Drawn0.step)⟩
                · rw [if_neg c8] at H
                  have c8b0 : ((rd l0 x13_1) == (rd l1 x13_1)) = false := beq_eq_false_iff_ne.mpr c8
                  have c8b1 : ((rd l0 x13_1) != (rd l1 x13_1)) = true := bne_iff_ne.mpr c8
                  obtain rfl := Option.some.inj H
                  have p70001 : 0 ≤ (x13_1 : Int) := of_decide_eq_true (by first | (with_reducible assumption) | assumption)
                  have q70001 : x13_1 < (l0.length : Int) := of_decide_eq_true (by first | (with_reducible assumption) | assumption)
                  obtain ⟨ad70001, e70001, hx70001_0⟩ := Kd.at_int HR0.out x13_1 p70001 q70001
                  cases e70001
                  replace p70001 := eq_true p70001
                  replace q70001 := eq_true q70001
                  have p70002 : 0 ≤ (x13_1 : Int) := of_decide_eq_true (by first | (with_reducible assumption) | assumption)
                  have q70002 : x13_1 < (l1.length : Int) := of_decide_eq_true (by first | (with_reducible assumption) | assumption)
                  obtain ⟨ad70002, e70002, hx70002_0⟩ := Kd.at_int HR1.out x13_1 p70002 q70002
                  cases e70002
                  replace p70002 := eq_true p70002
                  replace q70002 := eq_true q70002
                  go_wp2
                  repeat (go_quiet (fail); try go_wp2)
                  go_ret
                  exact ⟨by first | rfl | (simp; done) | (simp [*]; done), by repeat (first | exact Drawn0.refl _ | apply Drawn0.step)⟩
              · rw [if_neg c7] at H
                exact absurd H (by simp)
            · rw [if_neg c6] at H
              exact absurd H (by simp)
          · rw [if_neg c5] at H
            exact absurd H (by simp)
        · rw [if_neg c4] at H
          have c4b0 : decide (x13_1 < (l0.length : Int)) = false := decide_eq_false c4
          clear c4
          obtain rfl := Option.some.inj H
          go_wp2
          repeat (go_quiet (fail); try go_wp2)
          go_ret
          exact ⟨by first | rfl | (simp; done) | (simp [*]; done), by repeat (first | exact Drawn0.refl _ | apply Drawn0.step)⟩
  · rw [if_neg c3] at H
    have c3b0 : ((l0.length : Int) == (l1.length : Int)) = false := beq_eq_false_iff_ne.mpr c3
    have c3b1 : ((l0.length : Int) != (l1.length : Int)) = true := bne_iff_ne.mpr c3
    have c3b2 : (l0.length == l1.length) = false := by first | simpa using c3 | (simp at c3 ⊢; omega)
    obtain rfl := Option.some.inj H
    go_enter Try.func70, Try.ntmps70
    go_wp2
    repeat (go_quiet (fail); try go_wp2)
    go_ret
    exact ⟨by first | rfl | (simp; done) | (simp [*]; done), by repeat (first | exact Drawn0.refl _ | apply Drawn0.step)⟩


end Go.Proofs.Ytjmfpaalglbbhaa.A


namespace Go.Proofs.Ytjmfpaalglbbhaa.F
set_option linter.unusedVariables false
set_option linter.unusedSimpArgs false
open Go.RowKit Go.Proofs.YtjmfpaalglbbhaaW.PrintWords Go.Proofs.Ytjmfpaalglbbhaa.Pl Go.Proofs.Ytjmfpaalglbbhaa.A

theorem rd_at (l : List Int) (i : Nat) (h : i < l.length) : rd l (i : Int) = l[i] := by simp [rd, h]
theorem l5Ints_ev (l l' : List Int) (hl : l.length ≤ 9223372036854775807) : Evt (fun k => spec_l5Ints.f k l l') (decide (l = l')) := by
  simp only [spec_l5Ints.f]
  by_cases he : l.length = l'.length
  · refine Evt.pos (by omega) ?_
    have h := Evt.up (fun k i => spec_l5Ints.l0 k l l' i) l.length (fun i => decide (l.drop i = l'.drop i)) ?_ ?_
    · simpa using h
    · refine Evt.step ?_
      simp only [spec_l5Ints.l0]
      refine Evt.neg (by omega) (Evt.const ?_)
      rw [List.drop_of_length_le (Nat.le_refl _), List.drop_of_length_le (by omega)]
      rfl
    · intro i hi h
      refine Evt.step ?_
      simp only [spec_l5Ints.l0]
      have hi' : i < l'.length := by omega
      refine Evt.pos (by omega) (Evt.pos (by omega) (Evt.pos (by omega) ?_))
      rw [List.drop_eq_getElem_cons hi, List.drop_eq_getElem_cons hi', w64s (by omega), rd_at l i hi, rd_at l' i hi']
      by_cases hc : l[i] = l'[i]
      · exact Evt.pos hc (h.cast (by rw [hc]; simp only [List.cons.injEq, true_and]))
      · exact Evt.neg hc (Evt.const (by rw [decide_eq_false (fun e => hc (List.cons.inj e).1)]))
  · refine Evt.neg (by omega) (Evt.const ?_)
    have : l ≠ l' := fun e => he (by rw [e])
    simp [this]
theorem slEq_ev (l l' : List Int) (hl : l.length ≤ 9223372036854775807) : Evt (fun k => slices_Equal_int_int.f k l l') (decide (l = l')) := by
  simp only [slices_Equal_int_int.f]
  by_cases he : l.length = l'.length
  · refine Evt.pos (by omega) ?_
    have h := Evt.up (fun k i => slices_Equal_int_int.l0 k l l' (l.length : Int) i) l.length (fun i => decide (l.drop i = l'.drop i)) ?_ ?_
    · simpa using h
    · refine Evt.step ?_
      simp only [slices_Equal_int_int.l0]
      refine Evt.neg (by omega) (Evt.const ?_)
      rw [List.drop_of_length_le (Nat.le_refl _), List.drop_of_length_le (by omega)]
      rfl
    · intro i hi h
      refine Evt.step ?_
      simp only [slices_Equal_int_int.l0]
      have hi' : i < l'.length := by omega
      refine Evt.pos (by omega) (Evt.pos (by omega) (Evt.pos (by omega) (Evt.pos (by omega) ?_)))
      rw [List.drop_eq_getElem_cons hi, List.drop_eq_getElem_cons hi', w64s (by omega), rd_at l i hi, rd_at l' i hi']
      by_cases hc : l[i] = l'[i]
      · exact Evt.pos hc (h.cast (by rw [hc]; simp only [List.cons.injEq, true_and]))
      · exact Evt.neg hc (Evt.const (by rw [decide_eq_false (fun e => hc (List.cons.inj e).1)]))
  · refine Evt.neg (by omega) (Evt.const ?_)
    have : l ≠ l' := fun e => he (by rw [e])
    simp [this]

end Go.Proofs.Ytjmfpaalglbbhaa.F


namespace Go.Proofs.Ytjmfpaalglbbhaa.Ext
set_option linter.unusedVariables false
set_option linter.unusedSimpArgs false
open Go.RowKit Go.Proofs.YtjmfpaalglbbhaaW.PrintWords Go.Proofs.YtjmfpaalglbbhaaW.PrintLast Go.Proofs.Ytjmfpaalglbbhaa.A Go.Proofs.Ytjmfpaalglbbhaa.F Go.Proofs.Ytjmfpaalglbbhaa.Pl

/-- The number of a row in a table; -1 if it is not there. -/
def numOf (P : List (List Int)) (xs : List Int) : Int := idxN (fun i => decide (xs = P.getD i [])) P.length
set_option maxHeartbeats 1000000 in
set_option maxRecDepth 100000 in
theorem num_eq (A B : Option Addr) (c d : Nat) (xs ys : List Int) (g : Nat) (w : World) (hx : Kd.C (Kd.int .i64) w A xs.length xs) (hc : xs.length ≤ c) (hy : Kd.C (Kd.int .i64) w B ys.length ys) (hd : ys.length ≤ d) (hg : w.cell? ⟨g, 0, none⟩ = some (.slice A xs.length c)) :
    Calls Try.prog 69 #[.slice B ys.length d, .pointer (some ⟨g, 0, none⟩)] w fun e w' => e = .returned (.bool (decide (xs = ys))) ∧ Below w.heap.size w w' := by
  obtain ⟨k, hk⟩ := Evt.get (slEq_ev xs ys hx.2.1)
  have HK := Aside0.mk hk
  have HX := Aside0.mk hx
  have HC := Aside0.mk hc
  have HY := Aside0.mk hy
  have HD := Aside0.mk hd
  generalize decide (xs = ys) = r at HK ⊢
  clear hk hx hc hy hd
  go_enter Try.func69, Try.ntmps69
  go_wp2_with (go_at_call 70; refine (slices_Equal_int_int.calls k _ _ xs _ _ ys _ _ HX.out HC.out HY.out HD.out HK.out).mono ?_; rintro e w' ⟨rfl, ⟨nd, rfl⟩⟩)
  go_ret
  exact ⟨rfl, (Drawn0.step (Drawn0.refl _) _).below⟩
set_option maxHeartbeats 2000000 in
set_option maxRecDepth 100000 in
theorem number_of (A B : Option Addr) (c d : Nat) (xs : List Int) (P : List (List Int)) (g : Nat) (w : World) (hx : Kd.C (Kd.int .i64) w A xs.length xs) (hc : xs.length ≤ c) (hP : Kd.C (Kd.slice 3 (Kd.int .i64)) w B P.length P) (hg : w.cell? ⟨g, 0, none⟩ = some (.slice B P.length d)) :
    Calls Try.prog 67 #[.slice A xs.length c, .pointer (some ⟨g, 0, none⟩)] w fun e w' => e = .returned (.int .i64 (numOf P xs)) ∧ Below w.heap.size w w' := by
  have HX := Aside0.mk hx
  have HC := Aside0.mk hc
  have HP := Aside0.mk hP
  have key : Aside0 (∀ (q : Nat) (W : World), Below w.heap.size w W → W.cell? ⟨q, 0, none⟩ = some (.slice A xs.length c) → Calls Try.prog 68 #[.slice B P.length d, .func (.func 69) #[] #[.pointer (some ⟨q, 0, none⟩)]] W fun e W' => e = .returned (.int .i64 (numOf P xs)) ∧ Below W.heap.size W W') := by
    constructor
    intro q W hb hq
    refine idx_rows (fun i => decide (xs = P.getD i [])) 69 #[.pointer (some ⟨q, 0, none⟩)] (enters_of Try.func69 (by kernel_rfl) rfl) B P.length d W HP.out.2.1 ?_
    intro i hi
    obtain ⟨ad, A', c', row, e, hcell, hle, hC, he⟩ := at_rows (Kd.C_below HP.out hb) (i : Int) (by omega) (by omega)
    have he := he.out
    rw [Int.toNat_natCast] at he hcell
    subst he
    refine ⟨ad, _, e, hcell, fun W' hb' => ?_⟩
    exact num_eq A A' c c' xs _ q W' (Kd.C_below (Kd.C_below HX.out hb) hb') HC.out (Kd.C_below hC hb') hle (pw_cell_below hb' hq)
  generalize numOf P xs = r at key ⊢
  have hga : ∀ o : Obj, (w.alloc o).cell? ⟨g, 0, none⟩ = some (.slice B P.length d) := fun o => pw_cell_below (below_alloc (Below.refl _ _) o) hg
  clear hx hc hP
  go_enter Try.func67, Try.ntmps67
  go_wp2_with (go_at_call 68; refine (key.out w.heap.size _ (by repeat (first | exact Below.refl _ _ | apply below_alloc | apply pw_below_drewN | apply below_drew1)) (by go_simp)).mono ?_; rintro e w2 ⟨rfl, hb⟩; have HB := Aside0.mk (show Below w.heap.size w w2 from below_step (by repeat (first | exact Below.refl _ _ | apply below_alloc | apply pw_below_drewN | apply below_drew1)) hb); clear hb)
  go_ret
  exact ⟨rfl, HB.out⟩

end Go.Proofs.Ytjmfpaalglbbhaa.Ext


namespace Go.Proofs.Ytjmfpaalglbbhaa.Ext
set_option linter.unusedVariables false
set_option linter.unusedSimpArgs false
open Go.RowKit Go.Proofs.YtjmfpaalglbbhaaW.PrintWords Go.Proofs.YtjmfpaalglbbhaaW.PrintLast Go.Proofs.YtjmfpaalglbbhaaW.PrintMore Go.Proofs.Ytjmfpaalglbbhaa.A

/-- A closure's call in a region whose order is open: what the closure holds comes behind the arguments. -/
theorem goesC_ {P : Program} {ops : Array Oper} {Q : Exit → Act → World → Prop} {oi : Oper} {N : Option Tmp} {a : Act} {w : World} {K : Act → World → Prop} {f : FuncId} {fn : Func} {as_ : Array Operand} {ts : Array TypeId} {c : Operand} (lb : Array Value) (hf : P.funcs[f]? = some fn) (hname : (fn.name == "runtime.NumGoroutine") = false) (hb : fn.body.isSome = true) (args : Array Value)
    (hw : Region.wanted oi (yielded ops a.tmps) = true) (hN : oi.dst = N) (hop : oi.op = .call { callee := .value c, args := as_, argTypes := ts }) (hc : a.eval c = .func (.func f) #[] lb) (hargs : as_.map a.eval = args) (all : Array Value) (hall : args ++ lb = all)
    (h : Calls P f all w fun e w' => ∃ v, e = .returned v ∧ K (a.put N v) w') : if Region.wanted oi (yielded ops a.tmps) = true then Oper.wp P oi a w K Q else K (a.put N undef) w := by
  subst hall
  refine call_ f (args ++ lb) hw hN ?_ h
  have he := enters_ hf hname hb (args ++ lb) w
  unfold execOp
  rw [hop]
  simp [hc, resolve, Deferred.ofValue, invoke, hargs, he]

/-- A table's own block is none of a row's of numbers: by their types. -/
theorem sr_ne {W : World} {b b' : Nat} {ok ok' : Nat → Prop} {v u : Value} {P : List (List Int)} {L : List Int} (hs : Kd.S kRw 25 W b ok v P) (hr : Kd.R (Kd.int .i64) 3 W b' ok' u L) (k : Nat) (h : some k = u.ownBlock) : some k ≠ v.ownBlock := fun h2 => by
  obtain ⟨x1, e1⟩ := Kd.S_typed hs k h2.symm
  obtain ⟨x2, e2⟩ := Kd.R_typed hr k h.symm
  rw [e1] at e2
  simp at e2
/-- A row of numbers stays where a table's own block is written. -/
theorem r_stay {W W2 : World} {b b' : Nat} {ok : Nat → Prop} {v u : Value} {P : List (List Int)} {L : List Int} (hs : Kd.S kRw 25 W b ok v P) (hr : Kd.R (Kd.int .i64) 3 W b' (fun k => some k = u.ownBlock) u L) (hg : W.grownBy W2 v.ownBlock) : Kd.R (Kd.int .i64) 3 W2 b' (fun k => some k = u.ownBlock) u L :=
  Kd.R_step hr (fun k hk hlt => hg.block k hlt (sr_ne hs hr k hk))

abbrev BmR := List (List Int) × List Int × List (List Int) × Bool
mutual
def impl_BuildMonoid.l1 : Nat → List (List Int) → List (List Int) → List Int → Int → Option BmR
  | 0, _, _, _, _ => none
  | k + 1, X, P, L, i => if i < (P.length : Int) then impl_BuildMonoid.l2 k X P L i 0 else impl_BuildMonoid.l5 k P L [] 0
def impl_BuildMonoid.l2 : Nat → List (List Int) → List (List Int) → List Int → Int → Int → Option BmR
  | 0, _, _, _, _, _ => none
  | k + 1, X, P, L, i, kk => if kk < 3 then (if 0 ≤ i then (if i < (P.length : Int) then impl_BuildMonoid.l3 k X P L i kk [] (rd_L1 P i) 0 else none) else none) else impl_BuildMonoid.l1 k X P L (wrap64 (i + 1))
def impl_BuildMonoid.l3 : Nat → List (List Int) → List (List Int) → List Int → Int → Int → List Int → List Int → Int → Option BmR
  | 0, _, _, _, _, _, _, _, _ => none
  | k + 1, X, P, L, i, kk, next, row, j => if j < (row.length : Int) then (if 0 ≤ j then (if 0 ≤ rd row j then (if rd row j < (X.length : Int) then (if 0 ≤ kk then (if kk < ((rd_L1 X (rd row j)).length : Int) then (if next.length < 1000000 then impl_BuildMonoid.l3 k X P L i kk (next ++ [rd (rd_L1 X (rd row j)) kk]) row (wrap64 (j + 1)) else none) else none) else none) else none) else none) else none)
      else if numOf P next < 0 then (if P.length < 1000000 then (if ((P.length + 1 : Nat) : Int) > 30 then some ([], [], [], false) else if i = 0 then (if L.length < 1000000 then impl_BuildMonoid.l2 k X (P ++ [next]) (L ++ [numOf (P ++ [next]) next]) i (wrap64 (kk + 1)) else none) else impl_BuildMonoid.l2 k X (P ++ [next]) L i (wrap64 (kk + 1))) else none)
      else if i = 0 then (if L.length < 1000000 then impl_BuildMonoid.l2 k X P (L ++ [numOf P next]) i (wrap64 (kk + 1)) else none) else impl_BuildMonoid.l2 k X P L i (wrap64 (kk + 1))
def impl_BuildMonoid.l5 : Nat → List (List Int) → List Int → List (List Int) → Int → Option BmR
  | 0, _, _, _, _ => none
  | k + 1, P, L, D, a => if a < (P.length : Int) then (if 0 ≤ a then impl_BuildMonoid.l6 k P L D a (rd_L1 P a) [] 0 else none) else some (P, L, D, true)
def impl_BuildMonoid.l6 : Nat → List (List Int) → List Int → List (List Int) → Int → List Int → List Int → Int → Option BmR
  | 0, _, _, _, _, _, _, _ => none
  | k + 1, P, L, D, a, x, row, b => if b < (P.length : Int) then (if 0 ≤ b then impl_BuildMonoid.l7 k P L D a x row b (rd_L1 P b) [] 0 else none) else (if D.length < 1000000 then impl_BuildMonoid.l5 k P L (D ++ [row]) (wrap64 (a + 1)) else none)
def impl_BuildMonoid.l7 : Nat → List (List Int) → List Int → List (List Int) → Int → List Int → List Int → Int → List Int → List Int → Int → Option BmR
  | 0, _, _, _, _, _, _, _, _, _, _ => none
  | k + 1, P, L, D, a, x, row, b, y, both, c => if c < (x.length : Int) then (if 0 ≤ c then (if 0 ≤ rd x c then (if rd x c < (y.length : Int) then (if both.length < 1000000 then impl_BuildMonoid.l7 k P L D a x row b y (both ++ [rd y (rd x c)]) (wrap64 (c + 1)) else none) else none) else none) else none) else (if row.length < 1000000 then impl_BuildMonoid.l6 k P L D a x (row ++ [numOf P both]) (wrap64 (b + 1)) else none)
end
def impl_BuildMonoid.l0 : Nat → Int → List (List Int) → List Int → Int → Option BmR
  | 0, _, _, _, _ => none
  | k + 1, n, X, first, i => if i < n then (if first.length < 1000000 then impl_BuildMonoid.l0 k n X (first ++ [i]) (wrap64 (i + 1)) else none) else impl_BuildMonoid.l1 k X [first] [] 0
def impl_BuildMonoid.f (k : Nat) (l0 : List Bool) (l1 : List (List Int)) : Option BmR := if dfaB l0 l1 = true then impl_BuildMonoid.l0 k (l0.length : Int) l1 [] 0 else some ([], [], [], false)

set_option maxHeartbeats 8000000 in
set_option maxRecDepth 100000 in
theorem build_monoid (k : Nat) (A0 : Option Addr) (c0 : Nat) (l0 : List Bool) (A1 : Option Addr) (c1 : Nat) (l1 : List (List Int)) (r1 : List (List Int)) (r2 : List Int) (r3 : List (List Int)) (r4 : Bool) (w : World)
    (hr0 : Kd.C Kd.bool w A0 l0.length l0) (hc0 : l0.length ≤ c0) (hr1 : Kd.C kRw w A1 l1.length l1) (hc1 : l1.length ≤ c1) (h : impl_BuildMonoid.f k l0 l1 = some (r1, r2, r3, r4)) :
    Calls Try.prog 19 #[.agg #[.slice A0 l0.length c0, .slice A1 l1.length c1]] w fun e w' => ∃ (v0 v1 v2 : Value) (P0 P1 P2 : Nat → Prop), e = .returned (.tuple #[.agg #[v0, v1, v2], .bool r4]) ∧
      Kd.S kRw 25 w' w.heap.size P0 v0 r1 ∧ Kd.R (Kd.int .i64) 3 w' w.heap.size P1 v1 r2 ∧ Kd.S kRw 25 w' w.heap.size P2 v2 r3 ∧ (∀ k, P0 k → ¬ P1 k ∧ ¬ P2 k) ∧ (∀ k, P1 k → ¬ P2 k) ∧ (∀ k, P0 k ∨ P1 k ∨ P2 k → w.heap.size ≤ k ∧ k < w'.heap.size) ∧ Below w.heap.size w w' := by
  have hu49 := Try.underlying49
  have hu34 := Try.underlying34
  have HR0 := Aside0.mk hr0
  have HC0 := Aside0.mk hc0
  have HR1 := Aside0.mk hr1
  have HC1 := Aside0.mk hc1
  have HB0 := Aside0.mk (Below.refl w.heap.size w)
  clear hr0 hc0 hr1 hc1
  unfold impl_BuildMonoid.f at h
  by_cases hd : dfaB l0 l1 = true
  · rw [if_pos hd] at h
    have HV := Aside0.mk (show impl_IsValidDfa.f l0 l1 = some true by rw [← hd]; rfl)
    have H' := Aside0.mk h
    clear h hd
    go_enter Try.func19, Try.ntmps19
    go_wp2_with (first
      | ((with_reducible refine gate_dst (N := 1) rfl ?_); refine box_event ?hg (N := 1) ?hd (cs := #[.slice A0 l0.length c0, .slice A1 l1.length c1]) (t := 49) ?hr ?_; (case hd => rfl); (case hg => rfl); (case hr => first | (go_simp; done) | (go_simp; rfl)); intro gX hgX wX hbX hb; have HB1 := Aside0.mk (below_step HB0.out hb); have BX := Aside0.mk hbX; have GX := Aside0.mk (show w.heap.size ≤ gX by rw [hgX]; exact Nat.le_refl _); clear hbX hb hgX)
      | ((with_reducible refine gate_dst (N := 2) rfl ?_); refine box_event ?hg (N := 2) ?hd (cs := #[.slice none 0 0, .slice none 0 0, .slice none 0 0]) (t := 34) ?hr ?_; (case hd => rfl); (case hg => rfl); (case hr => first | (go_simp; done) | (go_simp; rfl)); intro gR hgR wR hbR hb; have HB2 := Aside0.mk (below_step HB1.out hb); have BX1 := Aside0.mk (blk_below BX.out hb); have BR := Aside0.mk hbR; have GR := Aside0.mk (show w.heap.size ≤ gR by rw [hgR]; exact below_size HB1.out); clear hbR hb hgR BX HB1; have hz0 : wR.cell? ⟨gX, 0, none⟩ = some (.slice A0 l0.length c0) := (blk_cell BX1.out 0).trans rfl; have hf0 := blk_frozen BX1.out 0; have hz1 : wR.cell? ⟨gX, 1, none⟩ = some (.slice A1 l1.length c1) := (blk_cell BX1.out 1).trans rfl; have hf1 := blk_frozen BX1.out 1)
      | (go_at_call 66; (with_reducible refine (impl_IsValidDfa.calls _ _ l0 _ _ l1 true _ ?s1 ?s2 ?s3 ?s4 HV.out).mono ?_); (case s1 => exact Kd.C_below HR0.out HB2.out); (case s2 => exact HC0.out); (case s3 => exact Kd.C_below HR1.out HB2.out); (case s4 => exact HC1.out); rintro e w3 ⟨rfl, hb⟩; have HB3 := Aside0.mk (below_step HB2.out hb); have BX2 := Aside0.mk (blk_below BX1.out hb); have BR1 := Aside0.mk (blk_below BR.out hb); clear hb hz0 hf0 hz1 hf1 BX1 BR HB2)
      | ((with_reducible refine gate_dst (N := 25) rfl ?_); refine Kd.R_lit (Kd.int .i64) _ 3 ?hg (N := 25) ?hd (xs := ([] : List Int)) (inner := []) (ok := fun _ => True) (okp := fun _ => True) ?hr ?hp (fun _ hk => hk) trivial (Below.refl _ _) (Nat.le_refl _) (by simp) ?_; (case hd => rfl); (case hg => rfl); (case hr => first | (go_simp; done) | (go_simp; rfl)); (case hp => exact Reps.none _ _); intro v25 w4 ho hb hg_ hnew_; clear hg_ hnew_; have HB4 := Aside0.mk (below_step HB3.out hb); have BX3 := Aside0.mk (blk_below BX2.out hb); have BR2 := Aside0.mk (blk_below BR1.out hb); have HF := Aside0.mk (Kd.R_lower ho HB3.out.size); clear ho hb BX2 BR1 HB3; have hz2 : w4.cell? ⟨gX, 0, none⟩ = some (.slice A0 l0.length c0) := (blk_cell BX3.out 0).trans rfl; have hf2 := blk_frozen BX3.out 0))
    first | go_loopg [4, 29] k (fun kq v4 v29 w' => ∃ (first : List Int) (i : Int), v29 = .int .i64 i ∧ Aside0 (impl_BuildMonoid.l0 kq (l0.length : Int) l1 first i = some (r1, r2, r3, r4)) ∧ Aside0 (kq ≤ k) ∧ Aside0 (Kd.R (Kd.int .i64) 3 w' w.heap.size (fun _ => True) v4 first) ∧ Aside0 (Below w.heap.size w w') ∧ Aside0 (w'.heap[gX]? = some (.cells #[.slice A0 l0.length c0, .slice A1 l1.length c1] 49 (0, 0))) ∧ Aside0 (w'.heap[gR]? = some (.cells #[.slice none 0 0, .slice none 0 0, .slice none 0 0] 34 (0, 0)))) | (simp only [Act.put, List.setIfInBounds_toArray, List.set_cons_succ, List.set_cons_zero]; go_loopg [4, 29] k (fun kq v4 v29 w' => ∃ (first : List Int) (i : Int), v29 = .int .i64 i ∧ Aside0 (impl_BuildMonoid.l0 kq (l0.length : Int) l1 first i = some (r1, r2, r3, r4)) ∧ Aside0 (kq ≤ k) ∧ Aside0 (Kd.R (Kd.int .i64) 3 w' w.heap.size (fun _ => True) v4 first) ∧ Aside0 (Below w.heap.size w w') ∧ Aside0 (w'.heap[gX]? = some (.cells #[.slice A0 l0.length c0, .slice A1 l1.length c1] 49 (0, 0))) ∧ Aside0 (w'.heap[gR]? = some (.cells #[.slice none 0 0, .slice none 0 0, .slice none 0 0] 34 (0, 0)))))
    case atStart => exact ⟨[], 0, rfl, H', ⟨Nat.le_refl _⟩, HF, HB4, BX3, BR2⟩
    case round =>
      clear H' HF HB4 BX3 BR2 hz2 hf2
      obtain ⟨first, i, rfl, HA, HK, HF, HB, BX, BR⟩ := hrel
      cases gk with
      | zero =>
        exact absurd HA.out (by simp [impl_BuildMonoid.l0])
      | succ k1 =>
        have H := HA.out
        clear HA
        simp only [impl_BuildMonoid.l0] at H
        by_cases c1 : i < (l0.length : Int)
        · rw [if_pos c1] at H
          by_cases c2 : first.length < 1000000
          · rw [if_pos c2] at H
            have H' := Aside0.mk H
            have LM := Aside0.mk c2
            clear H c2
            have c1b0 : decide (i < (l0.length : Int)) = true := decide_eq_true c1
            clear c1
            go_wp2_with (first
              | ((with_reducible refine gate_builtin (b := .append) (xs := #[.tmp 32, .tmp 34]) rfl ?_); at_builtin; refine Kd.R_append (Kd.int .i64) (w0 := w) w.heap.size rfl (.tmp 32) (.tmp 34) 25 3 (.int .i64 0) 8 rfl Try.underlying25 info3 rfl (by decide) (by omega) u4 first i [.int .i64 i] (fun _ => True) (fun k_ => False) rfl rfl ?aP (fun _ hk => hk.elim) (fun _ _ => trivial) ?aO ?aB ?aS ?aL ?_; (case aP => exact rfl); (case aO => exact HF.out); (case aB => exact HB.out); (case aS => exact HB.out.size); (case aL => have := LM.out; omega); intro v35 w5 ho hb hg hat; have HF' := Aside0.mk ho; have HB' := Aside0.mk hb; have BX' := Aside0.mk (blk_grown BX.out hg (Kd.R_ne HF.out BX.out (by decide))); have BR' := Aside0.mk (blk_grown BR.out hg (Kd.R_ne HF.out BR.out (by decide))); clear ho hb hg hat HF HB BX BR))
            go_roundg k1
            case measure => have := HK.out; omega
            case rel => exact ⟨first ++ [i], wrap64 (i + 1), rfl, H', ⟨by have := HK.out; omega⟩, HF', HB', BX', BR'⟩
          · rw [if_neg c2] at H
            exact absurd H (by simp)
        · rw [if_neg c1] at H
          have H' := Aside0.mk H
          clear H
          have c1b0 : decide (i < (l0.length : Int)) = false := decide_eq_false c1
          clear c1
          obtain ⟨A4, c4, e4⟩ := Kd.R_slice HF.out
          subst e4
          go_wp2_with (first
            | ((with_reducible refine gate_dst (N := 38) rfl ?_); refine Kd.S_lits kRw (w0 := w) w.heap.size 25 ?hg (N := 38) ?hd (xs := ([first] : List (List Int))) (inner := [.slice A4 first.length c4]) (ok := fun k_ => some k_ ≠ (Value.slice none 0 0).ownBlock) (fun j k_ => j = 0) ?hr rfl ?hp (fun i j k_ h1 h2 => h1.trans h2.symm) (fun _ k_ _ => by simp [Value.ownBlock]) (by simp [Value.ownBlock]) HB.out HB.out.size (by simp) ?_; (case hd => rfl); (case hg => rfl); (case hr => first | (go_simp; done) | (go_simp; rfl)); (case hp => intro j x hj; rcases j with _ | j; (· simp only [List.getElem?_cons_zero, Option.some.injEq] at hj; subst hj; exact ⟨_, rfl, Kd.R_mono HF.out (fun _ _ => rfl)⟩); (· simp at hj)); intro v38 w6 hs hb hg hn; have HS1 := Aside0.mk hs; have HB1 := Aside0.mk hb; have BX1 := Aside0.mk (blk_grown BX.out hg (by simp)); have BR1 := Aside0.mk (blk_grown BR.out hg (by simp)); clear hs hb hg hn; obtain ⟨A5, c5, e5⟩ := Kd.S_slice HS1.out; subst e5)
            | ((with_reducible refine gate_dst (N := 6) rfl ?_); refine box_event ?hg (N := 6) ?hd (cs := #[.slice none 0 0, .slice none 0 0, .slice none 0 0]) (t := 34) ?hr ?_; (case hd => rfl); (case hg => rfl); (case hr => first | (go_simp; done) | (go_simp; rfl)); intro gM hgM w7 hbM hb; have HB2 := Aside0.mk (below_step HB1.out hb); have BX2 := Aside0.mk (blk_below BX1.out hb); have BR2 := Aside0.mk (blk_below BR1.out hb); have HS2 := Aside0.mk (Kd.S_below HS1.out hb); have BM := Aside0.mk hbM; have GM := Aside0.mk (show w.heap.size ≤ gM by rw [hgM]; exact below_size HB1.out); have NXM := Aside0.mk (show gX ≠ gM by rw [hgM]; exact Nat.ne_of_lt (blk_lt BX1.out)); have NRM := Aside0.mk (show gR ≠ gM by rw [hgM]; exact Nat.ne_of_lt (blk_lt BR1.out)); clear hbM hb hgM BX1 BR1 HS1 HB1 HB BX BR HF; have hz3 : w7.cell? ⟨gM, 0, none⟩ = some (.slice none 0 0) := (blk_cell BM.out 0).trans rfl; have hf3 := blk_frozen BM.out 0; have hz4 : w7.cell? ⟨gM, 1, none⟩ = some (.slice none 0 0) := (blk_cell BM.out 1).trans rfl; have hf4 := blk_frozen BM.out 1; have hz5 : w7.cell? ⟨gM, 2, none⟩ = some (.slice none 0 0) := (blk_cell BM.out 2).trans rfl; have hf5 := blk_frozen BM.out 2))
          have BM1 := Aside0.mk (blk_put (cs := #[.slice none 0 0, .slice none 0 0, .slice none 0 0]) BM.out 0 (.slice A5 [first].length c5) rfl)
          have BM2 := Aside0.mk (blk_put (cs := #[.slice A5 [first].length c5, .slice none 0 0, .slice none 0 0]) BM1.out 1 (.slice none 0 0) rfl)
          have BM3 := Aside0.mk (blk_put (cs := #[.slice A5 [first].length c5, .slice none 0 0, .slice none 0 0]) BM2.out 2 (.slice none 0 0) rfl)
          have HS3 := Aside0.mk (Kd.S_set (Kd.S_set (Kd.S_set HS2.out BM.out (by decide) 0 (.slice A5 [first].length c5)) BM1.out (by decide) 1 (.slice none 0 0)) BM2.out (by decide) 2 (.slice none 0 0))
          have BX3 := Aside0.mk (blk_far (blk_far (blk_far BX2.out NXM.out (.slice A5 [first].length c5) (p := ⟨gM, 0, none⟩)) NXM.out (.slice none 0 0) (p := ⟨gM, 1, none⟩)) NXM.out (.slice none 0 0) (p := ⟨gM, 2, none⟩))
          have BR3 := Aside0.mk (blk_far (blk_far (blk_far BR2.out NRM.out (.slice A5 [first].length c5) (p := ⟨gM, 0, none⟩)) NRM.out (.slice none 0 0) (p := ⟨gM, 1, none⟩)) NRM.out (.slice none 0 0) (p := ⟨gM, 2, none⟩))
          have HB3 := Aside0.mk (below_set (below_set (below_set HB2.out GM.out (j := 0) (v := .slice A5 [first].length c5)) GM.out (j := 1) (v := .slice none 0 0)) GM.out (j := 2) (v := .slice none 0 0))
          clear HS2 BX2 BR2 HB2 BM BM1 BM2
          first | go_loopg [8] k1 (fun kq v8 w' => ∃ (P : List (List Int)) (L : List Int) (i : Int) (vM vL : Value), v8 = .int .i64 i ∧ Aside0 (impl_BuildMonoid.l1 kq l1 P L i = some (r1, r2, r3, r4)) ∧ Aside0 (kq ≤ k1) ∧ Aside0 (Kd.S kRw 25 w' w.heap.size (fun k_ => some k_ ≠ (vL : Value).ownBlock) vM P) ∧ Aside0 (Kd.R (Kd.int .i64) 3 w' w.heap.size (fun k_ => some k_ = (vL : Value).ownBlock) vL L) ∧ Aside0 (w'.heap[gM]? = some (.cells #[vM, vL, .slice none 0 0] 34 (0, 0))) ∧ Aside0 (w'.heap[gX]? = some (.cells #[.slice A0 l0.length c0, .slice A1 l1.length c1] 49 (0, 0))) ∧ Aside0 (w'.heap[gR]? = some (.cells #[.slice none 0 0, .slice none 0 0, .slice none 0 0] 34 (0, 0))) ∧ Aside0 (Below w.heap.size w w')) | (simp only [Act.put, List.setIfInBounds_toArray, List.set_cons_succ, List.set_cons_zero]; go_loopg [8] k1 (fun kq v8 w' => ∃ (P : List (List Int)) (L : List Int) (i : Int) (vM vL : Value), v8 = .int .i64 i ∧ Aside0 (impl_BuildMonoid.l1 kq l1 P L i = some (r1, r2, r3, r4)) ∧ Aside0 (kq ≤ k1) ∧ Aside0 (Kd.S kRw 25 w' w.heap.size (fun k_ => some k_ ≠ (vL : Value).ownBlock) vM P) ∧ Aside0 (Kd.R (Kd.int .i64) 3 w' w.heap.size (fun k_ => some k_ = (vL : Value).ownBlock) vL L) ∧ Aside0 (w'.heap[gM]? = some (.cells #[vM, vL, .slice none 0 0] 34 (0, 0))) ∧ Aside0 (w'.heap[gX]? = some (.cells #[.slice A0 l0.length c0, .slice A1 l1.length c1] 49 (0, 0))) ∧ Aside0 (w'.heap[gR]? = some (.cells #[.slice none 0 0, .slice none 0 0, .slice none 0 0] 34 (0, 0))) ∧ Aside0 (Below w.heap.size w w')))
          case atStart => exact ⟨[first], [], 0, _, _, rfl, H', ⟨Nat.le_refl _⟩, HS3, ⟨Kd.R_nil _ _ _ _ _⟩, BM3, BX3, BR3, HB3⟩
          case round =>
            clear H' HS3 BM3 BX3 BR3 HB3 hz3 hf3 hz4 hf4 hz5 hf5
            obtain ⟨P, L, i, vM, vL, rfl, HA, HK2, HS, HL, BM, BX, BR, HB⟩ := hrel
            cases gk with
            | zero =>
              exact absurd HA.out (by simp [impl_BuildMonoid.l1])
            | succ k2 =>
              have H := HA.out
              clear HA
              simp only [impl_BuildMonoid.l1] at H
              obtain ⟨AM, cM, eM⟩ := Kd.S_slice HS.out
              subst eM
              have hz0 : wr.cell? ⟨gM, 0, none⟩ = some (.slice AM P.length cM) := (blk_cell BM.out 0).trans rfl
              have hf0 := blk_frozen BM.out 0
              by_cases c1 : i < (P.length : Int)
              · rw [if_pos c1] at H
                have H' := Aside0.mk H
                clear H
                have c1b0 : decide (i < (P.length : Int)) = true := decide_eq_true c1
                clear c1
                go_wp2
                first | go_loopg [48] k2 (fun kq v48 w' => ∃ (P : List (List Int)) (L : List Int) (kk : Int) (vM vL : Value), v48 = .int .i64 kk ∧ Aside0 (impl_BuildMonoid.l2 kq l1 P L i kk = some (r1, r2, r3, r4)) ∧ Aside0 (kq ≤ k2) ∧ Aside0 (Kd.S kRw 25 w' w.heap.size (fun k_ => some k_ ≠ (vL : Value).ownBlock) vM P) ∧ Aside0 (Kd.R (Kd.int .i64) 3 w' w.heap.size (fun k_ => some k_ = (vL : Value).ownBlock) vL L) ∧ Aside0 (w'.heap[gM]? = some (.cells #[vM, vL, .slice none 0 0] 34 (0, 0))) ∧ Aside0 (w'.heap[gX]? = some (.cells #[.slice A0 l0.length c0, .slice A1 l1.length c1] 49 (0, 0))) ∧ Aside0 (w'.heap[gR]? = some (.cells #[.slice none 0 0, .slice none 0 0, .slice none 0 0] 34 (0, 0))) ∧ Aside0 (Below w.heap.size w w')) | (simp only [Act.put, List.setIfInBounds_toArray, List.set_cons_succ, List.set_cons_zero]; go_loopg [48] k2 (fun kq v48 w' => ∃ (P : List (List Int)) (L : List Int) (kk : Int) (vM vL : Value), v48 = .int .i64 kk ∧ Aside0 (impl_BuildMonoid.l2 kq l1 P L i kk = some (r1, r2, r3, r4)) ∧ Aside0 (kq ≤ k2) ∧ Aside0 (Kd.S kRw 25 w' w.heap.size (fun k_ => some k_ ≠ (vL : Value).ownBlock) vM P) ∧ Aside0 (Kd.R (Kd.int .i64) 3 w' w.heap.size (fun k_ => some k_ = (vL : Value).ownBlock) vL L) ∧ Aside0 (w'.heap[gM]? = some (.cells #[vM, vL, .slice none 0 0] 34 (0, 0))) ∧ Aside0 (w'.heap[gX]? = some (.cells #[.slice A0 l0.length c0, .slice A1 l1.length c1] 49 (0, 0))) ∧ Aside0 (w'.heap[gR]? = some (.cells #[.slice none 0 0, .slice none 0 0, .slice none 0 0] 34 (0, 0))) ∧ Aside0 (Below w.heap.size w w')))
                case atStart => exact ⟨P, L, 0, _, vL, rfl, H', ⟨Nat.le_refl _⟩, HS, HL, BM, BX, BR, HB⟩
                case round =>
                  clear H' HS HL BM BX BR HB hz0 hf0 c1b0
                  obtain ⟨P, L, kk, vM, vL, rfl, HA, HK3, HS, HL, BM, BX, BR, HB⟩ := hrel
                  cases gk with
                  | zero =>
                    exact absurd HA.out (by simp [impl_BuildMonoid.l2])
                  | succ k3 =>
                    have H := HA.out
                    clear HA
                    simp only [impl_BuildMonoid.l2] at H
                    by_cases c2 : kk < 3
                    · rw [if_pos c2] at H
                      have c2b0 : decide (kk < 3) = true := decide_eq_true c2
                      clear c2
                      by_cases c3 : 0 ≤ i
                      · rw [if_pos c3] at H
                        by_cases c4 : i < (P.length : Int)
                        · rw [if_pos c4] at H
                          have H' := Aside0.mk H
                          clear H
                          obtain ⟨wa, rfl⟩ : ∃ x, x = wr := ⟨wr, rfl⟩
                          obtain ⟨AM, cM, eM⟩ := Kd.S_slice HS.out
                          subst eM
                          obtain ⟨ad, Ar, cr, eA, hx, hl, hC⟩ := at_L1 (Kd.S_reads' HS.out).2.2 i c3 c4
                          cases eA
                          have HC := Aside0.mk hC
                          have HLr := Aside0.mk hl
                          have HX := Aside0.mk hx
                          have Q3 := Aside0.mk c3
                          have Q4 := Aside0.mk c4
                          clear hC hl hx
                          replace c3 := eq_true c3
                          replace c4 := eq_true c4
                          go_wp2_with (first
                            | ((with_reducible refine gate_dst (N := 51) rfl ?_); refine Kd.R_lit (Kd.int .i64) _ 3 ?hg (N := 51) ?hd (xs := ([] : List Int)) (inner := []) (ok := fun _ => True) (okp := fun _ => True) ?hr ?hp (fun _ hk => hk) trivial (Below.refl _ _) (Nat.le_refl _) (by simp) ?_; (case hd => rfl); (case hg => rfl); (case hr => first | (go_simp; done) | (go_simp; rfl)); (case hp => exact Reps.none _ _); intro v51 w8 ho hb hg_ hnew_; clear hg_ hnew_; have HN := Aside0.mk ho; have HW := Aside0.mk hb; have hz1 : w8.cell? ⟨gM, 0, none⟩ = some (.slice (some ad) P.length cM) := (blk_cell (blk_below BM.out hb) 0).trans rfl; have hf1 := blk_frozen (blk_below BM.out hb) 0; have hz2 : w8.cell? (ad.add i.toNat) = some (.slice Ar (rd_L1 P i).length cr) := (hb.cell (World.block_lt_of_cell? wa _ HX.out)).trans HX.out; clear ho hb))
                          first | go_loopg [10, 58] k3 (fun kq v10 v58 w' => ∃ (next : List Int) (j : Int), v58 = .int .i64 j ∧ Aside0 (impl_BuildMonoid.l3 kq l1 P L i kk next (rd_L1 P i) j = some (r1, r2, r3, r4)) ∧ Aside0 (kq ≤ k3) ∧ Aside0 (Kd.R (Kd.int .i64) 3 w' wa.heap.size (fun _ => True) v10 next) ∧ Aside0 (Below wa.heap.size wa w')) | (simp only [Act.put, List.setIfInBounds_toArray, List.set_cons_succ, List.set_cons_zero]; go_loopg [10, 58] k3 (fun kq v10 v58 w' => ∃ (next : List Int) (j : Int), v58 = .int .i64 j ∧ Aside0 (impl_BuildMonoid.l3 kq l1 P L i kk next (rd_L1 P i) j = some (r1, r2, r3, r4)) ∧ Aside0 (kq ≤ k3) ∧ Aside0 (Kd.R (Kd.int .i64) 3 w' wa.heap.size (fun _ => True) v10 next) ∧ Aside0 (Below wa.heap.size wa w')))
                          case atStart => exact ⟨[], 0, rfl, H', ⟨Nat.le_refl _⟩, HN, HW⟩
                          case round =>
                            clear H' HN HW hz1 hf1 hz2
                            obtain ⟨next, j, rfl, HA, HK4, HN, HW⟩ := hrel
                            cases gk with
                            | zero =>
                              exact absurd HA.out (by simp [impl_BuildMonoid.l3])
                            | succ k4 =>
                              have H := HA.out
                              clear HA
                              simp only [impl_BuildMonoid.l3] at H
                              by_cases d1 : j < ((rd_L1 P i).length : Int)
                              · rw [if_pos d1] at H
                                by_cases d2 : 0 ≤ j
                                · rw [if_pos d2] at H
                                  by_cases d3 : 0 ≤ rd (rd_L1 P i) j
                                  · rw [if_pos d3] at H
                                    by_cases d4 : rd (rd_L1 P i) j < (l1.length : Int)
                                    · rw [if_pos d4] at H
                                      by_cases d5 : 0 ≤ kk
                                      · rw [if_pos d5] at H
                                        by_cases d6 : kk < ((rd_L1 l1 (rd (rd_L1 P i) j)).length : Int)
                                        · rw [if_pos d6] at H
                                          by_cases d7 : next.length < 1000000
                                          · rw [if_pos d7] at H
                                            have H' := Aside0.mk H
                                            have LM := Aside0.mk d7
                                            clear H d7
                                            have HBw := Aside0.mk (below_step HB.out HW.out)
                                            obtain ⟨ar, er, hx1⟩ := Kd.at_int (Kd.C_below HC.out HW.out) j d2 d1
                                            cases er
                                            obtain ⟨ax, Ay, cy, ex, hx2, hl2, hC2⟩ := at_L1 (Kd.C_below HR1.out HBw.out) (rd (rd_L1 P i) j) d3 d4
                                            cases ex
                                            obtain ⟨ay, ey, hx3⟩ := Kd.at_int hC2 kk d5 d6
                                            cases ey
                                            have hz3 : wr.cell? ⟨gX, 1, none⟩ = some (.slice (some ax) l1.length c1) := (blk_cell (blk_below BX.out HW.out) 1).trans rfl
                                            have hf3 := blk_frozen (blk_below BX.out HW.out) 1
                                            have d1b0 : decide (j < ((rd_L1 P i).length : Int)) = true := decide_eq_true d1
                                            replace d1 := eq_true d1
                                            replace d2 := eq_true d2
                                            replace d3 := eq_true d3
                                            replace d4 := eq_true d4
                                            replace d5 := eq_true d5
                                            replace d6 := eq_true d6
                                            go_wp2_with (first
                                              | ((with_reducible refine gate_builtin (b := .append) (xs := #[.tmp 62, .tmp 71]) rfl ?_); at_builtin; refine Kd.R_append (Kd.int .i64) (w0 := wa) wa.heap.size rfl (.tmp 62) (.tmp 71) 25 3 (.int .i64 0) 8 rfl Try.underlying25 info3 rfl (by decide) (by omega) u10 next (rd (rd_L1 l1 (rd (rd_L1 P i) j)) kk) [.int .i64 (rd (rd_L1 l1 (rd (rd_L1 P i) j)) kk)] (fun _ => True) (fun k_ => False) rfl rfl ?aP (fun _ hk => hk.elim) (fun _ _ => trivial) ?aO ?aB ?aS ?aL ?_; (case aP => exact rfl); (case aO => exact HN.out); (case aB => exact HW.out); (case aS => exact HW.out.size); (case aL => have := LM.out; omega); intro v72 w9 ho hb hg hat; have HN' := Aside0.mk ho; have HW' := Aside0.mk hb; clear ho hb hg hat))
                                            go_roundg k4
                                            case measure => have := HK4.out; omega
                                            case rel => exact ⟨next ++ [rd (rd_L1 l1 (rd (rd_L1 P i) j)) kk], wrap64 (j + 1), rfl, H', ⟨by have := HK4.out; omega⟩, HN', HW'⟩
                                          · rw [if_neg d7] at H
                                            exact absurd H (by simp)
                                        · rw [if_neg d6] at H
                                          exact absurd H (by simp)
                                      · rw [if_neg d5] at H
                                        exact absurd H (by simp)
                                    · rw [if_neg d4] at H
                                      exact absurd H (by simp)
                                  · rw [if_neg d3] at H
                                    exact absurd H (by simp)
                                · rw [if_neg d2] at H
                                  exact absurd H (by simp)
                              · rw [if_neg d1] at H
                                have d1b0 : decide (j < ((rd_L1 P i).length : Int)) = false := decide_eq_false d1
                                clear d1
                                obtain ⟨An, cn, en⟩ := Kd.R_slice HN.out
                                subst en
                                by_cases d2 : numOf P next < 0
                                · rw [if_pos d2] at H
                                  have d2b0 : decide (numOf P next < 0) = true := decide_eq_true d2
                                  clear d2
                                  by_cases d3 : P.length < 1000000
                                  · rw [if_pos d3] at H
                                    have LM := Aside0.mk d3
                                    clear d3
                                    obtain ⟨P', eP⟩ : ∃ x, x = P ++ [next] := ⟨_, rfl⟩
                                    have eL : ((P.length + 1 : Nat) : Int) = (P'.length : Int) := by rw [eP, List.length_append, List.length_singleton]
                                    have EP := Aside0.mk eP
                                    rw [eL, ← eP] at H
                                    clear eL eP
                                    by_cases d4 : (P'.length : Int) > 30
                                    · rw [if_pos d4] at H
                                      obtain ⟨rfl, rfl, rfl, rfl⟩ : r1 = [] ∧ r2 = [] ∧ r3 = [] ∧ r4 = false := by
                                        have h := Option.some.inj H
                                        simp only [Prod.mk.injEq] at h
                                        exact ⟨h.1.symm, h.2.1.symm, h.2.2.1.symm, h.2.2.2.symm⟩
                                      clear H
                                      have d4b0 : decide ((P'.length : Int) > 30) = true := decide_eq_true d4
                                      have d4b1 : decide (30 < (P'.length : Int)) = true := decide_eq_true d4
                                      clear d4
                                      go_wp2_with (first
                                        | (go_at_call 67; (with_reducible refine (number_of An (some ad) cn cM next P gM _ ?s1 ?s2 ?s3 ?s4).mono ?_); (case s1 => exact (Kd.R_reads' HN.out).2.2); (case s2 => exact (Kd.R_reads' HN.out).2.1); (case s3 => exact Kd.C_below (Kd.S_reads' HS.out).2.2 HW.out); (case s4 => exact (blk_cell (blk_below BM.out HW.out) 0).trans rfl); rintro e w10 ⟨rfl, hb⟩; have HW1 := Aside0.mk (below_step HW.out hb); have HN1 := Aside0.mk (Kd.R_below HN.out hb); have hz1 : w10.cell? ⟨gM, 0, none⟩ = some (.slice (some ad) P.length cM) := (blk_cell (blk_below BM.out HW1.out) 0).trans rfl; have hf1 := blk_frozen (blk_below BM.out HW1.out) 0; clear hb)
                                        | ((with_reducible refine gate_builtin (b := .append) (xs := #[.tmp 79, .tmp 81]) rfl ?_); at_builtin; refine Kd.S_append kRw (w0 := w) w.heap.size rfl (.tmp 79) (.tmp 81) 24 25 (.slice none 0 0) 24 rfl Try.underlying24 info25 rfl (by decide) (by omega) (.slice (some ad) P.length cM) P next [.slice An next.length cn] (fun k_ => some k_ ≠ (vL : Value).ownBlock) (fun k_ => some k_ = (.slice An next.length cn : Value).ownBlock) rfl rfl ?aP ?aK ?aF ?aO ?aB ?aS ?aL ?_; (case aP => exact ⟨_, rfl, Kd.R_lower (Kd.R_tight rfl HN1.out) HB.out.size⟩); (case aK => exact fun k_ hk => ⟨fun h2 => by have h3 := Kd.R_base HN1.out k_ hk.symm; have h4 := Kd.R_lt HL.out k_ h2.symm; omega, fun h2 => by have h3 := Kd.R_base HN1.out k_ hk.symm; have h4 := Kd.S_lt HS.out k_ h2.symm; omega⟩); (case aF => exact fun k_ hk h2 => by have h3 := HW1.out.size; have h4 := Kd.R_lt HL.out k_ h2.symm; omega); (case aO => exact Kd.S_mono (Kd.S_below (Kd.S_bound HS.out) HW1.out) (fun k_ hk => ⟨hk.1, fun h2 => by have h3 := Kd.R_base HN1.out k_ h2.symm; have h4 := hk.2.2.1; omega⟩)); (case aB => exact below_step HB.out HW1.out); (case aS => exact (below_step HB.out HW1.out).size); (case aL => have := LM.out; omega); intro v82 w11 ho hb hg hat; rw [← EP.out] at ho; have HS1 := Aside0.mk ho; have HB1 := Aside0.mk hb; have HL1 := Aside0.mk (r_stay (Kd.S_below HS.out HW1.out) (Kd.R_below HL.out HW1.out) hg); have BM1 := Aside0.mk (blk_grown (blk_below BM.out HW1.out) hg (Kd.S_ne (Kd.S_below HS.out HW1.out) (blk_below BM.out HW1.out) (by decide))); have BX1 := Aside0.mk (blk_grown (blk_below BX.out HW1.out) hg (Kd.S_ne (Kd.S_below HS.out HW1.out) (blk_below BX.out HW1.out) (by decide))); have BR1 := Aside0.mk (blk_grown (blk_below BR.out HW1.out) hg (Kd.S_ne (Kd.S_below HS.out HW1.out) (blk_below BR.out HW1.out) (by decide))); have FN := Aside0.mk (Kd.F_grown (Kd.R_F (Kd.R_tight rfl HN1.out)) hg (fun k_ hk => sr_ne (Kd.S_below HS.out HW1.out) HN1.out k_ hk)); clear ho hb hg hat hz1 hf1; obtain ⟨A82, c82, e82⟩ := Kd.S_slice HS1.out; subst e82; have hz2 : w11.cell? ⟨gM, 0, none⟩ = some (.slice (some ad) P.length cM) := (blk_cell BM1.out 0).trans rfl; have hf2 := blk_frozen BM1.out 0; have hz3 : w11.cell? ⟨gR, 0, none⟩ = some (.slice none 0 0) := (blk_cell BR1.out 0).trans rfl; have hz4 : w11.cell? ⟨gR, 1, none⟩ = some (.slice none 0 0) := (blk_cell BR1.out 1).trans rfl; have hz5 : w11.cell? ⟨gR, 2, none⟩ = some (.slice none 0 0) := (blk_cell BR1.out 2).trans rfl; have hf3 := blk_frozen BR1.out 0; have hf4 := blk_frozen BR1.out 1; have hf5 := blk_frozen BR1.out 2; have hnb := NRM.out; have hnc := Ne.symm NRM.out))
                                      refine bodyPost_ret (results_ct rfl _ _ gR 34 #[.slice none 0 0, .slice none 0 0, .slice none 0 0] (0, 0) _ rfl (blk_put (cs := #[.slice none 0 0, .slice none 0 0, .slice none 0 0]) (blk_put (cs := #[.slice none 0 0, .slice none 0 0, .slice none 0 0]) (blk_put (cs := #[.slice none 0 0, .slice none 0 0, .slice none 0 0]) (blk_far BR1.out NRM.out _) 0 _ rfl) 1 _ rfl) 2 _ rfl) Try.underlying34 rfl (by kernel_rfl)) rfl ?_
                                      exact ⟨.slice none 0 0, .slice none 0 0, .slice none 0 0, fun _ => False, fun _ => False, fun _ => False, rfl, Kd.S_nil _ _ _ _ _, Kd.R_nil _ _ _ _ _, Kd.S_nil _ _ _ _ _, fun _ h => h.elim, fun _ h => h.elim, fun _ h => by simp at h, below_set (below_set (below_set (below_set HB1.out GM.out) GR.out) GR.out) GR.out⟩
                                    · rw [if_neg d4] at H
                                      have d4b0 : decide ((P'.length : Int) > 30) = false := decide_eq_false d4
                                      have d4b1 : decide (30 < (P'.length : Int)) = false := decide_eq_false d4
                                      clear d4
                                      by_cases d5 : i = 0
                                      · rw [if_pos d5] at H
                                        have d5b0 : (i == 0) = true := beq_iff_eq.mpr d5
                                        clear d5
                                        by_cases d6 : L.length < 1000000
                                        · rw [if_pos d6] at H
                                          have H' := Aside0.mk H
                                          have LL := Aside0.mk d6
                                          have HNl := Aside0.mk (Kd.R_reads' HN.out).2.1
                                          clear H d6
                                          go_wp2_with (first
                                            | (go_at_call 67; (with_reducible refine (number_of An (some ad) cn cM next P gM _ ?s1 ?s2 ?s3 ?s4).mono ?_); (case s1 => exact (Kd.R_reads' HN.out).2.2); (case s2 => exact (Kd.R_reads' HN.out).2.1); (case s3 => exact Kd.C_below (Kd.S_reads' HS.out).2.2 HW.out); (case s4 => exact (blk_cell (blk_below BM.out HW.out) 0).trans rfl); rintro e w10 ⟨rfl, hb⟩; have HW1 := Aside0.mk (below_step HW.out hb); have HN1 := Aside0.mk (Kd.R_below HN.out hb); have hz1 : w10.cell? ⟨gM, 0, none⟩ = some (.slice (some ad) P.length cM) := (blk_cell (blk_below BM.out HW1.out) 0).trans rfl; have hf1 := blk_frozen (blk_below BM.out HW1.out) 0; clear hb)
                                            | ((with_reducible refine gate_builtin (b := .append) (xs := #[.tmp 79, .tmp 81]) rfl ?_); at_builtin; refine Kd.S_append kRw (w0 := w) w.heap.size rfl (.tmp 79) (.tmp 81) 24 25 (.slice none 0 0) 24 rfl Try.underlying24 info25 rfl (by decide) (by omega) (.slice (some ad) P.length cM) P next [.slice An next.length cn] (fun k_ => some k_ ≠ (vL : Value).ownBlock) (fun k_ => some k_ = (.slice An next.length cn : Value).ownBlock) rfl rfl ?aP ?aK ?aF ?aO ?aB ?aS ?aL ?_; (case aP => exact ⟨_, rfl, Kd.R_lower (Kd.R_tight rfl HN1.out) HB.out.size⟩); (case aK => exact fun k_ hk => ⟨fun h2 => by have h3 := Kd.R_base HN1.out k_ hk.symm; have h4 := Kd.R_lt HL.out k_ h2.symm; omega, fun h2 => by have h3 := Kd.R_base HN1.out k_ hk.symm; have h4 := Kd.S_lt HS.out k_ h2.symm; omega⟩); (case aF => exact fun k_ hk h2 => by have h3 := HW1.out.size; have h4 := Kd.R_lt HL.out k_ h2.symm; omega); (case aO => exact Kd.S_mono (Kd.S_below (Kd.S_bound HS.out) HW1.out) (fun k_ hk => ⟨hk.1, fun h2 => by have h3 := Kd.R_base HN1.out k_ h2.symm; have h4 := hk.2.2.1; omega⟩)); (case aB => exact below_step HB.out HW1.out); (case aS => exact (below_step HB.out HW1.out).size); (case aL => have := LM.out; omega); intro v82 w11 ho hb hg hat; rw [← EP.out] at ho; have HS1 := Aside0.mk ho; have HB1 := Aside0.mk hb; have HL1 := Aside0.mk (r_stay (Kd.S_below HS.out HW1.out) (Kd.R_below HL.out HW1.out) hg); have BM1 := Aside0.mk (blk_grown (blk_below BM.out HW1.out) hg (Kd.S_ne (Kd.S_below HS.out HW1.out) (blk_below BM.out HW1.out) (by decide))); have BX1 := Aside0.mk (blk_grown (blk_below BX.out HW1.out) hg (Kd.S_ne (Kd.S_below HS.out HW1.out) (blk_below BX.out HW1.out) (by decide))); have BR1 := Aside0.mk (blk_grown (blk_below BR.out HW1.out) hg (Kd.S_ne (Kd.S_below HS.out HW1.out) (blk_below BR.out HW1.out) (by decide))); have FN := Aside0.mk (Kd.F_grown (Kd.R_F (Kd.R_tight rfl HN1.out)) hg (fun k_ hk => sr_ne (Kd.S_below HS.out HW1.out) HN1.out k_ hk)); clear ho hb hg hat hz1 hf1; obtain ⟨A82, c82, e82⟩ := Kd.S_slice HS1.out; subst e82; have hz2 : w11.cell? ⟨gM, 0, none⟩ = some (.slice (some ad) P.length cM) := (blk_cell BM1.out 0).trans rfl; have hf2 := blk_frozen BM1.out 0; have hz3 : w11.cell? ⟨gR, 0, none⟩ = some (.slice none 0 0) := (blk_cell BR1.out 0).trans rfl; have hz4 : w11.cell? ⟨gR, 1, none⟩ = some (.slice none 0 0) := (blk_cell BR1.out 1).trans rfl; have hz5 : w11.cell? ⟨gR, 2, none⟩ = some (.slice none 0 0) := (blk_cell BR1.out 2).trans rfl; have hf3 := blk_frozen BR1.out 0; have hf4 := blk_frozen BR1.out 1; have hf5 := blk_frozen BR1.out 2; have hnb := NRM.out; have hnc := Ne.symm NRM.out))
                                          have HS2 := Aside0.mk (Kd.S_set HS1.out BM1.out (by decide) 0 (.slice A82 P'.length c82))
                                          have HL2 := Aside0.mk (Kd.R_step (w1 := w11.setCell ⟨gM, 0, none⟩ (.slice A82 P'.length c82)) HL1.out (fun k_ hk _ => Below.heap_setCell _ _ _ _ (fun he => by obtain ⟨x_, e_⟩ := Kd.R_typed HL1.out k_ hk.symm; rw [he, BM1.out] at e_; simp at e_)))
                                          have BM2 := Aside0.mk (blk_put (cs := #[.slice (some ad) P.length cM, vL, .slice none 0 0]) BM1.out 0 (.slice A82 P'.length c82) rfl)
                                          have BX2 := Aside0.mk (blk_far BX1.out NXM.out (.slice A82 P'.length c82) (p := ⟨gM, 0, none⟩))
                                          have BR2 := Aside0.mk (blk_far BR1.out NRM.out (.slice A82 P'.length c82) (p := ⟨gM, 0, none⟩))
                                          have HB2 := Aside0.mk (below_set HB1.out GM.out (j := 0) (v := .slice A82 P'.length c82))
                                          have FN2 := Aside0.mk (Kd.F_far (p := ⟨gM, 0, none⟩) FN.out (fun k_ hk he => by obtain ⟨x_, e_⟩ := Kd.R_typed HN1.out k_ hk.symm; have h9 := blk_below BM.out HW1.out; rw [he] at e_; rw [h9] at e_; simp at e_) (.slice A82 P'.length c82))
                                          generalize w11.setCell ⟨gM, 0, none⟩ (.slice A82 P'.length c82) = wb at HS2 HL2 BM2 BX2 BR2 HB2 FN2 ⊢
                                          obtain ⟨AL, cL, eL⟩ := Kd.R_slice HL2.out
                                          subst eL
                                          refine start_ (n := 9) (S := fun w' => w'.cell? ⟨gM, 1, none⟩ = some (.slice AL L.length cL)) (ds := [6, 8]) #[false, false, false, false, false, false, false, false, false] (by kernel_rfl) rfl rfl ((blk_cell BM2.out 1).trans rfl) (fun hHeld => ?_)
                                          replace HS2 := Aside0.mk (Kd.S_drew HS2.out)
                                          replace HL2 := Aside0.mk (Kd.R_drew HL2.out)
                                          replace BM2 := Aside0.mk (blk_drew BM2.out)
                                          replace BX2 := Aside0.mk (blk_drew BX2.out)
                                          replace BR2 := Aside0.mk (blk_drew BR2.out)
                                          replace HB2 := Aside0.mk (below_drew1 HB2.out)
                                          replace FN2 := Aside0.mk (Kd.F_drew FN2.out)
                                          generalize wb.drew = wc at HS2 HL2 BM2 BX2 BR2 HB2 FN2 hHeld ⊢
                                          refine pure_ (i := 0) (N := some 91) (v := ?_) (a' := ?_) #[true, false, false, false, false, false, false, false, false] rfl rfl (by kernel_rfl) (fun _ _ _ h => h) (Or.inl ⟨by rfl, ?_⟩) ?_ ?_
                                          rotate_left
                                          · intro w'
                                            go_simp
                                            first | with_reducible rfl | (rw [if_neg (by omega)]; done)
                                          rotate_left
                                          · simp only [Act.put, List.setIfInBounds_toArray, List.set_cons_zero, List.set_cons_succ, i64_w, i32_w]
                                            rfl
                                          refine pure_ (i := 2) (N := some 93) (v := ?_) (a' := ?_) #[true, false, true, false, false, false, false, false, false] rfl rfl (by kernel_rfl) (fun _ _ _ h => h) (Or.inl ⟨by rfl, ?_⟩) ?_ ?_
                                          rotate_left
                                          · intro w'
                                            go_simp
                                            first | with_reducible rfl | (rw [if_neg (by omega)]; done)
                                          rotate_left
                                          · simp only [Act.put, List.setIfInBounds_toArray, List.set_cons_zero, List.set_cons_succ, i64_w, i32_w]
                                            rfl
                                          refine pure_ (i := 3) (N := some 94) (v := ?_) (a' := ?_) #[true, false, true, true, false, false, false, false, false] rfl rfl (by kernel_rfl) (fun _ _ _ h => h) (Or.inl ⟨by rfl, ?_⟩) ?_ ?_
                                          rotate_left
                                          · intro w'
                                            go_simp
                                            first | with_reducible rfl | (rw [if_neg (by omega)]; done)
                                          rotate_left
                                          · simp only [Act.put, List.setIfInBounds_toArray, List.set_cons_zero, List.set_cons_succ, i64_w, i32_w]
                                            rfl
                                          refine take_ (i := 1) (N := some 92) (v := ?_) (a' := ?_) #[true, true, true, true, false, false, false, false, false] rfl rfl (by kernel_rfl) (fun _ _ _ h => h) (Or.inl ⟨by rfl, ?_⟩) hHeld ?_ ?_
                                          rotate_left
                                          · intro w' s0_
                                            go_simp
                                            first | with_reducible rfl | (rw [if_neg (by omega)]; done)
                                          rotate_left
                                          · simp only [Act.put, List.setIfInBounds_toArray, List.set_cons_zero, List.set_cons_succ, i64_w, i32_w]
                                            rfl
                                          refine one_ (i := 4) (N := some 95) #[true, true, true, true, true, false, false, false, false] rfl rfl (by kernel_rfl) (by decide) (fun K hK => ?_)
                                          refine goesC_ #[.pointer (some ⟨gM, 0, none⟩)] Try.func67 (by kernel_rfl) rfl #[.slice An next.length cn] (by rfl) rfl rfl rfl (by (try simp only [List.map_toArray, List.map_cons, List.map_nil]); first | done | rfl) #[.slice An next.length cn, .pointer (some ⟨gM, 0, none⟩)] (by rfl) ?_
                                          with_reducible refine (number_of An (A82) cn c82 next P' gM _ ?s1 ?s2 ?s3 ?s4).mono ?_
                                          (case s1 => exact Kd.F_now FN2.out)
                                          (case s2 => exact HNl.out)
                                          (case s3 => exact (Kd.S_reads' HS2.out).2.2)
                                          (case s4 => exact (blk_cell BM2.out 0).trans rfl)
                                          rintro e wd ⟨rfl, hb⟩
                                          refine ⟨_, rfl, ?_⟩
                                          replace HS2 := Aside0.mk (Kd.S_below HS2.out hb)
                                          replace HL2 := Aside0.mk (Kd.R_below HL2.out hb)
                                          replace BM2 := Aside0.mk (blk_below BM2.out hb)
                                          replace BX2 := Aside0.mk (blk_below BX2.out hb)
                                          replace BR2 := Aside0.mk (blk_below BR2.out hb)
                                          replace HB2 := Aside0.mk (below_step HB2.out hb)
                                          clear hb FN2
                                          refine hK.out _ _ ((blk_cell BM2.out 1).trans rfl) (fun hHeld => ?_)
                                          clear hK K
                                          refine norm_ (a' := ?_) ?_ ?_
                                          rotate_left
                                          · show Act.put _ (some 95) _ = _
                                            simp only [Act.put, List.setIfInBounds_toArray, List.set_cons_zero, List.set_cons_succ, i64_w, i32_w]
                                            rfl
                                          refine one_ (i := 5) (N := some 96) #[true, true, true, true, true, true, false, false, false] rfl rfl (by kernel_rfl) (by decide) (fun K hK => ?_)
                                          refine value_ (w1 := ?_) (v := ?_) (by rfl) rfl ?_ ?_
                                          rotate_left 2
                                          · go_simp
                                            constructor
                                            · rfl
                                            · rfl
                                          refine hK.out _ _ ((blk_cell (blk_alloc BM2.out _) 1).trans rfl) (fun hHeld => ?_)
                                          clear hK K
                                          refine norm_ (a' := ?_) ?_ ?_
                                          rotate_left
                                          · show Act.put _ (some 96) _ = _
                                            simp only [Act.put, List.setIfInBounds_toArray, List.set_cons_zero, List.set_cons_succ, i64_w, i32_w]
                                            rfl
                                          refine last_ (i := 6) (N := some 97) #[true, true, true, true, true, true, true, false, false] rfl rfl (by kernel_rfl) (by decide) (fun K hK => ?_)
                                          refine Kd.R_append_step (Kd.int .i64) (w0 := w) w.heap.size (by rfl) (.tmp 92) (.tmp 96) 25 3 (.int .i64 0) 8 rfl Try.underlying25 info3 rfl (by decide) (by omega) (.slice AL L.length cL) L (numOf P' next) [.int .i64 (numOf P' next)] (fun _ => True) (fun _ => False) rfl rfl ?aP (fun _ hk => hk.elim) ?aF ?aO ?aB ?aS ?aL ?_
                                          (case aP => exact rfl)
                                          (case aB => exact HB2.out)
                                          (case aF => exact fun _ _ => trivial)
                                          (case aO => exact Kd.R_mono HL2.out (fun _ _ => trivial))
                                          (case aS => exact HB2.out.size)
                                          (case aL => have := LL.out; omega)
                                          intro v97 we ho hb hg hat
                                          have HL3 := Aside0.mk (Kd.R_tight rfl ho)
                                          have HS3 := Aside0.mk (Kd.S_after (ok := fun _ => True) (Kd.S_mono HS2.out (fun _ hk => ⟨trivial, hk⟩)) hg hat)
                                          have BM3 := Aside0.mk (blk_grown BM2.out hg (Kd.R_ne HL2.out BM2.out (by decide)))
                                          have BX3 := Aside0.mk (blk_grown BX2.out hg (Kd.R_ne HL2.out BX2.out (by decide)))
                                          have BR3 := Aside0.mk (blk_grown BR2.out hg (Kd.R_ne HL2.out BR2.out (by decide)))
                                          have HB3 := Aside0.mk hb
                                          clear ho hb hg hat HS2 HL2 BM2 BX2 BR2 HB2
                                          obtain ⟨AN, cN, eN⟩ := Kd.R_slice HL3.out
                                          rw [List.length_append, List.length_singleton] at eN
                                          subst eN
                                          refine hK.out _ _ ?_
                                          clear hK K
                                          refine norm_ (a' := ?_) ?_ ?_
                                          rotate_left
                                          · show Act.put _ (some 97) _ = _
                                            simp only [Act.put, List.setIfInBounds_toArray, List.set_cons_zero, List.set_cons_succ, i64_w, i32_w]
                                            rfl
                                          refine pure_ (i := 7) (N := some 98) (v := ?_) (a' := ?_) #[true, true, true, true, true, true, true, true, false] rfl rfl (by kernel_rfl) (fun _ _ _ h => h) (Or.inl ⟨by rfl, ?_⟩) ?_ ?_
                                          rotate_left
                                          · intro w'
                                            go_simp
                                            first | with_reducible rfl | (rw [if_neg (by omega)]; done)
                                          rotate_left
                                          · simp only [Act.put, List.setIfInBounds_toArray, List.set_cons_zero, List.set_cons_succ, i64_w, i32_w]
                                            rfl
                                          refine last_ (i := 8) (N := none) #[true, true, true, true, true, true, true, true, true] rfl rfl (by kernel_rfl) (by decide) (fun K hK => ?_)
                                          have hs86 : we.cell? ⟨gM, 1, none⟩ = some (.slice AL L.length cL) := (blk_cell BM3.out 1).trans rfl
                                          have hfs86 := blk_frozen BM3.out 1
                                          have hns1 := NXM.out
                                          have hns2 := NRM.out
                                          have hms1 := Ne.symm NXM.out
                                          have hms2 := Ne.symm NRM.out
                                          refine skip_ (w1 := ?_) (by rfl) rfl ?_ ?_
                                          rotate_left
                                          · go_simp
                                            rfl
                                          refine hK.out _ _ ?_
                                          clear hK K
                                          refine done_ (by kernel_rfl) ?_
                                          try go_wp2
                                          go_roundg k4
                                          case measure => have := HK2.out; have := HK3.out; have := HK4.out; omega
                                          case rel => exact ⟨P', L ++ [numOf P' next], wrap64 (kk + 1), _, .slice AN (L.length + 1) cN, rfl, H', ⟨by have := HK2.out; have := HK3.out; have := HK4.out; omega⟩, ⟨Kd.S_mono (Kd.S_set HS3.out BM3.out (by decide) 1 _) (fun _ hk => hk.2)⟩, ⟨Kd.R_mono (Kd.R_step HL3.out (fun k_ hk _ => Below.heap_setCell _ _ _ _ (fun he => by obtain ⟨x_, e_⟩ := Kd.R_typed HL3.out k_ hk.symm; rw [he, BM3.out] at e_; simp at e_))) (fun _ hk => hk)⟩, ⟨blk_put (cs := #[.slice (A82) P'.length c82, .slice AL L.length cL, .slice none 0 0]) BM3.out 1 _ rfl⟩, ⟨blk_far BX3.out NXM.out _⟩, ⟨blk_far BR3.out NRM.out _⟩, ⟨below_set HB3.out GM.out⟩⟩
                                        · rw [if_neg d6] at H
                                          exact absurd H (by simp)
                                      · rw [if_neg d5] at H
                                        have H' := Aside0.mk H
                                        clear H
                                        have d5b0 : (i == 0) = false := beq_eq_false_iff_ne.mpr d5
                                        clear d5
                                        go_wp2_with (first
                                          | (go_at_call 67; (with_reducible refine (number_of An (some ad) cn cM next P gM _ ?s1 ?s2 ?s3 ?s4).mono ?_); (case s1 => exact (Kd.R_reads' HN.out).2.2); (case s2 => exact (Kd.R_reads' HN.out).2.1); (case s3 => exact Kd.C_below (Kd.S_reads' HS.out).2.2 HW.out); (case s4 => exact (blk_cell (blk_below BM.out HW.out) 0).trans rfl); rintro e w10 ⟨rfl, hb⟩; have HW1 := Aside0.mk (below_step HW.out hb); have HN1 := Aside0.mk (Kd.R_below HN.out hb); have hz1 : w10.cell? ⟨gM, 0, none⟩ = some (.slice (some ad) P.length cM) := (blk_cell (blk_below BM.out HW1.out) 0).trans rfl; have hf1 := blk_frozen (blk_below BM.out HW1.out) 0; clear hb)
                                          | ((with_reducible refine gate_builtin (b := .append) (xs := #[.tmp 79, .tmp 81]) rfl ?_); at_builtin; refine Kd.S_append kRw (w0 := w) w.heap.size rfl (.tmp 79) (.tmp 81) 24 25 (.slice none 0 0) 24 rfl Try.underlying24 info25 rfl (by decide) (by omega) (.slice (some ad) P.length cM) P next [.slice An next.length cn] (fun k_ => some k_ ≠ (vL : Value).ownBlock) (fun k_ => some k_ = (.slice An next.length cn : Value).ownBlock) rfl rfl ?aP ?aK ?aF ?aO ?aB ?aS ?aL ?_; (case aP => exact ⟨_, rfl, Kd.R_lower (Kd.R_tight rfl HN1.out) HB.out.size⟩); (case aK => exact fun k_ hk => ⟨fun h2 => by have h3 := Kd.R_base HN1.out k_ hk.symm; have h4 := Kd.R_lt HL.out k_ h2.symm; omega, fun h2 => by have h3 := Kd.R_base HN1.out k_ hk.symm; have h4 := Kd.S_lt HS.out k_ h2.symm; omega⟩); (case aF => exact fun k_ hk h2 => by have h3 := HW1.out.size; have h4 := Kd.R_lt HL.out k_ h2.symm; omega); (case aO => exact Kd.S_mono (Kd.S_below (Kd.S_bound HS.out) HW1.out) (fun k_ hk => ⟨hk.1, fun h2 => by have h3 := Kd.R_base HN1.out k_ h2.symm; have h4 := hk.2.2.1; omega⟩)); (case aB => exact below_step HB.out HW1.out); (case aS => exact (below_step HB.out HW1.out).size); (case aL => have := LM.out; omega); intro v82 w11 ho hb hg hat; rw [← EP.out] at ho; have HS1 := Aside0.mk ho; have HB1 := Aside0.mk hb; have HL1 := Aside0.mk (r_stay (Kd.S_below HS.out HW1.out) (Kd.R_below HL.out HW1.out) hg); have BM1 := Aside0.mk (blk_grown (blk_below BM.out HW1.out) hg (Kd.S_ne (Kd.S_below HS.out HW1.out) (blk_below BM.out HW1.out) (by decide))); have BX1 := Aside0.mk (blk_grown (blk_below BX.out HW1.out) hg (Kd.S_ne (Kd.S_below HS.out HW1.out) (blk_below BX.out HW1.out) (by decide))); have BR1 := Aside0.mk (blk_grown (blk_below BR.out HW1.out) hg (Kd.S_ne (Kd.S_below HS.out HW1.out) (blk_below BR.out HW1.out) (by decide))); have FN := Aside0.mk (Kd.F_grown (Kd.R_F (Kd.R_tight rfl HN1.out)) hg (fun k_ hk => sr_ne (Kd.S_below HS.out HW1.out) HN1.out k_ hk)); clear ho hb hg hat hz1 hf1; obtain ⟨A82, c82, e82⟩ := Kd.S_slice HS1.out; subst e82; have hz2 : w11.cell? ⟨gM, 0, none⟩ = some (.slice (some ad) P.length cM) := (blk_cell BM1.out 0).trans rfl; have hf2 := blk_frozen BM1.out 0; have hz3 : w11.cell? ⟨gR, 0, none⟩ = some (.slice none 0 0) := (blk_cell BR1.out 0).trans rfl; have hz4 : w11.cell? ⟨gR, 1, none⟩ = some (.slice none 0 0) := (blk_cell BR1.out 1).trans rfl; have hz5 : w11.cell? ⟨gR, 2, none⟩ = some (.slice none 0 0) := (blk_cell BR1.out 2).trans rfl; have hf3 := blk_frozen BR1.out 0; have hf4 := blk_frozen BR1.out 1; have hf5 := blk_frozen BR1.out 2; have hnb := NRM.out; have hnc := Ne.symm NRM.out))
                                        go_roundg k4
                                        case measure => have := HK2.out; have := HK3.out; have := HK4.out; omega
                                        case rel => exact ⟨P', L, wrap64 (kk + 1), _, vL, rfl, H', ⟨by have := HK2.out; have := HK3.out; have := HK4.out; omega⟩, ⟨Kd.S_set HS1.out BM1.out (by decide) 0 _⟩, ⟨Kd.R_step HL1.out (fun k_ hk _ => Below.heap_setCell _ _ _ _ (fun he => by obtain ⟨x_, e_⟩ := Kd.R_typed HL1.out k_ hk.symm; rw [he, BM1.out] at e_; simp at e_))⟩, ⟨blk_put (cs := #[.slice (some ad) P.length cM, vL, .slice none 0 0]) BM1.out 0 _ rfl⟩, ⟨blk_far BX1.out NXM.out _⟩, ⟨blk_far BR1.out NRM.out _⟩, ⟨below_set HB1.out GM.out⟩⟩
                                  · rw [if_neg d3] at H
                                    exact absurd H (by simp)
                                · rw [if_neg d2] at H
                                  have d2b0 : decide (numOf P next < 0) = false := decide_eq_false d2
                                  clear d2
                                  by_cases d5 : i = 0
                                  · rw [if_pos d5] at H
                                    have d5b0 : (i == 0) = true := beq_iff_eq.mpr d5
                                    clear d5
                                    by_cases d6 : L.length < 1000000
                                    · rw [if_pos d6] at H
                                      have H' := Aside0.mk H
                                      have LL := Aside0.mk d6
                                      have HNl := Aside0.mk (Kd.R_reads' HN.out).2.1
                                      clear H d6
                                      go_wp2_with (first
                                        | (go_at_call 67; (with_reducible refine (number_of An (some ad) cn cM next P gM _ ?s1 ?s2 ?s3 ?s4).mono ?_); (case s1 => exact (Kd.R_reads' HN.out).2.2); (case s2 => exact (Kd.R_reads' HN.out).2.1); (case s3 => exact Kd.C_below (Kd.S_reads' HS.out).2.2 HW.out); (case s4 => exact (blk_cell (blk_below BM.out HW.out) 0).trans rfl); rintro e w10 ⟨rfl, hb⟩; have HW1 := Aside0.mk (below_step HW.out hb); have HN1 := Aside0.mk (Kd.R_below HN.out hb); have hz1 : w10.cell? ⟨gM, 0, none⟩ = some (.slice (some ad) P.length cM) := (blk_cell (blk_below BM.out HW1.out) 0).trans rfl; have hf1 := blk_frozen (blk_below BM.out HW1.out) 0; clear hb))
                                      have HS2 := Aside0.mk (Kd.S_below HS.out HW1.out)
                                      have HL2 := Aside0.mk (Kd.R_below HL.out HW1.out)
                                      have BM2 := Aside0.mk (blk_below BM.out HW1.out)
                                      have BX2 := Aside0.mk (blk_below BX.out HW1.out)
                                      have BR2 := Aside0.mk (blk_below BR.out HW1.out)
                                      have HB2 := Aside0.mk (below_step HB.out HW1.out)
                                      have FN2 := Aside0.mk (Kd.R_F HN1.out)
                                      obtain ⟨wb, rfl⟩ : ∃ x, x = w10 := ⟨w10, rfl⟩
                                      obtain ⟨AL, cL, eL⟩ := Kd.R_slice HL2.out
                                      subst eL
                                      refine start_ (n := 9) (S := fun w' => w'.cell? ⟨gM, 1, none⟩ = some (.slice AL L.length cL)) (ds := [6, 8]) #[false, false, false, false, false, false, false, false, false] (by kernel_rfl) rfl rfl ((blk_cell BM2.out 1).trans rfl) (fun hHeld => ?_)
                                      replace HS2 := Aside0.mk (Kd.S_drew HS2.out)
                                      replace HL2 := Aside0.mk (Kd.R_drew HL2.out)
                                      replace BM2 := Aside0.mk (blk_drew BM2.out)
                                      replace BX2 := Aside0.mk (blk_drew BX2.out)
                                      replace BR2 := Aside0.mk (blk_drew BR2.out)
                                      replace HB2 := Aside0.mk (below_drew1 HB2.out)
                                      replace FN2 := Aside0.mk (Kd.F_drew FN2.out)
                                      generalize wb.drew = wc at HS2 HL2 BM2 BX2 BR2 HB2 FN2 hHeld ⊢
                                      refine pure_ (i := 0) (N := some 91) (v := ?_) (a' := ?_) #[true, false, false, false, false, false, false, false, false] rfl rfl (by kernel_rfl) (fun _ _ _ h => h) (Or.inl ⟨by rfl, ?_⟩) ?_ ?_
                                      rotate_left
                                      · intro w'
                                        go_simp
                                        first | with_reducible rfl | (rw [if_neg (by omega)]; done)
                                      rotate_left
                                      · simp only [Act.put, List.setIfInBounds_toArray, List.set_cons_zero, List.set_cons_succ, i64_w, i32_w]
                                        rfl
                                      refine pure_ (i := 2) (N := some 93) (v := ?_) (a' := ?_) #[true, false, true, false, false, false, false, false, false] rfl rfl (by kernel_rfl) (fun _ _ _ h => h) (Or.inl ⟨by rfl, ?_⟩) ?_ ?_
                                      rotate_left
                                      · intro w'
                                        go_simp
                                        first | with_reducible rfl | (rw [if_neg (by omega)]; done)
                                      rotate_left
                                      · simp only [Act.put, List.setIfInBounds_toArray, List.set_cons_zero, List.set_cons_succ, i64_w, i32_w]
                                        rfl
                                      refine pure_ (i := 3) (N := some 94) (v := ?_) (a' := ?_) #[true, false, true, true, false, false, false, false, false] rfl rfl (by kernel_rfl) (fun _ _ _ h => h) (Or.inl ⟨by rfl, ?_⟩) ?_ ?_
                                      rotate_left
                                      · intro w'
                                        go_simp
                                        first | with_reducible rfl | (rw [if_neg (by omega)]; done)
                                      rotate_left
                                      · simp only [Act.put, List.setIfInBounds_toArray, List.set_cons_zero, List.set_cons_succ, i64_w, i32_w]
                                        rfl
                                      refine take_ (i := 1) (N := some 92) (v := ?_) (a' := ?_) #[true, true, true, true, false, false, false, false, false] rfl rfl (by kernel_rfl) (fun _ _ _ h => h) (Or.inl ⟨by rfl, ?_⟩) hHeld ?_ ?_
                                      rotate_left
                                      · intro w' s0_
                                        go_simp
                                        first | with_reducible rfl | (rw [if_neg (by omega)]; done)
                                      rotate_left
                                      · simp only [Act.put, List.setIfInBounds_toArray, List.set_cons_zero, List.set_cons_succ, i64_w, i32_w]
                                        rfl
                                      refine one_ (i := 4) (N := some 95) #[true, true, true, true, true, false, false, false, false] rfl rfl (by kernel_rfl) (by decide) (fun K hK => ?_)
                                      refine goesC_ #[.pointer (some ⟨gM, 0, none⟩)] Try.func67 (by kernel_rfl) rfl #[.slice An next.length cn] (by rfl) rfl rfl rfl (by (try simp only [List.map_toArray, List.map_cons, List.map_nil]); first | done | rfl) #[.slice An next.length cn, .pointer (some ⟨gM, 0, none⟩)] (by rfl) ?_
                                      with_reducible refine (number_of An (some ad) cn cM next P gM _ ?s1 ?s2 ?s3 ?s4).mono ?_
                                      (case s1 => exact Kd.F_now FN2.out)
                                      (case s2 => exact HNl.out)
                                      (case s3 => exact (Kd.S_reads' HS2.out).2.2)
                                      (case s4 => exact (blk_cell BM2.out 0).trans rfl)
                                      rintro e wd ⟨rfl, hb⟩
                                      refine ⟨_, rfl, ?_⟩
                                      replace HS2 := Aside0.mk (Kd.S_below HS2.out hb)
                                      replace HL2 := Aside0.mk (Kd.R_below HL2.out hb)
                                      replace BM2 := Aside0.mk (blk_below BM2.out hb)
                                      replace BX2 := Aside0.mk (blk_below BX2.out hb)
                                      replace BR2 := Aside0.mk (blk_below BR2.out hb)
                                      replace HB2 := Aside0.mk (below_step HB2.out hb)
                                      clear hb FN2
                                      refine hK.out _ _ ((blk_cell BM2.out 1).trans rfl) (fun hHeld => ?_)
                                      clear hK K
                                      refine norm_ (a' := ?_) ?_ ?_
                                      rotate_left
                                      · show Act.put _ (some 95) _ = _
                                        simp only [Act.put, List.setIfInBounds_toArray, List.set_cons_zero, List.set_cons_succ, i64_w, i32_w]
                                        rfl
                                      refine one_ (i := 5) (N := some 96) #[true, true, true, true, true, true, false, false, false] rfl rfl (by kernel_rfl) (by decide) (fun K hK => ?_)
                                      refine value_ (w1 := ?_) (v := ?_) (by rfl) rfl ?_ ?_
                                      rotate_left 2
                                      · go_simp
                                        constructor
                                        · rfl
                                        · rfl
                                      refine hK.out _ _ ((blk_cell (blk_alloc BM2.out _) 1).trans rfl) (fun hHeld => ?_)
                                      clear hK K
                                      refine norm_ (a' := ?_) ?_ ?_
                                      rotate_left
                                      · show Act.put _ (some 96) _ = _
                                        simp only [Act.put, List.setIfInBounds_toArray, List.set_cons_zero, List.set_cons_succ, i64_w, i32_w]
                                        rfl
                                      refine last_ (i := 6) (N := some 97) #[true, true, true, true, true, true, true, false, false] rfl rfl (by kernel_rfl) (by decide) (fun K hK => ?_)
                                      refine Kd.R_append_step (Kd.int .i64) (w0 := w) w.heap.size (by rfl) (.tmp 92) (.tmp 96) 25 3 (.int .i64 0) 8 rfl Try.underlying25 info3 rfl (by decide) (by omega) (.slice AL L.length cL) L (numOf P next) [.int .i64 (numOf P next)] (fun _ => True) (fun _ => False) rfl rfl ?aP (fun _ hk => hk.elim) ?aF ?aO ?aB ?aS ?aL ?_
                                      (case aP => exact rfl)
                                      (case aB => exact HB2.out)
                                      (case aF => exact fun _ _ => trivial)
                                      (case aO => exact Kd.R_mono HL2.out (fun _ _ => trivial))
                                      (case aS => exact HB2.out.size)
                                      (case aL => have := LL.out; omega)
                                      intro v97 we ho hb hg hat
                                      have HL3 := Aside0.mk (Kd.R_tight rfl ho)
                                      have HS3 := Aside0.mk (Kd.S_after (ok := fun _ => True) (Kd.S_mono HS2.out (fun _ hk => ⟨trivial, hk⟩)) hg hat)
                                      have BM3 := Aside0.mk (blk_grown BM2.out hg (Kd.R_ne HL2.out BM2.out (by decide)))
                                      have BX3 := Aside0.mk (blk_grown BX2.out hg (Kd.R_ne HL2.out BX2.out (by decide)))
                                      have BR3 := Aside0.mk (blk_grown BR2.out hg (Kd.R_ne HL2.out BR2.out (by decide)))
                                      have HB3 := Aside0.mk hb
                                      clear ho hb hg hat HS2 HL2 BM2 BX2 BR2 HB2
                                      obtain ⟨AN, cN, eN⟩ := Kd.R_slice HL3.out
                                      rw [List.length_append, List.length_singleton] at eN
                                      subst eN
                                      refine hK.out _ _ ?_
                                      clear hK K
                                      refine norm_ (a' := ?_) ?_ ?_
                                      rotate_left
                                      · show Act.put _ (some 97) _ = _
                                        simp only [Act.put, List.setIfInBounds_toArray, List.set_cons_zero, List.set_cons_succ, i64_w, i32_w]
                                        rfl
                                      refine pure_ (i := 7) (N := some 98) (v := ?_) (a' := ?_) #[true, true, true, true, true, true, true, true, false] rfl rfl (by kernel_rfl) (fun _ _ _ h => h) (Or.inl ⟨by rfl, ?_⟩) ?_ ?_
                                      rotate_left
                                      · intro w'
                                        go_simp
                                        first | with_reducible rfl | (rw [if_neg (by omega)]; done)
                                      rotate_left
                                      · simp only [Act.put, List.setIfInBounds_toArray, List.set_cons_zero, List.set_cons_succ, i64_w, i32_w]
                                        rfl
                                      refine last_ (i := 8) (N := none) #[true, true, true, true, true, true, true, true, true] rfl rfl (by kernel_rfl) (by decide) (fun K hK => ?_)
                                      have hs86 : we.cell? ⟨gM, 1, none⟩ = some (.slice AL L.length cL) := (blk_cell BM3.out 1).trans rfl
                                      have hfs86 := blk_frozen BM3.out 1
                                      have hns1 := NXM.out
                                      have hns2 := NRM.out
                                      have hms1 := Ne.symm NXM.out
                                      have hms2 := Ne.symm NRM.out
                                      refine skip_ (w1 := ?_) (by rfl) rfl ?_ ?_
                                      rotate_left
                                      · go_simp
                                        rfl
                                      refine hK.out _ _ ?_
                                      clear hK K
                                      refine done_ (by kernel_rfl) ?_
                                      try go_wp2
                                      go_roundg k4
                                      case measure => have := HK2.out; have := HK3.out; have := HK4.out; omega
                                      case rel => exact ⟨P, L ++ [numOf P next], wrap64 (kk + 1), _, .slice AN (L.length + 1) cN, rfl, H', ⟨by have := HK2.out; have := HK3.out; have := HK4.out; omega⟩, ⟨Kd.S_mono (Kd.S_set HS3.out BM3.out (by decide) 1 _) (fun _ hk => hk.2)⟩, ⟨Kd.R_mono (Kd.R_step HL3.out (fun k_ hk _ => Below.heap_setCell _ _ _ _ (fun he => by obtain ⟨x_, e_⟩ := Kd.R_typed HL3.out k_ hk.symm; rw [he, BM3.out] at e_; simp at e_))) (fun _ hk => hk)⟩, ⟨blk_put (cs := #[.slice (some ad) P.length cM, .slice AL L.length cL, .slice none 0 0]) BM3.out 1 _ rfl⟩, ⟨blk_far BX3.out NXM.out _⟩, ⟨blk_far BR3.out NRM.out _⟩, ⟨below_set HB3.out GM.out⟩⟩
                                    · rw [if_neg d6] at H
                                      exact absurd H (by simp)
                                  · rw [if_neg d5] at H
                                    have H' := Aside0.mk H
                                    clear H
                                    have d5b0 : (i == 0) = false := beq_eq_false_iff_ne.mpr d5
                                    clear d5
                                    go_wp2_with (first
                                      | (go_at_call 67; (with_reducible refine (number_of An (some ad) cn cM next P gM _ ?s1 ?s2 ?s3 ?s4).mono ?_); (case s1 => exact (Kd.R_reads' HN.out).2.2); (case s2 => exact (Kd.R_reads' HN.out).2.1); (case s3 => exact Kd.C_below (Kd.S_reads' HS.out).2.2 HW.out); (case s4 => exact (blk_cell (blk_below BM.out HW.out) 0).trans rfl); rintro e w10 ⟨rfl, hb⟩; have HW1 := Aside0.mk (below_step HW.out hb); have HN1 := Aside0.mk (Kd.R_below HN.out hb); have hz1 : w10.cell? ⟨gM, 0, none⟩ = some (.slice (some ad) P.length cM) := (blk_cell (blk_below BM.out HW1.out) 0).trans rfl; have hf1 := blk_frozen (blk_below BM.out HW1.out) 0; clear hb))
                                    go_roundg k4
                                    case measure => have := HK2.out; have := HK3.out; have := HK4.out; omega
                                    case rel => exact ⟨P, L, wrap64 (kk + 1), _, vL, rfl, H', ⟨by have := HK2.out; have := HK3.out; have := HK4.out; omega⟩, ⟨Kd.S_below HS.out HW1.out⟩, ⟨Kd.R_below HL.out HW1.out⟩, ⟨blk_below BM.out HW1.out⟩, ⟨blk_below BX.out HW1.out⟩, ⟨blk_below BR.out HW1.out⟩, ⟨below_step HB.out HW1.out⟩⟩
                        · rw [if_neg c4] at H
                          exact absurd H (by simp)
                      · rw [if_neg c3] at H
                        exact absurd H (by simp)
                    · rw [if_neg c2] at H
                      have c2b0 : decide (kk < 3) = false := decide_eq_false c2
                      clear c2
                      have H' := Aside0.mk H
                      clear H
                      go_wp2
                      go_roundg k3
                      case measure => have := HK2.out; have := HK3.out; omega
                      case rel => exact ⟨P, L, wrap64 (i + 1), vM, vL, rfl, H', ⟨by have := HK2.out; have := HK3.out; omega⟩, HS, HL, BM, BX, BR, HB⟩
              · rw [if_neg c1] at H
                have c1b0 : decide (i < (P.length : Int)) = false := decide_eq_false c1
                clear c1
                have H' := Aside0.mk H
                clear H
                obtain ⟨AL, cL, eL⟩ := Kd.R_slice HL.out
                subst eL
                obtain ⟨wp, rfl⟩ : ∃ x, x = wr := ⟨wr, rfl⟩
                have HSp := Aside0.mk (Kd.S_types HS.out BM.out (by decide))
                go_wp2
                first | go_loopg [103] k2 (fun kq v103 w' => ∃ (D : List (List Int)) (a : Int) (vD : Value), v103 = .int .i64 a ∧ Aside0 (impl_BuildMonoid.l5 kq P L D a = some (r1, r2, r3, r4)) ∧ Aside0 (kq ≤ k2) ∧ Aside0 (Kd.S kRw 25 w' w.heap.size (fun k_ => wp.heap.size ≤ k_) vD D) ∧ Aside0 (Kept wp w' (fun k_ => k_ = gM)) ∧ Aside0 (w'.heap[gM]? = some (.cells #[.slice AM P.length cM, .slice AL L.length cL, vD] 34 (0, 0))) ∧ Aside0 (Below w.heap.size w w')) | (simp only [Act.put, List.setIfInBounds_toArray, List.set_cons_succ, List.set_cons_zero]; go_loopg [103] k2 (fun kq v103 w' => ∃ (D : List (List Int)) (a : Int) (vD : Value), v103 = .int .i64 a ∧ Aside0 (impl_BuildMonoid.l5 kq P L D a = some (r1, r2, r3, r4)) ∧ Aside0 (kq ≤ k2) ∧ Aside0 (Kd.S kRw 25 w' w.heap.size (fun k_ => wp.heap.size ≤ k_) vD D) ∧ Aside0 (Kept wp w' (fun k_ => k_ = gM)) ∧ Aside0 (w'.heap[gM]? = some (.cells #[.slice AM P.length cM, .slice AL L.length cL, vD] 34 (0, 0))) ∧ Aside0 (Below w.heap.size w w')))
                case atStart => exact ⟨[], 0, _, rfl, H', ⟨Nat.le_refl _⟩, ⟨Kd.S_nil _ _ _ _ _⟩, ⟨Kept.refl _ _⟩, BM, HB⟩
                case round =>
                  clear H' hz0 hf0 c1b0
                  obtain ⟨D, a, vD, rfl, HA, HK5, HD, HKp, BM5, HB5⟩ := hrel
                  cases gk with
                  | zero =>
                    exact absurd HA.out (by simp [impl_BuildMonoid.l5])
                  | succ k3 =>
                    have H := HA.out
                    clear HA
                    simp only [impl_BuildMonoid.l5] at H
                    obtain ⟨wb, rfl⟩ : ∃ x, x = wr := ⟨wr, rfl⟩
                    obtain ⟨AD, cD, eD⟩ := Kd.S_slice HD.out
                    subst eD
                    have HSb := Aside0.mk (Kd.S_kept HSp.out HKp.out (fun k_ hk h => hk.2 h))
                    by_cases c1 : a < (P.length : Int)
                    · rw [if_pos c1] at H
                      by_cases c2 : 0 ≤ a
                      · rw [if_pos c2] at H
                        have H' := Aside0.mk H
                        clear H
                        have c1b0 : decide (a < (P.length : Int)) = true := decide_eq_true c1
                        obtain ⟨ad, Ax, cx, eA, hx, hlx, hCx⟩ := at_L1 (Kd.S_reads' HSb.out).2.2 a c2 c1
                        cases eA
                        have HCx := Aside0.mk hCx
                        clear hlx hCx
                        replace c1 := eq_true c1
                        replace c2 := eq_true c2
                        go_wp2_with (first
                          | ((with_reducible refine gate_dst (N := 107) rfl ?_); refine Kd.R_lit (Kd.int .i64) _ 3 ?hg (N := 107) ?hd (xs := ([] : List Int)) (inner := []) (ok := fun _ => True) (okp := fun _ => True) ?hr ?hp (fun _ hk => hk) trivial (Below.refl _ _) (Nat.le_refl _) (by simp) ?_; (case hd => rfl); (case hg => rfl); (case hr => first | (go_simp; done) | (go_simp; rfl)); (case hp => exact Reps.none _ _); intro v107 w12 ho hb hg_ hnew_; clear hg_ hnew_; have HN := Aside0.mk ho; have HW := Aside0.mk hb; have hz1 : w12.cell? ⟨gM, 0, none⟩ = some (.slice (some ad) P.length cM) := (blk_cell (blk_below BM5.out hb) 0).trans rfl; have hf1 := blk_frozen (blk_below BM5.out hb) 0; clear ho hb))
                        first | go_loopg [15, 111] k3 (fun kq v15 v111 w' => ∃ (row : List Int) (b : Int), v111 = .int .i64 b ∧ Aside0 (impl_BuildMonoid.l6 kq P L D a (rd_L1 P a) row b = some (r1, r2, r3, r4)) ∧ Aside0 (kq ≤ k3) ∧ Aside0 (Kd.R (Kd.int .i64) 3 w' wb.heap.size (fun _ => True) v15 row) ∧ Aside0 (Below wb.heap.size wb w')) | (simp only [Act.put, List.setIfInBounds_toArray, List.set_cons_succ, List.set_cons_zero]; go_loopg [15, 111] k3 (fun kq v15 v111 w' => ∃ (row : List Int) (b : Int), v111 = .int .i64 b ∧ Aside0 (impl_BuildMonoid.l6 kq P L D a (rd_L1 P a) row b = some (r1, r2, r3, r4)) ∧ Aside0 (kq ≤ k3) ∧ Aside0 (Kd.R (Kd.int .i64) 3 w' wb.heap.size (fun _ => True) v15 row) ∧ Aside0 (Below wb.heap.size wb w')))
                        case atStart => exact ⟨[], 0, rfl, H', ⟨Nat.le_refl _⟩, HN, HW⟩
                        case round =>
                          clear H' HN HW hz1 hf1 hx c1b0
                          obtain ⟨row, b, rfl, HA, HK6, HRow, HWb⟩ := hrel
                          cases gk with
                          | zero =>
                            exact absurd HA.out (by simp [impl_BuildMonoid.l6])
                          | succ k4 =>
                            have H := HA.out
                            clear HA
                            simp only [impl_BuildMonoid.l6] at H
                            obtain ⟨wc, rfl⟩ : ∃ x, x = wr := ⟨wr, rfl⟩
                            obtain ⟨Aw, cw, ew⟩ := Kd.R_slice HRow.out
                            subst ew
                            by_cases d1 : b < (P.length : Int)
                            · rw [if_pos d1] at H
                              by_cases d2 : 0 ≤ b
                              · rw [if_pos d2] at H
                                have H' := Aside0.mk H
                                clear H
                                have d1b0 : decide (b < (P.length : Int)) = true := decide_eq_true d1
                                obtain ⟨ad', Ay, cy, eA', hy, hly, hCy⟩ := at_L1 (Kd.C_below (Kd.S_reads' HSb.out).2.2 HWb.out) b d2 d1
                                cases eA'
                                have HCy := Aside0.mk hCy
                                clear hly hCy
                                replace d1 := eq_true d1
                                replace d2 := eq_true d2
                                go_wp2_with (first
                                  | ((with_reducible refine gate_dst (N := 115) rfl ?_); refine Kd.R_lit (Kd.int .i64) _ 3 ?hg (N := 115) ?hd (xs := ([] : List Int)) (inner := []) (ok := fun _ => True) (okp := fun _ => True) ?hr ?hp (fun _ hk => hk) trivial (Below.refl _ _) (Nat.le_refl _) (by simp) ?_; (case hd => rfl); (case hg => rfl); (case hr => first | (go_simp; done) | (go_simp; rfl)); (case hp => exact Reps.none _ _); intro v115 w13 ho hb hg_ hnew_; clear hg_ hnew_; have HN := Aside0.mk ho; have HW := Aside0.mk hb; clear ho hb))
                                first | go_loopg [18, 118] k4 (fun kq v18 v118 w' => ∃ (both : List Int) (c : Int), v118 = .int .i64 c ∧ Aside0 (impl_BuildMonoid.l7 kq P L D a (rd_L1 P a) row b (rd_L1 P b) both c = some (r1, r2, r3, r4)) ∧ Aside0 (kq ≤ k4) ∧ Aside0 (Kd.R (Kd.int .i64) 3 w' wc.heap.size (fun _ => True) v18 both) ∧ Aside0 (Below wc.heap.size wc w')) | (simp only [Act.put, List.setIfInBounds_toArray, List.set_cons_succ, List.set_cons_zero]; go_loopg [18, 118] k4 (fun kq v18 v118 w' => ∃ (both : List Int) (c : Int), v118 = .int .i64 c ∧ Aside0 (impl_BuildMonoid.l7 kq P L D a (rd_L1 P a) row b (rd_L1 P b) both c = some (r1, r2, r3, r4)) ∧ Aside0 (kq ≤ k4) ∧ Aside0 (Kd.R (Kd.int .i64) 3 w' wc.heap.size (fun _ => True) v18 both) ∧ Aside0 (Below wc.heap.size wc w')))
                                case atStart => exact ⟨[], 0, rfl, H', ⟨Nat.le_refl _⟩, HN, HW⟩
                                case round =>
                                  clear H' HN HW hy d1b0
                                  obtain ⟨both, c, rfl, HA, HK7, HN, HW⟩ := hrel
                                  cases gk with
                                  | zero =>
                                    exact absurd HA.out (by simp [impl_BuildMonoid.l7])
                                  | succ k5 =>
                                    have H := HA.out
                                    clear HA
                                    simp only [impl_BuildMonoid.l7] at H
                                    obtain ⟨An, cn, en⟩ := Kd.R_slice HN.out
                                    subst en
                                    by_cases e1 : c < ((rd_L1 P a).length : Int)
                                    · rw [if_pos e1] at H
                                      by_cases e2 : 0 ≤ c
                                      · rw [if_pos e2] at H
                                        by_cases e3 : 0 ≤ rd (rd_L1 P a) c
                                        · rw [if_pos e3] at H
                                          by_cases e4 : rd (rd_L1 P a) c < ((rd_L1 P b).length : Int)
                                          · rw [if_pos e4] at H
                                            by_cases e5 : both.length < 1000000
                                            · rw [if_pos e5] at H
                                              have H' := Aside0.mk H
                                              have LM := Aside0.mk e5
                                              clear H e5
                                              obtain ⟨ax, ex, hx1⟩ := Kd.at_int (Kd.C_below (Kd.C_below HCx.out HWb.out) HW.out) c e2 e1
                                              cases ex
                                              obtain ⟨ay, ey, hx2⟩ := Kd.at_int (Kd.C_below HCy.out HW.out) (rd (rd_L1 P a) c) e3 e4
                                              cases ey
                                              have e1b0 : decide (c < ((rd_L1 P a).length : Int)) = true := decide_eq_true e1
                                              replace e1 := eq_true e1
                                              replace e2 := eq_true e2
                                              replace e3 := eq_true e3
                                              replace e4 := eq_true e4
                                              go_wp2_with (first
                                                | ((with_reducible refine gate_builtin (b := .append) (xs := #[.tmp 122, .tmp 127]) rfl ?_); at_builtin; refine Kd.R_append (Kd.int .i64) (w0 := wc) wc.heap.size rfl (.tmp 122) (.tmp 127) 25 3 (.int .i64 0) 8 rfl Try.underlying25 info3 rfl (by decide) (by omega) (.slice An both.length cn) both (rd (rd_L1 P b) (rd (rd_L1 P a) c)) [.int .i64 (rd (rd_L1 P b) (rd (rd_L1 P a) c))] (fun _ => True) (fun k_ => False) rfl rfl ?aP (fun _ hk => hk.elim) (fun _ _ => trivial) ?aO ?aB ?aS ?aL ?_; (case aP => exact rfl); (case aO => exact HN.out); (case aB => exact HW.out); (case aS => exact (HW.out).size); (case aL => have := LM.out; omega); intro v128 w128 ho hb hg hat; have HN' := Aside0.mk ho; have HW' := Aside0.mk hb; clear ho hb hg hat))
                                              go_roundg k5
                                              case measure => have := HK7.out; omega
                                              case rel => exact ⟨both ++ [rd (rd_L1 P b) (rd (rd_L1 P a) c)], wrap64 (c + 1), rfl, H', ⟨by have := HK7.out; omega⟩, HN', HW'⟩
                                            · rw [if_neg e5] at H
                                              exact absurd H (by simp)
                                          · rw [if_neg e4] at H
                                            exact absurd H (by simp)
                                        · rw [if_neg e3] at H
                                          exact absurd H (by simp)
                                      · rw [if_neg e2] at H
                                        exact absurd H (by simp)
                                    · rw [if_neg e1] at H
                                      have e1b0 : decide (c < ((rd_L1 P a).length : Int)) = false := decide_eq_false e1
                                      clear e1
                                      by_cases e5 : row.length < 1000000
                                      · rw [if_pos e5] at H
                                        have H' := Aside0.mk H
                                        have LM := Aside0.mk e5
                                        clear H e5
                                        have BMc := Aside0.mk (blk_below (blk_below BM5.out HWb.out) HW.out)
                                        go_wp2_with (first
                                          | (go_at_call 67; (with_reducible refine (number_of An (some ad) cn cM both P gM _ ?s1 ?s2 ?s3 ?s4).mono ?_); (case s1 => exact (Kd.R_reads' HN.out).2.2); (case s2 => exact (Kd.R_reads' HN.out).2.1); (case s3 => exact Kd.C_below (Kd.C_below (Kd.S_reads' HSb.out).2.2 HWb.out) HW.out); (case s4 => exact (blk_cell BMc.out 0).trans rfl); rintro e w20 ⟨rfl, hb⟩; have HW2 := Aside0.mk (below_step HWb.out (below_step HW.out hb)); have HRow2 := Aside0.mk (Kd.R_below HRow.out (below_step HW.out hb)); clear hb)
                                          | ((with_reducible refine gate_builtin (b := .append) (xs := #[.tmp 130, .tmp 134]) rfl ?_); at_builtin; refine Kd.R_append (Kd.int .i64) (w0 := wb) wb.heap.size rfl (.tmp 130) (.tmp 134) 25 3 (.int .i64 0) 8 rfl Try.underlying25 info3 rfl (by decide) (by omega) (.slice Aw row.length cw) row (numOf P both) [.int .i64 (numOf P both)] (fun _ => True) (fun k_ => False) rfl rfl ?aP (fun _ hk => hk.elim) (fun _ _ => trivial) ?aO ?aB ?aS ?aL ?_; (case aP => exact rfl); (case aO => exact HRow2.out); (case aB => exact HW2.out); (case aS => exact (HW2.out).size); (case aL => have := LM.out; omega); intro v135 w135 ho hb hg hat; have HN' := Aside0.mk ho; have HW' := Aside0.mk hb; clear ho hb hg hat))
                                        go_roundg k5
                                        case measure => have := HK6.out; have := HK7.out; omega
                                        case rel => exact ⟨row ++ [numOf P both], wrap64 (b + 1), rfl, H', ⟨by have := HK6.out; have := HK7.out; omega⟩, HN', HW'⟩
                                      · rw [if_neg e5] at H
                                        exact absurd H (by simp)
                              · rw [if_neg d2] at H
                                exact absurd H (by simp)
                            · rw [if_neg d1] at H
                              have d1b0 : decide (b < (P.length : Int)) = false := decide_eq_false d1
                              clear d1
                              by_cases d3 : D.length < 1000000
                              · rw [if_pos d3] at H
                                have H' := Aside0.mk H
                                have LM := Aside0.mk d3
                                clear H d3
                                have BMb := Aside0.mk (blk_below BM5.out HWb.out)
                                have hz1 : wc.cell? ⟨gM, 2, none⟩ = some (.slice AD D.length cD) := (blk_cell BMb.out 2).trans rfl
                                have hf1 := blk_frozen BMb.out 2
                                have szb := HKp.out.1
                                go_wp2_with (first
                                  | ((with_reducible refine gate_builtin (b := .append) (xs := #[.tmp 138, .tmp 140]) rfl ?_); at_builtin; refine Kd.S_append kRw (w0 := w) w.heap.size rfl (.tmp 138) (.tmp 140) 24 25 (.slice none 0 0) 24 rfl Try.underlying24 info25 rfl (by decide) (by omega) (.slice AD D.length cD) D row [.slice Aw row.length cw] (fun k_ => wp.heap.size ≤ k_) (fun k_ => some k_ = (.slice Aw row.length cw : Value).ownBlock) rfl rfl ?aP ?aK ?aF ?aO ?aB ?aS ?aL ?_; (case aP => exact ⟨_, rfl, Kd.R_lower (Kd.R_tight rfl HRow.out) HB5.out.size⟩); (case aK => exact fun k_ hk => ⟨by have h3 := Kd.R_base HRow.out k_ hk.symm; omega, fun h2 => by have h3 := Kd.R_base HRow.out k_ hk.symm; have h4 := Kd.S_lt HD.out k_ h2.symm; omega⟩); (case aF => exact fun k_ hk => by have h3 := HWb.out.size; omega); (case aO => exact Kd.S_mono (Kd.S_below (Kd.S_bound HD.out) HWb.out) (fun k_ hk => ⟨hk.1, fun h2 => by have h3 := Kd.R_base HRow.out k_ h2.symm; have h4 := hk.2.2.1; omega⟩)); (case aB => exact below_step HB5.out HWb.out); (case aS => exact (below_step HB5.out HWb.out).size); (case aL => have := LM.out; omega); intro v141 w30 ho hb hg hat; have HS1 := Aside0.mk ho; have HB1 := Aside0.mk hb; have HK1 := Aside0.mk (Kept.of_grown hg (Kept.below HKp.out HWb.out) (fun k_ e_ => .inr ((Kd.S_R HD.out).1 k_ e_))); have BM1 := Aside0.mk (blk_grown BMb.out hg (Kd.S_ne (Kd.S_below HD.out HWb.out) BMb.out (by decide))); clear ho hb hg hat hz1 hf1; obtain ⟨AE, cE, eE⟩ := Kd.S_slice HS1.out; rw [List.length_append, List.length_singleton] at eE; subst eE; have hz2 : w30.cell? ⟨gM, 2, none⟩ = some (.slice AD D.length cD) := (blk_cell BM1.out 2).trans rfl; have hf2 := blk_frozen BM1.out 2))
                                go_roundg k4
                                case measure => have := HK5.out; have := HK6.out; omega
                                case rel => exact ⟨D ++ [row], wrap64 (a + 1), _, rfl, H', ⟨by have := HK5.out; have := HK6.out; omega⟩, ⟨Kd.S_set HS1.out BM1.out (by decide) 2 _⟩, ⟨Kept.setCell HK1.out (p := ⟨gM, 2, none⟩) (.inl rfl) _⟩, ⟨blk_put (cs := #[.slice (some ad) P.length cM, .slice AL L.length cL, .slice AD D.length cD]) BM1.out 2 _ rfl⟩, ⟨below_set HB1.out GM.out⟩⟩
                              · rw [if_neg d3] at H
                                exact absurd H (by simp)
                      · rw [if_neg c2] at H
                        exact absurd H (by simp)
                    · rw [if_neg c1] at H
                      have c1b0 : decide (a < (P.length : Int)) = false := decide_eq_false c1
                      clear c1
                      simp only [Option.some.injEq, Prod.mk.injEq] at H
                      obtain ⟨rfl, rfl, rfl, rfl⟩ := H
                      have BRb := Aside0.mk (blk_kept BR.out HKp.out (fun h => NRM.out h))
                      have HLb := Aside0.mk (Kd.R_kept HL.out HKp.out (fun k_ hk h => by obtain ⟨x_, e_⟩ := Kd.R_typed HL.out k_ hk.symm; rw [h, BM.out] at e_; simp at e_))
                      have HSf := Aside0.mk (Kd.S_bound HSp.out)
                      have hz1 : wb.cell? ⟨gM, 0, none⟩ = some (.slice AM P.length cM) := (blk_cell BM5.out 0).trans rfl
                      have hz2 : wb.cell? ⟨gM, 1, none⟩ = some (.slice AL L.length cL) := (blk_cell BM5.out 1).trans rfl
                      have hz3 : wb.cell? ⟨gM, 2, none⟩ = some (.slice AD D.length cD) := (blk_cell BM5.out 2).trans rfl
                      have hz4 : wb.cell? ⟨gR, 0, none⟩ = some (.slice none 0 0) := (blk_cell BRb.out 0).trans rfl
                      have hz5 : wb.cell? ⟨gR, 1, none⟩ = some (.slice none 0 0) := (blk_cell BRb.out 1).trans rfl
                      have hz6 : wb.cell? ⟨gR, 2, none⟩ = some (.slice none 0 0) := (blk_cell BRb.out 2).trans rfl
                      have hf1 := blk_frozen BM5.out 0
                      have hf2 := blk_frozen BM5.out 1
                      have hf3 := blk_frozen BM5.out 2
                      have hf4 := blk_frozen BRb.out 0
                      have hf5 := blk_frozen BRb.out 1
                      have hf6 := blk_frozen BRb.out 2
                      have hnb := NRM.out
                      have hnc := Ne.symm NRM.out
                      go_wp2
                      refine bodyPost_ret (results_ct rfl _ _ gR 34 #[.slice AM P.length cM, .slice AL L.length cL, .slice AD D.length cD] (0, 0) _ rfl (blk_put (cs := #[.slice AM P.length cM, .slice AL L.length cL, .slice none 0 0]) (blk_put (cs := #[.slice AM P.length cM, .slice none 0 0, .slice none 0 0]) (blk_put (cs := #[.slice none 0 0, .slice none 0 0, .slice none 0 0]) BRb.out 0 _ rfl) 1 _ rfl) 2 _ rfl) Try.underlying34 rfl (by kernel_rfl)) rfl ?_
                      have B1 := blk_put (cs := #[.slice none 0 0, .slice none 0 0, .slice none 0 0]) BRb.out 0 (.slice AM P.length cM) rfl
                      have B2 := blk_put (cs := #[.slice AM P.length cM, .slice none 0 0, .slice none 0 0]) B1 1 (.slice AL L.length cL) rfl
                      have hne : ∀ k_, some k_ = (Value.slice AL L.length cL).ownBlock → k_ ≠ gR := fun k_ hk he => by
                        obtain ⟨x_, e_⟩ := Kd.R_typed HLb.out k_ hk.symm
                        rw [he, BRb.out] at e_
                        simp at e_
                      have sz := HKp.out.1
                      refine ⟨.slice AM P.length cM, .slice AL L.length cL, .slice AD D.length cD, fun k_ => (some k_ ≠ (Value.slice AL L.length cL).ownBlock ∧ k_ ≠ gM) ∧ w.heap.size ≤ k_ ∧ k_ < wp.heap.size, fun k_ => some k_ = (Value.slice AL L.length cL).ownBlock, fun k_ => wp.heap.size ≤ k_ ∧ w.heap.size ≤ k_ ∧ k_ < wb.heap.size, rfl, ?_, ?_, ?_, ?_, ?_, ?_, ?_⟩
                      · exact Kd.S_set (Kd.S_set (Kd.S_set (Kd.S_kept (Kd.S_mono HSf.out (fun k_ hk => ⟨hk.1, hk.2.1, hk.2.2.1⟩)) HKp.out (fun k_ hk h => hk.1.2 h)) BRb.out (by decide) 0 _) B1 (by decide) 1 _) B2 (by decide) 2 _
                      · exact Kd.R_step HLb.out (fun k_ hk _ => (Below.heap_setCell _ _ _ _ (hne k_ hk)).trans ((Below.heap_setCell _ _ _ _ (hne k_ hk)).trans (Below.heap_setCell _ _ _ _ (hne k_ hk))))
                      · exact Kd.S_set (Kd.S_set (Kd.S_set (Kd.S_mono (Kd.S_bound HD.out) (fun k_ hk => ⟨hk.1, hk.2.1, hk.2.2.1⟩)) BRb.out (by decide) 0 _) B1 (by decide) 1 _) B2 (by decide) 2 _
                      · exact fun k_ hk => ⟨hk.1.1, fun h2 => by omega⟩
                      · exact fun k_ hk h2 => by have h3 := Kd.R_lt HL.out k_ hk.symm; omega
                      · intro k_ hk
                        have hs : ((((wb.setCell ⟨gR, 0, none⟩ (.slice AM P.length cM)).setCell ⟨gR, 1, none⟩ (.slice AL L.length cL)).setCell ⟨gR, 2, none⟩ (.slice AD D.length cD))).heap.size = wb.heap.size := by simp
                        rw [hs]
                        rcases hk with hk | hk | hk
                        · exact ⟨hk.2.1, by omega⟩
                        · have h3 := Kd.R_lt HL.out k_ hk.symm
                          have h4 := Kd.R_base HL.out k_ hk.symm
                          exact ⟨h4, by omega⟩
                        · exact ⟨hk.2.1, hk.2.2⟩
                      · exact below_set (below_set (below_set HB5.out GR.out) GR.out) GR.out
  · rw [if_neg hd] at h
    have HV := Aside0.mk (show impl_IsValidDfa.f l0 l1 = some false by rw [show false = dfaB l0 l1 from (Bool.eq_false_iff.mpr hd).symm]; rfl)
    obtain ⟨rfl, rfl, rfl, rfl⟩ : r1 = [] ∧ r2 = [] ∧ r3 = [] ∧ r4 = false := by
      have h2 := Option.some.inj h
      simp only [Prod.mk.injEq] at h2
      exact ⟨h2.1.symm, h2.2.1.symm, h2.2.2.1.symm, h2.2.2.2.symm⟩
    clear h hd
    go_enter Try.func19, Try.ntmps19
    go_wp2_with (first
      | ((with_reducible refine gate_dst (N := 1) rfl ?_); refine box_event ?hg (N := 1) ?hd (cs := #[.slice A0 l0.length c0, .slice A1 l1.length c1]) (t := 49) ?hr ?_; (case hd => rfl); (case hg => rfl); (case hr => first | (go_simp; done) | (go_simp; rfl)); intro gX hgX wX hbX hb; have HB1 := Aside0.mk (below_step HB0.out hb); have BX := Aside0.mk hbX; have GX := Aside0.mk (show w.heap.size ≤ gX by rw [hgX]; exact Nat.le_refl _); clear hbX hb hgX)
      | ((with_reducible refine gate_dst (N := 2) rfl ?_); refine box_event ?hg (N := 2) ?hd (cs := #[.slice none 0 0, .slice none 0 0, .slice none 0 0]) (t := 34) ?hr ?_; (case hd => rfl); (case hg => rfl); (case hr => first | (go_simp; done) | (go_simp; rfl)); intro gR hgR wR hbR hb; have HB2 := Aside0.mk (below_step HB1.out hb); have BX1 := Aside0.mk (blk_below BX.out hb); have BR := Aside0.mk hbR; have GR := Aside0.mk (show w.heap.size ≤ gR by rw [hgR]; exact below_size HB1.out); clear hbR hb hgR BX HB1; have hz0 : wR.cell? ⟨gX, 0, none⟩ = some (.slice A0 l0.length c0) := (blk_cell BX1.out 0).trans rfl; have hf0 := blk_frozen BX1.out 0; have hz1 : wR.cell? ⟨gX, 1, none⟩ = some (.slice A1 l1.length c1) := (blk_cell BX1.out 1).trans rfl; have hf1 := blk_frozen BX1.out 1)
      | (go_at_call 66; (with_reducible refine (impl_IsValidDfa.calls _ _ l0 _ _ l1 false _ ?s1 ?s2 ?s3 ?s4 HV.out).mono ?_); (case s1 => exact Kd.C_below HR0.out HB2.out); (case s2 => exact HC0.out); (case s3 => exact Kd.C_below HR1.out HB2.out); (case s4 => exact HC1.out); rintro e w3 ⟨rfl, hb⟩; have HB3 := Aside0.mk (below_step HB2.out hb); have BX2 := Aside0.mk (blk_below BX1.out hb); have BR1 := Aside0.mk (blk_below BR.out hb); clear hb hz0 hf0 hz1 hf1 BX1 BR HB2; have hz4 : w3.cell? ⟨gR, 0, none⟩ = some (.slice none 0 0) := (blk_cell BR1.out 0).trans rfl; have hz5 : w3.cell? ⟨gR, 1, none⟩ = some (.slice none 0 0) := (blk_cell BR1.out 1).trans rfl; have hz6 : w3.cell? ⟨gR, 2, none⟩ = some (.slice none 0 0) := (blk_cell BR1.out 2).trans rfl; have hf4 := blk_frozen BR1.out 0; have hf5 := blk_frozen BR1.out 1; have hf6 := blk_frozen BR1.out 2))
    refine bodyPost_ret (results_ct rfl _ _ gR 34 #[.slice none 0 0, .slice none 0 0, .slice none 0 0] (0, 0) _ rfl (blk_put (cs := #[.slice none 0 0, .slice none 0 0, .slice none 0 0]) (blk_put (cs := #[.slice none 0 0, .slice none 0 0, .slice none 0 0]) (blk_put (cs := #[.slice none 0 0, .slice none 0 0, .slice none 0 0]) BR1.out 0 _ rfl) 1 _ rfl) 2 _ rfl) Try.underlying34 rfl (by kernel_rfl)) rfl ?_
    exact ⟨.slice none 0 0, .slice none 0 0, .slice none 0 0, fun _ => False, fun _ => False, fun _ => False, rfl, Kd.S_nil _ _ _ _ _, Kd.R_nil _ _ _ _ _, Kd.S_nil _ _ _ _ _, fun _ h => h.elim, fun _ h => h.elim, fun _ h => by simp at h, below_set (below_set (below_set HB3.out GR.out) GR.out) GR.out⟩

end Go.Proofs.Ytjmfpaalglbbhaa.Ext

namespace Go.Proofs.Ytjmfpaalglbbhaa.A
open Go.RowKit Go.Proofs.Ytjmfpaalglbbhaa.Ext Go.Proofs.YtjmfpaalglbbhaaW.PrintWords Go.Proofs.YtjmfpaalglbbhaaW.PrintLast Go.Proofs.YtjmfpaalglbbhaaW.PrintMore
attribute [local go_sem] max2_int min2_int max_two min_two max_three min_three max_four min_four   -- for this text's walks alone
set_option linter.unusedVariables false
set_option linter.unusedSimpArgs false

/-! ### laws_szDfa: function 16 -/
def laws_szDfa.f (k : Nat) (l0_0 : List Bool) (l0_1 : List (List Int)) (a1 : Int) : Option (Int) := (laws_szBoolS.f l0_0 a1).bind fun t16002 => (if t16002 < 0 then (some (-1)) else ((laws_szIntSS.f k l0_1 t16002).bind fun t16003 => (if t16003 < 0 then (some (-1)) else (some t16003))))
theorem laws_szDfa.mono : ∀ a0 a1 a2 k, LeO (laws_szDfa.f k a0 a1 a2) (laws_szDfa.f (k + 1) a0 a1 a2) := by
  intro a0 a1 a2 k
  unfold laws_szDfa.f
  repeat' first
      | (with_reducible exact laws_szIntSS.mono _ _ _)
      | (with_reducible exact LeO.refl _)
      | (with_reducible exact LeO.none _)
      | (with_reducible refine LeO.ite ?_ ?_)
      | (with_reducible refine LeO.bind ?_ (fun _ => ?_))
      | exact laws_szIntSS.mono _ _ _
      | exact LeO.none _
      | refine LeO.ite ?_ ?_
      | refine LeO.bind ?_ (fun _ => ?_)
set_option maxHeartbeats 8000000 in
set_option maxRecDepth 100000 in
theorem laws_szDfa.calls (k : Nat) (A0_0 : Option Addr) (c0_0 : Nat) (l0_0 : List Bool) (A0_1 : Option Addr) (c0_1 : Nat) (l0_1 : List (List Int)) (a1 : Int) (r : Int) (w : World) (hr0_0 : Kd.C Kd.bool w A0_0 l0_0.length l0_0) (hc0_0 : l0_0.length ≤ c0_0) (hr0_1 : Kd.C (Kd.slice 3 (Kd.int .i64)) w A0_1 l0_1.length l0_1) (hc0_1 : l0_1.length ≤ c0_1) (h : laws_szDfa.f k l0_0 l0_1 a1 = some r) :
    Calls Try.prog 16 #[.agg #[.slice A0_0 l0_0.length c0_0, .slice A0_1 l0_1.length c0_1], .int .i64 a1] w fun e w' => e = .returned (.int .i64 r) ∧ Below w.heap.size w w' := by
  have hu45 := Try.underlying45
  have HR0_0 := Aside0.mk hr0_0
  have HC0_0 := Aside0.mk hc0_0
  clear hr0_0 hc0_0
  have HR0_1 := Aside0.mk hr0_1
  have HC0_1 := Aside0.mk hc0_1
  clear hr0_1 hc0_1
  have HB := Aside0.mk (Below.refl w.heap.size w)
  have H : ((laws_szBoolS.f l0_0 a1).bind fun t16002 => (if t16002 < 0 then (some (-1)) else ((laws_szIntSS.f k l0_1 t16002).bind fun t16003 => (if t16003 < 0 then (some (-1)) else (some t16003))))) = some r := h
  clear h
  replace H := Option.bind_eq_some_iff.mp H
  obtain ⟨t16002, A30, H⟩ := H
  replace H : (if t16002 < 0 then (some (-1)) else ((laws_szIntSS.f k l0_1 t16002).bind fun t16003 => (if t16003 < 0 then (some (-1)) else (some t16003)))) = some r := H
  have A3 := Aside0.mk A30
  clear A30
  by_cases c4 : t16002 < 0
  · rw [if_pos c4] at H
    have c4b0 : decide (t16002 < 0) = true := decide_eq_true c4
    clear c4
    obtain rfl := Option.some.inj H
    go_enter Try.func16, Try.ntmps16
    go_wp2_with (first | ((with_reducible refine gate_dst (N := 2) rfl ?_); refine box_event ?hg (N := 2) ?hd (cs := #[.slice A0_0 l0_0.length c0_0, .slice A0_1 l0_1.length c0_1]) (t := 45) ?hr ?_; (case hd => rfl); (case hg => rfl); (case hr => first | (go_simp; done) | (go_simp; rfl)); intro gb16001 hg w5 hbox hb; have n0_ := Aside0.mk (below_step (by repeat (first | (with_reducible first | exact HB.out | apply below_alloc | apply pw_below_drewN | apply below_drew1) | exact HB.out)) hb); have n1_ := Aside0.mk (hbox); have n2_ := Aside0.mk ((by rw [hg]; exact (below_size (by repeat (first | (with_reducible first | exact HB.out | apply below_alloc | apply pw_below_drewN | apply below_drew1) | exact HB.out))) : w.heap.size ≤ gb16001)); have n3_ := Aside0.mk ((by rw [hg]; exact (below_size (by repeat (first | (with_reducible first | exact HB.out | apply below_alloc | apply pw_below_drewN | apply below_drew1) | exact HB.out))) : w.heap.size ≤ gb16001)); clear HB; have HB := n0_; have BK16001 := n1_; have GW16001 := n2_; have GE16001 := n3_; clear n0_ n1_ n2_ n3_; clear hb hbox hg; have hcz6_0 : w5.cell? ⟨gb16001, 0, none⟩ = some (.slice A0_0 l0_0.length c0_0) := (blk_cell BK16001.out 0).trans rfl; have hcz6_1 : w5.cell? ⟨gb16001, 1, none⟩ = some (.slice A0_1 l0_1.length c0_1) := (blk_cell BK16001.out 1).trans rfl; have hfz6_0 := blk_frozen BK16001.out 0; have hfz6_1 := blk_frozen BK16001.out 1) | ((with_reducible refine gate_callee (f := 60) rfl ?_); refine goesL_ (some 8) rfl rfl Try.func60 (by kernel_rfl) rfl #[.slice A0_0 l0_0.length c0_0, .int .i64 a1] rfl (by (try simp only [List.map_toArray, List.map_cons, List.map_nil]); first | done | rfl | (simp only [List.length_drop, List.length_take]; rfl)) ?_; (with_reducible refine (laws_szBoolS.calls _ _ l0_0 a1 t16002 _ ?side1 ?side2 A3.out).mono ?_); (case side1 => repeat (first | exact (Kd.C_below HR0_0.out HB.out) | (with_reducible refine Kd.C_alloc ?_ _) | (with_reducible refine Kd.C_drewN ?_ _) | (with_reducible refine Kd.C_drew ?_))); (case side2 => exact HC0_0.out); rintro e w' ⟨rfl, ⟨nd, rfl⟩⟩; refine ⟨_, rfl, ?_⟩))
    go_ret
    exact ⟨by first | rfl | (simp [errW_none, errW_some] <;> rfl) | (simp [*, errW_none, errW_some] <;> rfl), by repeat (first | (with_reducible first | exact HB.out | apply below_alloc | apply pw_below_drewN | apply below_drew1 | refine below_set ?_ GE16001.out) | exact HB.out)⟩
  · rw [if_neg c4] at H
    have c4b0 : decide (t16002 < 0) = false := decide_eq_false c4
    clear c4
    replace H := Option.bind_eq_some_iff.mp H
    obtain ⟨t16003, A70, H⟩ := H
    replace H : (if t16003 < 0 then (some (-1)) else (some t16003)) = some r := H
    have A7 := Aside0.mk A70
    clear A70
    by_cases c8 : t16003 < 0
    · rw [if_pos c8] at H
      have c8b0 : decide (t16003 < 0) = true := decide_eq_true c8
      clear c8
      obtain rfl := Option.some.inj H
      go_enter Try.func16, Try.ntmps16
      go_wp2_with (first | ((with_reducible refine gate_dst (N := 2) rfl ?_); refine box_event ?hg (N := 2) ?hd (cs := #[.slice A0_0 l0_0.length c0_0, .slice A0_1 l0_1.length c0_1]) (t := 45) ?hr ?_; (case hd => rfl); (case hg => rfl); (case hr => first | (go_simp; done) | (go_simp; rfl)); intro gb16001 hg w9 hbox hb; have n0_ := Aside0.mk (below_step (by repeat (first | (with_reducible first | exact HB.out | apply below_alloc | apply pw_below_drewN | apply below_drew1) | exact HB.out)) hb); have n1_ := Aside0.mk (hbox); have n2_ := Aside0.mk ((by rw [hg]; exact (below_size (by repeat (first | (with_reducible first | exact HB.out | apply below_alloc | apply pw_below_drewN | apply below_drew1) | exact HB.out))) : w.heap.size ≤ gb16001)); have n3_ := Aside0.mk ((by rw [hg]; exact (below_size (by repeat (first | (with_reducible first | exact HB.out | apply below_alloc | apply pw_below_drewN | apply below_drew1) | exact HB.out))) : w.heap.size ≤ gb16001)); clear HB; have HB := n0_; have BK16001 := n1_; have GW16001 := n2_; have GE16001 := n3_; clear n0_ n1_ n2_ n3_; clear hb hbox hg; have hcz10_0 : w9.cell? ⟨gb16001, 0, none⟩ = some (.slice A0_0 l0_0.length c0_0) := (blk_cell BK16001.out 0).trans rfl; have hcz10_1 : w9.cell? ⟨gb16001, 1, none⟩ = some (.slice A0_1 l0_1.length c0_1) := (blk_cell BK16001.out 1).trans rfl; have hfz10_0 := blk_frozen BK16001.out 0; have hfz10_1 := blk_frozen BK16001.out 1) | ((with_reducible refine gate_callee (f := 60) rfl ?_); refine goesL_ (some 8) rfl rfl Try.func60 (by kernel_rfl) rfl #[.slice A0_0 l0_0.length c0_0, .int .i64 a1] rfl (by (try simp only [List.map_toArray, List.map_cons, List.map_nil]); first | done | rfl | (simp only [List.length_drop, List.length_take]; rfl)) ?_; (with_reducible refine (laws_szBoolS.calls _ _ l0_0 a1 t16002 _ ?side1 ?side2 A3.out).mono ?_); (case side1 => repeat (first | exact (Kd.C_below HR0_0.out HB.out) | (with_reducible refine Kd.C_alloc ?_ _) | (with_reducible refine Kd.C_drewN ?_ _) | (with_reducible refine Kd.C_drew ?_))); (case side2 => exact HC0_0.out); rintro e w' ⟨rfl, ⟨nd, rfl⟩⟩; refine ⟨_, rfl, ?_⟩) | ((with_reducible refine gate_callee (f := 45) rfl ?_); refine goesL_ (some 14) rfl rfl Try.func45 (by kernel_rfl) rfl #[.slice A0_1 l0_1.length c0_1, .int .i64 t16002] rfl (by (try simp only [List.map_toArray, List.map_cons, List.map_nil]); first | done | rfl | (simp only [List.length_drop, List.length_take]; rfl)) ?_; (with_reducible refine (laws_szIntSS.calls k _ _ l0_1 t16002 t16003 _ ?side1 ?side2 A7.out).mono ?_); (case side1 => repeat (first | exact (Kd.C_below HR0_1.out (by repeat (first | (with_reducible first | exact HB.out | apply below_alloc | apply pw_below_drewN | apply below_drew1 | refine below_set ?_ GE16001.out) | exact HB.out))) | (with_reducible refine Kd.C_alloc ?_ _) | (with_reducible refine Kd.C_drewN ?_ _) | (with_reducible refine Kd.C_drew ?_))); (case side2 => exact HC0_1.out); rintro e w' ⟨rfl, ⟨nd, rfl⟩⟩; refine ⟨_, rfl, ?_⟩))
      go_ret
      exact ⟨by first | rfl | (simp [errW_none, errW_some] <;> rfl) | (simp [*, errW_none, errW_some] <;> rfl), by repeat (first | (with_reducible first | exact HB.out | apply below_alloc | apply pw_below_drewN | apply below_drew1 | refine below_set ?_ GE16001.out) | exact HB.out)⟩
    · rw [if_neg c8] at H
      have c8b0 : decide (t16003 < 0) = false := decide_eq_false c8
      clear c8
      obtain rfl := Option.some.inj H
      go_enter Try.func16, Try.ntmps16
      go_wp2_with (first | ((with_reducible refine gate_dst (N := 2) rfl ?_); refine box_event ?hg (N := 2) ?hd (cs := #[.slice A0_0 l0_0.length c0_0, .slice A0_1 l0_1.length c0_1]) (t := 45) ?hr ?_; (case hd => rfl); (case hg => rfl); (case hr => first | (go_simp; done) | (go_simp; rfl)); intro gb16001 hg w11 hbox hb; have n0_ := Aside0.mk (below_step (by repeat (first | (with_reducible first | exact HB.out | apply below_alloc | apply pw_below_drewN | apply below_drew1) | exact HB.out)) hb); have n1_ := Aside0.mk (hbox); have n2_ := Aside0.mk ((by rw [hg]; exact (below_size (by repeat (first | (with_reducible first | exact HB.out | apply below_alloc | apply pw_below_drewN | apply below_drew1) | exact HB.out))) : w.heap.size ≤ gb16001)); have n3_ := Aside0.mk ((by rw [hg]; exact (below_size (by repeat (first | (with_reducible first | exact HB.out | apply below_alloc | apply pw_below_drewN | apply below_drew1) | exact HB.out))) : w.heap.size ≤ gb16001)); clear HB; have HB := n0_; have BK16001 := n1_; have GW16001 := n2_; have GE16001 := n3_; clear n0_ n1_ n2_ n3_; clear hb hbox hg; have hcz12_0 : w11.cell? ⟨gb16001, 0, none⟩ = some (.slice A0_0 l0_0.length c0_0) := (blk_cell BK16001.out 0).trans rfl; have hcz12_1 : w11.cell? ⟨gb16001, 1, none⟩ = some (.slice A0_1 l0_1.length c0_1) := (blk_cell BK16001.out 1).trans rfl; have hfz12_0 := blk_frozen BK16001.out 0; have hfz12_1 := blk_frozen BK16001.out 1) | ((with_reducible refine gate_callee (f := 60) rfl ?_); refine goesL_ (some 8) rfl rfl Try.func60 (by kernel_rfl) rfl #[.slice A0_0 l0_0.length c0_0, .int .i64 a1] rfl (by (try simp only [List.map_toArray, List.map_cons, List.map_nil]); first | done | rfl | (simp only [List.length_drop, List.length_take]; rfl)) ?_; (with_reducible refine (laws_szBoolS.calls _ _ l0_0 a1 t16002 _ ?side1 ?side2 A3.out).mono ?_); (case side1 => repeat (first | exact (Kd.C_below HR0_0.out HB.out) | (with_reducible refine Kd.C_alloc ?_ _) | (with_reducible refine Kd.C_drewN ?_ _) | (with_reducible refine Kd.C_drew ?_))); (case side2 => exact HC0_0.out); rintro e w' ⟨rfl, ⟨nd, rfl⟩⟩; refine ⟨_, rfl, ?_⟩) | ((with_reducible refine gate_callee (f := 45) rfl ?_); refine goesL_ (some 14) rfl rfl Try.func45 (by kernel_rfl) rfl #[.slice A0_1 l0_1.length c0_1, .int .i64 t16002] rfl (by (try simp only [List.map_toArray, List.map_cons, List.map_nil]); first | done | rfl | (simp only [List.length_drop, List.length_take]; rfl)) ?_; (with_reducible refine (laws_szIntSS.calls k _ _ l0_1 t16002 t16003 _ ?side1 ?side2 A7.out).mono ?_); (case side1 => repeat (first | exact (Kd.C_below HR0_1.out (by repeat (first | (with_reducible first | exact HB.out | apply below_alloc | apply pw_below_drewN | apply below_drew1 | refine below_set ?_ GE16001.out) | exact HB.out))) | (with_reducible refine Kd.C_alloc ?_ _) | (with_reducible refine Kd.C_drewN ?_ _) | (with_reducible refine Kd.C_drew ?_))); (case side2 => exact HC0_1.out); rintro e w' ⟨rfl, ⟨nd, rfl⟩⟩; refine ⟨_, rfl, ?_⟩))
      go_ret
      exact ⟨by first | rfl | (simp [errW_none, errW_some] <;> rfl) | (simp [*, errW_none, errW_some] <;> rfl), by repeat (first | (with_reducible first | exact HB.out | apply below_alloc | apply pw_below_drewN | apply below_drew1 | refine below_set ?_ GE16001.out) | exact HB.out)⟩

/-! ### laws_toDfa: function 18 -/
def laws_toDfa.f (k : Nat) (l0_0 : List Bool) (l0_1 : List (List Int)) : Option (List Bool × (List (List Int))) := (laws_toBoolS.f k l0_0).bind fun t18004 => ((laws_toIntSS.f k l0_1).bind fun t18007 => (some (t18004, t18007)))
theorem laws_toDfa.mono : ∀ a0 a1 k, LeO (laws_toDfa.f k a0 a1) (laws_toDfa.f (k + 1) a0 a1) := by
  intro a0 a1 k
  unfold laws_toDfa.f
  repeat' first
      | (with_reducible exact laws_toBoolS.mono _ _)
      | (with_reducible exact laws_toIntSS.mono _ _)
      | (with_reducible exact LeO.refl _)
      | (with_reducible exact LeO.none _)
      | (with_reducible refine LeO.ite ?_ ?_)
      | (with_reducible refine LeO.bind ?_ (fun _ => ?_))
      | exact laws_toBoolS.mono _ _
      | exact laws_toIntSS.mono _ _
      | exact LeO.none _
      | refine LeO.ite ?_ ?_
      | refine LeO.bind ?_ (fun _ => ?_)
set_option maxHeartbeats 8000000 in
set_option maxRecDepth 100000 in
theorem laws_toDfa.calls (k : Nat) (A0_0 : Option Addr) (c0_0 : Nat) (l0_0 : List Bool) (A0_1 : Option Addr) (c0_1 : Nat) (l0_1 : List (List Int)) (r1 : List Bool) (r2 : List (List Int)) (w : World) (hr0_0 : Kd.C Kd.bool w A0_0 l0_0.length l0_0) (hc0_0 : l0_0.length ≤ c0_0) (hr0_1 : Kd.C (Kd.slice 3 (Kd.int .i64)) w A0_1 l0_1.length l0_1) (hc0_1 : l0_1.length ≤ c0_1) (h : laws_toDfa.f k l0_0 l0_1 = some (r1, r2)) :
    Calls Try.prog 18 #[.agg #[.slice A0_0 l0_0.length c0_0, .slice A0_1 l0_1.length c0_1]] w fun e w' => ∃ v0_ v1_ : Value, e = .returned (.agg #[v0_, v1_]) ∧ Kd.R Kd.bool 4 w' w.heap.size (fun _ => True) v0_ r1 ∧ Kd.S (Kd.slice 3 (Kd.int .i64)) 25 w' w.heap.size (fun _ => True) v1_ r2 ∧ Below w.heap.size w w' := by
  have hu45 := Try.underlying45
  have hu49 := Try.underlying49
  have HR0_0 := Aside0.mk hr0_0
  have HC0_0 := Aside0.mk hc0_0
  clear hr0_0 hc0_0
  have HR0_1 := Aside0.mk hr0_1
  have HC0_1 := Aside0.mk hc0_1
  clear hr0_1 hc0_1
  have HB := Aside0.mk (Below.refl w.heap.size w)
  have H : ((laws_toBoolS.f k l0_0).bind fun t18004 => ((laws_toIntSS.f k l0_1).bind fun t18007 => (some (t18004, t18007)))) = some (r1, r2) := h
  clear h
  replace H := Option.bind_eq_some_iff.mp H
  obtain ⟨t18004, A20, H⟩ := H
  replace H : ((laws_toIntSS.f k l0_1).bind fun t18007 => (some (t18004, t18007))) = some (r1, r2) := H
  have A2 := Aside0.mk A20
  clear A20
  replace H := Option.bind_eq_some_iff.mp H
  obtain ⟨t18007, A30, H⟩ := H
  replace H : (some (t18004, t18007)) = some (r1, r2) := H
  have A3 := Aside0.mk A30
  clear A30
  simp only [Option.some.injEq, Prod.mk.injEq] at H
  obtain ⟨rfl, rfl⟩ := H
  go_enter Try.func18, Try.ntmps18
  go_wp2_with (first | ((with_reducible refine gate_dst (N := 1) rfl ?_); refine box_event ?hg (N := 1) ?hd (cs := #[.slice A0_0 l0_0.length c0_0, .slice A0_1 l0_1.length c0_1]) (t := 45) ?hr ?_; (case hd => rfl); (case hg => rfl); (case hr => first | (go_simp; done) | (go_simp; rfl)); intro gb18001 hg w4 hbox hb; have n0_ := Aside0.mk (below_step (by repeat (first | (with_reducible first | exact HB.out | apply below_alloc | apply pw_below_drewN | apply below_drew1) | exact HB.out)) hb); have n1_ := Aside0.mk (hbox); have n2_ := Aside0.mk ((by rw [hg]; exact (below_size (by repeat (first | (with_reducible first | exact HB.out | apply below_alloc | apply pw_below_drewN | apply below_drew1) | exact HB.out))) : w.heap.size ≤ gb18001)); have n3_ := Aside0.mk ((by rw [hg]; exact (below_size (by repeat (first | (with_reducible first | exact HB.out | apply below_alloc | apply pw_below_drewN | apply below_drew1) | exact HB.out))) : w.heap.size ≤ gb18001)); clear HB; have HB := n0_; have BK18001 := n1_; have GW18001 := n2_; have GE18001 := n3_; clear n0_ n1_ n2_ n3_; clear hb hbox hg) | ((with_reducible refine gate_dst (N := 2) rfl ?_); refine box_event ?hg (N := 2) ?hd (cs := #[.slice none 0 0, .slice none 0 0]) (t := 49) ?hr ?_; (case hd => rfl); (case hg => rfl); (case hr => first | (go_simp; done) | (go_simp; rfl)); intro gb18002 hg w5 hbox hb; have n0_ := Aside0.mk (blk_below (g := gb18001) (o := .cells #[.slice A0_0 l0_0.length c0_0, .slice A0_1 l0_1.length c0_1] 45 (0, 0)) (by (with_reducible repeat (first | refine blk_drewN ?_ _ | refine blk_drew ?_ | refine blk_alloc ?_ _)); exact BK18001.out) hb); have n1_ := Aside0.mk (below_step (by repeat (first | (with_reducible first | exact HB.out | apply below_alloc | apply pw_below_drewN | apply below_drew1 | refine below_set ?_ GE18001.out) | exact HB.out)) hb); have n2_ := Aside0.mk (hbox); have n3_ := Aside0.mk ((by rw [hg]; exact (below_size (by repeat (first | (with_reducible first | exact HB.out | apply below_alloc | apply pw_below_drewN | apply below_drew1 | refine below_set ?_ GE18001.out) | exact HB.out))) : w.heap.size ≤ gb18002)); have n4_ := Aside0.mk ((by rw [hg]; exact (below_size (by repeat (first | (with_reducible first | exact HB.out | apply below_alloc | apply pw_below_drewN | apply below_drew1 | refine below_set ?_ GE18001.out) | exact HB.out))) : w.heap.size ≤ gb18002)); have n5_ := Aside0.mk ((by rw [hg]; exact Nat.ne_of_lt (blk_lt (g := gb18001) (o := .cells #[.slice A0_0 l0_0.length c0_0, .slice A0_1 l0_1.length c0_1] 45 (0, 0)) (by (with_reducible repeat (first | refine blk_drewN ?_ _ | refine blk_drew ?_ | refine blk_alloc ?_ _)); exact BK18001.out)) : gb18001 ≠ gb18002)); have n6_ := Aside0.mk ((by rw [hg]; exact Nat.ne_of_gt (blk_lt (g := gb18001) (o := .cells #[.slice A0_0 l0_0.length c0_0, .slice A0_1 l0_1.length c0_1] 45 (0, 0)) (by (with_reducible repeat (first | refine blk_drewN ?_ _ | refine blk_drew ?_ | refine blk_alloc ?_ _)); exact BK18001.out)) : gb18002 ≠ gb18001)); clear BK18001; clear HB; have BK18001 := n0_; have HB := n1_; have BK18002 := n2_; have GW18002 := n3_; have GE18002 := n4_; have NB18001_18002 := n5_; have NB18002_18001 := n6_; clear n0_ n1_ n2_ n3_ n4_ n5_ n6_; clear hb hbox hg) | ((with_reducible refine gate_dst (N := 3) rfl ?_); refine box_event ?hg (N := 3) ?hd (cs := #[.slice none 0 0, .slice none 0 0]) (t := 49) ?hr ?_; (case hd => rfl); (case hg => rfl); (case hr => first | (go_simp; done) | (go_simp; rfl)); intro gb18003 hg w6 hbox hb; have n0_ := Aside0.mk (blk_below (g := gb18001) (o := .cells #[.slice A0_0 l0_0.length c0_0, .slice A0_1 l0_1.length c0_1] 45 (0, 0)) (by (with_reducible repeat (first | refine blk_drewN ?_ _ | refine blk_drew ?_ | refine blk_alloc ?_ _)); exact BK18001.out) hb); have n1_ := Aside0.mk (blk_below (g := gb18002) (o := .cells #[.slice none 0 0, .slice none 0 0] 49 (0, 0)) (by (with_reducible repeat (first | refine blk_drewN ?_ _ | refine blk_drew ?_ | refine blk_alloc ?_ _)); exact BK18002.out) hb); have n2_ := Aside0.mk (below_step (by repeat (first | (with_reducible first | exact HB.out | apply below_alloc | apply pw_below_drewN | apply below_drew1 | refine below_set ?_ GE18001.out | refine below_set ?_ GE18002.out) | exact HB.out)) hb); have n3_ := Aside0.mk (hbox); have n4_ := Aside0.mk ((by rw [hg]; exact (below_size (by repeat (first | (with_reducible first | exact HB.out | apply below_alloc | apply pw_below_drewN | apply below_drew1 | refine below_set ?_ GE18001.out | refine below_set ?_ GE18002.out) | exact HB.out))) : w.heap.size ≤ gb18003)); have n5_ := Aside0.mk ((by rw [hg]; exact (below_size (by repeat (first | (with_reducible first | exact HB.out | apply below_alloc | apply pw_below_drewN | apply below_drew1 | refine below_set ?_ GE18001.out | refine below_set ?_ GE18002.out) | exact HB.out))) : w.heap.size ≤ gb18003)); have n6_ := Aside0.mk ((by rw [hg]; exact Nat.ne_of_lt (blk_lt (g := gb18001) (o := .cells #[.slice A0_0 l0_0.length c0_0, .slice A0_1 l0_1.length c0_1] 45 (0, 0)) (by (with_reducible repeat (first | refine blk_drewN ?_ _ | refine blk_drew ?_ | refine blk_alloc ?_ _)); exact BK18001.out)) : gb18001 ≠ gb18003)); have n7_ := Aside0.mk ((by rw [hg]; exact Nat.ne_of_gt (blk_lt (g := gb18001) (o := .cells #[.slice A0_0 l0_0.length c0_0, .slice A0_1 l0_1.length c0_1] 45 (0, 0)) (by (with_reducible repeat (first | refine blk_drewN ?_ _ | refine blk_drew ?_ | refine blk_alloc ?_ _)); exact BK18001.out)) : gb18003 ≠ gb18001)); have n8_ := Aside0.mk ((by rw [hg]; exact Nat.ne_of_lt (blk_lt (g := gb18002) (o := .cells #[.slice none 0 0, .slice none 0 0] 49 (0, 0)) (by (with_reducible repeat (first | refine blk_drewN ?_ _ | refine blk_drew ?_ | refine blk_alloc ?_ _)); exact BK18002.out)) : gb18002 ≠ gb18003)); have n9_ := Aside0.mk ((by rw [hg]; exact Nat.ne_of_gt (blk_lt (g := gb18002) (o := .cells #[.slice none 0 0, .slice none 0 0] 49 (0, 0)) (by (with_reducible repeat (first | refine blk_drewN ?_ _ | refine blk_drew ?_ | refine blk_alloc ?_ _)); exact BK18002.out)) : gb18003 ≠ gb18002)); clear BK18001; clear BK18002; clear HB; have BK18001 := n0_; have BK18002 := n1_; have HB := n2_; have BK18003 := n3_; have GW18003 := n4_; have GE18003 := n5_; have NB18001_18003 := n6_; have NB18003_18001 := n7_; have NB18002_18003 := n8_; have NB18003_18002 := n9_; clear n0_ n1_ n2_ n3_ n4_ n5_ n6_ n7_ n8_ n9_; clear hb hbox hg; have hnb7 := NB18001_18002.out; have hnc7 := NB18002_18001.out; have hnb8 := NB18001_18003.out; have hnc8 := NB18003_18001.out; have hcz9_0 : w6.cell? ⟨gb18001, 0, none⟩ = some (.slice A0_0 l0_0.length c0_0) := (blk_cell BK18001.out 0).trans rfl; have hcz9_1 : w6.cell? ⟨gb18001, 1, none⟩ = some (.slice A0_1 l0_1.length c0_1) := (blk_cell BK18001.out 1).trans rfl; have hfz9_0 := blk_frozen BK18001.out 0; have hfz9_1 := blk_frozen BK18001.out 1) | ((with_reducible refine gate_callee (f := 65) rfl ?_); refine goesL_ (some 6) rfl rfl Try.func65 (by kernel_rfl) rfl #[.slice A0_0 l0_0.length c0_0] rfl (by (try simp only [List.map_toArray, List.map_cons, List.map_nil]); first | done | rfl | (simp only [List.length_drop, List.length_take]; rfl)) ?_; (with_reducible refine (laws_toBoolS.calls k _ _ l0_0 t18004 _ ?side1 ?side2 A2.out).mono ?_); (case side1 => repeat (first | exact (Kd.C_below HR0_0.out HB.out) | (with_reducible refine Kd.C_alloc ?_ _) | (with_reducible refine Kd.C_drewN ?_ _) | (with_reducible refine Kd.C_drew ?_))); (case side2 => exact HC0_0.out); rintro e w10 ⟨v18005, rfl, ho0, hb⟩; refine ⟨_, rfl, ?_⟩; have n0_ := Aside0.mk (Kd.R_lower ho0 (below_size (by repeat (first | (with_reducible first | exact HB.out | apply below_alloc | apply pw_below_drewN | apply below_drew1 | refine below_set ?_ GE18001.out | refine below_set ?_ GE18002.out | refine below_set ?_ GE18003.out) | exact HB.out)))); have n1_ := Aside0.mk (blk_below (g := gb18001) (o := .cells #[.slice A0_0 l0_0.length c0_0, .slice A0_1 l0_1.length c0_1] 45 (0, 0)) (by (with_reducible repeat (first | refine blk_drewN ?_ _ | refine blk_drew ?_ | refine blk_alloc ?_ _)); exact BK18001.out) hb); have n2_ := Aside0.mk (blk_below (g := gb18002) (o := .cells #[.slice none 0 0, .slice none 0 0] 49 (0, 0)) (by (with_reducible repeat (first | refine blk_drewN ?_ _ | refine blk_drew ?_ | refine blk_alloc ?_ _)); exact BK18002.out) hb); have n3_ := Aside0.mk (blk_below (g := gb18003) (o := .cells #[.slice none 0 0, .slice none 0 0] 49 (0, 0)) (by (with_reducible repeat (first | refine blk_drewN ?_ _ | refine blk_drew ?_ | refine blk_alloc ?_ _)); exact BK18003.out) hb); have n4_ := Aside0.mk (below_step (by repeat (first | (with_reducible first | exact HB.out | apply below_alloc | apply pw_below_drewN | apply below_drew1 | refine below_set ?_ GE18001.out | refine below_set ?_ GE18002.out | refine below_set ?_ GE18003.out) | exact HB.out)) hb); clear BK18001; clear BK18002; clear BK18003; clear HB; have HO18006 := n0_; have BK18001 := n1_; have BK18002 := n2_; have BK18003 := n3_; have HB := n4_; clear n0_ n1_ n2_ n3_ n4_; (try clear hb); (try clear hb2); (try clear hk); (try clear hi); (try clear ho0); obtain ⟨Ao11, co11, eo11⟩ := Kd.R_slice HO18006.out; subst eo11; have hnb12 := NB18003_18002.out; have hnc12 := NB18002_18003.out; have hcz13_0 : w10.cell? ⟨gb18003, 0, none⟩ = some (.slice none 0 0) := (blk_cell BK18003.out 0).trans rfl; have hcz13_1 : w10.cell? ⟨gb18003, 1, none⟩ = some (.slice none 0 0) := (blk_cell BK18003.out 1).trans rfl; have hfz13_0 := blk_frozen BK18003.out 0; have hfz13_1 := blk_frozen BK18003.out 1; have hcz14_0 : w10.cell? ⟨gb18001, 0, none⟩ = some (.slice A0_0 l0_0.length c0_0) := (blk_cell BK18001.out 0).trans rfl; have hcz14_1 : w10.cell? ⟨gb18001, 1, none⟩ = some (.slice A0_1 l0_1.length c0_1) := (blk_cell BK18001.out 1).trans rfl; have hfz14_0 := blk_frozen BK18001.out 0; have hfz14_1 := blk_frozen BK18001.out 1) | ((with_reducible refine gate_callee (f := 50) rfl ?_); refine goesL_ (some 10) rfl rfl Try.func50 (by kernel_rfl) rfl #[.slice A0_1 l0_1.length c0_1] rfl (by (try simp only [List.map_toArray, List.map_cons, List.map_nil]); first | done | rfl | (simp only [List.length_drop, List.length_take]; rfl)) ?_; (with_reducible refine (laws_toIntSS.calls k _ _ l0_1 t18007 _ ?side1 ?side2 A3.out).mono ?_); (case side1 => exact Kd.C_below HR0_1.out (by repeat (first | (with_reducible first | exact HB.out | apply below_alloc | apply pw_below_drewN | apply below_drew1 | refine below_set ?_ GE18001.out | refine below_set ?_ GE18002.out | refine below_set ?_ GE18003.out) | exact HB.out))); (case side2 => exact HC0_1.out); rintro e w15 ⟨v18008, rfl, ho0, hb⟩; refine ⟨_, rfl, ?_⟩; have n0_ := Aside0.mk (Kd.R_below (by (with_reducible repeat (first | apply Kd.R_alloc | apply Kd.R_drewN | apply Kd.R_drew)); exact (Kd.R_mono (Kd.R_far (p := ⟨gb18003, 0, none⟩) (Kd.R_types HO18006.out BK18003.out (by decide)) (fun _ hk => hk.2) (.slice Ao11 t18004.length co11)) (fun _ h_ => h_.1))) hb); have n1_ := Aside0.mk (Kd.S_lower ho0 (below_size (by repeat (first | (with_reducible first | exact HB.out | apply below_alloc | apply pw_below_drewN | apply below_drew1 | refine below_set ?_ GE18001.out | refine below_set ?_ GE18002.out | refine below_set ?_ GE18003.out) | exact HB.out)))); have n2_ := Aside0.mk (blk_below (g := gb18001) (o := .cells #[.slice A0_0 l0_0.length c0_0, .slice A0_1 l0_1.length c0_1] 45 (0, 0)) (by (with_reducible repeat (first | refine blk_drewN ?_ _ | refine blk_drew ?_ | refine blk_alloc ?_ _)); refine blk_far ?_ NB18001_18003.out _; (with_reducible repeat (first | refine blk_drewN ?_ _ | refine blk_drew ?_ | refine blk_alloc ?_ _)); exact BK18001.out) hb); have n3_ := Aside0.mk (blk_below (g := gb18002) (o := .cells #[.slice none 0 0, .slice none 0 0] 49 (0, 0)) (by (with_reducible repeat (first | refine blk_drewN ?_ _ | refine blk_drew ?_ | refine blk_alloc ?_ _)); refine blk_far ?_ NB18002_18003.out _; (with_reducible repeat (first | refine blk_drewN ?_ _ | refine blk_drew ?_ | refine blk_alloc ?_ _)); exact BK18002.out) hb); have n4_ := Aside0.mk (blk_below (g := gb18003) (o := .cells #[.slice Ao11 t18004.length co11, .slice none 0 0] 49 (0, 0)) (by (with_reducible repeat (first | refine blk_drewN ?_ _ | refine blk_drew ?_ | refine blk_alloc ?_ _)); refine blk_put (cs := #[.slice none 0 0, .slice none 0 0]) ?_ 0 _ rfl; (with_reducible repeat (first | refine blk_drewN ?_ _ | refine blk_drew ?_ | refine blk_alloc ?_ _)); exact BK18003.out) hb); have n5_ := Aside0.mk (below_step (by repeat (first | (with_reducible first | exact HB.out | apply below_alloc | apply pw_below_drewN | apply below_drew1 | refine below_set ?_ GE18001.out | refine below_set ?_ GE18002.out | refine below_set ?_ GE18003.out) | exact HB.out)) hb); clear HO18006; clear BK18001; clear BK18002; clear BK18003; clear HB; have HO18006 := n0_; have HO18009 := n1_; have BK18001 := n2_; have BK18002 := n3_; have BK18003 := n4_; have HB := n5_; clear n0_ n1_ n2_ n3_ n4_ n5_; (try clear hb); (try clear hb2); (try clear hk); (try clear hi); (try clear ho0); obtain ⟨Ao16, co16, eo16⟩ := Kd.S_slice HO18009.out; subst eo16; have hcz17_0 : w15.cell? ⟨gb18003, 0, none⟩ = some (.slice Ao11 t18004.length co11) := (blk_cell BK18003.out 0).trans rfl; have hcz17_1 : w15.cell? ⟨gb18003, 1, none⟩ = some (.slice none 0 0) := (blk_cell BK18003.out 1).trans rfl; have hfz17_0 := blk_frozen BK18003.out 0; have hfz17_1 := blk_frozen BK18003.out 1; have hcz18_0 : w15.cell? ⟨gb18002, 0, none⟩ = some (.slice none 0 0) := (blk_cell BK18002.out 0).trans rfl; have hcz18_1 : w15.cell? ⟨gb18002, 1, none⟩ = some (.slice none 0 0) := (blk_cell BK18002.out 1).trans rfl; have hfz18_0 := blk_frozen BK18002.out 0; have hfz18_1 := blk_frozen BK18002.out 1))
  refine bodyPost_ret (results_cell_row rfl _ _ gb18002 49 #[.slice Ao11 t18004.length co11, .slice Ao16 t18007.length co16] (0, 0) _ rfl (by (with_reducible repeat (first | refine blk_drewN ?_ _ | refine blk_drew ?_ | refine blk_alloc ?_ _)); refine blk_put (cs := #[.slice Ao11 t18004.length co11, .slice none 0 0]) ?_ 1 _ rfl; (with_reducible repeat (first | refine blk_drewN ?_ _ | refine blk_drew ?_ | refine blk_alloc ?_ _)); refine blk_put (cs := #[.slice none 0 0, .slice none 0 0]) ?_ 0 _ rfl; (with_reducible repeat (first | refine blk_drewN ?_ _ | refine blk_drew ?_ | refine blk_alloc ?_ _)); refine blk_far ?_ NB18002_18003.out _; (with_reducible repeat (first | refine blk_drewN ?_ _ | refine blk_drew ?_ | refine blk_alloc ?_ _)); exact BK18002.out) Try.underlying49 rfl (by kernel_rfl)) rfl ?_
  exact ⟨_, _, by first | rfl | (simp [errW_none, errW_some] <;> rfl) | (simp [*, errW_none, errW_some] <;> rfl), by (with_reducible repeat (first | apply Kd.R_alloc | apply Kd.R_drewN | apply Kd.R_drew)); exact Kd.R_mono (Kd.R_far (p := ⟨gb18002, 1, none⟩) (Kd.R_far (p := ⟨gb18002, 0, none⟩) (Kd.R_far (p := ⟨gb18003, 1, none⟩) (Kd.R_types (Kd.R_types HO18006.out BK18003.out (by decide)) BK18002.out (by decide)) (fun _ hk => hk.1.2) (.slice Ao16 t18007.length co16)) (fun _ hk => hk.2) (.slice Ao11 t18004.length co11)) (fun _ hk => hk.2) (.slice Ao16 t18007.length co16)) (fun _ hk => trivial), by (with_reducible repeat (first | apply Kd.S_alloc | apply Kd.S_drewN | apply Kd.S_drew)); exact Kd.S_mono (Kd.S_far (p := ⟨gb18002, 1, none⟩) (Kd.S_far (p := ⟨gb18002, 0, none⟩) (Kd.S_far (p := ⟨gb18003, 1, none⟩) (Kd.S_types (Kd.S_types HO18009.out BK18003.out (by decide)) BK18002.out (by decide)) (fun _ hk => hk.1.2) (.slice Ao16 t18007.length co16)) (fun _ hk => hk.2) (.slice Ao11 t18004.length co11)) (fun _ hk => hk.2) (.slice Ao16 t18007.length co16)) (fun _ hk => trivial), by repeat (first | (with_reducible first | exact HB.out | apply below_alloc | apply pw_below_drewN | apply below_drew1 | refine below_set ?_ GE18001.out | refine below_set ?_ GE18002.out | refine below_set ?_ GE18003.out) | exact HB.out)⟩

/-! ### laws_eqDfa: function 21 -/
def laws_eqDfa.f (k : Nat) (l0_0 : List Bool) (l0_1 : List (List Int)) (l1_0 : List Bool) (l1_1 : List (List Int)) : Option (Bool) := (laws_eqBoolS.f k l0_0 l1_0).bind fun t21003 => (if t21003 = true then ((laws_eqIntSS.f k l0_1 l1_1).bind fun t21004 => (if t21004 = true then (some true) else (some false))) else (some false))
theorem laws_eqDfa.mono : ∀ a0 a1 a2 a3 k, LeO (laws_eqDfa.f k a0 a1 a2 a3) (laws_eqDfa.f (k + 1) a0 a1 a2 a3) := by
  intro a0 a1 a2 a3 k
  unfold laws_eqDfa.f
  repeat' first
      | (with_reducible exact laws_eqBoolS.mono _ _ _)
      | (with_reducible exact laws_eqIntSS.mono _ _ _)
      | (with_reducible exact LeO.refl _)
      | (with_reducible exact LeO.none _)
      | (with_reducible refine LeO.ite ?_ ?_)
      | (with_reducible refine LeO.bind ?_ (fun _ => ?_))
      | exact laws_eqBoolS.mono _ _ _
      | exact laws_eqIntSS.mono _ _ _
      | exact LeO.none _
      | refine LeO.ite ?_ ?_
      | refine LeO.bind ?_ (fun _ => ?_)
set_option maxHeartbeats 8000000 in
set_option maxRecDepth 100000 in
theorem laws_eqDfa.calls (k : Nat) (A0_0 : Option Addr) (c0_0 : Nat) (l0_0 : List Bool) (A0_1 : Option Addr) (c0_1 : Nat) (l0_1 : List (List Int)) (A1_0 : Option Addr) (c1_0 : Nat) (l1_0 : List Bool) (A1_1 : Option Addr) (c1_1 : Nat) (l1_1 : List (List Int)) (r : Bool) (w : World) (hr0_0 : Kd.C Kd.bool w A0_0 l0_0.length l0_0) (hc0_0 : l0_0.length ≤ c0_0) (hr0_1 : Kd.C (Kd.slice 3 (Kd.int .i64)) w A0_1 l0_1.length l0_1) (hc0_1 : l0_1.length ≤ c0_1) (hr1_0 : Kd.C Kd.bool w A1_0 l1_0.length l1_0) (hc1_0 : l1_0.length ≤ c1_0) (hr1_1 : Kd.C (Kd.slice 3 (Kd.int .i64)) w A1_1 l1_1.length l1_1) (hc1_1 : l1_1.length ≤ c1_1) (h : laws_eqDfa.f k l0_0 l0_1 l1_0 l1_1 = some r) :
    Calls Try.prog 21 #[.agg #[.slice A0_0 l0_0.length c0_0, .slice A0_1 l0_1.length c0_1], .agg #[.slice A1_0 l1_0.length c1_0, .slice A1_1 l1_1.length c1_1]] w fun e w' => e = .returned (.bool r) ∧ Below w.heap.size w w' := by
  have hu49 := Try.underlying49
  have HR0_0 := Aside0.mk hr0_0
  have HC0_0 := Aside0.mk hc0_0
  clear hr0_0 hc0_0
  have HR0_1 := Aside0.mk hr0_1
  have HC0_1 := Aside0.mk hc0_1
  clear hr0_1 hc0_1
  have HR1_0 := Aside0.mk hr1_0
  have HC1_0 := Aside0.mk hc1_0
  clear hr1_0 hc1_0
  have HR1_1 := Aside0.mk hr1_1
  have HC1_1 := Aside0.mk hc1_1
  clear hr1_1 hc1_1
  have HB := Aside0.mk (Below.refl w.heap.size w)
  have H : ((laws_eqBoolS.f k l0_0 l1_0).bind fun t21003 => (if t21003 = true then ((laws_eqIntSS.f k l0_1 l1_1).bind fun t21004 => (if t21004 = true then (some true) else (some false))) else (some false))) = some r := h
  clear h
  replace H := Option.bind_eq_some_iff.mp H
  obtain ⟨t21003, A30, H⟩ := H
  replace H : (if t21003 = true then ((laws_eqIntSS.f k l0_1 l1_1).bind fun t21004 => (if t21004 = true then (some true) else (some false))) else (some false)) = some r := H
  have A3 := Aside0.mk A30
  clear A30
  by_cases c4 : t21003 = true
  · subst c4
    have H1 : ((laws_eqIntSS.f k l0_1 l1_1).bind fun t21004 => (if t21004 = true then (some true) else (some false))) = some r := by rw [if_pos rfl] at H; exact H
    clear H
    have H := H1
    clear H1
    replace H := Option.bind_eq_some_iff.mp H
    obtain ⟨t21004, A50, H⟩ := H
    replace H : (if t21004 = true then (some true) else (some false)) = some r := H
    have A5 := Aside0.mk A50
    clear A50
    by_cases c6 : t21004 = true
    · subst c6
      have H1 : (some true) = some r := by rw [if_pos rfl] at H; exact H
      clear H
      have H := H1
      clear H1
      obtain rfl := Option.some.inj H
      go_enter Try.func21, Try.ntmps21
      go_wp2_with (first | ((with_reducible refine gate_dst (N := 2) rfl ?_); refine box_event ?hg (N := 2) ?hd (cs := #[.slice A0_0 l0_0.length c0_0, .slice A0_1 l0_1.length c0_1]) (t := 49) ?hr ?_; (case hd => rfl); (case hg => rfl); (case hr => first | (go_simp; done) | (go_simp; rfl)); intro gb21001 hg w7 hbox hb; have n0_ := Aside0.mk (below_step (by repeat (first | (with_reducible first | exact HB.out | apply below_alloc | apply pw_below_drewN | apply below_drew1) | exact HB.out)) hb); have n1_ := Aside0.mk (hbox); have n2_ := Aside0.mk ((by rw [hg]; exact (below_size (by repeat (first | (with_reducible first | exact HB.out | apply below_alloc | apply pw_below_drewN | apply below_drew1) | exact HB.out))) : w.heap.size ≤ gb21001)); have n3_ := Aside0.mk ((by rw [hg]; exact (below_size (by repeat (first | (with_reducible first | exact HB.out | apply below_alloc | apply pw_below_drewN | apply below_drew1) | exact HB.out))) : w.heap.size ≤ gb21001)); clear HB; have HB := n0_; have BK21001 := n1_; have GW21001 := n2_; have GE21001 := n3_; clear n0_ n1_ n2_ n3_; clear hb hbox hg) | ((with_reducible refine gate_dst (N := 3) rfl ?_); refine box_event ?hg (N := 3) ?hd (cs := #[.slice A1_0 l1_0.length c1_0, .slice A1_1 l1_1.length c1_1]) (t := 49) ?hr ?_; (case hd => rfl); (case hg => rfl); (case hr => first | (go_simp; done) | (go_simp; rfl)); intro gb21002 hg w8 hbox hb; have n0_ := Aside0.mk (blk_below (g := gb21001) (o := .cells #[.slice A0_0 l0_0.length c0_0, .slice A0_1 l0_1.length c0_1] 49 (0, 0)) (by (with_reducible repeat (first | refine blk_drewN ?_ _ | refine blk_drew ?_ | refine blk_alloc ?_ _)); exact BK21001.out) hb); have n1_ := Aside0.mk (below_step (by repeat (first | (with_reducible first | exact HB.out | apply below_alloc | apply pw_below_drewN | apply below_drew1 | refine below_set ?_ GE21001.out) | exact HB.out)) hb); have n2_ := Aside0.mk (hbox); have n3_ := Aside0.mk ((by rw [hg]; exact (below_size (by repeat (first | (with_reducible first | exact HB.out | apply below_alloc | apply pw_below_drewN | apply below_drew1 | refine below_set ?_ GE21001.out) | exact HB.out))) : w.heap.size ≤ gb21002)); have n4_ := Aside0.mk ((by rw [hg]; exact (below_size (by repeat (first | (with_reducible first | exact HB.out | apply below_alloc | apply pw_below_drewN | apply below_drew1 | refine below_set ?_ GE21001.out) | exact HB.out))) : w.heap.size ≤ gb21002)); have n5_ := Aside0.mk ((by rw [hg]; exact Nat.ne_of_lt (blk_lt (g := gb21001) (o := .cells #[.slice A0_0 l0_0.length c0_0, .slice A0_1 l0_1.length c0_1] 49 (0, 0)) (by (with_reducible repeat (first | refine blk_drewN ?_ _ | refine blk_drew ?_ | refine blk_alloc ?_ _)); exact BK21001.out)) : gb21001 ≠ gb21002)); have n6_ := Aside0.mk ((by rw [hg]; exact Nat.ne_of_gt (blk_lt (g := gb21001) (o := .cells #[.slice A0_0 l0_0.length c0_0, .slice A0_1 l0_1.length c0_1] 49 (0, 0)) (by (with_reducible repeat (first | refine blk_drewN ?_ _ | refine blk_drew ?_ | refine blk_alloc ?_ _)); exact BK21001.out)) : gb21002 ≠ gb21001)); clear BK21001; clear HB; have BK21001 := n0_; have HB := n1_; have BK21002 := n2_; have GW21002 := n3_; have GE21002 := n4_; have NB21001_21002 := n5_; have NB21002_21001 := n6_; clear n0_ n1_ n2_ n3_ n4_ n5_ n6_; clear hb hbox hg; have hnb9 := NB21001_21002.out; have hnc9 := NB21002_21001.out; have hcz10_0 : w8.cell? ⟨gb21001, 0, none⟩ = some (.slice A0_0 l0_0.length c0_0) := (blk_cell BK21001.out 0).trans rfl; have hcz10_1 : w8.cell? ⟨gb21001, 1, none⟩ = some (.slice A0_1 l0_1.length c0_1) := (blk_cell BK21001.out 1).trans rfl; have hfz10_0 := blk_frozen BK21001.out 0; have hfz10_1 := blk_frozen BK21001.out 1; have hcz11_0 : w8.cell? ⟨gb21002, 0, none⟩ = some (.slice A1_0 l1_0.length c1_0) := (blk_cell BK21002.out 0).trans rfl; have hcz11_1 : w8.cell? ⟨gb21002, 1, none⟩ = some (.slice A1_1 l1_1.length c1_1) := (blk_cell BK21002.out 1).trans rfl; have hfz11_0 := blk_frozen BK21002.out 0; have hfz11_1 := blk_frozen BK21002.out 1) | ((with_reducible refine gate_callee (f := 72) rfl ?_); refine goesL_ (some 9) rfl rfl Try.func72 (by kernel_rfl) rfl #[.slice A0_0 l0_0.length c0_0, .slice A1_0 l1_0.length c1_0] rfl (by (try simp only [List.map_toArray, List.map_cons, List.map_nil]); first | done | rfl | (simp only [List.length_drop, List.length_take]; rfl)) ?_; (with_reducible refine (laws_eqBoolS.calls k _ _ l0_0 _ _ l1_0 true _ ?side1 ?side2 ?side3 ?side4 A3.out).mono ?_); (case side1 => repeat (first | exact (Kd.C_below HR0_0.out HB.out) | (with_reducible refine Kd.C_alloc ?_ _) | (with_reducible refine Kd.C_drewN ?_ _) | (with_reducible refine Kd.C_drew ?_))); (case side2 => exact HC0_0.out); (case side3 => repeat (first | exact (Kd.C_below HR1_0.out HB.out) | (with_reducible refine Kd.C_alloc ?_ _) | (with_reducible refine Kd.C_drewN ?_ _) | (with_reducible refine Kd.C_drew ?_))); (case side4 => exact HC1_0.out); rintro e w' ⟨rfl, ⟨nd, rfl⟩⟩; refine ⟨_, rfl, ?_⟩) | ((with_reducible refine gate_callee (f := 55) rfl ?_); refine goesL_ (some 15) rfl rfl Try.func55 (by kernel_rfl) rfl #[.slice A0_1 l0_1.length c0_1, .slice A1_1 l1_1.length c1_1] rfl (by (try simp only [List.map_toArray, List.map_cons, List.map_nil]); first | done | rfl | (simp only [List.length_drop, List.length_take]; rfl)) ?_; (with_reducible refine (laws_eqIntSS.calls k _ _ l0_1 _ _ l1_1 true _ ?side1 ?side2 ?side3 ?side4 A5.out).mono ?_); (case side1 => repeat (first | exact (Kd.C_below HR0_1.out (by repeat (first | (with_reducible first | exact HB.out | apply below_alloc | apply pw_below_drewN | apply below_drew1 | refine below_set ?_ GE21001.out | refine below_set ?_ GE21002.out) | exact HB.out))) | (with_reducible refine Kd.C_alloc ?_ _) | (with_reducible refine Kd.C_drewN ?_ _) | (with_reducible refine Kd.C_drew ?_))); (case side2 => exact HC0_1.out); (case side3 => repeat (first | exact (Kd.C_below HR1_1.out (by repeat (first | (with_reducible first | exact HB.out | apply below_alloc | apply pw_below_drewN | apply below_drew1 | refine below_set ?_ GE21001.out | refine below_set ?_ GE21002.out) | exact HB.out))) | (with_reducible refine Kd.C_alloc ?_ _) | (with_reducible refine Kd.C_drewN ?_ _) | (with_reducible refine Kd.C_drew ?_))); (case side4 => exact HC1_1.out); rintro e w' ⟨rfl, ⟨nd, rfl⟩⟩; refine ⟨_, rfl, ?_⟩))
      go_ret
      exact ⟨by first | rfl | (simp [errW_none, errW_some] <;> rfl) | (simp [*, errW_none, errW_some] <;> rfl), by repeat (first | (with_reducible first | exact HB.out | apply below_alloc | apply pw_below_drewN | apply below_drew1 | refine below_set ?_ GE21001.out | refine below_set ?_ GE21002.out) | exact HB.out)⟩
    · replace c6 := Bool.eq_false_iff.mpr c6
      subst c6
      have H1 : (some false) = some r := by rw [if_neg (show ¬ (false = true) by decide)] at H; exact H
      clear H
      have H := H1
      clear H1
      obtain rfl := Option.some.inj H
      go_enter Try.func21, Try.ntmps21
      go_wp2_with (first | ((with_reducible refine gate_dst (N := 2) rfl ?_); refine box_event ?hg (N := 2) ?hd (cs := #[.slice A0_0 l0_0.length c0_0, .slice A0_1 l0_1.length c0_1]) (t := 49) ?hr ?_; (case hd => rfl); (case hg => rfl); (case hr => first | (go_simp; done) | (go_simp; rfl)); intro gb21001 hg w12 hbox hb; have n0_ := Aside0.mk (below_step (by repeat (first | (with_reducible first | exact HB.out | apply below_alloc | apply pw_below_drewN | apply below_drew1) | exact HB.out)) hb); have n1_ := Aside0.mk (hbox); have n2_ := Aside0.mk ((by rw [hg]; exact (below_size (by repeat (first | (with_reducible first | exact HB.out | apply below_alloc | apply pw_below_drewN | apply below_drew1) | exact HB.out))) : w.heap.size ≤ gb21001)); have n3_ := Aside0.mk ((by rw [hg]; exact (below_size (by repeat (first | (with_reducible first | exact HB.out | apply below_alloc | apply pw_below_drewN | apply below_drew1) | exact HB.out))) : w.heap.size ≤ gb21001)); clear HB; have HB := n0_; have BK21001 := n1_; have GW21001 := n2_; have GE21001 := n3_; clear n0_ n1_ n2_ n3_; clear hb hbox hg) | ((with_reducible refine gate_dst (N := 3) rfl ?_); refine box_event ?hg (N := 3) ?hd (cs := #[.slice A1_0 l1_0.length c1_0, .slice A1_1 l1_1.length c1_1]) (t := 49) ?hr ?_; (case hd => rfl); (case hg => rfl); (case hr => first | (go_simp; done) | (go_simp; rfl)); intro gb21002 hg w13 hbox hb; have n0_ := Aside0.mk (blk_below (g := gb21001) (o := .cells #[.slice A0_0 l0_0.length c0_0, .slice A0_1 l0_1.length c0_1] 49 (0, 0)) (by (with_reducible repeat (first | refine blk_drewN ?_ _ | refine blk_drew ?_ | refine blk_alloc ?_ _)); exact BK21001.out) hb); have n1_ := Aside0.mk (below_step (by repeat (first | (with_reducible first | exact HB.out | apply below_alloc | apply pw_below_drewN | apply below_drew1 | refine below_set ?_ GE21001.out) | exact HB.out)) hb); have n2_ := Aside0.mk (hbox); have n3_ := Aside0.mk ((by rw [hg]; exact (below_size (by repeat (first | (with_reducible first | exact HB.out | apply below_alloc | apply pw_below_drewN | apply below_drew1 | refine below_set ?_ GE21001.out) | exact HB.out))) : w.heap.size ≤ gb21002)); have n4_ := Aside0.mk ((by rw [hg]; exact (below_size (by repeat (first | (with_reducible first | exact HB.out | apply below_alloc | apply pw_below_drewN | apply below_drew1 | refine below_set ?_ GE21001.out) | exact HB.out))) : w.heap.size ≤ gb21002)); have n5_ := Aside0.mk ((by rw [hg]; exact Nat.ne_of_lt (blk_lt (g := gb21001) (o := .cells #[.slice A0_0 l0_0.length c0_0, .slice A0_1 l0_1.length c0_1] 49 (0, 0)) (by (with_reducible repeat (first | refine blk_drewN ?_ _ | refine blk_drew ?_ | refine blk_alloc ?_ _)); exact BK21001.out)) : gb21001 ≠ gb21002)); have n6_ := Aside0.mk ((by rw [hg]; exact Nat.ne_of_gt (blk_lt (g := gb21001) (o := .cells #[.slice A0_0 l0_0.length c0_0, .slice A0_1 l0_1.length c0_1] 49 (0, 0)) (by (with_reducible repeat (first | refine blk_drewN ?_ _ | refine blk_drew ?_ | refine blk_alloc ?_ _)); exact BK21001.out)) : gb21002 ≠ gb21001)); clear BK21001; clear HB; have BK21001 := n0_; have HB := n1_; have BK21002 := n2_; have GW21002 := n3_; have GE21002 := n4_; have NB21001_21002 := n5_; have NB21002_21001 := n6_; clear n0_ n1_ n2_ n3_ n4_ n5_ n6_; clear hb hbox hg; have hnb14 := NB21001_21002.out; have hnc14 := NB21002_21001.out; have hcz15_0 : w13.cell? ⟨gb21001, 0, none⟩ = some (.slice A0_0 l0_0.length c0_0) := (blk_cell BK21001.out 0).trans rfl; have hcz15_1 : w13.cell? ⟨gb21001, 1, none⟩ = some (.slice A0_1 l0_1.length c0_1) := (blk_cell BK21001.out 1).trans rfl; have hfz15_0 := blk_frozen BK21001.out 0; have hfz15_1 := blk_frozen BK21001.out 1; have hcz16_0 : w13.cell? ⟨gb21002, 0, none⟩ = some (.slice A1_0 l1_0.length c1_0) := (blk_cell BK21002.out 0).trans rfl; have hcz16_1 : w13.cell? ⟨gb21002, 1, none⟩ = some (.slice A1_1 l1_1.length c1_1) := (blk_cell BK21002.out 1).trans rfl; have hfz16_0 := blk_frozen BK21002.out 0; have hfz16_1 := blk_frozen BK21002.out 1) | ((with_reducible refine gate_callee (f := 72) rfl ?_); refine goesL_ (some 9) rfl rfl Try.func72 (by kernel_rfl) rfl #[.slice A0_0 l0_0.length c0_0, .slice A1_0 l1_0.length c1_0] rfl (by (try simp only [List.map_toArray, List.map_cons, List.map_nil]); first | done | rfl | (simp only [List.length_drop, List.length_take]; rfl)) ?_; (with_reducible refine (laws_eqBoolS.calls k _ _ l0_0 _ _ l1_0 true _ ?side1 ?side2 ?side3 ?side4 A3.out).mono ?_); (case side1 => repeat (first | exact (Kd.C_below HR0_0.out HB.out) | (with_reducible refine Kd.C_alloc ?_ _) | (with_reducible refine Kd.C_drewN ?_ _) | (with_reducible refine Kd.C_drew ?_))); (case side2 => exact HC0_0.out); (case side3 => repeat (first | exact (Kd.C_below HR1_0.out HB.out) | (with_reducible refine Kd.C_alloc ?_ _) | (with_reducible refine Kd.C_drewN ?_ _) | (with_reducible refine Kd.C_drew ?_))); (case side4 => exact HC1_0.out); rintro e w' ⟨rfl, ⟨nd, rfl⟩⟩; refine ⟨_, rfl, ?_⟩) | ((with_reducible refine gate_callee (f := 55) rfl ?_); refine goesL_ (some 15) rfl rfl Try.func55 (by kernel_rfl) rfl #[.slice A0_1 l0_1.length c0_1, .slice A1_1 l1_1.length c1_1] rfl (by (try simp only [List.map_toArray, List.map_cons, List.map_nil]); first | done | rfl | (simp only [List.length_drop, List.length_take]; rfl)) ?_; (with_reducible refine (laws_eqIntSS.calls k _ _ l0_1 _ _ l1_1 false _ ?side1 ?side2 ?side3 ?side4 A5.out).mono ?_); (case side1 => repeat (first | exact (Kd.C_below HR0_1.out (by repeat (first | (with_reducible first | exact HB.out | apply below_alloc | apply pw_below_drewN | apply below_drew1 | refine below_set ?_ GE21001.out | refine below_set ?_ GE21002.out) | exact HB.out))) | (with_reducible refine Kd.C_alloc ?_ _) | (with_reducible refine Kd.C_drewN ?_ _) | (with_reducible refine Kd.C_drew ?_))); (case side2 => exact HC0_1.out); (case side3 => repeat (first | exact (Kd.C_below HR1_1.out (by repeat (first | (with_reducible first | exact HB.out | apply below_alloc | apply pw_below_drewN | apply below_drew1 | refine below_set ?_ GE21001.out | refine below_set ?_ GE21002.out) | exact HB.out))) | (with_reducible refine Kd.C_alloc ?_ _) | (with_reducible refine Kd.C_drewN ?_ _) | (with_reducible refine Kd.C_drew ?_))); (case side4 => exact HC1_1.out); rintro e w' ⟨rfl, ⟨nd, rfl⟩⟩; refine ⟨_, rfl, ?_⟩))
      go_ret
      exact ⟨by first | rfl | (simp [errW_none, errW_some] <;> rfl) | (simp [*, errW_none, errW_some] <;> rfl), by repeat (first | (with_reducible first | exact HB.out | apply below_alloc | apply pw_below_drewN | apply below_drew1 | refine below_set ?_ GE21001.out | refine below_set ?_ GE21002.out) | exact HB.out)⟩
  · replace c4 := Bool.eq_false_iff.mpr c4
    subst c4
    have H1 : (some false) = some r := by rw [if_neg (show ¬ (false = true) by decide)] at H; exact H
    clear H
    have H := H1
    clear H1
    obtain rfl := Option.some.inj H
    go_enter Try.func21, Try.ntmps21
    go_wp2_with (first | ((with_reducible refine gate_dst (N := 2) rfl ?_); refine box_event ?hg (N := 2) ?hd (cs := #[.slice A0_0 l0_0.length c0_0, .slice A0_1 l0_1.length c0_1]) (t := 49) ?hr ?_; (case hd => rfl); (case hg => rfl); (case hr => first | (go_simp; done) | (go_simp; rfl)); intro gb21001 hg w17 hbox hb; have n0_ := Aside0.mk (below_step (by repeat (first | (with_reducible first | exact HB.out | apply below_alloc | apply pw_below_drewN | apply below_drew1) | exact HB.out)) hb); have n1_ := Aside0.mk (hbox); have n2_ := Aside0.mk ((by rw [hg]; exact (below_size (by repeat (first | (with_reducible first | exact HB.out | apply below_alloc | apply pw_below_drewN | apply below_drew1) | exact HB.out))) : w.heap.size ≤ gb21001)); have n3_ := Aside0.mk ((by rw [hg]; exact (below_size (by repeat (first | (with_reducible first | exact HB.out | apply below_alloc | apply pw_below_drewN | apply below_drew1) | exact HB.out))) : w.heap.size ≤ gb21001)); clear HB; have HB := n0_; have BK21001 := n1_; have GW21001 := n2_; have GE21001 := n3_; clear n0_ n1_ n2_ n3_; clear hb hbox hg) | ((with_reducible refine gate_dst (N := 3) rfl ?_); refine box_event ?hg (N := 3) ?hd (cs := #[.slice A1_0 l1_0.length c1_0, .slice A1_1 l1_1.length c1_1]) (t := 49) ?hr ?_; (case hd => rfl); (case hg => rfl); (case hr => first | (go_simp; done) | (go_simp; rfl)); intro gb21002 hg w18 hbox hb; have n0_ := Aside0.mk (blk_below (g := gb21001) (o := .cells #[.slice A0_0 l0_0.length c0_0, .slice A0_1 l0_1.length c0_1] 49 (0, 0)) (by (with_reducible repeat (first | refine blk_drewN ?_ _ | refine blk_drew ?_ | refine blk_alloc ?_ _)); exact BK21001.out) hb); have n1_ := Aside0.mk (below_step (by repeat (first | (with_reducible first | exact HB.out | apply below_alloc | apply pw_below_drewN | apply below_drew1 | refine below_set ?_ GE21001.out) | exact HB.out)) hb); have n2_ := Aside0.mk (hbox); have n3_ := Aside0.mk ((by rw [hg]; exact (below_size (by repeat (first | (with_reducible first | exact HB.out | apply below_alloc | apply pw_below_drewN | apply below_drew1 | refine below_set ?_ GE21001.out) | exact HB.out))) : w.heap.size ≤ gb21002)); have n4_ := Aside0.mk ((by rw [hg]; exact (below_size (by repeat (first | (with_reducible first | exact HB.out | apply below_alloc | apply pw_below_drewN | apply below_drew1 | refine below_set ?_ GE21001.out) | exact HB.out))) : w.heap.size ≤ gb21002)); have n5_ := Aside0.mk ((by rw [hg]; exact Nat.ne_of_lt (blk_lt (g := gb21001) (o := .cells #[.slice A0_0 l0_0.length c0_0, .slice A0_1 l0_1.length c0_1] 49 (0, 0)) (by (with_reducible repeat (first | refine blk_drewN ?_ _ | refine blk_drew ?_ | refine blk_alloc ?_ _)); exact BK21001.out)) : gb21001 ≠ gb21002)); have n6_ := Aside0.mk ((by rw [hg]; exact Nat.ne_of_gt (blk_lt (g := gb21001) (o := .cells #[.slice A0_0 l0_0.length c0_0, .slice A0_1 l0_1.length c0_1] 49 (0, 0)) (by (with_reducible repeat (first | refine blk_drewN ?_ _ | refine blk_drew ?_ | refine blk_alloc ?_ _)); exact BK21001.out)) : gb21002 ≠ gb21001)); clear BK21001; clear HB; have BK21001 := n0_; have HB := n1_; have BK21002 := n2_; have GW21002 := n3_; have GE21002 := n4_; have NB21001_21002 := n5_; have NB21002_21001 := n6_; clear n0_ n1_ n2_ n3_ n4_ n5_ n6_; clear hb hbox hg; have hnb19 := NB21001_21002.out; have hnc19 := NB21002_21001.out; have hcz20_0 : w18.cell? ⟨gb21001, 0, none⟩ = some (.slice A0_0 l0_0.length c0_0) := (blk_cell BK21001.out 0).trans rfl; have hcz20_1 : w18.cell? ⟨gb21001, 1, none⟩ = some (.slice A0_1 l0_1.length c0_1) := (blk_cell BK21001.out 1).trans rfl; have hfz20_0 := blk_frozen BK21001.out 0; have hfz20_1 := blk_frozen BK21001.out 1; have hcz21_0 : w18.cell? ⟨gb21002, 0, none⟩ = some (.slice A1_0 l1_0.length c1_0) := (blk_cell BK21002.out 0).trans rfl; have hcz21_1 : w18.cell? ⟨gb21002, 1, none⟩ = some (.slice A1_1 l1_1.length c1_1) := (blk_cell BK21002.out 1).trans rfl; have hfz21_0 := blk_frozen BK21002.out 0; have hfz21_1 := blk_frozen BK21002.out 1) | ((with_reducible refine gate_callee (f := 72) rfl ?_); refine goesL_ (some 9) rfl rfl Try.func72 (by kernel_rfl) rfl #[.slice A0_0 l0_0.length c0_0, .slice A1_0 l1_0.length c1_0] rfl (by (try simp only [List.map_toArray, List.map_cons, List.map_nil]); first | done | rfl | (simp only [List.length_drop, List.length_take]; rfl)) ?_; (with_reducible refine (laws_eqBoolS.calls k _ _ l0_0 _ _ l1_0 false _ ?side1 ?side2 ?side3 ?side4 A3.out).mono ?_); (case side1 => repeat (first | exact (Kd.C_below HR0_0.out HB.out) | (with_reducible refine Kd.C_alloc ?_ _) | (with_reducible refine Kd.C_drewN ?_ _) | (with_reducible refine Kd.C_drew ?_))); (case side2 => exact HC0_0.out); (case side3 => repeat (first | exact (Kd.C_below HR1_0.out HB.out) | (with_reducible refine Kd.C_alloc ?_ _) | (with_reducible refine Kd.C_drewN ?_ _) | (with_reducible refine Kd.C_drew ?_))); (case side4 => exact HC1_0.out); rintro e w' ⟨rfl, ⟨nd, rfl⟩⟩; refine ⟨_, rfl, ?_⟩))
    go_ret
    exact ⟨by first | rfl | (simp [errW_none, errW_some] <;> rfl) | (simp [*, errW_none, errW_some] <;> rfl), by repeat (first | (with_reducible first | exact HB.out | apply below_alloc | apply pw_below_drewN | apply below_drew1 | refine below_set ?_ GE21001.out | refine below_set ?_ GE21002.out) | exact HB.out)⟩


end Go.Proofs.Ytjmfpaalglbbhaa.A


namespace Go.Proofs.Ytjmfpaalglbbhaa.A
open Go.RowKit Go.Proofs.Ytjmfpaalglbbhaa.Ext Go.Proofs.YtjmfpaalglbbhaaW.PrintWords Go.Proofs.YtjmfpaalglbbhaaW.PrintLast Go.Proofs.YtjmfpaalglbbhaaW.PrintMore
attribute [local go_sem] max2_int min2_int max_two min_two max_three min_three max_four min_four   -- for this text's walks alone
set_option linter.unusedVariables false
set_option linter.unusedSimpArgs false

/-! ### spec_l13Letters: function 62 -/
mutual
def spec_l13Letters.l0 : Nat → List (List Int) → Int → List Bool → List (List Int) → Option ((List (List Int)))
  | 0, _, _, _, _ => none
  | k + 1, x3, x4, x62002000, x62002001 => if x4 < 3 then (spec_l13Letters.l1 k x3 x4 (([] : List Int)) 0 x62002000 x62002001) else (some x3)
def spec_l13Letters.l1 : Nat → List (List Int) → Int → List Int → Int → List Bool → List (List Int) → Option ((List (List Int)))
  | 0, _, _, _, _, _, _ => none
  | k + 1, x3, x4, x5, x6, x62002000, x62002001 => if x6 < (x62002001.length : Int) then (if 0 ≤ x6 then (if 0 ≤ x4 then (if x4 < ((rd_L1 x62002001 x6).length : Int) then (if x5.length < 17592186044416 then (spec_l13Letters.l1 k x3 x4 (x5 ++ [rd (rd_L1 x62002001 x6) x4]) (wrap64 (x6 + 1)) x62002000 x62002001) else (none)) else (none)) else (none)) else (none)) else (if x3.length < 5864062014805 then (spec_l13Letters.l0 k (x3 ++ [x5]) (wrap64 (x4 + 1)) x62002000 x62002001) else (none))
end
def spec_l13Letters.f (k : Nat) (l0_0 : List Bool) (l0_1 : List (List Int)) : Option ((List (List Int))) := spec_l13Letters.l0 k (([] : List (List Int))) 0 l0_0 l0_1
theorem spec_l13Letters.mono_l : ∀ k, (∀ y0 y1 y2 y3, LeO (spec_l13Letters.l0 k y0 y1 y2 y3) (spec_l13Letters.l0 (k + 1) y0 y1 y2 y3)) ∧ (∀ y0 y1 y2 y3 y4 y5, LeO (spec_l13Letters.l1 k y0 y1 y2 y3 y4 y5) (spec_l13Letters.l1 (k + 1) y0 y1 y2 y3 y4 y5))
  | 0 => ⟨fun _ _ _ _ r h => by simp [spec_l13Letters.l0] at h, fun _ _ _ _ _ _ r h => by simp [spec_l13Letters.l1] at h⟩
  | k + 1 => by
    obtain ⟨ih0, ih1⟩ := spec_l13Letters.mono_l k
    refine ⟨?_, ?_⟩
    · intro y0 y1 y2 y3
      unfold spec_l13Letters.l0
      repeat' first
      | (with_reducible exact ih0 _ _ _ _)
      | (with_reducible exact ih1 _ _ _ _ _ _)
      | (with_reducible exact LeO.refl _)
      | (with_reducible exact LeO.none _)
      | (with_reducible refine LeO.ite ?_ ?_)
      | (with_reducible refine LeO.bind ?_ (fun _ => ?_))
      | exact ih0 _ _ _ _
      | exact ih1 _ _ _ _ _ _
      | exact LeO.none _
      | refine LeO.ite ?_ ?_
      | refine LeO.bind ?_ (fun _ => ?_)
    · intro y0 y1 y2 y3 y4 y5
      unfold spec_l13Letters.l1
      repeat' first
      | (with_reducible exact ih0 _ _ _ _)
      | (with_reducible exact ih1 _ _ _ _ _ _)
      | (with_reducible exact LeO.refl _)
      | (with_reducible exact LeO.none _)
      | (with_reducible refine LeO.ite ?_ ?_)
      | (with_reducible refine LeO.bind ?_ (fun _ => ?_))
      | exact ih0 _ _ _ _
      | exact ih1 _ _ _ _ _ _
      | exact LeO.none _
      | refine LeO.ite ?_ ?_
      | refine LeO.bind ?_ (fun _ => ?_)
theorem spec_l13Letters.mono : ∀ a0 a1 k, LeO (spec_l13Letters.f k a0 a1) (spec_l13Letters.f (k + 1) a0 a1) := by
  intro a0 a1 k
  obtain ⟨ih0, ih1⟩ := spec_l13Letters.mono_l k
  unfold spec_l13Letters.f
  repeat' first
      | (with_reducible exact ih0 _ _ _ _)
      | (with_reducible exact ih1 _ _ _ _ _ _)
      | (with_reducible exact LeO.refl _)
      | (with_reducible exact LeO.none _)
      | (with_reducible refine LeO.ite ?_ ?_)
      | (with_reducible refine LeO.bind ?_ (fun _ => ?_))
      | exact ih0 _ _ _ _
      | exact ih1 _ _ _ _ _ _
      | exact LeO.none _
      | refine LeO.ite ?_ ?_
      | refine LeO.bind ?_ (fun _ => ?_)
set_option maxHeartbeats 8000000 in
set_option maxRecDepth 100000 in
theorem spec_l13Letters.calls (k : Nat) (A0_0 : Option Addr) (c0_0 : Nat) (l0_0 : List Bool) (A0_1 : Option Addr) (c0_1 : Nat) (l0_1 : List (List Int)) (r : List (List Int)) (w : World) (hr0_0 : Kd.C Kd.bool w A0_0 l0_0.length l0_0) (hc0_0 : l0_0.length ≤ c0_0) (hr0_1 : Kd.C (Kd.slice 3 (Kd.int .i64)) w A0_1 l0_1.length l0_1) (hc0_1 : l0_1.length ≤ c0_1) (h : spec_l13Letters.f k l0_0 l0_1 = some r) :
    Calls Try.prog 62 #[.agg #[.slice A0_0 l0_0.length c0_0, .slice A0_1 l0_1.length c0_1]] w fun e w' => ∃ v0_ : Value, e = .returned (v0_) ∧ Kd.S (Kd.slice 3 (Kd.int .i64)) 25 w' w.heap.size (fun _ => True) v0_ r ∧ Below w.heap.size w w' := by
  have hu49 := Try.underlying49
  have HR0_0 := Aside0.mk hr0_0
  have HC0_0 := Aside0.mk hc0_0
  clear hr0_0 hc0_0
  have HR0_1 := Aside0.mk hr0_1
  have HC0_1 := Aside0.mk hc0_1
  clear hr0_1 hc0_1
  have HB := Aside0.mk (Below.refl w.heap.size w)
  have H : (spec_l13Letters.l0 k (([] : List (List Int))) 0 l0_0 l0_1) = some r := h
  clear h
  obtain ⟨y62002, hy62002⟩ : ∃ y_ : List (List Int), y_ = (([] : List (List Int))) := ⟨_, rfl⟩
  replace H : (spec_l13Letters.l0 k y62002 0 l0_0 l0_1) = some r := by first | (rw [hy62002]; with_reducible exact H) | (have H2_ := (Option.bind_some _ _).symm.trans H; rw [hy62002]; with_reducible exact H2_) | (have H2_ := (Option.bind_some _ _).symm.trans H; with_reducible exact H2_) | with_reducible exact H | (rw [hy62002]; exact H) | exact H
  have Ny62002 := Aside0.mk hy62002
  clear hy62002
  have H' := Aside0.mk H
  clear H
  go_enter Try.func62, Try.ntmps62
  go_wp2_with (first | ((with_reducible refine gate_dst (N := 1) rfl ?_); refine box_event ?hg (N := 1) ?hd (cs := #[.slice A0_0 l0_0.length c0_0, .slice A0_1 l0_1.length c0_1]) (t := 49) ?hr ?_; (case hd => rfl); (case hg => rfl); (case hr => first | (go_simp; done) | (go_simp; rfl)); intro gb62001 hg w2 hbox hb; have n0_ := Aside0.mk (below_step (by repeat (first | (with_reducible first | exact HB.out | apply below_alloc | apply pw_below_drewN | apply below_drew1) | exact HB.out)) hb); have n1_ := Aside0.mk (hbox); have n2_ := Aside0.mk ((by rw [hg]; exact (below_size (by repeat (first | (with_reducible first | exact HB.out | apply below_alloc | apply pw_below_drewN | apply below_drew1) | exact HB.out))) : w.heap.size ≤ gb62001)); have n3_ := Aside0.mk ((by rw [hg]; exact (below_size (by repeat (first | (with_reducible first | exact HB.out | apply below_alloc | apply pw_below_drewN | apply below_drew1) | exact HB.out))) : w.heap.size ≤ gb62001)); clear HB; have HB := n0_; have BK62001 := n1_; have GW62001 := n2_; have GE62001 := n3_; clear n0_ n1_ n2_ n3_; clear hb hbox hg) | ((with_reducible refine gate_dst (N := 7) rfl ?_); refine Kd.S_lit (Kd.slice 3 (Kd.int .i64)) _ 25 ?hg (N := 7) ?hd (xs := ([] : List (List Int))) (inner := []) (ok := fun _ => True) (okp := fun _ => True) ?hr ?hp (fun _ hk => hk) trivial (Below.refl _ _) (Nat.le_refl _) (by simp) ?_; (case hd => rfl); (case hg => rfl); (case hr => first | (go_simp; done) | (go_simp; rfl)); (case hp => exact (Reps.none _ _)); intro v62003 w3 ho4 hb hg_ hnew_; clear hg_ hnew_; (first | rw [← Ny62002.out] at ho4 | (simp only [Int.reduceToNat] at ho4; rw [← Ny62002.out] at ho4)); have n0_ := Aside0.mk (Kd.S_lower ho4 (below_size (by repeat (first | (with_reducible first | exact HB.out | apply below_alloc | apply pw_below_drewN | apply below_drew1 | refine below_set ?_ GE62001.out) | exact HB.out)))); have n1_ := Aside0.mk (blk_below (g := gb62001) (o := .cells #[.slice A0_0 l0_0.length c0_0, .slice A0_1 l0_1.length c0_1] 49 (0, 0)) (by (with_reducible repeat (first | refine blk_drewN ?_ _ | refine blk_drew ?_ | refine blk_alloc ?_ _)); exact BK62001.out) hb); have n2_ := Aside0.mk (below_step (by repeat (first | (with_reducible first | exact HB.out | apply below_alloc | apply pw_below_drewN | apply below_drew1 | refine below_set ?_ GE62001.out) | exact HB.out)) hb); clear BK62001; clear HB; have HO62004 := n0_; have BK62001 := n1_; have HB := n2_; clear n0_ n1_ n2_; clear hb ho4))
  first | go_loopg [3, 4] k (fun kq v3 v4 w' => ∃ (x3_1 : List (List Int)) (x4_1 : Int), v4 = .int .i64 x4_1 ∧ Aside0 (spec_l13Letters.l0 kq x3_1 x4_1 l0_0 l0_1 = some r) ∧ Aside0 (kq ≤ k) ∧ Aside0 (Kd.S (Kd.slice 3 (Kd.int .i64)) 25 w' w.heap.size (fun _ => True) v3 x3_1) ∧ Aside0 (w'.heap[gb62001]? = some (.cells #[(.slice A0_0 l0_0.length c0_0), (.slice A0_1 l0_1.length c0_1)] 49 (0, 0))) ∧ Aside0 (Below w.heap.size w w')) | (simp only [Act.put, List.setIfInBounds_toArray, List.set_cons_succ, List.set_cons_zero]; go_loopg [3, 4] k (fun kq v3 v4 w' => ∃ (x3_1 : List (List Int)) (x4_1 : Int), v4 = .int .i64 x4_1 ∧ Aside0 (spec_l13Letters.l0 kq x3_1 x4_1 l0_0 l0_1 = some r) ∧ Aside0 (kq ≤ k) ∧ Aside0 (Kd.S (Kd.slice 3 (Kd.int .i64)) 25 w' w.heap.size (fun _ => True) v3 x3_1) ∧ Aside0 (w'.heap[gb62001]? = some (.cells #[(.slice A0_0 l0_0.length c0_0), (.slice A0_1 l0_1.length c0_1)] 49 (0, 0))) ∧ Aside0 (Below w.heap.size w w')))
  case atStart => exact ⟨(y62002), (0), (by first | rfl | (simp; done) | (simp [*]; done)), H', ⟨Nat.le_refl _⟩, ⟨by (with_reducible repeat (first | apply Kd.S_alloc | apply Kd.S_drewN | apply Kd.S_drew)); exact HO62004.out⟩, ⟨by (with_reducible repeat (first | refine blk_drewN ?_ _ | refine blk_drew ?_ | refine blk_alloc ?_ _)); exact BK62001.out⟩, ⟨by repeat (first | (with_reducible first | exact HB.out | apply below_alloc | apply pw_below_drewN | apply below_drew1 | refine below_set ?_ GE62001.out) | exact HB.out)⟩⟩
  case round =>
    clear H'
    try clear p2
    obtain ⟨x3_1, x4_1, rfl, HA, HK1, HO_3, BK62001, HB⟩ := hrel
    cases gk with
    | zero => exact absurd HA.out (by simp [spec_l13Letters.l0])
    | succ k1 =>
      have H := HA.out
      clear HA
      simp only [spec_l13Letters.l0] at H
      by_cases c5 : x4_1 < 3
      · rw [if_pos c5] at H
        have c5b0 : decide (x4_1 < 3) = true := decide_eq_true c5
        clear c5
        obtain ⟨y62005, hy62005⟩ : ∃ y_ : List Int, y_ = (([] : List Int)) := ⟨_, rfl⟩
        replace H : (spec_l13Letters.l1 k1 x3_1 x4_1 y62005 0 l0_0 l0_1) = some r := by first | (rw [hy62005]; with_reducible exact H) | (have H2_ := (Option.bind_some _ _).symm.trans H; rw [hy62005]; with_reducible exact H2_) | (have H2_ := (Option.bind_some _ _).symm.trans H; with_reducible exact H2_) | with_reducible exact H | (rw [hy62005]; exact H) | exact H
        have Ny62005 := Aside0.mk hy62005
        clear hy62005
        have H' := Aside0.mk H
        clear H
        go_wp2_with (first | ((with_reducible refine gate_dst (N := 12) rfl ?_); refine Kd.R_lit (Kd.int .i64) _ 3 ?hg (N := 12) ?hd (xs := ([] : List Int)) (inner := []) (ok := fun _ => True) (okp := fun _ => True) ?hr ?hp (fun _ hk => hk) trivial (Below.refl _ _) (Nat.le_refl _) (by simp) ?_; (case hd => rfl); (case hg => rfl); (case hr => first | (go_simp; done) | (go_simp; rfl)); (case hp => exact (Reps.none _ _)); intro v62006 w6 ho7 hb hg_ hnew_; clear hg_ hnew_; (first | rw [← Ny62005.out] at ho7 | (simp only [Int.reduceToNat] at ho7; rw [← Ny62005.out] at ho7)); have n0_ := Aside0.mk (Kd.S_elder' (by (with_reducible repeat (first | apply Kd.S_alloc | apply Kd.S_drewN | apply Kd.S_drew)); exact HO_3.out) (Kd.R_base ho7) hb); have n1_ := Aside0.mk (Kd.R_lower ho7 (below_size (by repeat (first | (with_reducible first | exact HB.out | apply below_alloc | apply pw_below_drewN | apply below_drew1 | refine below_set ?_ GE62001.out) | exact HB.out)))); have n2_ := Aside0.mk (blk_below (g := gb62001) (o := .cells #[.slice A0_0 l0_0.length c0_0, .slice A0_1 l0_1.length c0_1] 49 (0, 0)) (by (with_reducible repeat (first | refine blk_drewN ?_ _ | refine blk_drew ?_ | refine blk_alloc ?_ _)); exact BK62001.out) hb); have n3_ := Aside0.mk (below_step (by repeat (first | (with_reducible first | exact HB.out | apply below_alloc | apply pw_below_drewN | apply below_drew1 | refine below_set ?_ GE62001.out) | exact HB.out)) hb); clear HO_3; clear BK62001; clear HB; have HO_3 := n0_; have HO62007 := n1_; have BK62001 := n2_; have HB := n3_; clear n0_ n1_ n2_ n3_; clear hb ho7))
        first | go_loopg [5, 6] k1 (fun kq v5 v6 w' => ∃ (x5_2 : List Int) (x6_2 : Int), v6 = .int .i64 x6_2 ∧ Aside0 (spec_l13Letters.l1 kq x3_1 x4_1 x5_2 x6_2 l0_0 l0_1 = some r) ∧ Aside0 (kq ≤ k1) ∧ Aside0 (Kd.S (Kd.slice 3 (Kd.int .i64)) 25 w' w.heap.size (fun k_ => some k_ ≠ (v5 : Value).ownBlock) u3 x3_1) ∧ Aside0 (Kd.R (Kd.int .i64) 3 w' w.heap.size (fun _ => True) v5 x5_2) ∧ Aside0 (w'.heap[gb62001]? = some (.cells #[(.slice A0_0 l0_0.length c0_0), (.slice A0_1 l0_1.length c0_1)] 49 (0, 0))) ∧ Aside0 (Below w.heap.size w w')) | (simp only [Act.put, List.setIfInBounds_toArray, List.set_cons_succ, List.set_cons_zero]; go_loopg [5, 6] k1 (fun kq v5 v6 w' => ∃ (x5_2 : List Int) (x6_2 : Int), v6 = .int .i64 x6_2 ∧ Aside0 (spec_l13Letters.l1 kq x3_1 x4_1 x5_2 x6_2 l0_0 l0_1 = some r) ∧ Aside0 (kq ≤ k1) ∧ Aside0 (Kd.S (Kd.slice 3 (Kd.int .i64)) 25 w' w.heap.size (fun k_ => some k_ ≠ (v5 : Value).ownBlock) u3 x3_1) ∧ Aside0 (Kd.R (Kd.int .i64) 3 w' w.heap.size (fun _ => True) v5 x5_2) ∧ Aside0 (w'.heap[gb62001]? = some (.cells #[(.slice A0_0 l0_0.length c0_0), (.slice A0_1 l0_1.length c0_1)] 49 (0, 0))) ∧ Aside0 (Below w.heap.size w w')))
        case atStart => exact ⟨(y62005), (0), (by first | rfl | (simp; done) | (simp [*]; done)), H', ⟨Nat.le_refl _⟩, ⟨by (with_reducible repeat (first | apply Kd.S_alloc | apply Kd.S_drewN | apply Kd.S_drew)); exact Kd.S_mono HO_3.out (fun _ hk => hk.2)⟩, ⟨by (with_reducible repeat (first | apply Kd.R_alloc | apply Kd.R_drewN | apply Kd.R_drew)); exact HO62007.out⟩, ⟨by (with_reducible repeat (first | refine blk_drewN ?_ _ | refine blk_drew ?_ | refine blk_alloc ?_ _)); exact BK62001.out⟩, ⟨by repeat (first | (with_reducible first | exact HB.out | apply below_alloc | apply pw_below_drewN | apply below_drew1 | refine below_set ?_ GE62001.out) | exact HB.out)⟩⟩
        case round =>
          clear H'
          try clear p2
          try clear c5
          try clear c5b0
          try clear c6
          try clear p2
          obtain ⟨x5_2, x6_2, rfl, HA, HK2, HO_3, HO_5, BK62001, HB⟩ := hrel
          cases gk with
          | zero => exact absurd HA.out (by simp [spec_l13Letters.l1])
          | succ k2 =>
            have H := HA.out
            clear HA
            simp only [spec_l13Letters.l1] at H
            by_cases c8 : x6_2 < (l0_1.length : Int)
            · rw [if_pos c8] at H
              have c8b0 : decide (x6_2 < (l0_1.length : Int)) = true := decide_eq_true c8
              clear c8
              by_cases c9 : 0 ≤ x6_2
              · rw [if_pos c9] at H
                have c9b0 : decide (0 ≤ x6_2) = true := decide_eq_true c9
                clear c9
                by_cases c10 : 0 ≤ x4_1
                · rw [if_pos c10] at H
                  have c10b0 : decide (0 ≤ x4_1) = true := decide_eq_true c10
                  clear c10
                  by_cases c11 : x4_1 < ((rd_L1 l0_1 x6_2).length : Int)
                  · rw [if_pos c11] at H
                    have c11b0 : decide (x4_1 < ((rd_L1 l0_1 x6_2).length : Int)) = true := decide_eq_true c11
                    clear c11
                    by_cases c12 : x5_2.length < 17592186044416
                    · rw [if_pos c12] at H
                      have LMc12 := Aside0.mk c12
                      clear c12
                      obtain ⟨y62010, hy62010⟩ : ∃ y_ : List Int, y_ = (x5_2 ++ [rd (rd_L1 l0_1 x6_2) x4_1]) := ⟨_, rfl⟩
                      replace H : (spec_l13Letters.l1 k2 x3_1 x4_1 y62010 (wrap64 (x6_2 + 1)) l0_0 l0_1) = some r := by first | (rw [hy62010]; with_reducible exact H) | (have H2_ := (Option.bind_some _ _).symm.trans H; rw [hy62010]; with_reducible exact H2_) | (have H2_ := (Option.bind_some _ _).symm.trans H; with_reducible exact H2_) | with_reducible exact H | (rw [hy62010]; exact H) | exact H
                      have Ny62010 := Aside0.mk hy62010
                      clear hy62010
                      have H' := Aside0.mk H
                      clear H
                      have hcz13_0 : wr.cell? ⟨gb62001, 0, none⟩ = some (.slice A0_0 l0_0.length c0_0) := (blk_cell BK62001.out 0).trans rfl
                      have hcz13_1 : wr.cell? ⟨gb62001, 1, none⟩ = some (.slice A0_1 l0_1.length c0_1) := (blk_cell BK62001.out 1).trans rfl
                      have hfz13_0 := blk_frozen BK62001.out 0
                      have hfz13_1 := blk_frozen BK62001.out 1
                      have p62008 : 0 ≤ (x6_2 : Int) := of_decide_eq_true (by first | (with_reducible assumption) | assumption)
                      have q62008 : x6_2 < (l0_1.length : Int) := of_decide_eq_true (by first | (with_reducible assumption) | assumption)
                      obtain ⟨ad62008, A62008_0, c62008_0, e62008, hx62008_0, hl62008_0, hi62008_0⟩ := at_L1 HR0_1.out x6_2 p62008 q62008
                      cases e62008
                      replace hx62008_0 := (HB.out.cell (World.block_lt_of_cell? w _ hx62008_0)).trans hx62008_0
                      have HR62008_0 := Aside0.mk hi62008_0
                      have HC62008_0 := Aside0.mk hl62008_0
                      clear hi62008_0 hl62008_0
                      replace p62008 := eq_true p62008
                      replace q62008 := eq_true q62008
                      have p62009 : 0 ≤ (x4_1 : Int) := of_decide_eq_true (by first | (with_reducible assumption) | assumption)
                      have q62009 : x4_1 < ((rd_L1 l0_1 x6_2).length : Int) := of_decide_eq_true (by first | (with_reducible assumption) | assumption)
                      obtain ⟨ad62009, e62009, hx62009_0⟩ := Kd.at_int HR62008_0.out x4_1 p62009 q62009
                      cases e62009
                      replace hx62009_0 := (HB.out.cell (World.block_lt_of_cell? w _ hx62009_0)).trans hx62009_0
                      replace p62009 := eq_true p62009
                      replace q62009 := eq_true q62009
                      go_wp2_with (first | ((with_reducible refine gate_builtin (b := .append) (xs := #[.tmp 20, .tmp 29]) rfl ?_); at_builtin; refine Kd.R_append (Kd.int .i64) (w0 := w) w.heap.size rfl (.tmp 20) (.tmp 29) 25 3 (.int .i64 0) 8 rfl Try.underlying25 info3 rfl (by decide) (by omega) u5 x5_2 (rd (rd_L1 l0_1 x6_2) x4_1) [.int .i64 (rd (rd_L1 l0_1 x6_2) x4_1)] (fun _ => True) (fun _ => False) rfl rfl ?aP (fun _ hk => hk.elim) ?aF ?aO ?aB ?aS ?aL ?_; (case aP => exact rfl); (case aB => exact (by repeat (first | (with_reducible first | exact HB.out | apply below_alloc | apply pw_below_drewN | apply below_drew1 | refine below_set ?_ GE62001.out) | exact HB.out))); (case aF => exact (fun _ _ => trivial)); (case aO => exact (by (with_reducible repeat (first | apply Kd.R_alloc | apply Kd.R_drewN | apply Kd.R_drew)); exact HO_5.out)); (case aS => exact (below_size (by repeat (first | (with_reducible first | exact HB.out | apply below_alloc | apply pw_below_drewN | apply below_drew1 | refine below_set ?_ GE62001.out) | exact HB.out)))); (case aL => have := LMc12.out; omega); intro v62011 w14 ho hb hg hat; rw [← Ny62010.out] at ho; have n0_ := Aside0.mk (Kd.S_after (ok := (fun _ => True)) (by (with_reducible repeat (first | apply Kd.S_alloc | apply Kd.S_drewN | apply Kd.S_drew)); exact Kd.S_mono HO_3.out (fun _ hk => ⟨trivial, hk⟩)) hg hat); have n1_ := Aside0.mk (blk_grown (g := gb62001) (o := .cells #[.slice A0_0 l0_0.length c0_0, .slice (some ad62008) l0_1.length c0_1] 49 (0, 0)) (by (with_reducible repeat (first | refine blk_drewN ?_ _ | refine blk_drew ?_ | refine blk_alloc ?_ _)); exact BK62001.out) hg (Kd.R_ne HO_5.out BK62001.out (by decide))); have n2_ := Aside0.mk (hb); have n3_ := Aside0.mk (ho); clear HO_3; clear BK62001; clear HB; clear HO_5; have HO_3 := n0_; have BK62001 := n1_; have HB := n2_; have HO62012 := n3_; clear n0_ n1_ n2_ n3_; clear ho hb hg hat))
                      go_roundg k2
                      case measure => have := HK1.out; have := HK2.out; omega
                      case rel => exact ⟨(y62010), (wrap64 (x6_2 + 1)), (by first | rfl | (simp; done) | (simp [*]; done)), H', ⟨by have := HK1.out; have := HK2.out; omega⟩, ⟨by (with_reducible repeat (first | apply Kd.S_alloc | apply Kd.S_drewN | apply Kd.S_drew)); exact Kd.S_mono HO_3.out (fun _ hk => hk.2)⟩, ⟨by (with_reducible repeat (first | apply Kd.R_alloc | apply Kd.R_drewN | apply Kd.R_drew)); exact HO62012.out⟩, ⟨by (with_reducible repeat (first | refine blk_drewN ?_ _ | refine blk_drew ?_ | refine blk_alloc ?_ _)); exact BK62001.out⟩, ⟨by repeat (first | (with_reducible first | exact HB.out | apply below_alloc | apply pw_below_drewN | apply below_drew1 | refine below_set ?_ GE62001.out) | exact HB.out)⟩⟩
                    · rw [if_neg c12] at H
                      exact absurd H (by simp)
                  · rw [if_neg c11] at H
                    exact absurd H (by simp)
                · rw [if_neg c10] at H
                  exact absurd H (by simp)
              · rw [if_neg c9] at H
                exact absurd H (by simp)
            · rw [if_neg c8] at H
              have c8b0 : decide (x6_2 < (l0_1.length : Int)) = false := decide_eq_false c8
              clear c8
              by_cases c15 : x3_1.length < 5864062014805
              · rw [if_pos c15] at H
                have LMc15 := Aside0.mk c15
                clear c15
                obtain ⟨y62013, hy62013⟩ : ∃ y_ : List (List Int), y_ = (x3_1 ++ [x5_2]) := ⟨_, rfl⟩
                replace H : (spec_l13Letters.l0 k2 y62013 (wrap64 (x4_1 + 1)) l0_0 l0_1) = some r := by first | (rw [hy62013]; with_reducible exact H) | (have H2_ := (Option.bind_some _ _).symm.trans H; rw [hy62013]; with_reducible exact H2_) | (have H2_ := (Option.bind_some _ _).symm.trans H; with_reducible exact H2_) | with_reducible exact H | (rw [hy62013]; exact H) | exact H
                have Ny62013 := Aside0.mk hy62013
                clear hy62013
                have H' := Aside0.mk H
                clear H
                have hcz16_0 : wr.cell? ⟨gb62001, 0, none⟩ = some (.slice A0_0 l0_0.length c0_0) := (blk_cell BK62001.out 0).trans rfl
                have hcz16_1 : wr.cell? ⟨gb62001, 1, none⟩ = some (.slice A0_1 l0_1.length c0_1) := (blk_cell BK62001.out 1).trans rfl
                have hfz16_0 := blk_frozen BK62001.out 0
                have hfz16_1 := blk_frozen BK62001.out 1
                obtain ⟨Ao18, co18, eo18⟩ := Kd.R_slice HO_5.out
                subst eo18
                go_wp2_with (first | ((with_reducible refine gate_builtin (b := .append) (xs := #[.tmp 31, .tmp 33]) rfl ?_); at_builtin; refine Kd.S_append (Kd.slice 3 (Kd.int .i64)) (w0 := w) w.heap.size rfl (.tmp 31) (.tmp 33) 24 25 (.slice none 0 0) 24 rfl Try.underlying24 info25 rfl (by decide) (by omega) u3 x3_1 x5_2 [.slice Ao18 x5_2.length co18] (fun _ => True) (fun k_ => some k_ = (.slice Ao18 x5_2.length co18 : Value).ownBlock) rfl rfl ?aP (fun k_ hk_ => ((Kd.R_mono (ok' := fun k_ => ((fun _ => True)) k_ ∧ some k_ ≠ (u3 : Value).ownBlock) (Kd.R_apart' (HO_5.out) (Kd.S_typed HO_3.out) (by decide)) (fun k_ hk => ⟨trivial, hk.2⟩))).1 k_ hk_.symm) ?aF ?aO ?aB ?aS ?aL ?_; (case aP => exact Kd.M_row (Kd.R_mono (Kd.R_tight rfl (Kd.R_mono (ok' := fun k_ => ((fun _ => True)) k_ ∧ some k_ ≠ (u3 : Value).ownBlock) (Kd.R_apart' (HO_5.out) (Kd.S_typed HO_3.out) (by decide)) (fun k_ hk => ⟨trivial, hk.2⟩))) (fun _ h_ => h_))); (case aB => exact (by repeat (first | (with_reducible first | exact HB.out | apply below_alloc | apply pw_below_drewN | apply below_drew1 | refine below_set ?_ GE62001.out) | exact HB.out))); (case aF => exact (fun _ _ => trivial)); (case aO => exact (by (with_reducible repeat (first | apply Kd.S_alloc | apply Kd.S_drewN | apply Kd.S_drew)); exact Kd.S_mono HO_3.out (fun k_ hk => ⟨trivial, fun e_ => hk e_⟩))); (case aS => exact (below_size (by repeat (first | (with_reducible first | exact HB.out | apply below_alloc | apply pw_below_drewN | apply below_drew1 | refine below_set ?_ GE62001.out) | exact HB.out)))); (case aL => have := LMc15.out; omega); intro v62014 w17 ho hb hg hat; rw [← Ny62013.out] at ho; have n0_ := Aside0.mk (blk_grown (g := gb62001) (o := .cells #[.slice A0_0 l0_0.length c0_0, .slice A0_1 l0_1.length c0_1] 49 (0, 0)) (by (with_reducible repeat (first | refine blk_drewN ?_ _ | refine blk_drew ?_ | refine blk_alloc ?_ _)); exact BK62001.out) hg (Kd.S_ne HO_3.out BK62001.out (by decide))); have n1_ := Aside0.mk (hb); have n2_ := Aside0.mk (ho); clear BK62001; clear HB; clear HO_3; clear HO_5; have BK62001 := n0_; have HB := n1_; have HO62015 := n2_; clear n0_ n1_ n2_; clear ho hb hg hat))
                go_roundg k2
                case measure => have := HK1.out; have := HK2.out; omega
                case rel => exact ⟨(y62013), (wrap64 (x4_1 + 1)), (by first | rfl | (simp; done) | (simp [*]; done)), H', ⟨by have := HK1.out; have := HK2.out; omega⟩, ⟨by (with_reducible repeat (first | apply Kd.S_alloc | apply Kd.S_drewN | apply Kd.S_drew)); exact HO62015.out⟩, ⟨by (with_reducible repeat (first | refine blk_drewN ?_ _ | refine blk_drew ?_ | refine blk_alloc ?_ _)); exact BK62001.out⟩, ⟨by repeat (first | (with_reducible first | exact HB.out | apply below_alloc | apply pw_below_drewN | apply below_drew1 | refine below_set ?_ GE62001.out) | exact HB.out)⟩⟩
              · rw [if_neg c15] at H
                exact absurd H (by simp)
      · rw [if_neg c5] at H
        have c5b0 : decide (x4_1 < 3) = false := decide_eq_false c5
        clear c5
        obtain rfl := Option.some.inj H
        go_wp2
        go_ret
        exact ⟨_, by first | rfl | (simp [errW_none, errW_some] <;> rfl) | (simp [*, errW_none, errW_some] <;> rfl), by (with_reducible repeat (first | apply Kd.S_alloc | apply Kd.S_drewN | apply Kd.S_drew)); exact HO_3.out, by repeat (first | (with_reducible first | exact HB.out | apply below_alloc | apply pw_below_drewN | apply below_drew1 | refine below_set ?_ GE62001.out) | exact HB.out)⟩

/-! ### spec_l13After: function 63 -/
def spec_l13After.l0 : Nat → List Int → List Int → List Int → Int → Option (List Int)
  | 0, _, _, _, _ => none
  | k + 1, x0, x1, x5, x6 => if x6 < (x0.length : Int) then (if 0 ≤ x6 then (if 0 ≤ (rd x0 x6) then (if (rd x0 x6) < (x1.length : Int) then (if x5.length < 17592186044416 then (spec_l13After.l0 k x0 x1 (x5 ++ [rd x1 (rd x0 x6)]) (wrap64 (x6 + 1))) else (none)) else (none)) else (none)) else (none)) else (some x5)
def spec_l13After.f (k : Nat) (l0 : List Int) (l1 : List Int) : Option (List Int) := spec_l13After.l0 k l0 l1 (([] : List Int)) 0
theorem spec_l13After.mono_l : ∀ k, (∀ y0 y1 y2 y3, LeO (spec_l13After.l0 k y0 y1 y2 y3) (spec_l13After.l0 (k + 1) y0 y1 y2 y3))
  | 0 => fun _ _ _ _ r h => by simp [spec_l13After.l0] at h
  | k + 1 => by
    have ih0 := spec_l13After.mono_l k
    · intro y0 y1 y2 y3
      unfold spec_l13After.l0
      repeat' first
      | (with_reducible exact ih0 _ _ _ _)
      | (with_reducible exact LeO.refl _)
      | (with_reducible exact LeO.none _)
      | (with_reducible refine LeO.ite ?_ ?_)
      | (with_reducible refine LeO.bind ?_ (fun _ => ?_))
      | exact ih0 _ _ _ _
      | exact LeO.none _
      | refine LeO.ite ?_ ?_
      | refine LeO.bind ?_ (fun _ => ?_)
theorem spec_l13After.mono : ∀ a0 a1 k, LeO (spec_l13After.f k a0 a1) (spec_l13After.f (k + 1) a0 a1) := by
  intro a0 a1 k
  have ih0 := spec_l13After.mono_l k
  unfold spec_l13After.f
  repeat' first
      | (with_reducible exact ih0 _ _ _ _)
      | (with_reducible exact LeO.refl _)
      | (with_reducible exact LeO.none _)
      | (with_reducible refine LeO.ite ?_ ?_)
      | (with_reducible refine LeO.bind ?_ (fun _ => ?_))
      | exact ih0 _ _ _ _
      | exact LeO.none _
      | refine LeO.ite ?_ ?_
      | refine LeO.bind ?_ (fun _ => ?_)
set_option maxHeartbeats 8000000 in
set_option maxRecDepth 100000 in
theorem spec_l13After.calls (k : Nat) (A0 : Option Addr) (c0 : Nat) (l0 : List Int) (A1 : Option Addr) (c1 : Nat) (l1 : List Int) (r : List Int) (w : World) (hr0 : Kd.C (Kd.int .i64) w A0 l0.length l0) (hc0 : l0.length ≤ c0) (hr1 : Kd.C (Kd.int .i64) w A1 l1.length l1) (hc1 : l1.length ≤ c1) (h : spec_l13After.f k l0 l1 = some r) :
    Calls Try.prog 63 #[.slice A0 l0.length c0, .slice A1 l1.length c1] w fun e w' => ∃ v0_ : Value, e = .returned (v0_) ∧ Kd.R (Kd.int .i64) 3 w' w.heap.size (fun _ => True) v0_ r ∧ Below w.heap.size w w' := by
  have HR0 := Aside0.mk hr0
  have HC0 := Aside0.mk hc0
  clear hr0 hc0
  have HR1 := Aside0.mk hr1
  have HC1 := Aside0.mk hc1
  clear hr1 hc1
  have HB := Aside0.mk (Below.refl w.heap.size w)
  have H : (spec_l13After.l0 k l0 l1 (([] : List Int)) 0) = some r := h
  clear h
  obtain ⟨y63001, hy63001⟩ : ∃ y_ : List Int, y_ = (([] : List Int)) := ⟨_, rfl⟩
  replace H : (spec_l13After.l0 k l0 l1 y63001 0) = some r := by first | (rw [hy63001]; with_reducible exact H) | (have H2_ := (Option.bind_some _ _).symm.trans H; rw [hy63001]; with_reducible exact H2_) | (have H2_ := (Option.bind_some _ _).symm.trans H; with_reducible exact H2_) | with_reducible exact H | (rw [hy63001]; exact H) | exact H
  have Ny63001 := Aside0.mk hy63001
  clear hy63001
  have H' := Aside0.mk H
  clear H
  go_enter Try.func63, Try.ntmps63
  go_wp2_with (first | ((with_reducible refine gate_dst (N := 7) rfl ?_); refine Kd.R_lit (Kd.int .i64) _ 3 ?hg (N := 7) ?hd (xs := ([] : List Int)) (inner := []) (ok := fun _ => True) (okp := fun _ => True) ?hr ?hp (fun _ hk => hk) trivial (Below.refl _ _) (Nat.le_refl _) (by simp) ?_; (case hd => rfl); (case hg => rfl); (case hr => first | (go_simp; done) | (go_simp; rfl)); (case hp => exact (Reps.none _ _)); intro v63002 w3 ho4 hb hg_ hnew_; clear hg_ hnew_; (first | rw [← Ny63001.out] at ho4 | (simp only [Int.reduceToNat] at ho4; rw [← Ny63001.out] at ho4)); have n0_ := Aside0.mk (Kd.R_lower ho4 (below_size (by repeat (first | (with_reducible first | exact HB.out | apply below_alloc | apply pw_below_drewN | apply below_drew1) | exact HB.out)))); have n1_ := Aside0.mk (below_step (by repeat (first | (with_reducible first | exact HB.out | apply below_alloc | apply pw_below_drewN | apply below_drew1) | exact HB.out)) hb); clear HB; have HO63003 := n0_; have HB := n1_; clear n0_ n1_; clear hb ho4))
  first | go_loopg [5, 6] k (fun kq v5 v6 w' => ∃ (x5_1 : List Int) (x6_1 : Int), v6 = .int .i64 x6_1 ∧ Aside0 (spec_l13After.l0 kq l0 l1 x5_1 x6_1 = some r) ∧ Aside0 (kq ≤ k) ∧ Aside0 (Kd.R (Kd.int .i64) 3 w' w.heap.size (fun _ => True) v5 x5_1) ∧ Aside0 (Below w.heap.size w w')) | (simp only [Act.put, List.setIfInBounds_toArray, List.set_cons_succ, List.set_cons_zero]; go_loopg [5, 6] k (fun kq v5 v6 w' => ∃ (x5_1 : List Int) (x6_1 : Int), v6 = .int .i64 x6_1 ∧ Aside0 (spec_l13After.l0 kq l0 l1 x5_1 x6_1 = some r) ∧ Aside0 (kq ≤ k) ∧ Aside0 (Kd.R (Kd.int .i64) 3 w' w.heap.size (fun _ => True) v5 x5_1) ∧ Aside0 (Below w.heap.size w w')))
  case atStart => exact ⟨(y63001), (0), (by first | rfl | (simp; done) | (simp [*]; done)), H', ⟨Nat.le_refl _⟩, ⟨by (with_reducible repeat (first | apply Kd.R_alloc | apply Kd.R_drewN | apply Kd.R_drew)); exact HO63003.out⟩, ⟨by repeat (first | (with_reducible first | exact HB.out | apply below_alloc | apply pw_below_drewN | apply below_drew1) | exact HB.out)⟩⟩
  case round =>
    clear H'
    try clear c1
    try clear p2
    obtain ⟨x5_1, x6_1, rfl, HA, HK1, HO_5, HB⟩ := hrel
    cases gk with
    | zero => exact absurd HA.out (by simp [spec_l13After.l0])
    | succ k1 =>
      have H := HA.out
      clear HA
      simp only [spec_l13After.l0] at H
      by_cases c5 : x6_1 < (l0.length : Int)
      · rw [if_pos c5] at H
        have c5b0 : decide (x6_1 < (l0.length : Int)) = true := decide_eq_true c5
        clear c5
        by_cases c6 : 0 ≤ x6_1
        · rw [if_pos c6] at H
          have c6b0 : decide (0 ≤ x6_1) = true := decide_eq_true c6
          clear c6
          by_cases c7 : 0 ≤ (rd l0 x6_1)
          · rw [if_pos c7] at H
            have c7b0 : decide (0 ≤ (rd l0 x6_1)) = true := decide_eq_true c7
            clear c7
            by_cases c8 : (rd l0 x6_1) < (l1.length : Int)
            · rw [if_pos c8] at H
              have c8b0 : decide ((rd l0 x6_1) < (l1.length : Int)) = true := decide_eq_true c8
              clear c8
              by_cases c9 : x5_1.length < 17592186044416
              · rw [if_pos c9] at H
                have LMc9 := Aside0.mk c9
                clear c9
                obtain ⟨y63006, hy63006⟩ : ∃ y_ : List Int, y_ = (x5_1 ++ [rd l1 (rd l0 x6_1)]) := ⟨_, rfl⟩
                replace H : (spec_l13After.l0 k1 l0 l1 y63006 (wrap64 (x6_1 + 1))) = some r := by first | (rw [hy63006]; with_reducible exact H) | (have H2_ := (Option.bind_some _ _).symm.trans H; rw [hy63006]; with_reducible exact H2_) | (have H2_ := (Option.bind_some _ _).symm.trans H; with_reducible exact H2_) | with_reducible exact H | (rw [hy63006]; exact H) | exact H
                have Ny63006 := Aside0.mk hy63006
                clear hy63006
                have H' := Aside0.mk H
                clear H
                have p63004 : 0 ≤ (x6_1 : Int) := of_decide_eq_true (by first | (with_reducible assumption) | assumption)
                have q63004 : x6_1 < (l0.length : Int) := of_decide_eq_true (by first | (with_reducible assumption) | assumption)
                obtain ⟨ad63004, e63004, hx63004_0⟩ := Kd.at_int HR0.out x6_1 p63004 q63004
                cases e63004
                replace hx63004_0 := (HB.out.cell (World.block_lt_of_cell? w _ hx63004_0)).trans hx63004_0
                replace p63004 := eq_true p63004
                replace q63004 := eq_true q63004
                have p63005 : 0 ≤ ((rd l0 x6_1) : Int) := of_decide_eq_true (by first | (with_reducible assumption) | assumption)
                have q63005 : (rd l0 x6_1) < (l1.length : Int) := of_decide_eq_true (by first | (with_reducible assumption) | assumption)
                obtain ⟨ad63005, e63005, hx63005_0⟩ := Kd.at_int HR1.out (rd l0 x6_1) p63005 q63005
                cases e63005
                replace hx63005_0 := (HB.out.cell (World.block_lt_of_cell? w _ hx63005_0)).trans hx63005_0
                replace p63005 := eq_true p63005
                replace q63005 := eq_true q63005
                go_wp2_with (first | ((with_reducible refine gate_builtin (b := .append) (xs := #[.tmp 14, .tmp 22]) rfl ?_); at_builtin; refine Kd.R_append (Kd.int .i64) (w0 := w) w.heap.size rfl (.tmp 14) (.tmp 22) 25 3 (.int .i64 0) 8 rfl Try.underlying25 info3 rfl (by decide) (by omega) u5 x5_1 (rd l1 (rd l0 x6_1)) [.int .i64 (rd l1 (rd l0 x6_1))] (fun _ => True) (fun _ => False) rfl rfl ?aP (fun _ hk => hk.elim) ?aF ?aO ?aB ?aS ?aL ?_; (case aP => exact rfl); (case aB => exact (by repeat (first | (with_reducible first | exact HB.out | apply below_alloc | apply pw_below_drewN | apply below_drew1) | exact HB.out))); (case aF => exact (fun _ _ => trivial)); (case aO => exact (by (with_reducible repeat (first | apply Kd.R_alloc | apply Kd.R_drewN | apply Kd.R_drew)); exact HO_5.out)); (case aS => exact (below_size (by repeat (first | (with_reducible first | exact HB.out | apply below_alloc | apply pw_below_drewN | apply below_drew1) | exact HB.out)))); (case aL => have := LMc9.out; omega); intro v63007 w10 ho hb hg hat; rw [← Ny63006.out] at ho; have n0_ := Aside0.mk (hb); have n1_ := Aside0.mk (ho); clear HB; clear HO_5; have HB := n0_; have HO63008 := n1_; clear n0_ n1_; clear ho hb hg hat))
                go_roundg k1
                case measure => have := HK1.out; omega
                case rel => exact ⟨(y63006), (wrap64 (x6_1 + 1)), (by first | rfl | (simp; done) | (simp [*]; done)), H', ⟨by have := HK1.out; omega⟩, ⟨by (with_reducible repeat (first | apply Kd.R_alloc | apply Kd.R_drewN | apply Kd.R_drew)); exact HO63008.out⟩, ⟨by repeat (first | (with_reducible first | exact HB.out | apply below_alloc | apply pw_below_drewN | apply below_drew1) | exact HB.out)⟩⟩
              · rw [if_neg c9] at H
                exact absurd H (by simp)
            · rw [if_neg c8] at H
              exact absurd H (by simp)
          · rw [if_neg c7] at H
            exact absurd H (by simp)
        · rw [if_neg c6] at H
          exact absurd H (by simp)
      · rw [if_neg c5] at H
        have c5b0 : decide (x6_1 < (l0.length : Int)) = false := decide_eq_false c5
        clear c5
        obtain rfl := Option.some.inj H
        go_wp2
        go_ret
        exact ⟨_, by first | rfl | (simp [errW_none, errW_some] <;> rfl) | (simp [*, errW_none, errW_some] <;> rfl), by (with_reducible repeat (first | apply Kd.R_alloc | apply Kd.R_drewN | apply Kd.R_drew)); exact HO_5.out, by repeat (first | (with_reducible first | exact HB.out | apply below_alloc | apply pw_below_drewN | apply below_drew1) | exact HB.out)⟩

/-! ### spec_l13Find: function 64 -/
def spec_l13Find.l0 : Nat → List (List Int) → List Int → Int → Option (Int)
  | 0, _, _, _ => none
  | k + 1, x0, x1, x5 => if x5 < (x0.length : Int) then (if 0 ≤ x5 then ((spec_l5Ints.f k (rd_L1 x0 x5) x1).bind fun t64002 => (if t64002 = true then (some x5) else (spec_l13Find.l0 k x0 x1 (wrap64 (x5 + 1))))) else (none)) else (some (-1))
def spec_l13Find.f (k : Nat) (l0 : List (List Int)) (l1 : List Int) : Option (Int) := spec_l13Find.l0 k l0 l1 0
theorem spec_l13Find.mono_l : ∀ k, (∀ y0 y1 y2, LeO (spec_l13Find.l0 k y0 y1 y2) (spec_l13Find.l0 (k + 1) y0 y1 y2))
  | 0 => fun _ _ _ r h => by simp [spec_l13Find.l0] at h
  | k + 1 => by
    have ih0 := spec_l13Find.mono_l k
    · intro y0 y1 y2
      unfold spec_l13Find.l0
      repeat' first
      | (with_reducible exact ih0 _ _ _)
      | (with_reducible exact spec_l5Ints.mono _ _ _)
      | (with_reducible exact LeO.refl _)
      | (with_reducible exact LeO.none _)
      | (with_reducible refine LeO.ite ?_ ?_)
      | (with_reducible refine LeO.bind ?_ (fun _ => ?_))
      | exact ih0 _ _ _
      | exact spec_l5Ints.mono _ _ _
      | exact LeO.none _
      | refine LeO.ite ?_ ?_
      | refine LeO.bind ?_ (fun _ => ?_)
theorem spec_l13Find.mono : ∀ a0 a1 k, LeO (spec_l13Find.f k a0 a1) (spec_l13Find.f (k + 1) a0 a1) := by
  intro a0 a1 k
  have ih0 := spec_l13Find.mono_l k
  unfold spec_l13Find.f
  repeat' first
      | (with_reducible exact ih0 _ _ _)
      | (with_reducible exact spec_l5Ints.mono _ _ _)
      | (with_reducible exact LeO.refl _)
      | (with_reducible exact LeO.none _)
      | (with_reducible refine LeO.ite ?_ ?_)
      | (with_reducible refine LeO.bind ?_ (fun _ => ?_))
      | exact ih0 _ _ _
      | exact spec_l5Ints.mono _ _ _
      | exact LeO.none _
      | refine LeO.ite ?_ ?_
      | refine LeO.bind ?_ (fun _ => ?_)
set_option maxHeartbeats 8000000 in
set_option maxRecDepth 100000 in
theorem spec_l13Find.calls (k : Nat) (A0 : Option Addr) (c0 : Nat) (l0 : List (List Int)) (A1 : Option Addr) (c1 : Nat) (l1 : List Int) (r : Int) (w : World) (hr0 : Kd.C (Kd.slice 3 (Kd.int .i64)) w A0 l0.length l0) (hc0 : l0.length ≤ c0) (hr1 : Kd.C (Kd.int .i64) w A1 l1.length l1) (hc1 : l1.length ≤ c1) (h : spec_l13Find.f k l0 l1 = some r) :
    Calls Try.prog 64 #[.slice A0 l0.length c0, .slice A1 l1.length c1] w fun e w' => e = .returned (.int .i64 r) ∧ Drawn0 w w' := by
  have HR0 := Aside0.mk hr0
  have HC0 := Aside0.mk hc0
  clear hr0 hc0
  have HR1 := Aside0.mk hr1
  have HC1 := Aside0.mk hc1
  clear hr1 hc1
  have H : (spec_l13Find.l0 k l0 l1 0) = some r := h
  clear h
  have H' := Aside0.mk H
  clear H
  go_enter Try.func64, Try.ntmps64
  go_wp2
  first | go_loopg [5] k (fun kq v5 w' => ∃ (x5_1 : Int), v5 = .int .i64 x5_1 ∧ Aside0 (spec_l13Find.l0 kq l0 l1 x5_1 = some r) ∧ Aside0 (kq ≤ k) ∧ Drawn0 w w') | (simp only [Act.put, List.setIfInBounds_toArray, List.set_cons_succ, List.set_cons_zero]; go_loopg [5] k (fun kq v5 w' => ∃ (x5_1 : Int), v5 = .int .i64 x5_1 ∧ Aside0 (spec_l13Find.l0 kq l0 l1 x5_1 = some r) ∧ Aside0 (kq ≤ k) ∧ Drawn0 w w'))
  case atStart => exact ⟨(0), (by first | rfl | (simp; done) | (simp [*]; done)), H', ⟨Nat.le_refl _⟩, by repeat (first | exact Drawn0.refl _ | apply Drawn0.step)⟩
  case round =>
    clear H'
    try clear c1
    try clear p2
    obtain ⟨x5_1, rfl, HA, HK1, ⟨m1, rfl⟩⟩ := hrel
    cases gk with
    | zero => exact absurd HA.out (by simp [spec_l13Find.l0])
    | succ k1 =>
      have H := HA.out
      clear HA
      simp only [spec_l13Find.l0] at H
      by_cases c3 : x5_1 < (l0.length : Int)
      · rw [if_pos c3] at H
        have c3b0 : decide (x5_1 < (l0.length : Int)) = true := decide_eq_true c3
        clear c3
        by_cases c4 : 0 ≤ x5_1
        · rw [if_pos c4] at H
          have c4b0 : decide (0 ≤ x5_1) = true := decide_eq_true c4
          clear c4
          replace H := Option.bind_eq_some_iff.mp H
          obtain ⟨t64002, A50, H⟩ := H
          replace H : (if t64002 = true then (some x5_1) else (spec_l13Find.l0 k1 l0 l1 (wrap64 (x5_1 + 1)))) = some r := H
          have A5 := Aside0.mk A50
          clear A50
          by_cases c6 : t64002 = true
          · subst c6
            have H1 : (some x5_1) = some r := by rw [if_pos rfl] at H; exact H
            clear H
            have H := H1
            clear H1
            obtain rfl := Option.some.inj H
            have p64001 : 0 ≤ (x5_1 : Int) := of_decide_eq_true (by first | (with_reducible assumption) | assumption)
            have q64001 : x5_1 < (l0.length : Int) := of_decide_eq_true (by first | (with_reducible assumption) | assumption)
            obtain ⟨ad64001, A64001_0, c64001_0, e64001, hx64001_0, hl64001_0, hi64001_0⟩ := at_L1 HR0.out x5_1 p64001 q64001
            cases e64001
            have HR64001_0 := Aside0.mk hi64001_0
            have HC64001_0 := Aside0.mk hl64001_0
            clear hi64001_0 hl64001_0
            replace p64001 := eq_true p64001
            replace q64001 := eq_true q64001
            go_wp2_with (first | ((with_reducible refine gate_callee (f := 111) rfl ?_); refine goesL_ (some 17) rfl rfl Try.func111 (by kernel_rfl) rfl #[.slice A64001_0 (rd_L1 l0 x5_1).length c64001_0, .slice A1 l1.length c1] rfl (by (try simp only [List.map_toArray, List.map_cons, List.map_nil]); first | done | rfl | (simp only [List.length_drop, List.length_take]; rfl)) ?_; (with_reducible refine (spec_l5Ints.calls k1 _ _ (rd_L1 l0 x5_1) _ _ l1 true _ ?side1 ?side2 ?side3 ?side4 A5.out).mono ?_); (case side1 => repeat (first | exact HR64001_0.out | (with_reducible refine Kd.C_alloc ?_ _) | (with_reducible refine Kd.C_drewN ?_ _) | (with_reducible refine Kd.C_drew ?_))); (case side2 => exact HC64001_0.out); (case side3 => repeat (first | exact HR1.out | (with_reducible refine Kd.C_alloc ?_ _) | (with_reducible refine Kd.C_drewN ?_ _) | (with_reducible refine Kd.C_drew ?_))); (case side4 => exact HC1.out); rintro e w' ⟨rfl, ⟨nd, rfl⟩⟩; refine ⟨_, rfl, ?_⟩))
            go_ret
            exact ⟨by first | rfl | (simp; done) | (simp [*]; done), by repeat (first | exact Drawn0.refl _ | apply Drawn0.step)⟩
          · replace c6 := Bool.eq_false_iff.mpr c6
            subst c6
            have H1 : (spec_l13Find.l0 k1 l0 l1 (wrap64 (x5_1 + 1))) = some r := by rw [if_neg (show ¬ (false = true) by decide)] at H; exact H
            clear H
            have H := H1
            clear H1
            have H' := Aside0.mk H
            clear H
            have p64001 : 0 ≤ (x5_1 : Int) := of_decide_eq_true (by first | (with_reducible assumption) | assumption)
            have q64001 : x5_1 < (l0.length : Int) := of_decide_eq_true (by first | (with_reducible assumption) | assumption)
            obtain ⟨ad64001, A64001_0, c64001_0, e64001, hx64001_0, hl64001_0, hi64001_0⟩ := at_L1 HR0.out x5_1 p64001 q64001
            cases e64001
            have HR64001_0 := Aside0.mk hi64001_0
            have HC64001_0 := Aside0.mk hl64001_0
            clear hi64001_0 hl64001_0
            replace p64001 := eq_true p64001
            replace q64001 := eq_true q64001
            go_wp2_with (first | ((with_reducible refine gate_callee (f := 111) rfl ?_); refine goesL_ (some 17) rfl rfl Try.func111 (by kernel_rfl) rfl #[.slice A64001_0 (rd_L1 l0 x5_1).length c64001_0, .slice A1 l1.length c1] rfl (by (try simp only [List.map_toArray, List.map_cons, List.map_nil]); first | done | rfl | (simp only [List.length_drop, List.length_take]; rfl)) ?_; (with_reducible refine (spec_l5Ints.calls k1 _ _ (rd_L1 l0 x5_1) _ _ l1 false _ ?side1 ?side2 ?side3 ?side4 A5.out).mono ?_); (case side1 => repeat (first | exact HR64001_0.out | (with_reducible refine Kd.C_alloc ?_ _) | (with_reducible refine Kd.C_drewN ?_ _) | (with_reducible refine Kd.C_drew ?_))); (case side2 => exact HC64001_0.out); (case side3 => repeat (first | exact HR1.out | (with_reducible refine Kd.C_alloc ?_ _) | (with_reducible refine Kd.C_drewN ?_ _) | (with_reducible refine Kd.C_drew ?_))); (case side4 => exact HC1.out); rintro e w' ⟨rfl, ⟨nd, rfl⟩⟩; refine ⟨_, rfl, ?_⟩))
            go_roundg k1
            case measure => have := HK1.out; omega
            case rel => exact ⟨(wrap64 (x5_1 + 1)), (by first | rfl | (simp; done) | (simp [*]; done)), H', ⟨by have := HK1.out; omega⟩, by repeat (first | exact Drawn0.refl _ | apply Drawn0.step)⟩
        · rw [if_neg c4] at H
          exact absurd H (by simp)
      · rw [if_neg c3] at H
        have c3b0 : decide (x5_1 < (l0.length : Int)) = false := decide_eq_false c3
        clear c3
        obtain rfl := Option.some.inj H
        go_wp2
        go_ret
        exact ⟨by first | rfl | (simp; done) | (simp [*]; done), by repeat (first | exact Drawn0.refl _ | apply Drawn0.step)⟩


end Go.Proofs.Ytjmfpaalglbbhaa.A

