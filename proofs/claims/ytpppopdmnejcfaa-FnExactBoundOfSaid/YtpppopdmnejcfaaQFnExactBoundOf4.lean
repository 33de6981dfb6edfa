/- FnExactBoundOf: what its proof needs, put together by this session's program wip/merge.py out of the texts that wip/xp.py printed and of this session's own. -/
import Derived.Test.YtpppopdmnejcfaaQFnExactBoundOf3
namespace Go.Proofs.Ytpppopdmnejcfaa.A
open Go.RowKit Go.Proofs.Ytpppopdmnejcfaa.Ext Go.Proofs.YtpppopdmnejcfaaW.PrintWords Go.Proofs.YtpppopdmnejcfaaW.PrintLast Go.Proofs.YtpppopdmnejcfaaW.PrintMore
attribute [local go_sem] max2_int min2_int max_two min_two max_three min_three max_four min_four   -- for this text's walks alone
set_option linter.unusedVariables false
set_option linter.unusedSimpArgs false

/-! ### impl_isZeroRegex: function 94 -/
def impl_isZeroRegex.f (a0_0 : Int) (a0_1 : ByteArray) (l0_2 : List (S42)) : Option (Bool) := if a0_0 = 0 then (if a0_1.toList = ([] : List UInt8) then (some ((l0_2.length : Int) == 0)) else (some false)) else (some false)
set_option maxHeartbeats 8000000 in
set_option maxRecDepth 100000 in
theorem impl_isZeroRegex.calls (a0_0 : Int) (a0_1 : ByteArray) (A0_2 : Option Addr) (c0_2 : Nat) (l0_2 : List (S42)) (r : Bool) (w : World) (hr0_2 : Kd.C k42 w A0_2 l0_2.length l0_2) (hc0_2 : l0_2.length ≤ c0_2) (h : impl_isZeroRegex.f a0_0 a0_1 l0_2 = some r) :
    Calls Try.prog 94 #[.agg #[.int .i64 a0_0, .string a0_1, .slice A0_2 l0_2.length c0_2]] w fun e w' => e = .returned (.bool r) ∧ Below w.heap.size w w' := by
  have hu42 := Try.underlying42
  have HR0_2 := Aside0.mk hr0_2
  have HC0_2 := Aside0.mk hc0_2
  clear hr0_2 hc0_2
  have HB := Aside0.mk (Below.refl w.heap.size w)
  have H : (if a0_0 = 0 then (if a0_1.toList = ([] : List UInt8) then (some ((l0_2.length : Int) == 0)) else (some false)) else (some false)) = some r := h
  clear h
  by_cases c2 : a0_0 = 0
  · rw [if_pos c2] at H
    have c2b0 : (a0_0 == 0) = true := beq_iff_eq.mpr c2
    have c2b1 : (a0_0 != 0) = false := bne_eq_false_iff_eq.mpr c2
    clear c2
    by_cases c3 : a0_1.toList = ([] : List UInt8)
    · rw [if_pos c3] at H
      have c3b0 : (a0_1.toList == ([] : List UInt8)) = true := beq_iff_eq.mpr c3
      have c3b1 : (a0_1.toList != ([] : List UInt8)) = false := bne_eq_false_iff_eq.mpr c3
      clear c3
      obtain rfl := Option.some.inj H
      go_enter Try.func94, Try.ntmps94
      go_wp2_with (first | ((with_reducible refine gate_dst (N := 1) rfl ?_); (try (refine gate_guard (by rfl) ?_; dsimp only)); refine box_event ?hg (N := 1) ?hd (cs := #[.int .i64 a0_0, .string a0_1, .slice A0_2 l0_2.length c0_2]) (t := 42) ?hr ?_; (case hd => rfl); (case hg => rfl); (case hr => first | (go_simp; done) | (go_simp; rfl)); intro gb94001 hg w4 hbox hb; have n0_ := Aside0.mk (below_step (by repeat (first | (with_reducible first | exact HB.out | apply below_alloc | apply pw_below_drewN | apply below_drew1) | exact HB.out)) hb); have n1_ := Aside0.mk (hbox); have n2_ := Aside0.mk ((by rw [hg]; exact (below_size (by repeat (first | (with_reducible first | exact HB.out | apply below_alloc | apply pw_below_drewN | apply below_drew1) | exact HB.out))) : w.heap.size ≤ gb94001)); have n3_ := Aside0.mk ((by rw [hg]; exact (below_size (by repeat (first | (with_reducible first | exact HB.out | apply below_alloc | apply pw_below_drewN | apply below_drew1) | exact HB.out))) : w.heap.size ≤ gb94001)); clear HB; have HB := n0_; have BK94001 := n1_; have GW94001 := n2_; have GE94001 := n3_; clear n0_ n1_ n2_ n3_; clear hb hbox hg; have hcz5_0 : w4.cell? ⟨gb94001, 0, none⟩ = some (.int .i64 a0_0) := (blk_cell BK94001.out 0).trans rfl; have hcz5_1 : w4.cell? ⟨gb94001, 1, none⟩ = some (.string a0_1) := (blk_cell BK94001.out 1).trans rfl; have hcz5_2 : w4.cell? ⟨gb94001, 2, none⟩ = some (.slice A0_2 l0_2.length c0_2) := (blk_cell BK94001.out 2).trans rfl; have hfz5_0 := blk_frozen BK94001.out 0; have hfz5_1 := blk_frozen BK94001.out 1; have hfz5_2 := blk_frozen BK94001.out 2))
      go_ret
      exact ⟨by first | rfl | (simp [errW_none, errW_some] <;> rfl) | (simp [*, errW_none, errW_some] <;> rfl), by repeat (first | (with_reducible first | exact HB.out | apply below_alloc | apply pw_below_drewN | apply below_drew1 | refine below_set ?_ GE94001.out) | exact HB.out)⟩
    · rw [if_neg c3] at H
      have c3b0 : (a0_1.toList == ([] : List UInt8)) = false := beq_eq_false_iff_ne.mpr c3
      have c3b1 : (a0_1.toList != ([] : List UInt8)) = true := bne_iff_ne.mpr c3
      obtain rfl := Option.some.inj H
      go_enter Try.func94, Try.ntmps94
      go_wp2_with (first | ((with_reducible refine gate_dst (N := 1) rfl ?_); (try (refine gate_guard (by rfl) ?_; dsimp only)); refine box_event ?hg (N := 1) ?hd (cs := #[.int .i64 a0_0, .string a0_1, .slice A0_2 l0_2.length c0_2]) (t := 42) ?hr ?_; (case hd => rfl); (case hg => rfl); (case hr => first | (go_simp; done) | (go_simp; rfl)); intro gb94001 hg w6 hbox hb; have n0_ := Aside0.mk (below_step (by repeat (first | (with_reducible first | exact HB.out | apply below_alloc | apply pw_below_drewN | apply below_drew1) | exact HB.out)) hb); have n1_ := Aside0.mk (hbox); have n2_ := Aside0.mk ((by rw [hg]; exact (below_size (by repeat (first | (with_reducible first | exact HB.out | apply below_alloc | apply pw_below_drewN | apply below_drew1) | exact HB.out))) : w.heap.size ≤ gb94001)); have n3_ := Aside0.mk ((by rw [hg]; exact (below_size (by repeat (first | (with_reducible first | exact HB.out | apply below_alloc | apply pw_below_drewN | apply below_drew1) | exact HB.out))) : w.heap.size ≤ gb94001)); clear HB; have HB := n0_; have BK94001 := n1_; have GW94001 := n2_; have GE94001 := n3_; clear n0_ n1_ n2_ n3_; clear hb hbox hg; have hcz7_0 : w6.cell? ⟨gb94001, 0, none⟩ = some (.int .i64 a0_0) := (blk_cell BK94001.out 0).trans rfl; have hcz7_1 : w6.cell? ⟨gb94001, 1, none⟩ = some (.string a0_1) := (blk_cell BK94001.out 1).trans rfl; have hcz7_2 : w6.cell? ⟨gb94001, 2, none⟩ = some (.slice A0_2 l0_2.length c0_2) := (blk_cell BK94001.out 2).trans rfl; have hfz7_0 := blk_frozen BK94001.out 0; have hfz7_1 := blk_frozen BK94001.out 1; have hfz7_2 := blk_frozen BK94001.out 2))
      go_ret
      exact ⟨by first | rfl | (simp [errW_none, errW_some] <;> rfl) | (simp [*, errW_none, errW_some] <;> rfl), by repeat (first | (with_reducible first | exact HB.out | apply below_alloc | apply pw_below_drewN | apply below_drew1 | refine below_set ?_ GE94001.out) | exact HB.out)⟩
  · rw [if_neg c2] at H
    have c2b0 : (a0_0 == 0) = false := beq_eq_false_iff_ne.mpr c2
    have c2b1 : (a0_0 != 0) = true := bne_iff_ne.mpr c2
    obtain rfl := Option.some.inj H
    go_enter Try.func94, Try.ntmps94
    go_wp2_with (first | ((with_reducible refine gate_dst (N := 1) rfl ?_); (try (refine gate_guard (by rfl) ?_; dsimp only)); refine box_event ?hg (N := 1) ?hd (cs := #[.int .i64 a0_0, .string a0_1, .slice A0_2 l0_2.length c0_2]) (t := 42) ?hr ?_; (case hd => rfl); (case hg => rfl); (case hr => first | (go_simp; done) | (go_simp; rfl)); intro gb94001 hg w8 hbox hb; have n0_ := Aside0.mk (below_step (by repeat (first | (with_reducible first | exact HB.out | apply below_alloc | apply pw_below_drewN | apply below_drew1) | exact HB.out)) hb); have n1_ := Aside0.mk (hbox); have n2_ := Aside0.mk ((by rw [hg]; exact (below_size (by repeat (first | (with_reducible first | exact HB.out | apply below_alloc | apply pw_below_drewN | apply below_drew1) | exact HB.out))) : w.heap.size ≤ gb94001)); have n3_ := Aside0.mk ((by rw [hg]; exact (below_size (by repeat (first | (with_reducible first | exact HB.out | apply below_alloc | apply pw_below_drewN | apply below_drew1) | exact HB.out))) : w.heap.size ≤ gb94001)); clear HB; have HB := n0_; have BK94001 := n1_; have GW94001 := n2_; have GE94001 := n3_; clear n0_ n1_ n2_ n3_; clear hb hbox hg; have hcz9_0 : w8.cell? ⟨gb94001, 0, none⟩ = some (.int .i64 a0_0) := (blk_cell BK94001.out 0).trans rfl; have hcz9_1 : w8.cell? ⟨gb94001, 1, none⟩ = some (.string a0_1) := (blk_cell BK94001.out 1).trans rfl; have hcz9_2 : w8.cell? ⟨gb94001, 2, none⟩ = some (.slice A0_2 l0_2.length c0_2) := (blk_cell BK94001.out 2).trans rfl; have hfz9_0 := blk_frozen BK94001.out 0; have hfz9_1 := blk_frozen BK94001.out 1; have hfz9_2 := blk_frozen BK94001.out 2))
    go_ret
    exact ⟨by first | rfl | (simp [errW_none, errW_some] <;> rfl) | (simp [*, errW_none, errW_some] <;> rfl), by repeat (first | (with_reducible first | exact HB.out | apply below_alloc | apply pw_below_drewN | apply below_drew1 | refine below_set ?_ GE94001.out) | exact HB.out)⟩

/-! ### impl_argsOf: function 196 -/
mutual
def impl_argsOf.j0 : Nat → Int → Bool → Option (Int)
  | 0, _, _ => none
  | k + 1, x3, x4 => if x4 = true then (some 0) else (if x3 = 8 then (impl_argsOf.j1 k x3 (x3 == 8)) else (impl_argsOf.j1 k x3 (x3 == 9)))
def impl_argsOf.j1 : Nat → Int → Bool → Option (Int)
  | 0, _, _ => none
  | k + 1, x3, x9 => if x9 = true then (some 1) else (if x3 = 5 then (some 2) else (if x3 = 6 then (some 2) else (if x3 = 7 then (some 2) else (some (-1)))))
end
def impl_argsOf.f (k : Nat) (a0 : Int) : Option (Int) := if a0 = 1 then (impl_argsOf.j0 k a0 (a0 == 1)) else (if a0 = 2 then (impl_argsOf.j0 k a0 (a0 == 2)) else (if a0 = 3 then (impl_argsOf.j0 k a0 (a0 == 3)) else (impl_argsOf.j0 k a0 (a0 == 4))))
theorem impl_argsOf.mono_l : ∀ k, (∀ y0 y1, LeO (impl_argsOf.j0 k y0 y1) (impl_argsOf.j0 (k + 1) y0 y1)) ∧ (∀ y0 y1, LeO (impl_argsOf.j1 k y0 y1) (impl_argsOf.j1 (k + 1) y0 y1))
  | 0 => ⟨fun _ _ r h => by simp [impl_argsOf.j0] at h, fun _ _ r h => by simp [impl_argsOf.j1] at h⟩
  | k + 1 => by
    obtain ⟨ih0, ih1⟩ := impl_argsOf.mono_l k
    refine ⟨?_, ?_⟩
    · intro y0 y1
      unfold impl_argsOf.j0
      repeat' first
      | (with_reducible exact ih0 _ _)
      | (with_reducible exact ih1 _ _)
      | (with_reducible exact LeO.refl _)
      | (with_reducible exact LeO.none _)
      | (with_reducible refine LeO.ite ?_ ?_)
      | (with_reducible refine LeO.bind ?_ (fun _ => ?_))
      | exact ih0 _ _
      | exact ih1 _ _
      | exact LeO.none _
      | refine LeO.ite ?_ ?_
      | refine LeO.bind ?_ (fun _ => ?_)
    · intro y0 y1
      unfold impl_argsOf.j1
      repeat' first
      | (with_reducible exact ih0 _ _)
      | (with_reducible exact ih1 _ _)
      | (with_reducible exact LeO.refl _)
      | (with_reducible exact LeO.none _)
      | (with_reducible refine LeO.ite ?_ ?_)
      | (with_reducible refine LeO.bind ?_ (fun _ => ?_))
      | exact ih0 _ _
      | exact ih1 _ _
      | exact LeO.none _
      | refine LeO.ite ?_ ?_
      | refine LeO.bind ?_ (fun _ => ?_)
theorem impl_argsOf.mono : ∀ a0 k, LeO (impl_argsOf.f k a0) (impl_argsOf.f (k + 1) a0) := by
  intro a0 k
  obtain ⟨ih0, ih1⟩ := impl_argsOf.mono_l k
  unfold impl_argsOf.f
  repeat' first
      | (with_reducible exact ih0 _ _)
      | (with_reducible exact ih1 _ _)
      | (with_reducible exact LeO.refl _)
      | (with_reducible exact LeO.none _)
      | (with_reducible refine LeO.ite ?_ ?_)
      | (with_reducible refine LeO.bind ?_ (fun _ => ?_))
      | exact ih0 _ _
      | exact ih1 _ _
      | exact LeO.none _
      | refine LeO.ite ?_ ?_
      | refine LeO.bind ?_ (fun _ => ?_)
set_option maxHeartbeats 8000000 in
set_option maxRecDepth 100000 in
theorem impl_argsOf.calls (k : Nat) (a0 : Int) (r : Int) (w : World) (h : impl_argsOf.f k a0 = some r) :
    Calls Try.prog 196 #[.int .i64 a0] w fun e w' => e = .returned (.int .i64 r) ∧ Drawn0 w w' := by
  have H : (if a0 = 1 then (impl_argsOf.j0 k a0 (a0 == 1)) else (if a0 = 2 then (impl_argsOf.j0 k a0 (a0 == 2)) else (if a0 = 3 then (impl_argsOf.j0 k a0 (a0 == 3)) else (impl_argsOf.j0 k a0 (a0 == 4))))) = some r := h
  clear h
  have HC2 := Aside0.mk H
  clear H
  go_enter Try.func196, Try.ntmps196
  go_upto_if 4 with (fail)
  go_cut [4] (fun v4 wc => ∃ (kq : Nat) (x4_1 : Bool), v4 = .bool x4_1 ∧ Aside0 (impl_argsOf.j0 kq a0 x4_1 = some r) ∧ Aside0 (kq ≤ k) ∧ Drawn0 w wc)
  case first =>
    have H := HC2.out
    clear HC2
    by_cases c3 : a0 = 1
    · rw [if_pos c3] at H
      have c3b0 : (a0 == 1) = true := beq_iff_eq.mpr c3
      have c3b1 : (a0 != 1) = false := bne_eq_false_iff_eq.mpr c3
      clear c3
      (first | rw [c3b0] | (simp only [i64_w, i32_w]; rw [c3b0]) | skip)
      have H' := Aside0.mk H
      clear H
      go_wp2
      go_meet
      case rel => exact ⟨_, ((a0 == 1)), (by first | rfl | (simp; done) | (simp [*]; done)), H', ⟨by first | omega | exact Nat.le_refl _⟩, by repeat (first | exact Drawn0.refl _ | apply Drawn0.step)⟩
    · rw [if_neg c3] at H
      have c3b0 : (a0 == 1) = false := beq_eq_false_iff_ne.mpr c3
      have c3b1 : (a0 != 1) = true := bne_iff_ne.mpr c3
      (first | rw [c3b0] | (simp only [i64_w, i32_w]; rw [c3b0]) | skip)
      by_cases c4 : a0 = 2
      · rw [if_pos c4] at H
        have c4b0 : (a0 == 2) = true := beq_iff_eq.mpr c4
        have c4b1 : (a0 != 2) = false := bne_eq_false_iff_eq.mpr c4
        clear c4
        have H' := Aside0.mk H
        clear H
        go_wp2
        go_meet
        case rel => exact ⟨_, ((a0 == 2)), (by first | rfl | (simp; done) | (simp [*]; done)), H', ⟨by first | omega | exact Nat.le_refl _⟩, by repeat (first | exact Drawn0.refl _ | apply Drawn0.step)⟩
      · rw [if_neg c4] at H
        have c4b0 : (a0 == 2) = false := beq_eq_false_iff_ne.mpr c4
        have c4b1 : (a0 != 2) = true := bne_iff_ne.mpr c4
        by_cases c5 : a0 = 3
        · rw [if_pos c5] at H
          have c5b0 : (a0 == 3) = true := beq_iff_eq.mpr c5
          have c5b1 : (a0 != 3) = false := bne_eq_false_iff_eq.mpr c5
          clear c5
          have H' := Aside0.mk H
          clear H
          go_wp2
          go_meet
          case rel => exact ⟨_, ((a0 == 3)), (by first | rfl | (simp; done) | (simp [*]; done)), H', ⟨by first | omega | exact Nat.le_refl _⟩, by repeat (first | exact Drawn0.refl _ | apply Drawn0.step)⟩
        · rw [if_neg c5] at H
          have c5b0 : (a0 == 3) = false := beq_eq_false_iff_ne.mpr c5
          have c5b1 : (a0 != 3) = true := bne_iff_ne.mpr c5
          have H' := Aside0.mk H
          clear H
          go_wp2
          go_meet
          case rel => exact ⟨_, ((a0 == 4)), (by first | rfl | (simp; done) | (simp [*]; done)), H', ⟨by first | omega | exact Nat.le_refl _⟩, by repeat (first | exact Drawn0.refl _ | apply Drawn0.step)⟩
  case rest =>
    clear HC2
    try clear c1
    try clear p2
    try clear c3
    try clear c3b0
    try clear c3b1
    try clear c4
    try clear c4b0
    try clear c4b1
    try clear c5
    try clear c5b0
    try clear c5b1
    obtain ⟨kq, x4_1, rfl, HA, HJ1, ⟨mc1, rfl⟩⟩ := hcut
    cases kq with
    | zero => exact absurd HA.out (by simp [impl_argsOf.j0])
    | succ kj1 =>
      have H := HA.out
      clear HA
      simp only [impl_argsOf.j0] at H
      by_cases c6 : x4_1 = true
      · subst c6
        have H1 : (some 0) = some r := by rw [if_pos rfl] at H; exact H
        clear H
        have H := H1
        clear H1
        obtain rfl := Option.some.inj H
        go_wp2
        go_ret
        exact ⟨by first | rfl | (simp; done) | (simp [*]; done), by repeat (first | exact Drawn0.refl _ | apply Drawn0.step)⟩
      · replace c6 := Bool.eq_false_iff.mpr c6
        subst c6
        have H1 : (if a0 = 8 then (impl_argsOf.j1 kj1 a0 (a0 == 8)) else (impl_argsOf.j1 kj1 a0 (a0 == 9))) = some r := by rw [if_neg (show ¬ (false = true) by decide)] at H; exact H
        clear H
        have H := H1
        clear H1
        have HC7 := Aside0.mk H
        clear H
        go_upto_if 9 with (fail)
        go_cut [9] (fun v9 wc => ∃ (kq : Nat) (x9_6 : Bool), v9 = .bool x9_6 ∧ Aside0 (impl_argsOf.j1 kq a0 x9_6 = some r) ∧ Aside0 (kq ≤ kj1) ∧ Drawn0 w wc)
        case first =>
          have H := HC7.out
          clear HC7
          by_cases c8 : a0 = 8
          · rw [if_pos c8] at H
            have c8b0 : (a0 == 8) = true := beq_iff_eq.mpr c8
            have c8b1 : (a0 != 8) = false := bne_eq_false_iff_eq.mpr c8
            clear c8
            (first | rw [c8b0] | (simp only [i64_w, i32_w]; rw [c8b0]) | skip)
            have H' := Aside0.mk H
            clear H
            go_wp2
            go_meet
            case rel => exact ⟨_, ((a0 == 8)), (by first | rfl | (simp; done) | (simp [*]; done)), H', ⟨by have := HJ1.out; first | omega | exact Nat.le_refl _⟩, by repeat (first | exact Drawn0.refl _ | apply Drawn0.step)⟩
          · rw [if_neg c8] at H
            have c8b0 : (a0 == 8) = false := beq_eq_false_iff_ne.mpr c8
            have c8b1 : (a0 != 8) = true := bne_iff_ne.mpr c8
            (first | rw [c8b0] | (simp only [i64_w, i32_w]; rw [c8b0]) | skip)
            have H' := Aside0.mk H
            clear H
            go_wp2
            go_meet
            case rel => exact ⟨_, ((a0 == 9)), (by first | rfl | (simp; done) | (simp [*]; done)), H', ⟨by have := HJ1.out; first | omega | exact Nat.le_refl _⟩, by repeat (first | exact Drawn0.refl _ | apply Drawn0.step)⟩
        case rest =>
          clear HC7
          try clear c1
          try clear p2
          try clear c3
          try clear c3b0
          try clear c3b1
          try clear c4
          try clear c4b0
          try clear c4b1
          try clear c5
          try clear c5b0
          try clear c5b1
          try clear c6
          try clear c8
          try clear c8b0
          try clear c8b1
          try clear p2
          obtain ⟨kq, x9_6, rfl, HA, HJ6, ⟨mc6, rfl⟩⟩ := hcut
          cases kq with
          | zero => exact absurd HA.out (by simp [impl_argsOf.j1])
          | succ kj6 =>
            have H := HA.out
            clear HA
            simp only [impl_argsOf.j1] at H
            by_cases c9 : x9_6 = true
            · subst c9
              have H1 : (some 1) = some r := by rw [if_pos rfl] at H; exact H
              clear H
              have H := H1
              clear H1
              obtain rfl := Option.some.inj H
              go_wp2
              go_ret
              exact ⟨by first | rfl | (simp; done) | (simp [*]; done), by repeat (first | exact Drawn0.refl _ | apply Drawn0.step)⟩
            · replace c9 := Bool.eq_false_iff.mpr c9
              subst c9
              have H1 : (if a0 = 5 then (some 2) else (if a0 = 6 then (some 2) else (if a0 = 7 then (some 2) else (some (-1))))) = some r := by rw [if_neg (show ¬ (false = true) by decide)] at H; exact H
              clear H
              have H := H1
              clear H1
              by_cases c10 : a0 = 5
              · rw [if_pos c10] at H
                have c10b0 : (a0 == 5) = true := beq_iff_eq.mpr c10
                have c10b1 : (a0 != 5) = false := bne_eq_false_iff_eq.mpr c10
                clear c10
                obtain rfl := Option.some.inj H
                go_wp2
                go_ret
                exact ⟨by first | rfl | (simp; done) | (simp [*]; done), by repeat (first | exact Drawn0.refl _ | apply Drawn0.step)⟩
              · rw [if_neg c10] at H
                have c10b0 : (a0 == 5) = false := beq_eq_false_iff_ne.mpr c10
                have c10b1 : (a0 != 5) = true := bne_iff_ne.mpr c10
                by_cases c11 : a0 = 6
                · rw [if_pos c11] at H
                  have c11b0 : (a0 == 6) = true := beq_iff_eq.mpr c11
                  have c11b1 : (a0 != 6) = false := bne_eq_false_iff_eq.mpr c11
                  clear c11
                  obtain rfl := Option.some.inj H
                  go_wp2
                  go_ret
                  exact ⟨by first | rfl | (simp; done) | (simp [*]; done), by repeat (first | exact Drawn0.refl _ | apply Drawn0.step)⟩
                · rw [if_neg c11] at H
                  have c11b0 : (a0 == 6) = false := beq_eq_false_iff_ne.mpr c11
                  have c11b1 : (a0 != 6) = true := bne_iff_ne.mpr c11
                  by_cases c12 : a0 = 7
                  · rw [if_pos c12] at H
                    have c12b0 : (a0 == 7) = true := beq_iff_eq.mpr c12
                    have c12b1 : (a0 != 7) = false := bne_eq_false_iff_eq.mpr c12
                    clear c12
                    obtain rfl := Option.some.inj H
                    go_wp2
                    go_ret
                    exact ⟨by first | rfl | (simp; done) | (simp [*]; done), by repeat (first | exact Drawn0.refl _ | apply Drawn0.step)⟩
                  · rw [if_neg c12] at H
                    have c12b0 : (a0 == 7) = false := beq_eq_false_iff_ne.mpr c12
                    have c12b1 : (a0 != 7) = true := bne_iff_ne.mpr c12
                    obtain rfl := Option.some.inj H
                    go_wp2
                    go_ret
                    exact ⟨by first | rfl | (simp; done) | (simp [*]; done), by repeat (first | exact Drawn0.refl _ | apply Drawn0.step)⟩

/-! ### impl_nodesOf: function 168 -/
mutual
def impl_nodesOf.j0 : Nat → Int → Bool → Int → ByteArray → List (S42) → Option (Int)
  | 0, _, _, _, _, _ => none
  | k + 1, x1, x18, x168002000, x168002001, x168002002 => if x18 = true then (some 17) else (if x168002000 = 3 then (if (x168002001.size : Int) = 1 then ((impl_IsWord.f k x168002001).bind fun t168003 => (if t168003 = true then (impl_nodesOf.j1 k x1 x168002000 x168002001 x168002002) else (some 17))) else (some 17)) else (if x168002001.toList = ([] : List UInt8) then (impl_nodesOf.j1 k x1 x168002000 x168002001 x168002002) else (some 17)))
def impl_nodesOf.j1 : Nat → Int → Int → ByteArray → List (S42) → Option (Int)
  | 0, _, _, _, _ => none
  | k + 1, x1, x168002000, x168002001, x168002002 => impl_nodesOf.l0 k x1 1 x168002002 (x168002002.length : Int) 0
def impl_nodesOf.l0 : Nat → Int → Int → List (S42) → Int → Int → Option (Int)
  | 0, _, _, _, _, _ => none
  | k + 1, x1, x5, x36, x37, x38 => if x38 < x37 then (if 0 ≤ x38 then (if x38 < (x36.length : Int) then ((impl_nodesOf.f k ((rd_T42 x36 x38).f0) ((rd_T42 x36 x38).f1) ((rd_T42 x36 x38).f2) (wrap64 (x1 - 1))).bind fun t168006 => (impl_nodesOf.l0 k x1 (wrap64 (x5 + t168006)) x36 x37 (wrap64 (x38 + 1)))) else (none)) else (none)) else (some (mn x5 17))
def impl_nodesOf.f : Nat → Int → ByteArray → List (S42) → Int → Option (Int)
  | 0, _, _, _, _ => none
  | k + 1, a0_0, a0_1, l0_2, a1 => if a1 = 0 then (impl_nodesOf.j0 k a1 true a0_0 a0_1 l0_2) else ((impl_argsOf.f k a0_0).bind fun t168002 => (impl_nodesOf.j0 k a1 ((l0_2.length : Int) != t168002) a0_0 a0_1 l0_2))
end
theorem impl_nodesOf.mono_l : ∀ k, (∀ y0 y1 y2 y3, LeO (impl_nodesOf.f k y0 y1 y2 y3) (impl_nodesOf.f (k + 1) y0 y1 y2 y3)) ∧ (∀ y0 y1 y2 y3 y4, LeO (impl_nodesOf.j0 k y0 y1 y2 y3 y4) (impl_nodesOf.j0 (k + 1) y0 y1 y2 y3 y4)) ∧ (∀ y0 y1 y2 y3, LeO (impl_nodesOf.j1 k y0 y1 y2 y3) (impl_nodesOf.j1 (k + 1) y0 y1 y2 y3)) ∧ (∀ y0 y1 y2 y3 y4, LeO (impl_nodesOf.l0 k y0 y1 y2 y3 y4) (impl_nodesOf.l0 (k + 1) y0 y1 y2 y3 y4))
  | 0 => ⟨fun _ _ _ _ r h => by simp [impl_nodesOf.f] at h, fun _ _ _ _ _ r h => by simp [impl_nodesOf.j0] at h, fun _ _ _ _ r h => by simp [impl_nodesOf.j1] at h, fun _ _ _ _ _ r h => by simp [impl_nodesOf.l0] at h⟩
  | k + 1 => by
    obtain ⟨ih0, ih1, ih2, ih3⟩ := impl_nodesOf.mono_l k
    refine ⟨?_, ?_, ?_, ?_⟩
    · intro y0 y1 y2 y3
      unfold impl_nodesOf.f
      repeat' first
      | (with_reducible exact ih0 _ _ _ _)
      | (with_reducible exact ih1 _ _ _ _ _)
      | (with_reducible exact ih2 _ _ _ _)
      | (with_reducible exact ih3 _ _ _ _ _)
      | (with_reducible exact impl_IsWord.mono _ _)
      | (with_reducible exact impl_argsOf.mono _ _)
      | (with_reducible exact LeO.refl _)
      | (with_reducible exact LeO.none _)
      | (with_reducible refine LeO.ite ?_ ?_)
      | (with_reducible refine LeO.bind ?_ (fun _ => ?_))
      | exact ih0 _ _ _ _
      | exact ih1 _ _ _ _ _
      | exact ih2 _ _ _ _
      | exact ih3 _ _ _ _ _
      | exact impl_IsWord.mono _ _
      | exact impl_argsOf.mono _ _
      | exact LeO.none _
      | refine LeO.ite ?_ ?_
      | refine LeO.bind ?_ (fun _ => ?_)
    · intro y0 y1 y2 y3 y4
      unfold impl_nodesOf.j0
      repeat' first
      | (with_reducible exact ih0 _ _ _ _)
      | (with_reducible exact ih1 _ _ _ _ _)
      | (with_reducible exact ih2 _ _ _ _)
      | (with_reducible exact ih3 _ _ _ _ _)
      | (with_reducible exact impl_IsWord.mono _ _)
      | (with_reducible exact impl_argsOf.mono _ _)
      | (with_reducible exact LeO.refl _)
      | (with_reducible exact LeO.none _)
      | (with_reducible refine LeO.ite ?_ ?_)
      | (with_reducible refine LeO.bind ?_ (fun _ => ?_))
      | exact ih0 _ _ _ _
      | exact ih1 _ _ _ _ _
      | exact ih2 _ _ _ _
      | exact ih3 _ _ _ _ _
      | exact impl_IsWord.mono _ _
      | exact impl_argsOf.mono _ _
      | exact LeO.none _
      | refine LeO.ite ?_ ?_
      | refine LeO.bind ?_ (fun _ => ?_)
    · intro y0 y1 y2 y3
      unfold impl_nodesOf.j1
      repeat' first
      | (with_reducible exact ih0 _ _ _ _)
      | (with_reducible exact ih1 _ _ _ _ _)
      | (with_reducible exact ih2 _ _ _ _)
      | (with_reducible exact ih3 _ _ _ _ _)
      | (with_reducible exact impl_IsWord.mono _ _)
      | (with_reducible exact impl_argsOf.mono _ _)
      | (with_reducible exact LeO.refl _)
      | (with_reducible exact LeO.none _)
      | (with_reducible refine LeO.ite ?_ ?_)
      | (with_reducible refine LeO.bind ?_ (fun _ => ?_))
      | exact ih0 _ _ _ _
      | exact ih1 _ _ _ _ _
      | exact ih2 _ _ _ _
      | exact ih3 _ _ _ _ _
      | exact impl_IsWord.mono _ _
      | exact impl_argsOf.mono _ _
      | exact LeO.none _
      | refine LeO.ite ?_ ?_
      | refine LeO.bind ?_ (fun _ => ?_)
    · intro y0 y1 y2 y3 y4
      unfold impl_nodesOf.l0
      repeat' first
      | (with_reducible exact ih0 _ _ _ _)
      | (with_reducible exact ih1 _ _ _ _ _)
      | (with_reducible exact ih2 _ _ _ _)
      | (with_reducible exact ih3 _ _ _ _ _)
      | (with_reducible exact impl_IsWord.mono _ _)
      | (with_reducible exact impl_argsOf.mono _ _)
      | (with_reducible exact LeO.refl _)
      | (with_reducible exact LeO.none _)
      | (with_reducible refine LeO.ite ?_ ?_)
      | (with_reducible refine LeO.bind ?_ (fun _ => ?_))
      | exact ih0 _ _ _ _
      | exact ih1 _ _ _ _ _
      | exact ih2 _ _ _ _
      | exact ih3 _ _ _ _ _
      | exact impl_IsWord.mono _ _
      | exact impl_argsOf.mono _ _
      | exact LeO.none _
      | refine LeO.ite ?_ ?_
      | refine LeO.bind ?_ (fun _ => ?_)
theorem impl_nodesOf.mono : ∀ a0 a1 a2 a3 k, LeO (impl_nodesOf.f k a0 a1 a2 a3) (impl_nodesOf.f (k + 1) a0 a1 a2 a3) := by
  intro a0 a1 a2 a3 k
  obtain ⟨ih0, ih1, ih2, ih3⟩ := impl_nodesOf.mono_l k
  exact ih0 a0 a1 a2 a3
set_option maxHeartbeats 8000000 in
set_option maxRecDepth 100000 in
theorem impl_nodesOf.calls (k : Nat) : ∀ (a0_0 : Int) (a0_1 : ByteArray) (A0_2 : Option Addr) (c0_2 : Nat) (l0_2 : List (S42)) (a1 : Int) (r : Int) (w : World) (hr0_2 : Kd.C k42 w A0_2 l0_2.length l0_2) (hc0_2 : l0_2.length ≤ c0_2) (h : impl_nodesOf.f k a0_0 a0_1 l0_2 a1 = some r),
    Calls Try.prog 168 #[.agg #[.int .i64 a0_0, .string a0_1, .slice A0_2 l0_2.length c0_2], .int .i64 a1] w fun e w' => e = .returned (.int .i64 r) ∧ Below w.heap.size w w' := by
  induction k using Nat.strongRecOn with
  | _ k ih =>
  intro a0_0 a0_1 A0_2 c0_2 l0_2 a1 r w hr0_2 hc0_2 h
  cases k with
  | zero => exact absurd h (by simp [impl_nodesOf.f])
  | succ k =>
  simp only [impl_nodesOf.f] at h
  have hu42 := Try.underlying42
  have HR0_2 := Aside0.mk hr0_2
  have HC0_2 := Aside0.mk hc0_2
  clear hr0_2 hc0_2
  have HB := Aside0.mk (Below.refl w.heap.size w)
  have H : (if a1 = 0 then (impl_nodesOf.j0 k a1 true a0_0 a0_1 l0_2) else ((impl_argsOf.f k a0_0).bind fun t168002 => (impl_nodesOf.j0 k a1 ((l0_2.length : Int) != t168002) a0_0 a0_1 l0_2))) = some r := h
  clear h
  have HC3 := Aside0.mk H
  clear H
  go_enter Try.func168, Try.ntmps168
  go_upto_region 1 with (first | ((with_reducible refine gate_dst (N := 2) rfl ?_); (try (refine gate_guard (by rfl) ?_; dsimp only)); refine box_event ?hg (N := 2) ?hd (cs := #[.int .i64 a0_0, .string a0_1, .slice A0_2 l0_2.length c0_2]) (t := 42) ?hr ?_; (case hd => rfl); (case hg => rfl); (case hr => first | (go_simp; done) | (go_simp; rfl)); intro gb168001 hg w4 hbox hb; have n0_ := Aside0.mk (below_step (by repeat (first | (with_reducible first | exact HB.out | apply below_alloc | apply pw_below_drewN | apply below_drew1) | exact HB.out)) hb); have n1_ := Aside0.mk (hbox); have n2_ := Aside0.mk ((by rw [hg]; exact (below_size (by repeat (first | (with_reducible first | exact HB.out | apply below_alloc | apply pw_below_drewN | apply below_drew1) | exact HB.out))) : w.heap.size ≤ gb168001)); have n3_ := Aside0.mk ((by rw [hg]; exact (below_size (by repeat (first | (with_reducible first | exact HB.out | apply below_alloc | apply pw_below_drewN | apply below_drew1) | exact HB.out))) : w.heap.size ≤ gb168001)); clear HB; have HB := n0_; have BK168001 := n1_; have GW168001 := n2_; have GE168001 := n3_; clear n0_ n1_ n2_ n3_; clear hb hbox hg))
  repeat (go_quiet (first | ((with_reducible refine gate_dst (N := 2) rfl ?_); (try (refine gate_guard (by rfl) ?_; dsimp only)); refine box_event ?hg (N := 2) ?hd (cs := #[.int .i64 a0_0, .string a0_1, .slice A0_2 l0_2.length c0_2]) (t := 42) ?hr ?_; (case hd => rfl); (case hg => rfl); (case hr => first | (go_simp; done) | (go_simp; rfl)); intro gb168001 hg w4 hbox hb; have n0_ := Aside0.mk (below_step (by repeat (first | (with_reducible first | exact HB.out | apply below_alloc | apply pw_below_drewN | apply below_drew1) | exact HB.out)) hb); have n1_ := Aside0.mk (hbox); have n2_ := Aside0.mk ((by rw [hg]; exact (below_size (by repeat (first | (with_reducible first | exact HB.out | apply below_alloc | apply pw_below_drewN | apply below_drew1) | exact HB.out))) : w.heap.size ≤ gb168001)); have n3_ := Aside0.mk ((by rw [hg]; exact (below_size (by repeat (first | (with_reducible first | exact HB.out | apply below_alloc | apply pw_below_drewN | apply below_drew1) | exact HB.out))) : w.heap.size ≤ gb168001)); clear HB; have HB := n0_; have BK168001 := n1_; have GW168001 := n2_; have GE168001 := n3_; clear n0_ n1_ n2_ n3_; clear hb hbox hg)); go_upto_region 1 with (first | ((with_reducible refine gate_dst (N := 2) rfl ?_); (try (refine gate_guard (by rfl) ?_; dsimp only)); refine box_event ?hg (N := 2) ?hd (cs := #[.int .i64 a0_0, .string a0_1, .slice A0_2 l0_2.length c0_2]) (t := 42) ?hr ?_; (case hd => rfl); (case hg => rfl); (case hr => first | (go_simp; done) | (go_simp; rfl)); intro gb168001 hg w4 hbox hb; have n0_ := Aside0.mk (below_step (by repeat (first | (with_reducible first | exact HB.out | apply below_alloc | apply pw_below_drewN | apply below_drew1) | exact HB.out)) hb); have n1_ := Aside0.mk (hbox); have n2_ := Aside0.mk ((by rw [hg]; exact (below_size (by repeat (first | (with_reducible first | exact HB.out | apply below_alloc | apply pw_below_drewN | apply below_drew1) | exact HB.out))) : w.heap.size ≤ gb168001)); have n3_ := Aside0.mk ((by rw [hg]; exact (below_size (by repeat (first | (with_reducible first | exact HB.out | apply below_alloc | apply pw_below_drewN | apply below_drew1) | exact HB.out))) : w.heap.size ≤ gb168001)); clear HB; have HB := n0_; have BK168001 := n1_; have GW168001 := n2_; have GE168001 := n3_; clear n0_ n1_ n2_ n3_; clear hb hbox hg)))
  (try simp only [Act.put, List.setIfInBounds_toArray, List.set_cons_zero, List.set_cons_succ])
  go_cut [18] (fun v18 wc => ∃ (kq : Nat) (x18_2 : Bool), v18 = .bool x18_2 ∧ Aside0 (impl_nodesOf.j0 kq a1 x18_2 a0_0 a0_1 l0_2 = some r) ∧ Aside0 (kq ≤ k) ∧ Aside0 (wc.heap[gb168001]? = some (.cells #[.int .i64 a0_0, .string a0_1, (.slice A0_2 l0_2.length c0_2)] 42 (0, 0))) ∧ Aside0 (Below w.heap.size w wc))
  case first =>
    have H := HC3.out
    clear HC3
    by_cases c5 : a1 = 0
    · rw [if_pos c5] at H
      have c5b0 : (a1 == 0) = true := beq_iff_eq.mpr c5
      have c5b1 : (a1 != 0) = false := bne_eq_false_iff_eq.mpr c5
      clear c5
      (first | rw [c5b0] | (simp only [i64_w, i32_w]; rw [c5b0]) | skip)
      have H' := Aside0.mk H
      clear H
      go_wp2
      repeat (go_quiet (fail); try go_wp2)
      go_meet
      case rel => exact ⟨_, (true), (by first | rfl | (simp; done) | (simp [*]; done)), H', ⟨by first | omega | exact Nat.le_refl _⟩, ⟨by (with_reducible repeat (first | refine blk_drewN ?_ _ | refine blk_drew ?_ | refine blk_alloc ?_ _)); exact BK168001.out⟩, ⟨by repeat (first | (with_reducible first | exact HB.out | apply below_alloc | apply pw_below_drewN | apply below_drew1 | refine below_set ?_ GE168001.out) | exact HB.out)⟩⟩
    · rw [if_neg c5] at H
      have c5b0 : (a1 == 0) = false := beq_eq_false_iff_ne.mpr c5
      have c5b1 : (a1 != 0) = true := bne_iff_ne.mpr c5
      (first | rw [c5b0] | (simp only [i64_w, i32_w]; rw [c5b0]) | skip)
      replace H := Option.bind_eq_some_iff.mp H
      obtain ⟨t168002, A60, H⟩ := H
      replace H : (impl_nodesOf.j0 k a1 ((l0_2.length : Int) != t168002) a0_0 a0_1 l0_2) = some r := H
      have A6 := Aside0.mk A60
      clear A60
      have H' := Aside0.mk H
      clear H
      have hcz7_0 : w4.cell? ⟨gb168001, 0, none⟩ = some (.int .i64 a0_0) := (blk_cell BK168001.out 0).trans rfl
      have hcz7_1 : w4.cell? ⟨gb168001, 1, none⟩ = some (.string a0_1) := (blk_cell BK168001.out 1).trans rfl
      have hcz7_2 : w4.cell? ⟨gb168001, 2, none⟩ = some (.slice A0_2 l0_2.length c0_2) := (blk_cell BK168001.out 2).trans rfl
      have hfz7_0 := blk_frozen BK168001.out 0
      have hfz7_1 := blk_frozen BK168001.out 1
      have hfz7_2 := blk_frozen BK168001.out 2
      go_wp2_with (first | (go_at_call 196; (with_reducible refine (impl_argsOf.calls k a0_0 t168002 _ A6.out).mono ?_); rintro e w' ⟨rfl, ⟨nd, rfl⟩⟩; (try first | exact ⟨rfl, _, World.drewN_drewN _ _ _⟩ | exact ⟨rfl, _, Eq.trans (World.drewN_drewN _ _ _) (congrArg (World.drewN _) (Nat.add_assoc _ _ _))⟩)))
      repeat (go_quiet (first | (go_at_call 196; (with_reducible refine (impl_argsOf.calls k a0_0 t168002 _ A6.out).mono ?_); rintro e w' ⟨rfl, ⟨nd, rfl⟩⟩; (try first | exact ⟨rfl, _, World.drewN_drewN _ _ _⟩ | exact ⟨rfl, _, Eq.trans (World.drewN_drewN _ _ _) (congrArg (World.drewN _) (Nat.add_assoc _ _ _))⟩))); try go_wp2_with (first | (go_at_call 196; (with_reducible refine (impl_argsOf.calls k a0_0 t168002 _ A6.out).mono ?_); rintro e w' ⟨rfl, ⟨nd, rfl⟩⟩; (try first | exact ⟨rfl, _, World.drewN_drewN _ _ _⟩ | exact ⟨rfl, _, Eq.trans (World.drewN_drewN _ _ _) (congrArg (World.drewN _) (Nat.add_assoc _ _ _))⟩))))
      go_meet
      case rel => exact ⟨_, (((l0_2.length : Int) != t168002)), (by first | rfl | (simp; done) | (simp [*]; done)), H', ⟨by first | omega | exact Nat.le_refl _⟩, ⟨by (with_reducible repeat (first | refine blk_drewN ?_ _ | refine blk_drew ?_ | refine blk_alloc ?_ _)); exact BK168001.out⟩, ⟨by repeat (first | (with_reducible first | exact HB.out | apply below_alloc | apply pw_below_drewN | apply below_drew1 | refine below_set ?_ GE168001.out) | exact HB.out)⟩⟩
  case rest =>
    clear HC3
    try clear c1
    try clear p2
    try clear c5
    try clear c5b0
    try clear c5b1
    try clear hcz7_0
    try clear hcz7_1
    try clear hcz7_2
    try clear hfz7_0
    try clear hfz7_1
    try clear hfz7_2
    obtain ⟨kq, x18_2, rfl, HA, HJ2, BK168001, HB⟩ := hcut
    cases kq with
    | zero => exact absurd HA.out (by simp [impl_nodesOf.j0])
    | succ kj2 =>
      have H := HA.out
      clear HA
      simp only [impl_nodesOf.j0] at H
      by_cases c8 : x18_2 = true
      · subst c8
        have H1 : (some 17) = some r := by rw [if_pos rfl] at H; exact H
        clear H
        have H := H1
        clear H1
        obtain rfl := Option.some.inj H
        go_wp2
        repeat (go_quiet (fail); try go_wp2)
        go_ret
        exact ⟨by first | rfl | (simp [errW_none, errW_some] <;> rfl) | (simp [*, errW_none, errW_some] <;> rfl), by repeat (first | (with_reducible first | exact HB.out | apply below_alloc | apply pw_below_drewN | apply below_drew1 | refine below_set ?_ GE168001.out) | exact HB.out)⟩
      · replace c8 := Bool.eq_false_iff.mpr c8
        subst c8
        have H1 : (if a0_0 = 3 then (if (a0_1.size : Int) = 1 then ((impl_IsWord.f kj2 a0_1).bind fun t168003 => (if t168003 = true then (impl_nodesOf.j1 kj2 a1 a0_0 a0_1 l0_2) else (some 17))) else (some 17)) else (if a0_1.toList = ([] : List UInt8) then (impl_nodesOf.j1 kj2 a1 a0_0 a0_1 l0_2) else (some 17))) = some r := by rw [if_neg (show ¬ (false = true) by decide)] at H; exact H
        clear H
        have H := H1
        clear H1
        have HC9 := Aside0.mk H
        clear H
        have hcz10_0 : wc.cell? ⟨gb168001, 0, none⟩ = some (.int .i64 a0_0) := (blk_cell BK168001.out 0).trans rfl
        have hcz10_1 : wc.cell? ⟨gb168001, 1, none⟩ = some (.string a0_1) := (blk_cell BK168001.out 1).trans rfl
        have hcz10_2 : wc.cell? ⟨gb168001, 2, none⟩ = some (.slice A0_2 l0_2.length c0_2) := (blk_cell BK168001.out 2).trans rfl
        have hfz10_0 := blk_frozen BK168001.out 0
        have hfz10_1 := blk_frozen BK168001.out 1
        have hfz10_2 := blk_frozen BK168001.out 2
        go_upto_if 21 with (fail)
        repeat (go_quiet (fail); go_upto_if 21 with (fail))
        go_cut [] (fun wc => ∃ (kq : Nat), Aside0 (impl_nodesOf.j1 kq a1 a0_0 a0_1 l0_2 = some r) ∧ Aside0 (kq ≤ kj2) ∧ Aside0 (wc.heap[gb168001]? = some (.cells #[.int .i64 a0_0, .string a0_1, (.slice A0_2 l0_2.length c0_2)] 42 (0, 0))) ∧ Aside0 (Below w.heap.size w wc))
        case first =>
          have H := HC9.out
          clear HC9
          by_cases c11 : a0_0 = 3
          · rw [if_pos c11] at H
            have c11b0 : (a0_0 == 3) = true := beq_iff_eq.mpr c11
            have c11b1 : (a0_0 != 3) = false := bne_eq_false_iff_eq.mpr c11
            clear c11
            (first | rw [c11b0] | (simp only [i64_w, i32_w]; rw [c11b0]) | skip)
            by_cases c12 : (a0_1.size : Int) = 1
            · rw [if_pos c12] at H
              have c12b0 : ((a0_1.size : Int) == 1) = true := beq_iff_eq.mpr c12
              have c12b1 : ((a0_1.size : Int) != 1) = false := bne_eq_false_iff_eq.mpr c12
              clear c12
              replace H := Option.bind_eq_some_iff.mp H
              obtain ⟨t168003, A130, H⟩ := H
              replace H : (if t168003 = true then (impl_nodesOf.j1 kj2 a1 a0_0 a0_1 l0_2) else (some 17)) = some r := H
              have A13 := Aside0.mk A130
              clear A130
              by_cases c14 : t168003 = true
              · subst c14
                have H1 : (impl_nodesOf.j1 kj2 a1 a0_0 a0_1 l0_2) = some r := by rw [if_pos rfl] at H; exact H
                clear H
                have H := H1
                clear H1
                have H' := Aside0.mk H
                clear H
                have hcz15_0 : wc.cell? ⟨gb168001, 0, none⟩ = some (.int .i64 a0_0) := (blk_cell BK168001.out 0).trans rfl
                have hcz15_1 : wc.cell? ⟨gb168001, 1, none⟩ = some (.string a0_1) := (blk_cell BK168001.out 1).trans rfl
                have hcz15_2 : wc.cell? ⟨gb168001, 2, none⟩ = some (.slice A0_2 l0_2.length c0_2) := (blk_cell BK168001.out 2).trans rfl
                have hfz15_0 := blk_frozen BK168001.out 0
                have hfz15_1 := blk_frozen BK168001.out 1
                have hfz15_2 := blk_frozen BK168001.out 2
                go_wp2_with (first | (go_at_call 187; (with_reducible refine (impl_IsWord.calls kj2 a0_1 true _ A13.out).mono ?_); rintro e w' ⟨rfl, ⟨nd, rfl⟩⟩; (try first | exact ⟨rfl, _, World.drewN_drewN _ _ _⟩ | exact ⟨rfl, _, Eq.trans (World.drewN_drewN _ _ _) (congrArg (World.drewN _) (Nat.add_assoc _ _ _))⟩)))
                repeat (go_quiet (first | (go_at_call 187; (with_reducible refine (impl_IsWord.calls kj2 a0_1 true _ A13.out).mono ?_); rintro e w' ⟨rfl, ⟨nd, rfl⟩⟩; (try first | exact ⟨rfl, _, World.drewN_drewN _ _ _⟩ | exact ⟨rfl, _, Eq.trans (World.drewN_drewN _ _ _) (congrArg (World.drewN _) (Nat.add_assoc _ _ _))⟩))); try go_wp2_with (first | (go_at_call 187; (with_reducible refine (impl_IsWord.calls kj2 a0_1 true _ A13.out).mono ?_); rintro e w' ⟨rfl, ⟨nd, rfl⟩⟩; (try first | exact ⟨rfl, _, World.drewN_drewN _ _ _⟩ | exact ⟨rfl, _, Eq.trans (World.drewN_drewN _ _ _) (congrArg (World.drewN _) (Nat.add_assoc _ _ _))⟩))))
                go_meet
                case rel => exact ⟨_, H', ⟨by have := HJ2.out; first | omega | exact Nat.le_refl _⟩, ⟨by (with_reducible repeat (first | refine blk_drewN ?_ _ | refine blk_drew ?_ | refine blk_alloc ?_ _)); exact BK168001.out⟩, ⟨by repeat (first | (with_reducible first | exact HB.out | apply below_alloc | apply pw_below_drewN | apply below_drew1 | refine below_set ?_ GE168001.out) | exact HB.out)⟩⟩
              · replace c14 := Bool.eq_false_iff.mpr c14
                subst c14
                have H1 : (some 17) = some r := by rw [if_neg (show ¬ (false = true) by decide)] at H; exact H
                clear H
                have H := H1
                clear H1
                obtain rfl := Option.some.inj H
                have hcz16_0 : wc.cell? ⟨gb168001, 0, none⟩ = some (.int .i64 a0_0) := (blk_cell BK168001.out 0).trans rfl
                have hcz16_1 : wc.cell? ⟨gb168001, 1, none⟩ = some (.string a0_1) := (blk_cell BK168001.out 1).trans rfl
                have hcz16_2 : wc.cell? ⟨gb168001, 2, none⟩ = some (.slice A0_2 l0_2.length c0_2) := (blk_cell BK168001.out 2).trans rfl
                have hfz16_0 := blk_frozen BK168001.out 0
                have hfz16_1 := blk_frozen BK168001.out 1
                have hfz16_2 := blk_frozen BK168001.out 2
                go_wp2_with (first | (go_at_call 187; (with_reducible refine (impl_IsWord.calls kj2 a0_1 false _ A13.out).mono ?_); rintro e w' ⟨rfl, ⟨nd, rfl⟩⟩; (try first | exact ⟨rfl, _, World.drewN_drewN _ _ _⟩ | exact ⟨rfl, _, Eq.trans (World.drewN_drewN _ _ _) (congrArg (World.drewN _) (Nat.add_assoc _ _ _))⟩)))
                repeat (go_quiet (first | (go_at_call 187; (with_reducible refine (impl_IsWord.calls kj2 a0_1 false _ A13.out).mono ?_); rintro e w' ⟨rfl, ⟨nd, rfl⟩⟩; (try first | exact ⟨rfl, _, World.drewN_drewN _ _ _⟩ | exact ⟨rfl, _, Eq.trans (World.drewN_drewN _ _ _) (congrArg (World.drewN _) (Nat.add_assoc _ _ _))⟩))); try go_wp2_with (first | (go_at_call 187; (with_reducible refine (impl_IsWord.calls kj2 a0_1 false _ A13.out).mono ?_); rintro e w' ⟨rfl, ⟨nd, rfl⟩⟩; (try first | exact ⟨rfl, _, World.drewN_drewN _ _ _⟩ | exact ⟨rfl, _, Eq.trans (World.drewN_drewN _ _ _) (congrArg (World.drewN _) (Nat.add_assoc _ _ _))⟩))))
                go_ret
                exact ⟨by first | rfl | (simp [errW_none, errW_some] <;> rfl) | (simp [*, errW_none, errW_some] <;> rfl), by repeat (first | (with_reducible first | exact HB.out | apply below_alloc | apply pw_below_drewN | apply below_drew1 | refine below_set ?_ GE168001.out) | exact HB.out)⟩
            · rw [if_neg c12] at H
              have c12b0 : ((a0_1.size : Int) == 1) = false := beq_eq_false_iff_ne.mpr c12
              have c12b1 : ((a0_1.size : Int) != 1) = true := bne_iff_ne.mpr c12
              obtain rfl := Option.some.inj H
              have hcz17_0 : wc.cell? ⟨gb168001, 0, none⟩ = some (.int .i64 a0_0) := (blk_cell BK168001.out 0).trans rfl
              have hcz17_1 : wc.cell? ⟨gb168001, 1, none⟩ = some (.string a0_1) := (blk_cell BK168001.out 1).trans rfl
              have hcz17_2 : wc.cell? ⟨gb168001, 2, none⟩ = some (.slice A0_2 l0_2.length c0_2) := (blk_cell BK168001.out 2).trans rfl
              have hfz17_0 := blk_frozen BK168001.out 0
              have hfz17_1 := blk_frozen BK168001.out 1
              have hfz17_2 := blk_frozen BK168001.out 2
              go_wp2
              repeat (go_quiet (fail); try go_wp2)
              go_ret
              exact ⟨by first | rfl | (simp [errW_none, errW_some] <;> rfl) | (simp [*, errW_none, errW_some] <;> rfl), by repeat (first | (with_reducible first | exact HB.out | apply below_alloc | apply pw_below_drewN | apply below_drew1 | refine below_set ?_ GE168001.out) | exact HB.out)⟩
          · rw [if_neg c11] at H
            have c11b0 : (a0_0 == 3) = false := beq_eq_false_iff_ne.mpr c11
            have c11b1 : (a0_0 != 3) = true := bne_iff_ne.mpr c11
            (first | rw [c11b0] | (simp only [i64_w, i32_w]; rw [c11b0]) | skip)
            by_cases c18 : a0_1.toList = ([] : List UInt8)
            · rw [if_pos c18] at H
              have c18b0 : (a0_1.toList == ([] : List UInt8)) = true := beq_iff_eq.mpr c18
              have c18b1 : (a0_1.toList != ([] : List UInt8)) = false := bne_eq_false_iff_eq.mpr c18
              clear c18
              have H' := Aside0.mk H
              clear H
              have hcz19_0 : wc.cell? ⟨gb168001, 0, none⟩ = some (.int .i64 a0_0) := (blk_cell BK168001.out 0).trans rfl
              have hcz19_1 : wc.cell? ⟨gb168001, 1, none⟩ = some (.string a0_1) := (blk_cell BK168001.out 1).trans rfl
              have hcz19_2 : wc.cell? ⟨gb168001, 2, none⟩ = some (.slice A0_2 l0_2.length c0_2) := (blk_cell BK168001.out 2).trans rfl
              have hfz19_0 := blk_frozen BK168001.out 0
              have hfz19_1 := blk_frozen BK168001.out 1
              have hfz19_2 := blk_frozen BK168001.out 2
              go_wp2
              repeat (go_quiet (fail); try go_wp2)
              go_meet
              case rel => exact ⟨_, H', ⟨by have := HJ2.out; first | omega | exact Nat.le_refl _⟩, ⟨by (with_reducible repeat (first | refine blk_drewN ?_ _ | refine blk_drew ?_ | refine blk_alloc ?_ _)); exact BK168001.out⟩, ⟨by repeat (first | (with_reducible first | exact HB.out | apply below_alloc | apply pw_below_drewN | apply below_drew1 | refine below_set ?_ GE168001.out) | exact HB.out)⟩⟩
            · rw [if_neg c18] at H
              have c18b0 : (a0_1.toList == ([] : List UInt8)) = false := beq_eq_false_iff_ne.mpr c18
              have c18b1 : (a0_1.toList != ([] : List UInt8)) = true := bne_iff_ne.mpr c18
              obtain rfl := Option.some.inj H
              have hcz20_0 : wc.cell? ⟨gb168001, 0, none⟩ = some (.int .i64 a0_0) := (blk_cell BK168001.out 0).trans rfl
              have hcz20_1 : wc.cell? ⟨gb168001, 1, none⟩ = some (.string a0_1) := (blk_cell BK168001.out 1).trans rfl
              have hcz20_2 : wc.cell? ⟨gb168001, 2, none⟩ = some (.slice A0_2 l0_2.length c0_2) := (blk_cell BK168001.out 2).trans rfl
              have hfz20_0 := blk_frozen BK168001.out 0
              have hfz20_1 := blk_frozen BK168001.out 1
              have hfz20_2 := blk_frozen BK168001.out 2
              go_wp2
              repeat (go_quiet (fail); try go_wp2)
              go_ret
              exact ⟨by first | rfl | (simp [errW_none, errW_some] <;> rfl) | (simp [*, errW_none, errW_some] <;> rfl), by repeat (first | (with_reducible first | exact HB.out | apply below_alloc | apply pw_below_drewN | apply below_drew1 | refine below_set ?_ GE168001.out) | exact HB.out)⟩
        case rest =>
          clear HC9
          try clear c1
          try clear p2
          try clear c5
          try clear c5b0
          try clear c5b1
          try clear c8
          try clear c11
          try clear c11b0
          try clear c11b1
          try clear c12
          try clear c12b0
          try clear c12b1
          try clear c14
          try clear c16
          try clear c18
          try clear c18b0
          try clear c18b1
          try clear hcz10_0
          try clear hcz10_1
          try clear hcz10_2
          try clear hcz15_0
          try clear hcz15_1
          try clear hcz15_2
          try clear hcz16_0
          try clear hcz16_1
          try clear hcz16_2
          try clear hcz17_0
          try clear hcz17_1
          try clear hcz17_2
          try clear hcz19_0
          try clear hcz19_1
          try clear hcz19_2
          try clear hcz20_0
          try clear hcz20_1
          try clear hcz20_2
          try clear hcz7_0
          try clear hcz7_1
          try clear hcz7_2
          try clear hfz10_0
          try clear hfz10_1
          try clear hfz10_2
          try clear hfz15_0
          try clear hfz15_1
          try clear hfz15_2
          try clear hfz16_0
          try clear hfz16_1
          try clear hfz16_2
          try clear hfz17_0
          try clear hfz17_1
          try clear hfz17_2
          try clear hfz19_0
          try clear hfz19_1
          try clear hfz19_2
          try clear hfz20_0
          try clear hfz20_1
          try clear hfz20_2
          try clear hfz7_0
          try clear hfz7_1
          try clear hfz7_2
          try clear p2
          obtain ⟨kq, HA, HJ8, BK168001, HB⟩ := hcut
          cases kq with
          | zero => exact absurd HA.out (by simp [impl_nodesOf.j1])
          | succ kj8 =>
            have H := HA.out
            clear HA
            simp only [impl_nodesOf.j1] at H
            have H' := Aside0.mk H
            clear H
            have hcz21_0 : wc.cell? ⟨gb168001, 0, none⟩ = some (.int .i64 a0_0) := (blk_cell BK168001.out 0).trans rfl
            have hcz21_1 : wc.cell? ⟨gb168001, 1, none⟩ = some (.string a0_1) := (blk_cell BK168001.out 1).trans rfl
            have hcz21_2 : wc.cell? ⟨gb168001, 2, none⟩ = some (.slice A0_2 l0_2.length c0_2) := (blk_cell BK168001.out 2).trans rfl
            have hfz21_0 := blk_frozen BK168001.out 0
            have hfz21_1 := blk_frozen BK168001.out 1
            have hfz21_2 := blk_frozen BK168001.out 2
            go_wp2
            repeat (go_quiet (fail); try go_wp2)
            first | go_loopg [5, 38] kj8 (fun kq v5 v38 w' => ∃ (x5_3 : Int) (x38_3 : Int), v5 = .int .i64 x5_3 ∧ v38 = .int .i64 x38_3 ∧ Aside0 (impl_nodesOf.l0 kq a1 x5_3 l0_2 (l0_2.length : Int) x38_3 = some r) ∧ Aside0 (kq ≤ kj8) ∧ Aside0 (w'.heap[gb168001]? = some (.cells #[.int .i64 a0_0, .string a0_1, (.slice A0_2 l0_2.length c0_2)] 42 (0, 0))) ∧ Aside0 (Below w.heap.size w w')) | (simp only [Act.put, List.setIfInBounds_toArray, List.set_cons_succ, List.set_cons_zero]; go_loopg [5, 38] kj8 (fun kq v5 v38 w' => ∃ (x5_3 : Int) (x38_3 : Int), v5 = .int .i64 x5_3 ∧ v38 = .int .i64 x38_3 ∧ Aside0 (impl_nodesOf.l0 kq a1 x5_3 l0_2 (l0_2.length : Int) x38_3 = some r) ∧ Aside0 (kq ≤ kj8) ∧ Aside0 (w'.heap[gb168001]? = some (.cells #[.int .i64 a0_0, .string a0_1, (.slice A0_2 l0_2.length c0_2)] 42 (0, 0))) ∧ Aside0 (Below w.heap.size w w')))
            case atStart => exact ⟨(1), (0), (by first | rfl | (simp; done) | (simp [*]; done)), (by first | rfl | (simp; done) | (simp [*]; done)), H', ⟨Nat.le_refl _⟩, ⟨by (with_reducible repeat (first | refine blk_drewN ?_ _ | refine blk_drew ?_ | refine blk_alloc ?_ _)); exact BK168001.out⟩, ⟨by repeat (first | (with_reducible first | exact HB.out | apply below_alloc | apply pw_below_drewN | apply below_drew1 | refine below_set ?_ GE168001.out) | exact HB.out)⟩⟩
            case round =>
              clear H'
              try clear c1
              try clear p2
              try clear c5
              try clear c5b0
              try clear c5b1
              try clear c8
              try clear c11
              try clear c11b0
              try clear c11b1
              try clear c12
              try clear c12b0
              try clear c12b1
              try clear c14
              try clear c16
              try clear c18
              try clear c18b0
              try clear c18b1
              try clear hcz10_0
              try clear hcz10_1
              try clear hcz10_2
              try clear hcz15_0
              try clear hcz15_1
              try clear hcz15_2
              try clear hcz16_0
              try clear hcz16_1
              try clear hcz16_2
              try clear hcz17_0
              try clear hcz17_1
              try clear hcz17_2
              try clear hcz19_0
              try clear hcz19_1
              try clear hcz19_2
              try clear hcz20_0
              try clear hcz20_1
              try clear hcz20_2
              try clear hcz21_0
              try clear hcz21_1
              try clear hcz21_2
              try clear hcz7_0
              try clear hcz7_1
              try clear hcz7_2
              try clear hfz10_0
              try clear hfz10_1
              try clear hfz10_2
              try clear hfz15_0
              try clear hfz15_1
              try clear hfz15_2
              try clear hfz16_0
              try clear hfz16_1
              try clear hfz16_2
              try clear hfz17_0
              try clear hfz17_1
              try clear hfz17_2
              try clear hfz19_0
              try clear hfz19_1
              try clear hfz19_2
              try clear hfz20_0
              try clear hfz20_1
              try clear hfz20_2
              try clear hfz21_0
              try clear hfz21_1
              try clear hfz21_2
              try clear hfz7_0
              try clear hfz7_1
              try clear hfz7_2
              try clear p2
              obtain ⟨x5_3, x38_3, rfl, rfl, HA, HK3, BK168001, HB⟩ := hrel
              cases gk with
              | zero => exact absurd HA.out (by simp [impl_nodesOf.l0])
              | succ k3 =>
                have H := HA.out
                clear HA
                simp only [impl_nodesOf.l0] at H
                by_cases c22 : x38_3 < (l0_2.length : Int)
                · rw [if_pos c22] at H
                  have c22b0 : decide (x38_3 < (l0_2.length : Int)) = true := decide_eq_true c22
                  clear c22
                  by_cases c23 : 0 ≤ x38_3
                  · rw [if_pos c23] at H
                    have c23b0 : decide (0 ≤ x38_3) = true := decide_eq_true c23
                    clear c23
                    by_cases c24 : x38_3 < (l0_2.length : Int)
                    · rw [if_pos c24] at H
                      have c24b0 : decide (x38_3 < (l0_2.length : Int)) = true := decide_eq_true c24
                      clear c24
                      replace H := Option.bind_eq_some_iff.mp H
                      obtain ⟨t168006, A250, H⟩ := H
                      replace H : (impl_nodesOf.l0 k3 a1 (wrap64 (x5_3 + t168006)) l0_2 (l0_2.length : Int) (wrap64 (x38_3 + 1))) = some r := H
                      have A25 := Aside0.mk A250
                      clear A250
                      have H' := Aside0.mk H
                      clear H
                      have p168004 : 0 ≤ (x38_3 : Int) := of_decide_eq_true (by first | (with_reducible assumption) | assumption)
                      have q168004 : x38_3 < (l0_2.length : Int) := of_decide_eq_true (by first | (with_reducible assumption) | assumption)
                      obtain ⟨ad168004, A168004_2, c168004_2, e168004, hx168004_0, hx168004_1, hx168004_2, hl168004_2, hi168004_2⟩ := at_T42 HR0_2.out x38_3 p168004 q168004
                      cases e168004
                      replace hx168004_0 := (HB.out.cell (World.block_lt_of_cell? w _ hx168004_0)).trans hx168004_0
                      replace hx168004_1 := (HB.out.cell (World.block_lt_of_cell? w _ hx168004_1)).trans hx168004_1
                      replace hx168004_2 := (HB.out.cell (World.block_lt_of_cell? w _ hx168004_2)).trans hx168004_2
                      have HR168004_2 := Aside0.mk hi168004_2
                      have HC168004_2 := Aside0.mk hl168004_2
                      clear hi168004_2 hl168004_2
                      replace p168004 := eq_true p168004
                      replace q168004 := eq_true q168004
                      go_wp2_with (first | ((with_reducible refine gate_dst (N := 7) rfl ?_); (try (refine gate_guard (by rfl) ?_; dsimp only)); refine box_event ?hg (N := 7) ?hd (cs := #[.int .i64 0, .string (⟨#[]⟩ : ByteArray), .slice none 0 0]) (t := 42) ?hr ?_; (case hd => rfl); (case hg => rfl); (case hr => first | (go_simp; done) | (go_simp; rfl)); intro gb168005 hg w26 hbox hb; have n0_ := Aside0.mk (blk_below (g := gb168001) (o := .cells #[.int .i64 a0_0, .string a0_1, .slice (some ad168004) l0_2.length c0_2] 42 (0, 0)) (by (with_reducible repeat (first | refine blk_drewN ?_ _ | refine blk_drew ?_ | refine blk_alloc ?_ _)); exact BK168001.out) hb); have n1_ := Aside0.mk (below_step (by repeat (first | (with_reducible first | exact HB.out | apply below_alloc | apply pw_below_drewN | apply below_drew1 | refine below_set ?_ GE168001.out) | exact HB.out)) hb); have n2_ := Aside0.mk (hbox); have n3_ := Aside0.mk ((by rw [hg]; exact (below_size (by repeat (first | (with_reducible first | exact HB.out | apply below_alloc | apply pw_below_drewN | apply below_drew1 | refine below_set ?_ GE168001.out) | exact HB.out))) : w.heap.size ≤ gb168005)); have n4_ := Aside0.mk ((by rw [hg]; exact (below_size (by repeat (first | (with_reducible first | exact HB.out | apply below_alloc | apply pw_below_drewN | apply below_drew1 | refine below_set ?_ GE168001.out) | exact HB.out))) : w.heap.size ≤ gb168005)); have n5_ := Aside0.mk ((by rw [hg]; exact Nat.ne_of_lt (blk_lt (g := gb168001) (o := .cells #[.int .i64 a0_0, .string a0_1, .slice (some ad168004) l0_2.length c0_2] 42 (0, 0)) (by (with_reducible repeat (first | refine blk_drewN ?_ _ | refine blk_drew ?_ | refine blk_alloc ?_ _)); exact BK168001.out)) : gb168001 ≠ gb168005)); have n6_ := Aside0.mk ((by rw [hg]; exact Nat.ne_of_gt (blk_lt (g := gb168001) (o := .cells #[.int .i64 a0_0, .string a0_1, .slice (some ad168004) l0_2.length c0_2] 42 (0, 0)) (by (with_reducible repeat (first | refine blk_drewN ?_ _ | refine blk_drew ?_ | refine blk_alloc ?_ _)); exact BK168001.out)) : gb168005 ≠ gb168001)); clear BK168001; clear HB; have BK168001 := n0_; have HB := n1_; have BK168005 := n2_; have GW168005 := n3_; have GE168005 := n4_; have NB168001_168005 := n5_; have NB168005_168001 := n6_; clear n0_ n1_ n2_ n3_ n4_ n5_ n6_; clear hb hbox hg; have hnb27 := NB168005_168001.out; have hnc27 := NB168001_168005.out; have hcz28_0 : w26.cell? ⟨gb168005, 0, none⟩ = some (.int .i64 0) := (blk_cell BK168005.out 0).trans rfl; have hcz28_1 : w26.cell? ⟨gb168005, 1, none⟩ = some (.string (⟨#[]⟩ : ByteArray)) := (blk_cell BK168005.out 1).trans rfl; have hcz28_2 : w26.cell? ⟨gb168005, 2, none⟩ = some (.slice none 0 0) := (blk_cell BK168005.out 2).trans rfl; have hfz28_0 := blk_frozen BK168005.out 0; have hfz28_1 := blk_frozen BK168005.out 1; have hfz28_2 := blk_frozen BK168005.out 2) | (go_at_call 168; (with_reducible refine (ih k3 (by have := HJ2.out; have := HJ8.out; have := HK3.out; omega) ((rd_T42 l0_2 x38_3).f0) ((rd_T42 l0_2 x38_3).f1) _ _ ((rd_T42 l0_2 x38_3).f2) (wrap64 (a1 - 1)) t168006 _ ?side1 ?side2 A25.out).mono ?_); (case side1 => exact Kd.C_below HR168004_2.out (by repeat (first | (with_reducible first | exact HB.out | apply below_alloc | apply pw_below_drewN | apply below_drew1 | refine below_set ?_ GE168001.out | refine below_set ?_ GE168005.out) | exact HB.out))); (case side2 => exact HC168004_2.out); rintro e w29 ⟨rfl, hb⟩; have n0_ := Aside0.mk (blk_below (g := gb168001) (o := .cells #[.int .i64 a0_0, .string a0_1, .slice (some ad168004) l0_2.length c0_2] 42 (0, 0)) (by (with_reducible repeat (first | refine blk_drewN ?_ _ | refine blk_drew ?_ | refine blk_alloc ?_ _)); refine blk_far ?_ NB168001_168005.out _; (with_reducible repeat (first | refine blk_drewN ?_ _ | refine blk_drew ?_ | refine blk_alloc ?_ _)); refine blk_far ?_ NB168001_168005.out _; (with_reducible repeat (first | refine blk_drewN ?_ _ | refine blk_drew ?_ | refine blk_alloc ?_ _)); refine blk_far ?_ NB168001_168005.out _; (with_reducible repeat (first | refine blk_drewN ?_ _ | refine blk_drew ?_ | refine blk_alloc ?_ _)); exact BK168001.out) hb); have n1_ := Aside0.mk (blk_below (g := gb168005) (o := .cells #[.int .i64 ((rd_T42 l0_2 x38_3).f0), .string ((rd_T42 l0_2 x38_3).f1), .slice A168004_2 ((rd_T42 l0_2 x38_3).f2).length c168004_2] 42 (0, 0)) (by (with_reducible repeat (first | refine blk_drewN ?_ _ | refine blk_drew ?_ | refine blk_alloc ?_ _)); refine blk_put (cs := #[.int .i64 ((rd_T42 l0_2 x38_3).f0), .string ((rd_T42 l0_2 x38_3).f1), .slice none 0 0]) ?_ 2 _ rfl; (with_reducible repeat (first | refine blk_drewN ?_ _ | refine blk_drew ?_ | refine blk_alloc ?_ _)); refine blk_put (cs := #[.int .i64 ((rd_T42 l0_2 x38_3).f0), .string (⟨#[]⟩ : ByteArray), .slice none 0 0]) ?_ 1 _ rfl; (with_reducible repeat (first | refine blk_drewN ?_ _ | refine blk_drew ?_ | refine blk_alloc ?_ _)); refine blk_put (cs := #[.int .i64 0, .string (⟨#[]⟩ : ByteArray), .slice none 0 0]) ?_ 0 _ rfl; (with_reducible repeat (first | refine blk_drewN ?_ _ | refine blk_drew ?_ | refine blk_alloc ?_ _)); exact BK168005.out) hb); have n2_ := Aside0.mk (below_step (by repeat (first | (with_reducible first | exact HB.out | apply below_alloc | apply pw_below_drewN | apply below_drew1 | refine below_set ?_ GE168001.out | refine below_set ?_ GE168005.out) | exact HB.out)) hb); clear BK168001; clear BK168005; clear HB; have BK168001 := n0_; have BK168005 := n1_; have HB := n2_; clear n0_ n1_ n2_; (try clear hb); (try clear hb2); (try clear hk); (try clear hi)))
                      repeat (go_quiet (first | ((with_reducible refine gate_dst (N := 7) rfl ?_); (try (refine gate_guard (by rfl) ?_; dsimp only)); refine box_event ?hg (N := 7) ?hd (cs := #[.int .i64 0, .string (⟨#[]⟩ : ByteArray), .slice none 0 0]) (t := 42) ?hr ?_; (case hd => rfl); (case hg => rfl); (case hr => first | (go_simp; done) | (go_simp; rfl)); intro gb168005 hg w26 hbox hb; have n0_ := Aside0.mk (blk_below (g := gb168001) (o := .cells #[.int .i64 a0_0, .string a0_1, .slice (some ad168004) l0_2.length c0_2] 42 (0, 0)) (by (with_reducible repeat (first | refine blk_drewN ?_ _ | refine blk_drew ?_ | refine blk_alloc ?_ _)); exact BK168001.out) hb); have n1_ := Aside0.mk (below_step (by repeat (first | (with_reducible first | exact HB.out | apply below_alloc | apply pw_below_drewN | apply below_drew1 | refine below_set ?_ GE168001.out) | exact HB.out)) hb); have n2_ := Aside0.mk (hbox); have n3_ := Aside0.mk ((by rw [hg]; exact (below_size (by repeat (first | (with_reducible first | exact HB.out | apply below_alloc | apply pw_below_drewN | apply below_drew1 | refine below_set ?_ GE168001.out) | exact HB.out))) : w.heap.size ≤ gb168005)); have n4_ := Aside0.mk ((by rw [hg]; exact (below_size (by repeat (first | (with_reducible first | exact HB.out | apply below_alloc | apply pw_below_drewN | apply below_drew1 | refine below_set ?_ GE168001.out) | exact HB.out))) : w.heap.size ≤ gb168005)); have n5_ := Aside0.mk ((by rw [hg]; exact Nat.ne_of_lt (blk_lt (g := gb168001) (o := .cells #[.int .i64 a0_0, .string a0_1, .slice (some ad168004) l0_2.length c0_2] 42 (0, 0)) (by (with_reducible repeat (first | refine blk_drewN ?_ _ | refine blk_drew ?_ | refine blk_alloc ?_ _)); exact BK168001.out)) : gb168001 ≠ gb168005)); have n6_ := Aside0.mk ((by rw [hg]; exact Nat.ne_of_gt (blk_lt (g := gb168001) (o := .cells #[.int .i64 a0_0, .string a0_1, .slice (some ad168004) l0_2.length c0_2] 42 (0, 0)) (by (with_reducible repeat (first | refine blk_drewN ?_ _ | refine blk_drew ?_ | refine blk_alloc ?_ _)); exact BK168001.out)) : gb168005 ≠ gb168001)); clear BK168001; clear HB; have BK168001 := n0_; have HB := n1_; have BK168005 := n2_; have GW168005 := n3_; have GE168005 := n4_; have NB168001_168005 := n5_; have NB168005_168001 := n6_; clear n0_ n1_ n2_ n3_ n4_ n5_ n6_; clear hb hbox hg; have hnb27 := NB168005_168001.out; have hnc27 := NB168001_168005.out; have hcz28_0 : w26.cell? ⟨gb168005, 0, none⟩ = some (.int .i64 0) := (blk_cell BK168005.out 0).trans rfl; have hcz28_1 : w26.cell? ⟨gb168005, 1, none⟩ = some (.string (⟨#[]⟩ : ByteArray)) := (blk_cell BK168005.out 1).trans rfl; have hcz28_2 : w26.cell? ⟨gb168005, 2, none⟩ = some (.slice none 0 0) := (blk_cell BK168005.out 2).trans rfl; have hfz28_0 := blk_frozen BK168005.out 0; have hfz28_1 := blk_frozen BK168005.out 1; have hfz28_2 := blk_frozen BK168005.out 2) | (go_at_call 168; (with_reducible refine (ih k3 (by have := HJ2.out; have := HJ8.out; have := HK3.out; omega) ((rd_T42 l0_2 x38_3).f0) ((rd_T42 l0_2 x38_3).f1) _ _ ((rd_T42 l0_2 x38_3).f2) (wrap64 (a1 - 1)) t168006 _ ?side1 ?side2 A25.out).mono ?_); (case side1 => exact Kd.C_below HR168004_2.out (by repeat (first | (with_reducible first | exact HB.out | apply below_alloc | apply pw_below_drewN | apply below_drew1 | refine below_set ?_ GE168001.out | refine below_set ?_ GE168005.out) | exact HB.out))); (case side2 => exact HC168004_2.out); rintro e w29 ⟨rfl, hb⟩; have n0_ := Aside0.mk (blk_below (g := gb168001) (o := .cells #[.int .i64 a0_0, .string a0_1, .slice (some ad168004) l0_2.length c0_2] 42 (0, 0)) (by (with_reducible repeat (first | refine blk_drewN ?_ _ | refine blk_drew ?_ | refine blk_alloc ?_ _)); refine blk_far ?_ NB168001_168005.out _; (with_reducible repeat (first | refine blk_drewN ?_ _ | refine blk_drew ?_ | refine blk_alloc ?_ _)); refine blk_far ?_ NB168001_168005.out _; (with_reducible repeat (first | refine blk_drewN ?_ _ | refine blk_drew ?_ | refine blk_alloc ?_ _)); refine blk_far ?_ NB168001_168005.out _; (with_reducible repeat (first | refine blk_drewN ?_ _ | refine blk_drew ?_ | refine blk_alloc ?_ _)); exact BK168001.out) hb); have n1_ := Aside0.mk (blk_below (g := gb168005) (o := .cells #[.int .i64 ((rd_T42 l0_2 x38_3).f0), .string ((rd_T42 l0_2 x38_3).f1), .slice A168004_2 ((rd_T42 l0_2 x38_3).f2).length c168004_2] 42 (0, 0)) (by (with_reducible repeat (first | refine blk_drewN ?_ _ | refine blk_drew ?_ | refine blk_alloc ?_ _)); refine blk_put (cs := #[.int .i64 ((rd_T42 l0_2 x38_3).f0), .string ((rd_T42 l0_2 x38_3).f1), .slice none 0 0]) ?_ 2 _ rfl; (with_reducible repeat (first | refine blk_drewN ?_ _ | refine blk_drew ?_ | refine blk_alloc ?_ _)); refine blk_put (cs := #[.int .i64 ((rd_T42 l0_2 x38_3).f0), .string (⟨#[]⟩ : ByteArray), .slice none 0 0]) ?_ 1 _ rfl; (with_reducible repeat (first | refine blk_drewN ?_ _ | refine blk_drew ?_ | refine blk_alloc ?_ _)); refine blk_put (cs := #[.int .i64 0, .string (⟨#[]⟩ : ByteArray), .slice none 0 0]) ?_ 0 _ rfl; (with_reducible repeat (first | refine blk_drewN ?_ _ | refine blk_drew ?_ | refine blk_alloc ?_ _)); exact BK168005.out) hb); have n2_ := Aside0.mk (below_step (by repeat (first | (with_reducible first | exact HB.out | apply below_alloc | apply pw_below_drewN | apply below_drew1 | refine below_set ?_ GE168001.out | refine below_set ?_ GE168005.out) | exact HB.out)) hb); clear BK168001; clear BK168005; clear HB; have BK168001 := n0_; have BK168005 := n1_; have HB := n2_; clear n0_ n1_ n2_; (try clear hb); (try clear hb2); (try clear hk); (try clear hi))); try go_wp2_with (first | ((with_reducible refine gate_dst (N := 7) rfl ?_); (try (refine gate_guard (by rfl) ?_; dsimp only)); refine box_event ?hg (N := 7) ?hd (cs := #[.int .i64 0, .string (⟨#[]⟩ : ByteArray), .slice none 0 0]) (t := 42) ?hr ?_; (case hd => rfl); (case hg => rfl); (case hr => first | (go_simp; done) | (go_simp; rfl)); intro gb168005 hg w26 hbox hb; have n0_ := Aside0.mk (blk_below (g := gb168001) (o := .cells #[.int .i64 a0_0, .string a0_1, .slice (some ad168004) l0_2.length c0_2] 42 (0, 0)) (by (with_reducible repeat (first | refine blk_drewN ?_ _ | refine blk_drew ?_ | refine blk_alloc ?_ _)); exact BK168001.out) hb); have n1_ := Aside0.mk (below_step (by repeat (first | (with_reducible first | exact HB.out | apply below_alloc | apply pw_below_drewN | apply below_drew1 | refine below_set ?_ GE168001.out) | exact HB.out)) hb); have n2_ := Aside0.mk (hbox); have n3_ := Aside0.mk ((by rw [hg]; exact (below_size (by repeat (first | (with_reducible first | exact HB.out | apply below_alloc | apply pw_below_drewN | apply below_drew1 | refine below_set ?_ GE168001.out) | exact HB.out))) : w.heap.size ≤ gb168005)); have n4_ := Aside0.mk ((by rw [hg]; exact (below_size (by repeat (first | (with_reducible first | exact HB.out | apply below_alloc | apply pw_below_drewN | apply below_drew1 | refine below_set ?_ GE168001.out) | exact HB.out))) : w.heap.size ≤ gb168005)); have n5_ := Aside0.mk ((by rw [hg]; exact Nat.ne_of_lt (blk_lt (g := gb168001) (o := .cells #[.int .i64 a0_0, .string a0_1, .slice (some ad168004) l0_2.length c0_2] 42 (0, 0)) (by (with_reducible repeat (first | refine blk_drewN ?_ _ | refine blk_drew ?_ | refine blk_alloc ?_ _)); exact BK168001.out)) : gb168001 ≠ gb168005)); have n6_ := Aside0.mk ((by rw [hg]; exact Nat.ne_of_gt (blk_lt (g := gb168001) (o := .cells #[.int .i64 a0_0, .string a0_1, .slice (some ad168004) l0_2.length c0_2] 42 (0, 0)) (by (with_reducible repeat (first | refine blk_drewN ?_ _ | refine blk_drew ?_ | refine blk_alloc ?_ _)); exact BK168001.out)) : gb168005 ≠ gb168001)); clear BK168001; clear HB; have BK168001 := n0_; have HB := n1_; have BK168005 := n2_; have GW168005 := n3_; have GE168005 := n4_; have NB168001_168005 := n5_; have NB168005_168001 := n6_; clear n0_ n1_ n2_ n3_ n4_ n5_ n6_; clear hb hbox hg; have hnb27 := NB168005_168001.out; have hnc27 := NB168001_168005.out; have hcz28_0 : w26.cell? ⟨gb168005, 0, none⟩ = some (.int .i64 0) := (blk_cell BK168005.out 0).trans rfl; have hcz28_1 : w26.cell? ⟨gb168005, 1, none⟩ = some (.string (⟨#[]⟩ : ByteArray)) := (blk_cell BK168005.out 1).trans rfl; have hcz28_2 : w26.cell? ⟨gb168005, 2, none⟩ = some (.slice none 0 0) := (blk_cell BK168005.out 2).trans rfl; have hfz28_0 := blk_frozen BK168005.out 0; have hfz28_1 := blk_frozen BK168005.out 1; have hfz28_2 := blk_frozen BK168005.out 2) | (go_at_call 168; (with_reducible refine (ih k3 (by have := HJ2.out; have := HJ8.out; have := HK3.out; omega) ((rd_T42 l0_2 x38_3).f0) ((rd_T42 l0_2 x38_3).f1) _ _ ((rd_T42 l0_2 x38_3).f2) (wrap64 (a1 - 1)) t168006 _ ?side1 ?side2 A25.out).mono ?_); (case side1 => exact Kd.C_below HR168004_2.out (by repeat (first | (with_reducible first | exact HB.out | apply below_alloc | apply pw_below_drewN | apply below_drew1 | refine below_set ?_ GE168001.out | refine below_set ?_ GE168005.out) | exact HB.out))); (case side2 => exact HC168004_2.out); rintro e w29 ⟨rfl, hb⟩; have n0_ := Aside0.mk (blk_below (g := gb168001) (o := .cells #[.int .i64 a0_0, .string a0_1, .slice (some ad168004) l0_2.length c0_2] 42 (0, 0)) (by (with_reducible repeat (first | refine blk_drewN ?_ _ | refine blk_drew ?_ | refine blk_alloc ?_ _)); refine blk_far ?_ NB168001_168005.out _; (with_reducible repeat (first | refine blk_drewN ?_ _ | refine blk_drew ?_ | refine blk_alloc ?_ _)); refine blk_far ?_ NB168001_168005.out _; (with_reducible repeat (first | refine blk_drewN ?_ _ | refine blk_drew ?_ | refine blk_alloc ?_ _)); refine blk_far ?_ NB168001_168005.out _; (with_reducible repeat (first | refine blk_drewN ?_ _ | refine blk_drew ?_ | refine blk_alloc ?_ _)); exact BK168001.out) hb); have n1_ := Aside0.mk (blk_below (g := gb168005) (o := .cells #[.int .i64 ((rd_T42 l0_2 x38_3).f0), .string ((rd_T42 l0_2 x38_3).f1), .slice A168004_2 ((rd_T42 l0_2 x38_3).f2).length c168004_2] 42 (0, 0)) (by (with_reducible repeat (first | refine blk_drewN ?_ _ | refine blk_drew ?_ | refine blk_alloc ?_ _)); refine blk_put (cs := #[.int .i64 ((rd_T42 l0_2 x38_3).f0), .string ((rd_T42 l0_2 x38_3).f1), .slice none 0 0]) ?_ 2 _ rfl; (with_reducible repeat (first | refine blk_drewN ?_ _ | refine blk_drew ?_ | refine blk_alloc ?_ _)); refine blk_put (cs := #[.int .i64 ((rd_T42 l0_2 x38_3).f0), .string (⟨#[]⟩ : ByteArray), .slice none 0 0]) ?_ 1 _ rfl; (with_reducible repeat (first | refine blk_drewN ?_ _ | refine blk_drew ?_ | refine blk_alloc ?_ _)); refine blk_put (cs := #[.int .i64 0, .string (⟨#[]⟩ : ByteArray), .slice none 0 0]) ?_ 0 _ rfl; (with_reducible repeat (first | refine blk_drewN ?_ _ | refine blk_drew ?_ | refine blk_alloc ?_ _)); exact BK168005.out) hb); have n2_ := Aside0.mk (below_step (by repeat (first | (with_reducible first | exact HB.out | apply below_alloc | apply pw_below_drewN | apply below_drew1 | refine below_set ?_ GE168001.out | refine below_set ?_ GE168005.out) | exact HB.out)) hb); clear BK168001; clear BK168005; clear HB; have BK168001 := n0_; have BK168005 := n1_; have HB := n2_; clear n0_ n1_ n2_; (try clear hb); (try clear hb2); (try clear hk); (try clear hi))))
                      go_roundg k3
                      case measure => have := HJ2.out; have := HJ8.out; have := HK3.out; omega
                      case rel => exact ⟨(wrap64 (x5_3 + t168006)), (wrap64 (x38_3 + 1)), (by first | rfl | (simp; done) | (simp [*]; done)), (by first | rfl | (simp; done) | (simp [*]; done)), H', ⟨by have := HJ2.out; have := HJ8.out; have := HK3.out; omega⟩, ⟨by (with_reducible repeat (first | refine blk_drewN ?_ _ | refine blk_drew ?_ | refine blk_alloc ?_ _)); exact BK168001.out⟩, ⟨by repeat (first | (with_reducible first | exact HB.out | apply below_alloc | apply pw_below_drewN | apply below_drew1 | refine below_set ?_ GE168001.out | refine below_set ?_ GE168005.out) | exact HB.out)⟩⟩
                    · rw [if_neg c24] at H
                      exact absurd H (by simp)
                  · rw [if_neg c23] at H
                    exact absurd H (by simp)
                · rw [if_neg c22] at H
                  have c22b0 : decide (x38_3 < (l0_2.length : Int)) = false := decide_eq_false c22
                  clear c22
                  obtain ⟨ji30, hji30⟩ : ∃ j_ : Int, (mn x5_3 17) = j_ := ⟨_, rfl⟩
                  replace H : (some ji30) = some r := by first | (rw [hji30] at H; exact H) | (simp only [hji30] at H ⊢; exact H)
                  have hji30_ : (if 17 < x5_3 then 17 else x5_3) = ji30 := hji30
                  obtain rfl := Option.some.inj H
                  go_wp2
                  repeat (go_quiet (fail); try go_wp2)
                  go_ret
                  exact ⟨by first | rfl | (simp [errW_none, errW_some] <;> rfl) | (simp only [← hji30]; first | rfl | (simp [errW_none, errW_some] <;> rfl)) | (simp [*, errW_none, errW_some] <;> rfl), by repeat (first | (with_reducible first | exact HB.out | apply below_alloc | apply pw_below_drewN | apply below_drew1 | refine below_set ?_ GE168001.out) | exact HB.out)⟩

/-! ### impl_IsValidRegex: function 95 -/
def impl_IsValidRegex.f (k : Nat) (a0_0 : Int) (a0_1 : ByteArray) (l0_2 : List (S42)) : Option (Bool) := (impl_nodesOf.f k a0_0 a0_1 l0_2 6).bind fun t95002 => (some (decide (t95002 ≤ 16)))
theorem impl_IsValidRegex.mono : ∀ a0 a1 a2 k, LeO (impl_IsValidRegex.f k a0 a1 a2) (impl_IsValidRegex.f (k + 1) a0 a1 a2) := by
  intro a0 a1 a2 k
  unfold impl_IsValidRegex.f
  repeat' first
      | (with_reducible exact impl_nodesOf.mono _ _ _ _ _)
      | (with_reducible exact LeO.refl _)
      | (with_reducible exact LeO.none _)
      | (with_reducible refine LeO.ite ?_ ?_)
      | (with_reducible refine LeO.bind ?_ (fun _ => ?_))
      | exact impl_nodesOf.mono _ _ _ _ _
      | exact LeO.none _
      | refine LeO.ite ?_ ?_
      | refine LeO.bind ?_ (fun _ => ?_)
set_option maxHeartbeats 8000000 in
set_option maxRecDepth 100000 in
theorem impl_IsValidRegex.calls (k : Nat) (a0_0 : Int) (a0_1 : ByteArray) (A0_2 : Option Addr) (c0_2 : Nat) (l0_2 : List (S42)) (r : Bool) (w : World) (hr0_2 : Kd.C k42 w A0_2 l0_2.length l0_2) (hc0_2 : l0_2.length ≤ c0_2) (h : impl_IsValidRegex.f k a0_0 a0_1 l0_2 = some r) :
    Calls Try.prog 95 #[.agg #[.int .i64 a0_0, .string a0_1, .slice A0_2 l0_2.length c0_2]] w fun e w' => e = .returned (.bool r) ∧ Below w.heap.size w w' := by
  have hu42 := Try.underlying42
  have HR0_2 := Aside0.mk hr0_2
  have HC0_2 := Aside0.mk hc0_2
  clear hr0_2 hc0_2
  have HB := Aside0.mk (Below.refl w.heap.size w)
  have H : ((impl_nodesOf.f k a0_0 a0_1 l0_2 6).bind fun t95002 => (some (decide (t95002 ≤ 16)))) = some r := h
  clear h
  replace H := Option.bind_eq_some_iff.mp H
  obtain ⟨t95002, A20, H⟩ := H
  replace H : (some (decide (t95002 ≤ 16))) = some r := H
  have A2 := Aside0.mk A20
  clear A20
  obtain rfl := Option.some.inj H
  go_enter Try.func95, Try.ntmps95
  go_wp2_with (first | ((with_reducible refine gate_dst (N := 1) rfl ?_); refine box_event ?hg (N := 1) ?hd (cs := #[.int .i64 a0_0, .string a0_1, .slice A0_2 l0_2.length c0_2]) (t := 42) ?hr ?_; (case hd => rfl); (case hg => rfl); (case hr => first | (go_simp; done) | (go_simp; rfl)); intro gb95001 hg w3 hbox hb; have n0_ := Aside0.mk (below_step (by repeat (first | (with_reducible first | exact HB.out | apply below_alloc | apply pw_below_drewN | apply below_drew1) | exact HB.out)) hb); have n1_ := Aside0.mk (hbox); have n2_ := Aside0.mk ((by rw [hg]; exact (below_size (by repeat (first | (with_reducible first | exact HB.out | apply below_alloc | apply pw_below_drewN | apply below_drew1) | exact HB.out))) : w.heap.size ≤ gb95001)); have n3_ := Aside0.mk ((by rw [hg]; exact (below_size (by repeat (first | (with_reducible first | exact HB.out | apply below_alloc | apply pw_below_drewN | apply below_drew1) | exact HB.out))) : w.heap.size ≤ gb95001)); clear HB; have HB := n0_; have BK95001 := n1_; have GW95001 := n2_; have GE95001 := n3_; clear n0_ n1_ n2_ n3_; clear hb hbox hg; have hcz4_0 : w3.cell? ⟨gb95001, 0, none⟩ = some (.int .i64 a0_0) := (blk_cell BK95001.out 0).trans rfl; have hcz4_1 : w3.cell? ⟨gb95001, 1, none⟩ = some (.string a0_1) := (blk_cell BK95001.out 1).trans rfl; have hcz4_2 : w3.cell? ⟨gb95001, 2, none⟩ = some (.slice A0_2 l0_2.length c0_2) := (blk_cell BK95001.out 2).trans rfl; have hfz4_0 := blk_frozen BK95001.out 0; have hfz4_1 := blk_frozen BK95001.out 1; have hfz4_2 := blk_frozen BK95001.out 2) | ((with_reducible refine gate_callee (f := 168) rfl ?_); refine goesL_ (some 4) rfl rfl Try.func168 (by kernel_rfl) rfl #[.agg #[.int .i64 a0_0, .string a0_1, .slice A0_2 l0_2.length c0_2], .int .i64 6] rfl (by (try simp only [List.map_toArray, List.map_cons, List.map_nil]); first | done | rfl | (simp only [List.length_drop, List.length_take]; rfl)) ?_; (with_reducible refine (impl_nodesOf.calls k a0_0 a0_1 _ _ l0_2 6 t95002 _ ?side1 ?side2 A2.out).mono ?_); (case side1 => repeat (first | exact (Kd.C_below HR0_2.out HB.out) | (with_reducible refine Kd.C_alloc ?_ _) | (with_reducible refine Kd.C_drewN ?_ _) | (with_reducible refine Kd.C_drew ?_))); (case side2 => exact HC0_2.out); rintro e w5 ⟨rfl, hb⟩; refine ⟨_, rfl, ?_⟩; have n0_ := Aside0.mk (blk_below (g := gb95001) (o := .cells #[.int .i64 a0_0, .string a0_1, .slice A0_2 l0_2.length c0_2] 42 (0, 0)) (by (with_reducible repeat (first | refine blk_drewN ?_ _ | refine blk_drew ?_ | refine blk_alloc ?_ _)); exact BK95001.out) hb); have n1_ := Aside0.mk (below_step (by repeat (first | (with_reducible first | exact HB.out | apply below_alloc | apply pw_below_drewN | apply below_drew1 | refine below_set ?_ GE95001.out) | exact HB.out)) hb); clear BK95001; clear HB; have BK95001 := n0_; have HB := n1_; clear n0_ n1_; (try clear hb); (try clear hb2); (try clear hk); (try clear hi)))
  go_ret
  exact ⟨by first | rfl | (simp [errW_none, errW_some] <;> rfl) | (simp [*, errW_none, errW_some] <;> rfl), by repeat (first | (with_reducible first | exact HB.out | apply below_alloc | apply pw_below_drewN | apply below_drew1 | refine below_set ?_ GE95001.out) | exact HB.out)⟩


end Go.Proofs.Ytpppopdmnejcfaa.A


namespace Go.Proofs.Ytpppopdmnejcfaa.A
open Go.RowKit Go.Proofs.Ytpppopdmnejcfaa.Ext Go.Proofs.YtpppopdmnejcfaaW.PrintWords Go.Proofs.YtpppopdmnejcfaaW.PrintLast Go.Proofs.YtpppopdmnejcfaaW.PrintMore
attribute [local go_sem] max2_int min2_int max_two min_two max_three min_three max_four min_four   -- for this text's walks alone
set_option linter.unusedVariables false
set_option linter.unusedSimpArgs false

/-! ### impl_IsValidConstraint_1: function 98 -/
def impl_IsValidConstraint_1.f (a0 : Int) : Option (Bool) := (impl_within.f a0 (-9) 9).bind fun t98001 => (some (!t98001))
set_option maxHeartbeats 8000000 in
set_option maxRecDepth 100000 in
theorem impl_IsValidConstraint_1.calls (a0 : Int) (r : Bool) (w : World) (h : impl_IsValidConstraint_1.f a0 = some r) :
    Calls Try.prog 98 #[.int .i64 a0] w fun e w' => e = .returned (.bool r) ∧ Drawn0 w w' := by
  have H : ((impl_within.f a0 (-9) 9).bind fun t98001 => (some (!t98001))) = some r := h
  clear h
  replace H := Option.bind_eq_some_iff.mp H
  obtain ⟨t98001, A20, H⟩ := H
  replace H : (some (!t98001)) = some r := H
  have A2 := Aside0.mk A20
  clear A20
  obtain rfl := Option.some.inj H
  go_enter Try.func98, Try.ntmps98
  go_wp2_with (first | ((with_reducible refine gate_callee (f := 96) rfl ?_); refine goesL_ (some 4) rfl rfl Try.func96 (by kernel_rfl) rfl #[.int .i64 a0, .int .i64 (-9), .int .i64 9] rfl (by (try simp only [List.map_toArray, List.map_cons, List.map_nil]); first | done | rfl | (simp only [List.length_drop, List.length_take]; rfl)) ?_; (with_reducible refine (impl_within.calls a0 (-9) 9 t98001 _ A2.out).mono ?_); rintro e w' ⟨rfl, ⟨nd, rfl⟩⟩; refine ⟨_, rfl, ?_⟩))
  go_ret
  exact ⟨by first | rfl | (simp; done) | (simp [*]; done), by repeat (first | exact Drawn0.refl _ | apply Drawn0.step)⟩


end Go.Proofs.Ytpppopdmnejcfaa.A


namespace Go.Proofs.Ytpppopdmnejcfaa.A
open Go.RowKit Go.Proofs.Ytpppopdmnejcfaa.Ext Go.Proofs.YtpppopdmnejcfaaW.PrintWords Go.Proofs.YtpppopdmnejcfaaW.PrintLast Go.Proofs.YtpppopdmnejcfaaW.PrintMore
attribute [local go_sem] max2_int min2_int max_two min_two max_three min_three max_four min_four   -- for this text's walks alone
set_option linter.unusedVariables false
set_option linter.unusedSimpArgs false

/-! ### slices_IndexFunc_int_int_169: function 169 -/
def slices_IndexFunc_int_int_169.l0 : Nat → List Int → Int → Int → Option (Int)
  | 0, _, _, _ => none
  | k + 1, x0, x7, x8 => if x8 < x7 then (if 0 ≤ x8 then (if x8 < (x0.length : Int) then ((impl_IsValidConstraint_1.f (rd x0 x8)).bind fun t169002 => (if t169002 = true then (some x8) else (slices_IndexFunc_int_int_169.l0 k x0 x7 (wrap64 (x8 + 1))))) else (none)) else (none)) else (some (-1))
def slices_IndexFunc_int_int_169.f (k : Nat) (l0 : List Int) : Option (Int) := slices_IndexFunc_int_int_169.l0 k l0 (l0.length : Int) 0
theorem slices_IndexFunc_int_int_169.mono_l : ∀ k, (∀ y0 y1 y2, LeO (slices_IndexFunc_int_int_169.l0 k y0 y1 y2) (slices_IndexFunc_int_int_169.l0 (k + 1) y0 y1 y2))
  | 0 => fun _ _ _ r h => by simp [slices_IndexFunc_int_int_169.l0] at h
  | k + 1 => by
    have ih0 := slices_IndexFunc_int_int_169.mono_l k
    · intro y0 y1 y2
      unfold slices_IndexFunc_int_int_169.l0
      repeat' first
      | (with_reducible exact ih0 _ _ _)
      | (with_reducible exact LeO.refl _)
      | (with_reducible exact LeO.none _)
      | (with_reducible refine LeO.ite ?_ ?_)
      | (with_reducible refine LeO.bind ?_ (fun _ => ?_))
      | exact ih0 _ _ _
      | exact LeO.none _
      | refine LeO.ite ?_ ?_
      | refine LeO.bind ?_ (fun _ => ?_)
theorem slices_IndexFunc_int_int_169.mono : ∀ a0 k, LeO (slices_IndexFunc_int_int_169.f k a0) (slices_IndexFunc_int_int_169.f (k + 1) a0) := by
  intro a0 k
  have ih0 := slices_IndexFunc_int_int_169.mono_l k
  unfold slices_IndexFunc_int_int_169.f
  repeat' first
      | (with_reducible exact ih0 _ _ _)
      | (with_reducible exact LeO.refl _)
      | (with_reducible exact LeO.none _)
      | (with_reducible refine LeO.ite ?_ ?_)
      | (with_reducible refine LeO.bind ?_ (fun _ => ?_))
      | exact ih0 _ _ _
      | exact LeO.none _
      | refine LeO.ite ?_ ?_
      | refine LeO.bind ?_ (fun _ => ?_)
set_option maxHeartbeats 8000000 in
set_option maxRecDepth 100000 in
theorem slices_IndexFunc_int_int_169.calls (k : Nat) (A0 : Option Addr) (c0 : Nat) (l0 : List Int) (r : Int) (w : World) (hr0 : Kd.C (Kd.int .i64) w A0 l0.length l0) (hc0 : l0.length ≤ c0) (h : slices_IndexFunc_int_int_169.f k l0 = some r) :
    Calls Try.prog 169 #[.slice A0 l0.length c0, .func (.func 98) #[] #[]] w fun e w' => e = .returned (.int .i64 r) ∧ Drawn0 w w' := by
  have HR0 := Aside0.mk hr0
  have HC0 := Aside0.mk hc0
  clear hr0 hc0
  have H : (slices_IndexFunc_int_int_169.l0 k l0 (l0.length : Int) 0) = some r := h
  clear h
  have H' := Aside0.mk H
  clear H
  go_enter Try.func169, Try.ntmps169
  go_wp2
  first | go_loopg [8] k (fun kq v8 w' => ∃ (x8_1 : Int), v8 = .int .i64 x8_1 ∧ Aside0 (slices_IndexFunc_int_int_169.l0 kq l0 (l0.length : Int) x8_1 = some r) ∧ Aside0 (kq ≤ k) ∧ Drawn0 w w') | (simp only [Act.put, List.setIfInBounds_toArray, List.set_cons_succ, List.set_cons_zero]; go_loopg [8] k (fun kq v8 w' => ∃ (x8_1 : Int), v8 = .int .i64 x8_1 ∧ Aside0 (slices_IndexFunc_int_int_169.l0 kq l0 (l0.length : Int) x8_1 = some r) ∧ Aside0 (kq ≤ k) ∧ Drawn0 w w'))
  case atStart => exact ⟨(0), (by first | rfl | (simp; done) | (simp [*]; done)), H', ⟨Nat.le_refl _⟩, by repeat (first | exact Drawn0.refl _ | apply Drawn0.step)⟩
  case round =>
    clear H'
    try clear c1
    obtain ⟨x8_1, rfl, HA, HK1, ⟨m1, rfl⟩⟩ := hrel
    cases gk with
    | zero => exact absurd HA.out (by simp [slices_IndexFunc_int_int_169.l0])
    | succ k1 =>
      have H := HA.out
      clear HA
      simp only [slices_IndexFunc_int_int_169.l0] at H
      by_cases c2 : x8_1 < (l0.length : Int)
      · rw [if_pos c2] at H
        have c2b0 : decide (x8_1 < (l0.length : Int)) = true := decide_eq_true c2
        clear c2
        by_cases c3 : 0 ≤ x8_1
        · rw [if_pos c3] at H
          have c3b0 : decide (0 ≤ x8_1) = true := decide_eq_true c3
          clear c3
          by_cases c4 : x8_1 < (l0.length : Int)
          · rw [if_pos c4] at H
            have c4b0 : decide (x8_1 < (l0.length : Int)) = true := decide_eq_true c4
            clear c4
            replace H := Option.bind_eq_some_iff.mp H
            obtain ⟨t169002, A50, H⟩ := H
            replace H : (if t169002 = true then (some x8_1) else (slices_IndexFunc_int_int_169.l0 k1 l0 (l0.length : Int) (wrap64 (x8_1 + 1)))) = some r := H
            have A5 := Aside0.mk A50
            clear A50
            by_cases c6 : t169002 = true
            · subst c6
              have H1 : (some x8_1) = some r := by rw [if_pos rfl] at H; exact H
              clear H
              have H := H1
              clear H1
              obtain rfl := Option.some.inj H
              have p169001 : 0 ≤ (x8_1 : Int) := of_decide_eq_true (by first | (with_reducible assumption) | assumption)
              have q169001 : x8_1 < (l0.length : Int) := of_decide_eq_true (by first | (with_reducible assumption) | assumption)
              obtain ⟨ad169001, e169001, hx169001_0⟩ := Kd.at_int HR0.out x8_1 p169001 q169001
              cases e169001
              replace p169001 := eq_true p169001
              replace q169001 := eq_true q169001
              go_wp2_with (first | ((with_reducible refine gate_dst (N := 16) rfl ?_); refine goesF_ (some 16) rfl rfl Try.func98 (by kernel_rfl) rfl #[.int .i64 (rd l0 x8_1)] rfl (by first | rfl | (go_simp; done)) (by (try simp only [List.map_toArray, List.map_cons, List.map_nil]); first | done | rfl | (simp only [List.length_drop, List.length_take]; rfl)) ?_; (with_reducible refine (impl_IsValidConstraint_1.calls (rd l0 x8_1) true _ A5.out).mono ?_); rintro e w' ⟨rfl, ⟨nd, rfl⟩⟩; refine ⟨_, rfl, ?_⟩))
              go_ret
              exact ⟨by first | rfl | (simp; done) | (simp [*]; done), by repeat (first | exact Drawn0.refl _ | apply Drawn0.step)⟩
            · replace c6 := Bool.eq_false_iff.mpr c6
              subst c6
              have H1 : (slices_IndexFunc_int_int_169.l0 k1 l0 (l0.length : Int) (wrap64 (x8_1 + 1))) = some r := by rw [if_neg (show ¬ (false = true) by decide)] at H; exact H
              clear H
              have H := H1
              clear H1
              have H' := Aside0.mk H
              clear H
              have p169001 : 0 ≤ (x8_1 : Int) := of_decide_eq_true (by first | (with_reducible assumption) | assumption)
              have q169001 : x8_1 < (l0.length : Int) := of_decide_eq_true (by first | (with_reducible assumption) | assumption)
              obtain ⟨ad169001, e169001, hx169001_0⟩ := Kd.at_int HR0.out x8_1 p169001 q169001
              cases e169001
              replace p169001 := eq_true p169001
              replace q169001 := eq_true q169001
              go_wp2_with (first | ((with_reducible refine gate_dst (N := 16) rfl ?_); refine goesF_ (some 16) rfl rfl Try.func98 (by kernel_rfl) rfl #[.int .i64 (rd l0 x8_1)] rfl (by first | rfl | (go_simp; done)) (by (try simp only [List.map_toArray, List.map_cons, List.map_nil]); first | done | rfl | (simp only [List.length_drop, List.length_take]; rfl)) ?_; (with_reducible refine (impl_IsValidConstraint_1.calls (rd l0 x8_1) false _ A5.out).mono ?_); rintro e w' ⟨rfl, ⟨nd, rfl⟩⟩; refine ⟨_, rfl, ?_⟩))
              go_roundg k1
              case measure => have := HK1.out; omega
              case rel => exact ⟨(wrap64 (x8_1 + 1)), (by first | rfl | (simp; done) | (simp [*]; done)), H', ⟨by have := HK1.out; omega⟩, by repeat (first | exact Drawn0.refl _ | apply Drawn0.step)⟩
          · rw [if_neg c4] at H
            exact absurd H (by simp)
        · rw [if_neg c3] at H
          exact absurd H (by simp)
      · rw [if_neg c2] at H
        have c2b0 : decide (x8_1 < (l0.length : Int)) = false := decide_eq_false c2
        clear c2
        obtain rfl := Option.some.inj H
        go_wp2
        go_ret
        exact ⟨by first | rfl | (simp; done) | (simp [*]; done), by repeat (first | exact Drawn0.refl _ | apply Drawn0.step)⟩


end Go.Proofs.Ytpppopdmnejcfaa.A


namespace Go.Proofs.Ytpppopdmnejcfaa.A
open Go.RowKit Go.Proofs.Ytpppopdmnejcfaa.Ext Go.Proofs.YtpppopdmnejcfaaW.PrintWords Go.Proofs.YtpppopdmnejcfaaW.PrintLast Go.Proofs.YtpppopdmnejcfaaW.PrintMore
attribute [local go_sem] max2_int min2_int max_two min_two max_three min_three max_four min_four   -- for this text's walks alone
set_option linter.unusedVariables false
set_option linter.unusedSimpArgs false

/-! ### slices_ContainsFunc_int_int_97: function 97 -/
def slices_ContainsFunc_int_int_97.f (k : Nat) (l0 : List Int) : Option (Bool) := (slices_IndexFunc_int_int_169.f k l0).bind fun t97001 => (some (decide (t97001 ≥ 0)))
theorem slices_ContainsFunc_int_int_97.mono : ∀ a0 k, LeO (slices_ContainsFunc_int_int_97.f k a0) (slices_ContainsFunc_int_int_97.f (k + 1) a0) := by
  intro a0 k
  unfold slices_ContainsFunc_int_int_97.f
  repeat' first
      | (with_reducible exact slices_IndexFunc_int_int_169.mono _ _)
      | (with_reducible exact LeO.refl _)
      | (with_reducible exact LeO.none _)
      | (with_reducible refine LeO.ite ?_ ?_)
      | (with_reducible refine LeO.bind ?_ (fun _ => ?_))
      | exact slices_IndexFunc_int_int_169.mono _ _
      | exact LeO.none _
      | refine LeO.ite ?_ ?_
      | refine LeO.bind ?_ (fun _ => ?_)
set_option maxHeartbeats 8000000 in
set_option maxRecDepth 100000 in
theorem slices_ContainsFunc_int_int_97.calls (k : Nat) (A0 : Option Addr) (c0 : Nat) (l0 : List Int) (r : Bool) (w : World) (hr0 : Kd.C (Kd.int .i64) w A0 l0.length l0) (hc0 : l0.length ≤ c0) (h : slices_ContainsFunc_int_int_97.f k l0 = some r) :
    Calls Try.prog 97 #[.slice A0 l0.length c0, .func (.func 98) #[] #[]] w fun e w' => e = .returned (.bool r) ∧ Drawn0 w w' := by
  have HR0 := Aside0.mk hr0
  have HC0 := Aside0.mk hc0
  clear hr0 hc0
  have H : ((slices_IndexFunc_int_int_169.f k l0).bind fun t97001 => (some (decide (t97001 ≥ 0)))) = some r := h
  clear h
  replace H := Option.bind_eq_some_iff.mp H
  obtain ⟨t97001, A20, H⟩ := H
  replace H : (some (decide (t97001 ≥ 0))) = some r := H
  have A2 := Aside0.mk A20
  clear A20
  obtain rfl := Option.some.inj H
  go_enter Try.func97, Try.ntmps97
  go_wp2_with (first | ((with_reducible refine gate_callee (f := 169) rfl ?_); refine goesL_ (some 7) rfl rfl Try.func169 (by kernel_rfl) rfl #[.slice A0 l0.length c0, .func (.func 98) #[] #[]] rfl (by (try simp only [List.map_toArray, List.map_cons, List.map_nil]); first | done | rfl | (simp only [List.length_drop, List.length_take]; rfl)) ?_; (with_reducible refine (slices_IndexFunc_int_int_169.calls k _ _ l0 t97001 _ ?side1 ?side2 A2.out).mono ?_); (case side1 => repeat (first | exact HR0.out | (with_reducible refine Kd.C_alloc ?_ _) | (with_reducible refine Kd.C_drewN ?_ _) | (with_reducible refine Kd.C_drew ?_))); (case side2 => exact HC0.out); rintro e w' ⟨rfl, ⟨nd, rfl⟩⟩; refine ⟨_, rfl, ?_⟩))
  go_ret
  exact ⟨by first | rfl | (simp; done) | (simp [*]; done), by repeat (first | exact Drawn0.refl _ | apply Drawn0.step)⟩


end Go.Proofs.Ytpppopdmnejcfaa.A


namespace Go.Proofs.Ytpppopdmnejcfaa.A
open Go.RowKit Go.Proofs.Ytpppopdmnejcfaa.Ext Go.Proofs.YtpppopdmnejcfaaW.PrintWords Go.Proofs.YtpppopdmnejcfaaW.PrintLast Go.Proofs.YtpppopdmnejcfaaW.PrintMore
attribute [local go_sem] max2_int min2_int max_two min_two max_three min_three max_four min_four   -- for this text's walks alone
set_option linter.unusedVariables false
set_option linter.unusedSimpArgs false

/-! ### impl_IsValidConstraint: function 23 -/
mutual
def impl_IsValidConstraint.j0 : Nat → Bool → Int → ByteArray → ByteArray → Int → ByteArray → List (S42) → List Int → Int → Option (Bool)
  | 0, _, _, _, _, _, _, _, _, _ => none
  | k + 1, x16, x23002000, x23002001, x23002002, x23002003, x23002004, x23002005, x23002006, x23002007 => if x16 = true then (some false) else (if x23002000 = 1 then (impl_IsValidConstraint.j1 k x23002000 (x23002000 == 1) x23002000 x23002001 x23002002 x23002003 x23002004 x23002005 x23002006 x23002007) else (impl_IsValidConstraint.j1 k x23002000 (x23002000 == 2) x23002000 x23002001 x23002002 x23002003 x23002004 x23002005 x23002006 x23002007))
def impl_IsValidConstraint.j1 : Nat → Int → Bool → Int → ByteArray → ByteArray → Int → ByteArray → List (S42) → List Int → Int → Option (Bool)
  | 0, _, _, _, _, _, _, _, _, _, _ => none
  | k + 1, x18, x19, x23002000, x23002001, x23002002, x23002003, x23002004, x23002005, x23002006, x23002007 => if x19 = true then ((impl_IsTerm.f k x23002001).bind fun t23002 => (if t23002 = true then ((impl_IsTerm.f k x23002002).bind fun t23003 => (if t23003 = true then ((impl_isZeroRegex.f x23002003 x23002004 x23002005).bind fun t23004 => (some t23004)) else (some false))) else (some false))) else (if x18 = 3 then (impl_IsValidConstraint.j2 k x18 (x18 == 3) x23002000 x23002001 x23002002 x23002003 x23002004 x23002005 x23002006 x23002007) else (impl_IsValidConstraint.j2 k x18 (x18 == 4) x23002000 x23002001 x23002002 x23002003 x23002004 x23002005 x23002006 x23002007))
def impl_IsValidConstraint.j2 : Nat → Int → Bool → Int → ByteArray → ByteArray → Int → ByteArray → List (S42) → List Int → Int → Option (Bool)
  | 0, _, _, _, _, _, _, _, _, _, _ => none
  | k + 1, x18, x35, x23002000, x23002001, x23002002, x23002003, x23002004, x23002005, x23002006, x23002007 => if x35 = true then ((impl_IsTerm.f k x23002001).bind fun t23005 => (if t23005 = true then (if x23002002.toList = ([] : List UInt8) then ((impl_IsValidRegex.f k x23002003 x23002004 x23002005).bind fun t23006 => (some t23006)) else (some false)) else (some false))) else (if x18 = 5 then (if x23002001.toList = ([] : List UInt8) then (if x23002002.toList = ([] : List UInt8) then ((impl_isZeroRegex.f x23002003 x23002004 x23002005).bind fun t23007 => (if t23007 = true then (if (x23002006.length : Int) = 3 then ((impl_within.f x23002007 (-99) 99).bind fun t23008 => (if t23008 = true then ((slices_ContainsFunc_int_int_97.f k x23002006).bind fun t23009 => (some (!t23009))) else (some false))) else (some false)) else (some false))) else (some false)) else (some false)) else (some false))
end
def impl_IsValidConstraint.f (k : Nat) (a0_0 : Int) (a0_1 : ByteArray) (a0_2 : ByteArray) (a0_3 : Int) (a0_4 : ByteArray) (l0_5 : List (S42)) (l0_6 : List Int) (a0_7 : Int) : Option (Bool) := if a0_0 = 5 then (impl_IsValidConstraint.j0 k false a0_0 a0_1 a0_2 a0_3 a0_4 l0_5 l0_6 a0_7) else (if (l0_6.length : Int) = 0 then (impl_IsValidConstraint.j0 k (a0_7 != 0) a0_0 a0_1 a0_2 a0_3 a0_4 l0_5 l0_6 a0_7) else (impl_IsValidConstraint.j0 k true a0_0 a0_1 a0_2 a0_3 a0_4 l0_5 l0_6 a0_7))
theorem impl_IsValidConstraint.mono_l : ∀ k, (∀ y0 y1 y2 y3 y4 y5 y6 y7 y8, LeO (impl_IsValidConstraint.j0 k y0 y1 y2 y3 y4 y5 y6 y7 y8) (impl_IsValidConstraint.j0 (k + 1) y0 y1 y2 y3 y4 y5 y6 y7 y8)) ∧ (∀ y0 y1 y2 y3 y4 y5 y6 y7 y8 y9, LeO (impl_IsValidConstraint.j1 k y0 y1 y2 y3 y4 y5 y6 y7 y8 y9) (impl_IsValidConstraint.j1 (k + 1) y0 y1 y2 y3 y4 y5 y6 y7 y8 y9)) ∧ (∀ y0 y1 y2 y3 y4 y5 y6 y7 y8 y9, LeO (impl_IsValidConstraint.j2 k y0 y1 y2 y3 y4 y5 y6 y7 y8 y9) (impl_IsValidConstraint.j2 (k + 1) y0 y1 y2 y3 y4 y5 y6 y7 y8 y9))
  | 0 => ⟨fun _ _ _ _ _ _ _ _ _ r h => by simp [impl_IsValidConstraint.j0] at h, fun _ _ _ _ _ _ _ _ _ _ r h => by simp [impl_IsValidConstraint.j1] at h, fun _ _ _ _ _ _ _ _ _ _ r h => by simp [impl_IsValidConstraint.j2] at h⟩
  | k + 1 => by
    obtain ⟨ih0, ih1, ih2⟩ := impl_IsValidConstraint.mono_l k
    refine ⟨?_, ?_, ?_⟩
    · intro y0 y1 y2 y3 y4 y5 y6 y7 y8
      unfold impl_IsValidConstraint.j0
      repeat' first
      | (with_reducible exact ih0 _ _ _ _ _ _ _ _ _)
      | (with_reducible exact ih1 _ _ _ _ _ _ _ _ _ _)
      | (with_reducible exact ih2 _ _ _ _ _ _ _ _ _ _)
      | (with_reducible exact impl_IsTerm.mono _ _)
      | (with_reducible exact impl_IsValidRegex.mono _ _ _ _)
      | (with_reducible exact slices_ContainsFunc_int_int_97.mono _ _)
      | (with_reducible exact LeO.refl _)
      | (with_reducible exact LeO.none _)
      | (with_reducible refine LeO.ite ?_ ?_)
      | (with_reducible refine LeO.bind ?_ (fun _ => ?_))
      | exact ih0 _ _ _ _ _ _ _ _ _
      | exact ih1 _ _ _ _ _ _ _ _ _ _
      | exact ih2 _ _ _ _ _ _ _ _ _ _
      | exact impl_IsTerm.mono _ _
      | exact impl_IsValidRegex.mono _ _ _ _
      | exact slices_ContainsFunc_int_int_97.mono _ _
      | exact LeO.none _
      | refine LeO.ite ?_ ?_
      | refine LeO.bind ?_ (fun _ => ?_)
    · intro y0 y1 y2 y3 y4 y5 y6 y7 y8 y9
      unfold impl_IsValidConstraint.j1
      repeat' first
      | (with_reducible exact ih0 _ _ _ _ _ _ _ _ _)
      | (with_reducible exact ih1 _ _ _ _ _ _ _ _ _ _)
      | (with_reducible exact ih2 _ _ _ _ _ _ _ _ _ _)
      | (with_reducible exact impl_IsTerm.mono _ _)
      | (with_reducible exact impl_IsValidRegex.mono _ _ _ _)
      | (with_reducible exact slices_ContainsFunc_int_int_97.mono _ _)
      | (with_reducible exact LeO.refl _)
      | (with_reducible exact LeO.none _)
      | (with_reducible refine LeO.ite ?_ ?_)
      | (with_reducible refine LeO.bind ?_ (fun _ => ?_))
      | exact ih0 _ _ _ _ _ _ _ _ _
      | exact ih1 _ _ _ _ _ _ _ _ _ _
      | exact ih2 _ _ _ _ _ _ _ _ _ _
      | exact impl_IsTerm.mono _ _
      | exact impl_IsValidRegex.mono _ _ _ _
      | exact slices_ContainsFunc_int_int_97.mono _ _
      | exact LeO.none _
      | refine LeO.ite ?_ ?_
      | refine LeO.bind ?_ (fun _ => ?_)
    · intro y0 y1 y2 y3 y4 y5 y6 y7 y8 y9
      unfold impl_IsValidConstraint.j2
      repeat' first
      | (with_reducible exact ih0 _ _ _ _ _ _ _ _ _)
      | (with_reducible exact ih1 _ _ _ _ _ _ _ _ _ _)
      | (with_reducible exact ih2 _ _ _ _ _ _ _ _ _ _)
      | (with_reducible exact impl_IsTerm.mono _ _)
      | (with_reducible exact impl_IsValidRegex.mono _ _ _ _)
      | (with_reducible exact slices_ContainsFunc_int_int_97.mono _ _)
      | (with_reducible exact LeO.refl _)
      | (with_reducible exact LeO.none _)
      | (with_reducible refine LeO.ite ?_ ?_)
      | (with_reducible refine LeO.bind ?_ (fun _ => ?_))
      | exact ih0 _ _ _ _ _ _ _ _ _
      | exact ih1 _ _ _ _ _ _ _ _ _ _
      | exact ih2 _ _ _ _ _ _ _ _ _ _
      | exact impl_IsTerm.mono _ _
      | exact impl_IsValidRegex.mono _ _ _ _
      | exact slices_ContainsFunc_int_int_97.mono _ _
      | exact LeO.none _
      | refine LeO.ite ?_ ?_
      | refine LeO.bind ?_ (fun _ => ?_)
theorem impl_IsValidConstraint.mono : ∀ a0 a1 a2 a3 a4 a5 a6 a7 k, LeO (impl_IsValidConstraint.f k a0 a1 a2 a3 a4 a5 a6 a7) (impl_IsValidConstraint.f (k + 1) a0 a1 a2 a3 a4 a5 a6 a7) := by
  intro a0 a1 a2 a3 a4 a5 a6 a7 k
  obtain ⟨ih0, ih1, ih2⟩ := impl_IsValidConstraint.mono_l k
  unfold impl_IsValidConstraint.f
  repeat' first
      | (with_reducible exact ih0 _ _ _ _ _ _ _ _ _)
      | (with_reducible exact ih1 _ _ _ _ _ _ _ _ _ _)
      | (with_reducible exact ih2 _ _ _ _ _ _ _ _ _ _)
      | (with_reducible exact impl_IsTerm.mono _ _)
      | (with_reducible exact impl_IsValidRegex.mono _ _ _ _)
      | (with_reducible exact slices_ContainsFunc_int_int_97.mono _ _)
      | (with_reducible exact LeO.refl _)
      | (with_reducible exact LeO.none _)
      | (with_reducible refine LeO.ite ?_ ?_)
      | (with_reducible refine LeO.bind ?_ (fun _ => ?_))
      | exact ih0 _ _ _ _ _ _ _ _ _
      | exact ih1 _ _ _ _ _ _ _ _ _ _
      | exact ih2 _ _ _ _ _ _ _ _ _ _
      | exact impl_IsTerm.mono _ _
      | exact impl_IsValidRegex.mono _ _ _ _
      | exact slices_ContainsFunc_int_int_97.mono _ _
      | exact LeO.none _
      | refine LeO.ite ?_ ?_
      | refine LeO.bind ?_ (fun _ => ?_)
set_option maxHeartbeats 8000000 in
set_option maxRecDepth 100000 in
theorem impl_IsValidConstraint.calls (k : Nat) (a0_0 : Int) (a0_1 : ByteArray) (a0_2 : ByteArray) (a0_3 : Int) (a0_4 : ByteArray) (A0_5 : Option Addr) (c0_5 : Nat) (l0_5 : List (S42)) (A0_6 : Option Addr) (c0_6 : Nat) (l0_6 : List Int) (a0_7 : Int) (r : Bool) (w : World) (hr0_5 : Kd.C k42 w A0_5 l0_5.length l0_5) (hc0_5 : l0_5.length ≤ c0_5) (hr0_6 : Kd.C (Kd.int .i64) w A0_6 l0_6.length l0_6) (hc0_6 : l0_6.length ≤ c0_6) (h : impl_IsValidConstraint.f k a0_0 a0_1 a0_2 a0_3 a0_4 l0_5 l0_6 a0_7 = some r) :
    Calls Try.prog 23 #[.agg #[.int .i64 a0_0, .string a0_1, .string a0_2, .int .i64 a0_3, .string a0_4, .slice A0_5 l0_5.length c0_5, .slice A0_6 l0_6.length c0_6, .int .i64 a0_7]] w fun e w' => e = .returned (.bool r) ∧ Below w.heap.size w w' := by
  have hu44 := Try.underlying44
  have hu42 := Try.underlying42
  have HR0_5 := Aside0.mk hr0_5
  have HC0_5 := Aside0.mk hc0_5
  clear hr0_5 hc0_5
  have HR0_6 := Aside0.mk hr0_6
  have HC0_6 := Aside0.mk hc0_6
  clear hr0_6 hc0_6
  have HB := Aside0.mk (Below.refl w.heap.size w)
  have H : (if a0_0 = 5 then (impl_IsValidConstraint.j0 k false a0_0 a0_1 a0_2 a0_3 a0_4 l0_5 l0_6 a0_7) else (if (l0_6.length : Int) = 0 then (impl_IsValidConstraint.j0 k (a0_7 != 0) a0_0 a0_1 a0_2 a0_3 a0_4 l0_5 l0_6 a0_7) else (impl_IsValidConstraint.j0 k true a0_0 a0_1 a0_2 a0_3 a0_4 l0_5 l0_6 a0_7))) = some r := h
  clear h
  have HC2 := Aside0.mk H
  clear H
  go_enter Try.func23, Try.ntmps23
  go_upto_region 1 with (first | ((with_reducible refine gate_dst (N := 1) rfl ?_); (try (refine gate_guard (by rfl) ?_; dsimp only)); refine box_event ?hg (N := 1) ?hd (cs := #[.int .i64 a0_0, .string a0_1, .string a0_2, .int .i64 a0_3, .string a0_4, .slice A0_5 l0_5.length c0_5, .slice A0_6 l0_6.length c0_6, .int .i64 a0_7]) (t := 44) ?hr ?_; (case hd => rfl); (case hg => rfl); (case hr => first | (go_simp; done) | (go_simp; rfl)); intro gb23001 hg w3 hbox hb; have n0_ := Aside0.mk (below_step (by repeat (first | (with_reducible first | exact HB.out | apply below_alloc | apply pw_below_drewN | apply below_drew1) | exact HB.out)) hb); have n1_ := Aside0.mk (hbox); have n2_ := Aside0.mk ((by rw [hg]; exact (below_size (by repeat (first | (with_reducible first | exact HB.out | apply below_alloc | apply pw_below_drewN | apply below_drew1) | exact HB.out))) : w.heap.size ≤ gb23001)); have n3_ := Aside0.mk ((by rw [hg]; exact (below_size (by repeat (first | (with_reducible first | exact HB.out | apply below_alloc | apply pw_below_drewN | apply below_drew1) | exact HB.out))) : w.heap.size ≤ gb23001)); clear HB; have HB := n0_; have BK23001 := n1_; have GW23001 := n2_; have GE23001 := n3_; clear n0_ n1_ n2_ n3_; clear hb hbox hg))
  (try simp only [Act.put, List.setIfInBounds_toArray, List.set_cons_zero, List.set_cons_succ])
  go_cut [16] (fun v16 wc => ∃ (kq : Nat) (x16_1 : Bool), v16 = .bool x16_1 ∧ Aside0 (impl_IsValidConstraint.j0 kq x16_1 a0_0 a0_1 a0_2 a0_3 a0_4 l0_5 l0_6 a0_7 = some r) ∧ Aside0 (kq ≤ k) ∧ Aside0 (wc.heap[gb23001]? = some (.cells #[.int .i64 a0_0, .string a0_1, .string a0_2, .int .i64 a0_3, .string a0_4, (.slice A0_5 l0_5.length c0_5), (.slice A0_6 l0_6.length c0_6), .int .i64 a0_7] 44 (0, 0))) ∧ Aside0 (Below w.heap.size w wc))
  case first =>
    have H := HC2.out
    clear HC2
    by_cases c4 : a0_0 = 5
    · rw [if_pos c4] at H
      have c4b0 : (a0_0 == 5) = true := beq_iff_eq.mpr c4
      have c4b1 : (a0_0 != 5) = false := bne_eq_false_iff_eq.mpr c4
      clear c4
      (first | rw [c4b0] | (simp only [i64_w, i32_w]; rw [c4b0]) | skip)
      have H' := Aside0.mk H
      clear H
      have hcz5_0 : w3.cell? ⟨gb23001, 0, none⟩ = some (.int .i64 a0_0) := (blk_cell BK23001.out 0).trans rfl
      have hcz5_1 : w3.cell? ⟨gb23001, 1, none⟩ = some (.string a0_1) := (blk_cell BK23001.out 1).trans rfl
      have hcz5_2 : w3.cell? ⟨gb23001, 2, none⟩ = some (.string a0_2) := (blk_cell BK23001.out 2).trans rfl
      have hcz5_3 : w3.cell? ⟨gb23001, 3, none⟩ = some (.int .i64 a0_3) := (blk_cell BK23001.out 3).trans rfl
      have hcz5_4 : w3.cell? ⟨gb23001, 4, none⟩ = some (.string a0_4) := (blk_cell BK23001.out 4).trans rfl
      have hcz5_5 : w3.cell? ⟨gb23001, 5, none⟩ = some (.slice A0_5 l0_5.length c0_5) := (blk_cell BK23001.out 5).trans rfl
      have hcz5_6 : w3.cell? ⟨gb23001, 6, none⟩ = some (.slice A0_6 l0_6.length c0_6) := (blk_cell BK23001.out 6).trans rfl
      have hcz5_7 : w3.cell? ⟨gb23001, 7, none⟩ = some (.int .i64 a0_7) := (blk_cell BK23001.out 7).trans rfl
      have hfz5_0 := blk_frozen BK23001.out 0
      have hfz5_1 := blk_frozen BK23001.out 1
      have hfz5_2 := blk_frozen BK23001.out 2
      have hfz5_3 := blk_frozen BK23001.out 3
      have hfz5_4 := blk_frozen BK23001.out 4
      have hfz5_5 := blk_frozen BK23001.out 5
      have hfz5_6 := blk_frozen BK23001.out 6
      have hfz5_7 := blk_frozen BK23001.out 7
      go_wp2
      go_meet
      case rel => exact ⟨_, (false), (by first | rfl | (simp; done) | (simp [*]; done)), H', ⟨by first | omega | exact Nat.le_refl _⟩, ⟨by (with_reducible repeat (first | refine blk_drewN ?_ _ | refine blk_drew ?_ | refine blk_alloc ?_ _)); exact BK23001.out⟩, ⟨by repeat (first | (with_reducible first | exact HB.out | apply below_alloc | apply pw_below_drewN | apply below_drew1 | refine below_set ?_ GE23001.out) | exact HB.out)⟩⟩
    · rw [if_neg c4] at H
      have c4b0 : (a0_0 == 5) = false := beq_eq_false_iff_ne.mpr c4
      have c4b1 : (a0_0 != 5) = true := bne_iff_ne.mpr c4
      (first | rw [c4b0] | (simp only [i64_w, i32_w]; rw [c4b0]) | skip)
      by_cases c6 : (l0_6.length : Int) = 0
      · rw [if_pos c6] at H
        have c6b0 : ((l0_6.length : Int) == 0) = true := beq_iff_eq.mpr c6
        have c6b1 : ((l0_6.length : Int) != 0) = false := bne_eq_false_iff_eq.mpr c6
        clear c6
        have H' := Aside0.mk H
        clear H
        have hcz7_0 : w3.cell? ⟨gb23001, 0, none⟩ = some (.int .i64 a0_0) := (blk_cell BK23001.out 0).trans rfl
        have hcz7_1 : w3.cell? ⟨gb23001, 1, none⟩ = some (.string a0_1) := (blk_cell BK23001.out 1).trans rfl
        have hcz7_2 : w3.cell? ⟨gb23001, 2, none⟩ = some (.string a0_2) := (blk_cell BK23001.out 2).trans rfl
        have hcz7_3 : w3.cell? ⟨gb23001, 3, none⟩ = some (.int .i64 a0_3) := (blk_cell BK23001.out 3).trans rfl
        have hcz7_4 : w3.cell? ⟨gb23001, 4, none⟩ = some (.string a0_4) := (blk_cell BK23001.out 4).trans rfl
        have hcz7_5 : w3.cell? ⟨gb23001, 5, none⟩ = some (.slice A0_5 l0_5.length c0_5) := (blk_cell BK23001.out 5).trans rfl
        have hcz7_6 : w3.cell? ⟨gb23001, 6, none⟩ = some (.slice A0_6 l0_6.length c0_6) := (blk_cell BK23001.out 6).trans rfl
        have hcz7_7 : w3.cell? ⟨gb23001, 7, none⟩ = some (.int .i64 a0_7) := (blk_cell BK23001.out 7).trans rfl
        have hfz7_0 := blk_frozen BK23001.out 0
        have hfz7_1 := blk_frozen BK23001.out 1
        have hfz7_2 := blk_frozen BK23001.out 2
        have hfz7_3 := blk_frozen BK23001.out 3
        have hfz7_4 := blk_frozen BK23001.out 4
        have hfz7_5 := blk_frozen BK23001.out 5
        have hfz7_6 := blk_frozen BK23001.out 6
        have hfz7_7 := blk_frozen BK23001.out 7
        go_wp2
        go_meet
        case rel => exact ⟨_, ((a0_7 != 0)), (by first | rfl | (simp; done) | (simp [*]; done)), H', ⟨by first | omega | exact Nat.le_refl _⟩, ⟨by (with_reducible repeat (first | refine blk_drewN ?_ _ | refine blk_drew ?_ | refine blk_alloc ?_ _)); exact BK23001.out⟩, ⟨by repeat (first | (with_reducible first | exact HB.out | apply below_alloc | apply pw_below_drewN | apply below_drew1 | refine below_set ?_ GE23001.out) | exact HB.out)⟩⟩
      · rw [if_neg c6] at H
        have c6b0 : ((l0_6.length : Int) == 0) = false := beq_eq_false_iff_ne.mpr c6
        have c6b1 : ((l0_6.length : Int) != 0) = true := bne_iff_ne.mpr c6
        have c6b2 : ¬ (l0_6 = []) := fun h_ => c6 (by rw [h_]; rfl)
        have H' := Aside0.mk H
        clear H
        have hcz8_0 : w3.cell? ⟨gb23001, 0, none⟩ = some (.int .i64 a0_0) := (blk_cell BK23001.out 0).trans rfl
        have hcz8_1 : w3.cell? ⟨gb23001, 1, none⟩ = some (.string a0_1) := (blk_cell BK23001.out 1).trans rfl
        have hcz8_2 : w3.cell? ⟨gb23001, 2, none⟩ = some (.string a0_2) := (blk_cell BK23001.out 2).trans rfl
        have hcz8_3 : w3.cell? ⟨gb23001, 3, none⟩ = some (.int .i64 a0_3) := (blk_cell BK23001.out 3).trans rfl
        have hcz8_4 : w3.cell? ⟨gb23001, 4, none⟩ = some (.string a0_4) := (blk_cell BK23001.out 4).trans rfl
        have hcz8_5 : w3.cell? ⟨gb23001, 5, none⟩ = some (.slice A0_5 l0_5.length c0_5) := (blk_cell BK23001.out 5).trans rfl
        have hcz8_6 : w3.cell? ⟨gb23001, 6, none⟩ = some (.slice A0_6 l0_6.length c0_6) := (blk_cell BK23001.out 6).trans rfl
        have hcz8_7 : w3.cell? ⟨gb23001, 7, none⟩ = some (.int .i64 a0_7) := (blk_cell BK23001.out 7).trans rfl
        have hfz8_0 := blk_frozen BK23001.out 0
        have hfz8_1 := blk_frozen BK23001.out 1
        have hfz8_2 := blk_frozen BK23001.out 2
        have hfz8_3 := blk_frozen BK23001.out 3
        have hfz8_4 := blk_frozen BK23001.out 4
        have hfz8_5 := blk_frozen BK23001.out 5
        have hfz8_6 := blk_frozen BK23001.out 6
        have hfz8_7 := blk_frozen BK23001.out 7
        go_wp2
        go_meet
        case rel => exact ⟨_, (true), (by first | rfl | (simp; done) | (simp [*]; done)), H', ⟨by first | omega | exact Nat.le_refl _⟩, ⟨by (with_reducible repeat (first | refine blk_drewN ?_ _ | refine blk_drew ?_ | refine blk_alloc ?_ _)); exact BK23001.out⟩, ⟨by repeat (first | (with_reducible first | exact HB.out | apply below_alloc | apply pw_below_drewN | apply below_drew1 | refine below_set ?_ GE23001.out) | exact HB.out)⟩⟩
  case rest =>
    clear HC2
    try clear c2
    try clear p2
    try clear c4
    try clear c4b0
    try clear c4b1
    try clear c6
    try clear c6b0
    try clear c6b1
    try clear c6b2
    try clear hcz5_0
    try clear hcz5_1
    try clear hcz5_2
    try clear hcz5_3
    try clear hcz5_4
    try clear hcz5_5
    try clear hcz5_6
    try clear hcz5_7
    try clear hcz7_0
    try clear hcz7_1
    try clear hcz7_2
    try clear hcz7_3
    try clear hcz7_4
    try clear hcz7_5
    try clear hcz7_6
    try clear hcz7_7
    try clear hcz8_0
    try clear hcz8_1
    try clear hcz8_2
    try clear hcz8_3
    try clear hcz8_4
    try clear hcz8_5
    try clear hcz8_6
    try clear hcz8_7
    try clear hfz5_0
    try clear hfz5_1
    try clear hfz5_2
    try clear hfz5_3
    try clear hfz5_4
    try clear hfz5_5
    try clear hfz5_6
    try clear hfz5_7
    try clear hfz7_0
    try clear hfz7_1
    try clear hfz7_2
    try clear hfz7_3
    try clear hfz7_4
    try clear hfz7_5
    try clear hfz7_6
    try clear hfz7_7
    try clear hfz8_0
    try clear hfz8_1
    try clear hfz8_2
    try clear hfz8_3
    try clear hfz8_4
    try clear hfz8_5
    try clear hfz8_6
    try clear hfz8_7
    obtain ⟨kq, x16_1, rfl, HA, HJ1, BK23001, HB⟩ := hcut
    cases kq with
    | zero => exact absurd HA.out (by simp [impl_IsValidConstraint.j0])
    | succ kj1 =>
      have H := HA.out
      clear HA
      simp only [impl_IsValidConstraint.j0] at H
      by_cases c9 : x16_1 = true
      · subst c9
        have H1 : (some false) = some r := by rw [if_pos rfl] at H; exact H
        clear H
        have H := H1
        clear H1
        obtain rfl := Option.some.inj H
        go_wp2
        go_ret
        exact ⟨by first | rfl | (simp [errW_none, errW_some] <;> rfl) | (simp [*, errW_none, errW_some] <;> rfl), by repeat (first | (with_reducible first | exact HB.out | apply below_alloc | apply pw_below_drewN | apply below_drew1 | refine below_set ?_ GE23001.out) | exact HB.out)⟩
      · replace c9 := Bool.eq_false_iff.mpr c9
        subst c9
        have H1 : (if a0_0 = 1 then (impl_IsValidConstraint.j1 kj1 a0_0 (a0_0 == 1) a0_0 a0_1 a0_2 a0_3 a0_4 l0_5 l0_6 a0_7) else (impl_IsValidConstraint.j1 kj1 a0_0 (a0_0 == 2) a0_0 a0_1 a0_2 a0_3 a0_4 l0_5 l0_6 a0_7)) = some r := by rw [if_neg (show ¬ (false = true) by decide)] at H; exact H
        clear H
        have H := H1
        clear H1
        have HC10 := Aside0.mk H
        clear H
        have hcz11_0 : wc.cell? ⟨gb23001, 0, none⟩ = some (.int .i64 a0_0) := (blk_cell BK23001.out 0).trans rfl
        have hcz11_1 : wc.cell? ⟨gb23001, 1, none⟩ = some (.string a0_1) := (blk_cell BK23001.out 1).trans rfl
        have hcz11_2 : wc.cell? ⟨gb23001, 2, none⟩ = some (.string a0_2) := (blk_cell BK23001.out 2).trans rfl
        have hcz11_3 : wc.cell? ⟨gb23001, 3, none⟩ = some (.int .i64 a0_3) := (blk_cell BK23001.out 3).trans rfl
        have hcz11_4 : wc.cell? ⟨gb23001, 4, none⟩ = some (.string a0_4) := (blk_cell BK23001.out 4).trans rfl
        have hcz11_5 : wc.cell? ⟨gb23001, 5, none⟩ = some (.slice A0_5 l0_5.length c0_5) := (blk_cell BK23001.out 5).trans rfl
        have hcz11_6 : wc.cell? ⟨gb23001, 6, none⟩ = some (.slice A0_6 l0_6.length c0_6) := (blk_cell BK23001.out 6).trans rfl
        have hcz11_7 : wc.cell? ⟨gb23001, 7, none⟩ = some (.int .i64 a0_7) := (blk_cell BK23001.out 7).trans rfl
        have hfz11_0 := blk_frozen BK23001.out 0
        have hfz11_1 := blk_frozen BK23001.out 1
        have hfz11_2 := blk_frozen BK23001.out 2
        have hfz11_3 := blk_frozen BK23001.out 3
        have hfz11_4 := blk_frozen BK23001.out 4
        have hfz11_5 := blk_frozen BK23001.out 5
        have hfz11_6 := blk_frozen BK23001.out 6
        have hfz11_7 := blk_frozen BK23001.out 7
        go_upto_if 19 with (fail)
        go_cut [19] (fun v19 wc => ∃ (kq : Nat) (x19_9 : Bool), v19 = .bool x19_9 ∧ Aside0 (impl_IsValidConstraint.j1 kq a0_0 x19_9 a0_0 a0_1 a0_2 a0_3 a0_4 l0_5 l0_6 a0_7 = some r) ∧ Aside0 (kq ≤ kj1) ∧ Aside0 (wc.heap[gb23001]? = some (.cells #[.int .i64 a0_0, .string a0_1, .string a0_2, .int .i64 a0_3, .string a0_4, (.slice A0_5 l0_5.length c0_5), (.slice A0_6 l0_6.length c0_6), .int .i64 a0_7] 44 (0, 0))) ∧ Aside0 (Below w.heap.size w wc))
        case first =>
          have H := HC10.out
          clear HC10
          by_cases c12 : a0_0 = 1
          · rw [if_pos c12] at H
            have c12b0 : (a0_0 == 1) = true := beq_iff_eq.mpr c12
            have c12b1 : (a0_0 != 1) = false := bne_eq_false_iff_eq.mpr c12
            clear c12
            (first | rw [c12b0] | (simp only [i64_w, i32_w]; rw [c12b0]) | skip)
            have H' := Aside0.mk H
            clear H
            go_wp2
            go_meet
            case rel => exact ⟨_, ((a0_0 == 1)), (by first | rfl | (simp; done) | (simp [*]; done)), H', ⟨by have := HJ1.out; first | omega | exact Nat.le_refl _⟩, ⟨by (with_reducible repeat (first | refine blk_drewN ?_ _ | refine blk_drew ?_ | refine blk_alloc ?_ _)); exact BK23001.out⟩, ⟨by repeat (first | (with_reducible first | exact HB.out | apply below_alloc | apply pw_below_drewN | apply below_drew1 | refine below_set ?_ GE23001.out) | exact HB.out)⟩⟩
          · rw [if_neg c12] at H
            have c12b0 : (a0_0 == 1) = false := beq_eq_false_iff_ne.mpr c12
            have c12b1 : (a0_0 != 1) = true := bne_iff_ne.mpr c12
            (first | rw [c12b0] | (simp only [i64_w, i32_w]; rw [c12b0]) | skip)
            have H' := Aside0.mk H
            clear H
            go_wp2
            go_meet
            case rel => exact ⟨_, ((a0_0 == 2)), (by first | rfl | (simp; done) | (simp [*]; done)), H', ⟨by have := HJ1.out; first | omega | exact Nat.le_refl _⟩, ⟨by (with_reducible repeat (first | refine blk_drewN ?_ _ | refine blk_drew ?_ | refine blk_alloc ?_ _)); exact BK23001.out⟩, ⟨by repeat (first | (with_reducible first | exact HB.out | apply below_alloc | apply pw_below_drewN | apply below_drew1 | refine below_set ?_ GE23001.out) | exact HB.out)⟩⟩
        case rest =>
          clear HC10
          try clear c1
          try clear c2
          try clear p2
          try clear c4
          try clear c4b0
          try clear c4b1
          try clear c6
          try clear c6b0
          try clear c6b1
          try clear c6b2
          try clear c9
          try clear c12
          try clear c12b0
          try clear c12b1
          try clear hcz11_0
          try clear hcz11_1
          try clear hcz11_2
          try clear hcz11_3
          try clear hcz11_4
          try clear hcz11_5
          try clear hcz11_6
          try clear hcz11_7
          try clear hcz5_0
          try clear hcz5_1
          try clear hcz5_2
          try clear hcz5_3
          try clear hcz5_4
          try clear hcz5_5
          try clear hcz5_6
          try clear hcz5_7
          try clear hcz7_0
          try clear hcz7_1
          try clear hcz7_2
          try clear hcz7_3
          try clear hcz7_4
          try clear hcz7_5
          try clear hcz7_6
          try clear hcz7_7
          try clear hcz8_0
          try clear hcz8_1
          try clear hcz8_2
          try clear hcz8_3
          try clear hcz8_4
          try clear hcz8_5
          try clear hcz8_6
          try clear hcz8_7
          try clear hfz11_0
          try clear hfz11_1
          try clear hfz11_2
          try clear hfz11_3
          try clear hfz11_4
          try clear hfz11_5
          try clear hfz11_6
          try clear hfz11_7
          try clear hfz5_0
          try clear hfz5_1
          try clear hfz5_2
          try clear hfz5_3
          try clear hfz5_4
          try clear hfz5_5
          try clear hfz5_6
          try clear hfz5_7
          try clear hfz7_0
          try clear hfz7_1
          try clear hfz7_2
          try clear hfz7_3
          try clear hfz7_4
          try clear hfz7_5
          try clear hfz7_6
          try clear hfz7_7
          try clear hfz8_0
          try clear hfz8_1
          try clear hfz8_2
          try clear hfz8_3
          try clear hfz8_4
          try clear hfz8_5
          try clear hfz8_6
          try clear hfz8_7
          try clear p2
          obtain ⟨kq, x19_9, rfl, HA, HJ9, BK23001, HB⟩ := hcut
          cases kq with
          | zero => exact absurd HA.out (by simp [impl_IsValidConstraint.j1])
          | succ kj9 =>
            have H := HA.out
            clear HA
            simp only [impl_IsValidConstraint.j1] at H
            by_cases c13 : x19_9 = true
            · subst c13
              have H1 : ((impl_IsTerm.f kj9 a0_1).bind fun t23002 => (if t23002 = true then ((impl_IsTerm.f kj9 a0_2).bind fun t23003 => (if t23003 = true then ((impl_isZeroRegex.f a0_3 a0_4 l0_5).bind fun t23004 => (some t23004)) else (some false))) else (some false))) = some r := by rw [if_pos rfl] at H; exact H
              clear H
              have H := H1
              clear H1
              replace H := Option.bind_eq_some_iff.mp H
              obtain ⟨t23002, A140, H⟩ := H
              replace H : (if t23002 = true then ((impl_IsTerm.f kj9 a0_2).bind fun t23003 => (if t23003 = true then ((impl_isZeroRegex.f a0_3 a0_4 l0_5).bind fun t23004 => (some t23004)) else (some false))) else (some false)) = some r := H
              have A14 := Aside0.mk A140
              clear A140
              by_cases c15 : t23002 = true
              · subst c15
                have H1 : ((impl_IsTerm.f kj9 a0_2).bind fun t23003 => (if t23003 = true then ((impl_isZeroRegex.f a0_3 a0_4 l0_5).bind fun t23004 => (some t23004)) else (some false))) = some r := by rw [if_pos rfl] at H; exact H
                clear H
                have H := H1
                clear H1
                replace H := Option.bind_eq_some_iff.mp H
                obtain ⟨t23003, A160, H⟩ := H
                replace H : (if t23003 = true then ((impl_isZeroRegex.f a0_3 a0_4 l0_5).bind fun t23004 => (some t23004)) else (some false)) = some r := H
                have A16 := Aside0.mk A160
                clear A160
                by_cases c17 : t23003 = true
                · subst c17
                  have H1 : ((impl_isZeroRegex.f a0_3 a0_4 l0_5).bind fun t23004 => (some t23004)) = some r := by rw [if_pos rfl] at H; exact H
                  clear H
                  have H := H1
                  clear H1
                  replace H := Option.bind_eq_some_iff.mp H
                  obtain ⟨t23004, A180, H⟩ := H
                  replace H : (some t23004) = some r := H
                  have A18 := Aside0.mk A180
                  clear A180
                  obtain rfl := Option.some.inj H
                  have hcz19_0 : wc.cell? ⟨gb23001, 0, none⟩ = some (.int .i64 a0_0) := (blk_cell BK23001.out 0).trans rfl
                  have hcz19_1 : wc.cell? ⟨gb23001, 1, none⟩ = some (.string a0_1) := (blk_cell BK23001.out 1).trans rfl
                  have hcz19_2 : wc.cell? ⟨gb23001, 2, none⟩ = some (.string a0_2) := (blk_cell BK23001.out 2).trans rfl
                  have hcz19_3 : wc.cell? ⟨gb23001, 3, none⟩ = some (.int .i64 a0_3) := (blk_cell BK23001.out 3).trans rfl
                  have hcz19_4 : wc.cell? ⟨gb23001, 4, none⟩ = some (.string a0_4) := (blk_cell BK23001.out 4).trans rfl
                  have hcz19_5 : wc.cell? ⟨gb23001, 5, none⟩ = some (.slice A0_5 l0_5.length c0_5) := (blk_cell BK23001.out 5).trans rfl
                  have hcz19_6 : wc.cell? ⟨gb23001, 6, none⟩ = some (.slice A0_6 l0_6.length c0_6) := (blk_cell BK23001.out 6).trans rfl
                  have hcz19_7 : wc.cell? ⟨gb23001, 7, none⟩ = some (.int .i64 a0_7) := (blk_cell BK23001.out 7).trans rfl
                  have hfz19_0 := blk_frozen BK23001.out 0
                  have hfz19_1 := blk_frozen BK23001.out 1
                  have hfz19_2 := blk_frozen BK23001.out 2
                  have hfz19_3 := blk_frozen BK23001.out 3
                  have hfz19_4 := blk_frozen BK23001.out 4
                  have hfz19_5 := blk_frozen BK23001.out 5
                  have hfz19_6 := blk_frozen BK23001.out 6
                  have hfz19_7 := blk_frozen BK23001.out 7
                  go_wp2_with (first | ((with_reducible refine gate_callee (f := 49) rfl ?_); refine goesL_ (some 24) rfl rfl Try.func49 (by kernel_rfl) rfl #[.string a0_1] rfl (by (try simp only [List.map_toArray, List.map_cons, List.map_nil]); first | done | rfl | (simp only [List.length_drop, List.length_take]; rfl)) ?_; (with_reducible refine (impl_IsTerm.calls kj9 a0_1 true _ A14.out).mono ?_); rintro e w' ⟨rfl, ⟨nd, rfl⟩⟩; refine ⟨_, rfl, ?_⟩) | (go_at_call 49; (with_reducible refine (impl_IsTerm.calls kj9 a0_2 true _ A16.out).mono ?_); rintro e w' ⟨rfl, ⟨nd, rfl⟩⟩) | (go_at_call 94; (with_reducible refine (impl_isZeroRegex.calls a0_3 a0_4 _ _ l0_5 t23004 _ ?side1 ?side2 A18.out).mono ?_); (case side1 => repeat (first | exact (Kd.C_below HR0_5.out (by repeat (first | (with_reducible first | exact HB.out | apply below_alloc | apply pw_below_drewN | apply below_drew1 | refine below_set ?_ GE23001.out) | exact HB.out))) | (with_reducible refine Kd.C_alloc ?_ _) | (with_reducible refine Kd.C_drewN ?_ _) | (with_reducible refine Kd.C_drew ?_))); (case side2 => exact HC0_5.out); rintro e w20 ⟨rfl, hb⟩; have n0_ := Aside0.mk (blk_below (g := gb23001) (o := .cells #[.int .i64 a0_0, .string a0_1, .string a0_2, .int .i64 a0_3, .string a0_4, .slice A0_5 l0_5.length c0_5, .slice A0_6 l0_6.length c0_6, .int .i64 a0_7] 44 (0, 0)) (by (with_reducible repeat (first | refine blk_drewN ?_ _ | refine blk_drew ?_ | refine blk_alloc ?_ _)); exact BK23001.out) hb); have n1_ := Aside0.mk (below_step (by repeat (first | (with_reducible first | exact HB.out | apply below_alloc | apply pw_below_drewN | apply below_drew1 | refine below_set ?_ GE23001.out) | exact HB.out)) hb); clear BK23001; clear HB; have BK23001 := n0_; have HB := n1_; clear n0_ n1_; (try clear hb); (try clear hb2); (try clear hk); (try clear hi)))
                  go_ret
                  exact ⟨by first | rfl | (simp [errW_none, errW_some] <;> rfl) | (simp [*, errW_none, errW_some] <;> rfl), by repeat (first | (with_reducible first | exact HB.out | apply below_alloc | apply pw_below_drewN | apply below_drew1 | refine below_set ?_ GE23001.out) | exact HB.out)⟩
                · replace c17 := Bool.eq_false_iff.mpr c17
                  subst c17
                  have H1 : (some false) = some r := by rw [if_neg (show ¬ (false = true) by decide)] at H; exact H
                  clear H
                  have H := H1
                  clear H1
                  obtain rfl := Option.some.inj H
                  have hcz21_0 : wc.cell? ⟨gb23001, 0, none⟩ = some (.int .i64 a0_0) := (blk_cell BK23001.out 0).trans rfl
                  have hcz21_1 : wc.cell? ⟨gb23001, 1, none⟩ = some (.string a0_1) := (blk_cell BK23001.out 1).trans rfl
                  have hcz21_2 : wc.cell? ⟨gb23001, 2, none⟩ = some (.string a0_2) := (blk_cell BK23001.out 2).trans rfl
                  have hcz21_3 : wc.cell? ⟨gb23001, 3, none⟩ = some (.int .i64 a0_3) := (blk_cell BK23001.out 3).trans rfl
                  have hcz21_4 : wc.cell? ⟨gb23001, 4, none⟩ = some (.string a0_4) := (blk_cell BK23001.out 4).trans rfl
                  have hcz21_5 : wc.cell? ⟨gb23001, 5, none⟩ = some (.slice A0_5 l0_5.length c0_5) := (blk_cell BK23001.out 5).trans rfl
                  have hcz21_6 : wc.cell? ⟨gb23001, 6, none⟩ = some (.slice A0_6 l0_6.length c0_6) := (blk_cell BK23001.out 6).trans rfl
                  have hcz21_7 : wc.cell? ⟨gb23001, 7, none⟩ = some (.int .i64 a0_7) := (blk_cell BK23001.out 7).trans rfl
                  have hfz21_0 := blk_frozen BK23001.out 0
                  have hfz21_1 := blk_frozen BK23001.out 1
                  have hfz21_2 := blk_frozen BK23001.out 2
                  have hfz21_3 := blk_frozen BK23001.out 3
                  have hfz21_4 := blk_frozen BK23001.out 4
                  have hfz21_5 := blk_frozen BK23001.out 5
                  have hfz21_6 := blk_frozen BK23001.out 6
                  have hfz21_7 := blk_frozen BK23001.out 7
                  go_wp2_with (first | ((with_reducible refine gate_callee (f := 49) rfl ?_); refine goesL_ (some 24) rfl rfl Try.func49 (by kernel_rfl) rfl #[.string a0_1] rfl (by (try simp only [List.map_toArray, List.map_cons, List.map_nil]); first | done | rfl | (simp only [List.length_drop, List.length_take]; rfl)) ?_; (with_reducible refine (impl_IsTerm.calls kj9 a0_1 true _ A14.out).mono ?_); rintro e w' ⟨rfl, ⟨nd, rfl⟩⟩; refine ⟨_, rfl, ?_⟩) | (go_at_call 49; (with_reducible refine (impl_IsTerm.calls kj9 a0_2 false _ A16.out).mono ?_); rintro e w' ⟨rfl, ⟨nd, rfl⟩⟩))
                  go_ret
                  exact ⟨by first | rfl | (simp [errW_none, errW_some] <;> rfl) | (simp [*, errW_none, errW_some] <;> rfl), by repeat (first | (with_reducible first | exact HB.out | apply below_alloc | apply pw_below_drewN | apply below_drew1 | refine below_set ?_ GE23001.out) | exact HB.out)⟩
              · replace c15 := Bool.eq_false_iff.mpr c15
                subst c15
                have H1 : (some false) = some r := by rw [if_neg (show ¬ (false = true) by decide)] at H; exact H
                clear H
                have H := H1
                clear H1
                obtain rfl := Option.some.inj H
                have hcz22_0 : wc.cell? ⟨gb23001, 0, none⟩ = some (.int .i64 a0_0) := (blk_cell BK23001.out 0).trans rfl
                have hcz22_1 : wc.cell? ⟨gb23001, 1, none⟩ = some (.string a0_1) := (blk_cell BK23001.out 1).trans rfl
                have hcz22_2 : wc.cell? ⟨gb23001, 2, none⟩ = some (.string a0_2) := (blk_cell BK23001.out 2).trans rfl
                have hcz22_3 : wc.cell? ⟨gb23001, 3, none⟩ = some (.int .i64 a0_3) := (blk_cell BK23001.out 3).trans rfl
                have hcz22_4 : wc.cell? ⟨gb23001, 4, none⟩ = some (.string a0_4) := (blk_cell BK23001.out 4).trans rfl
                have hcz22_5 : wc.cell? ⟨gb23001, 5, none⟩ = some (.slice A0_5 l0_5.length c0_5) := (blk_cell BK23001.out 5).trans rfl
                have hcz22_6 : wc.cell? ⟨gb23001, 6, none⟩ = some (.slice A0_6 l0_6.length c0_6) := (blk_cell BK23001.out 6).trans rfl
                have hcz22_7 : wc.cell? ⟨gb23001, 7, none⟩ = some (.int .i64 a0_7) := (blk_cell BK23001.out 7).trans rfl
                have hfz22_0 := blk_frozen BK23001.out 0
                have hfz22_1 := blk_frozen BK23001.out 1
                have hfz22_2 := blk_frozen BK23001.out 2
                have hfz22_3 := blk_frozen BK23001.out 3
                have hfz22_4 := blk_frozen BK23001.out 4
                have hfz22_5 := blk_frozen BK23001.out 5
                have hfz22_6 := blk_frozen BK23001.out 6
                have hfz22_7 := blk_frozen BK23001.out 7
                go_wp2_with (first | ((with_reducible refine gate_callee (f := 49) rfl ?_); refine goesL_ (some 24) rfl rfl Try.func49 (by kernel_rfl) rfl #[.string a0_1] rfl (by (try simp only [List.map_toArray, List.map_cons, List.map_nil]); first | done | rfl | (simp only [List.length_drop, List.length_take]; rfl)) ?_; (with_reducible refine (impl_IsTerm.calls kj9 a0_1 false _ A14.out).mono ?_); rintro e w' ⟨rfl, ⟨nd, rfl⟩⟩; refine ⟨_, rfl, ?_⟩))
                go_ret
                exact ⟨by first | rfl | (simp [errW_none, errW_some] <;> rfl) | (simp [*, errW_none, errW_some] <;> rfl), by repeat (first | (with_reducible first | exact HB.out | apply below_alloc | apply pw_below_drewN | apply below_drew1 | refine below_set ?_ GE23001.out) | exact HB.out)⟩
            · replace c13 := Bool.eq_false_iff.mpr c13
              subst c13
              have H1 : (if a0_0 = 3 then (impl_IsValidConstraint.j2 kj9 a0_0 (a0_0 == 3) a0_0 a0_1 a0_2 a0_3 a0_4 l0_5 l0_6 a0_7) else (impl_IsValidConstraint.j2 kj9 a0_0 (a0_0 == 4) a0_0 a0_1 a0_2 a0_3 a0_4 l0_5 l0_6 a0_7)) = some r := by rw [if_neg (show ¬ (false = true) by decide)] at H; exact H
              clear H
              have H := H1
              clear H1
              have HC23 := Aside0.mk H
              clear H
              go_upto_if 35 with (fail)
              go_cut [35] (fun v35 wc => ∃ (kq : Nat) (x35_22 : Bool), v35 = .bool x35_22 ∧ Aside0 (impl_IsValidConstraint.j2 kq a0_0 x35_22 a0_0 a0_1 a0_2 a0_3 a0_4 l0_5 l0_6 a0_7 = some r) ∧ Aside0 (kq ≤ kj9) ∧ Aside0 (wc.heap[gb23001]? = some (.cells #[.int .i64 a0_0, .string a0_1, .string a0_2, .int .i64 a0_3, .string a0_4, (.slice A0_5 l0_5.length c0_5), (.slice A0_6 l0_6.length c0_6), .int .i64 a0_7] 44 (0, 0))) ∧ Aside0 (Below w.heap.size w wc))
              case first =>
                have H := HC23.out
                clear HC23
                by_cases c24 : a0_0 = 3
                · rw [if_pos c24] at H
                  have c24b0 : (a0_0 == 3) = true := beq_iff_eq.mpr c24
                  have c24b1 : (a0_0 != 3) = false := bne_eq_false_iff_eq.mpr c24
                  clear c24
                  (first | rw [c24b0] | (simp only [i64_w, i32_w]; rw [c24b0]) | skip)
                  have H' := Aside0.mk H
                  clear H
                  go_wp2
                  go_meet
                  case rel => exact ⟨_, ((a0_0 == 3)), (by first | rfl | (simp; done) | (simp [*]; done)), H', ⟨by have := HJ1.out; have := HJ9.out; first | omega | exact Nat.le_refl _⟩, ⟨by (with_reducible repeat (first | refine blk_drewN ?_ _ | refine blk_drew ?_ | refine blk_alloc ?_ _)); exact BK23001.out⟩, ⟨by repeat (first | (with_reducible first | exact HB.out | apply below_alloc | apply pw_below_drewN | apply below_drew1 | refine below_set ?_ GE23001.out) | exact HB.out)⟩⟩
                · rw [if_neg c24] at H
                  have c24b0 : (a0_0 == 3) = false := beq_eq_false_iff_ne.mpr c24
                  have c24b1 : (a0_0 != 3) = true := bne_iff_ne.mpr c24
                  (first | rw [c24b0] | (simp only [i64_w, i32_w]; rw [c24b0]) | skip)
                  have H' := Aside0.mk H
                  clear H
                  go_wp2
                  go_meet
                  case rel => exact ⟨_, ((a0_0 == 4)), (by first | rfl | (simp; done) | (simp [*]; done)), H', ⟨by have := HJ1.out; have := HJ9.out; first | omega | exact Nat.le_refl _⟩, ⟨by (with_reducible repeat (first | refine blk_drewN ?_ _ | refine blk_drew ?_ | refine blk_alloc ?_ _)); exact BK23001.out⟩, ⟨by repeat (first | (with_reducible first | exact HB.out | apply below_alloc | apply pw_below_drewN | apply below_drew1 | refine below_set ?_ GE23001.out) | exact HB.out)⟩⟩
              case rest =>
                clear HC23
                try clear c1
                try clear c2
                try clear p2
                try clear c4
                try clear c4b0
                try clear c4b1
                try clear c6
                try clear c6b0
                try clear c6b1
                try clear c6b2
                try clear c9
                try clear c12
                try clear c12b0
                try clear c12b1
                try clear c13
                try clear c15
                try clear c17
                try clear c23
                try clear c24
                try clear c24b0
                try clear c24b1
                try clear hcz11_0
                try clear hcz11_1
                try clear hcz11_2
                try clear hcz11_3
                try clear hcz11_4
                try clear hcz11_5
                try clear hcz11_6
                try clear hcz11_7
                try clear hcz19_0
                try clear hcz19_1
                try clear hcz19_2
                try clear hcz19_3
                try clear hcz19_4
                try clear hcz19_5
                try clear hcz19_6
                try clear hcz19_7
                try clear hcz21_0
                try clear hcz21_1
                try clear hcz21_2
                try clear hcz21_3
                try clear hcz21_4
                try clear hcz21_5
                try clear hcz21_6
                try clear hcz21_7
                try clear hcz22_0
                try clear hcz22_1
                try clear hcz22_2
                try clear hcz22_3
                try clear hcz22_4
                try clear hcz22_5
                try clear hcz22_6
                try clear hcz22_7
                try clear hcz5_0
                try clear hcz5_1
                try clear hcz5_2
                try clear hcz5_3
                try clear hcz5_4
                try clear hcz5_5
                try clear hcz5_6
                try clear hcz5_7
                try clear hcz7_0
                try clear hcz7_1
                try clear hcz7_2
                try clear hcz7_3
                try clear hcz7_4
                try clear hcz7_5
                try clear hcz7_6
                try clear hcz7_7
                try clear hcz8_0
                try clear hcz8_1
                try clear hcz8_2
                try clear hcz8_3
                try clear hcz8_4
                try clear hcz8_5
                try clear hcz8_6
                try clear hcz8_7
                try clear hfz11_0
                try clear hfz11_1
                try clear hfz11_2
                try clear hfz11_3
                try clear hfz11_4
                try clear hfz11_5
                try clear hfz11_6
                try clear hfz11_7
                try clear hfz19_0
                try clear hfz19_1
                try clear hfz19_2
                try clear hfz19_3
                try clear hfz19_4
                try clear hfz19_5
                try clear hfz19_6
                try clear hfz19_7
                try clear hfz21_0
                try clear hfz21_1
                try clear hfz21_2
                try clear hfz21_3
                try clear hfz21_4
                try clear hfz21_5
                try clear hfz21_6
                try clear hfz21_7
                try clear hfz22_0
                try clear hfz22_1
                try clear hfz22_2
                try clear hfz22_3
                try clear hfz22_4
                try clear hfz22_5
                try clear hfz22_6
                try clear hfz22_7
                try clear hfz5_0
                try clear hfz5_1
                try clear hfz5_2
                try clear hfz5_3
                try clear hfz5_4
                try clear hfz5_5
                try clear hfz5_6
                try clear hfz5_7
                try clear hfz7_0
                try clear hfz7_1
                try clear hfz7_2
                try clear hfz7_3
                try clear hfz7_4
                try clear hfz7_5
                try clear hfz7_6
                try clear hfz7_7
                try clear hfz8_0
                try clear hfz8_1
                try clear hfz8_2
                try clear hfz8_3
                try clear hfz8_4
                try clear hfz8_5
                try clear hfz8_6
                try clear hfz8_7
                try clear p2
                obtain ⟨kq, x35_22, rfl, HA, HJ22, BK23001, HB⟩ := hcut
                cases kq with
                | zero => exact absurd HA.out (by simp [impl_IsValidConstraint.j2])
                | succ kj22 =>
                  have H := HA.out
                  clear HA
                  simp only [impl_IsValidConstraint.j2] at H
                  by_cases c25 : x35_22 = true
                  · subst c25
                    have H1 : ((impl_IsTerm.f kj22 a0_1).bind fun t23005 => (if t23005 = true then (if a0_2.toList = ([] : List UInt8) then ((impl_IsValidRegex.f kj22 a0_3 a0_4 l0_5).bind fun t23006 => (some t23006)) else (some false)) else (some false))) = some r := by rw [if_pos rfl] at H; exact H
                    clear H
                    have H := H1
                    clear H1
                    replace H := Option.bind_eq_some_iff.mp H
                    obtain ⟨t23005, A260, H⟩ := H
                    replace H : (if t23005 = true then (if a0_2.toList = ([] : List UInt8) then ((impl_IsValidRegex.f kj22 a0_3 a0_4 l0_5).bind fun t23006 => (some t23006)) else (some false)) else (some false)) = some r := H
                    have A26 := Aside0.mk A260
                    clear A260
                    by_cases c27 : t23005 = true
                    · subst c27
                      have H1 : (if a0_2.toList = ([] : List UInt8) then ((impl_IsValidRegex.f kj22 a0_3 a0_4 l0_5).bind fun t23006 => (some t23006)) else (some false)) = some r := by rw [if_pos rfl] at H; exact H
                      clear H
                      have H := H1
                      clear H1
                      by_cases c28 : a0_2.toList = ([] : List UInt8)
                      · rw [if_pos c28] at H
                        have c28b0 : (a0_2.toList == ([] : List UInt8)) = true := beq_iff_eq.mpr c28
                        have c28b1 : (a0_2.toList != ([] : List UInt8)) = false := bne_eq_false_iff_eq.mpr c28
                        clear c28
                        replace H := Option.bind_eq_some_iff.mp H
                        obtain ⟨t23006, A290, H⟩ := H
                        replace H : (some t23006) = some r := H
                        have A29 := Aside0.mk A290
                        clear A290
                        obtain rfl := Option.some.inj H
                        have hcz30_0 : wc.cell? ⟨gb23001, 0, none⟩ = some (.int .i64 a0_0) := (blk_cell BK23001.out 0).trans rfl
                        have hcz30_1 : wc.cell? ⟨gb23001, 1, none⟩ = some (.string a0_1) := (blk_cell BK23001.out 1).trans rfl
                        have hcz30_2 : wc.cell? ⟨gb23001, 2, none⟩ = some (.string a0_2) := (blk_cell BK23001.out 2).trans rfl
                        have hcz30_3 : wc.cell? ⟨gb23001, 3, none⟩ = some (.int .i64 a0_3) := (blk_cell BK23001.out 3).trans rfl
                        have hcz30_4 : wc.cell? ⟨gb23001, 4, none⟩ = some (.string a0_4) := (blk_cell BK23001.out 4).trans rfl
                        have hcz30_5 : wc.cell? ⟨gb23001, 5, none⟩ = some (.slice A0_5 l0_5.length c0_5) := (blk_cell BK23001.out 5).trans rfl
                        have hcz30_6 : wc.cell? ⟨gb23001, 6, none⟩ = some (.slice A0_6 l0_6.length c0_6) := (blk_cell BK23001.out 6).trans rfl
                        have hcz30_7 : wc.cell? ⟨gb23001, 7, none⟩ = some (.int .i64 a0_7) := (blk_cell BK23001.out 7).trans rfl
                        have hfz30_0 := blk_frozen BK23001.out 0
                        have hfz30_1 := blk_frozen BK23001.out 1
                        have hfz30_2 := blk_frozen BK23001.out 2
                        have hfz30_3 := blk_frozen BK23001.out 3
                        have hfz30_4 := blk_frozen BK23001.out 4
                        have hfz30_5 := blk_frozen BK23001.out 5
                        have hfz30_6 := blk_frozen BK23001.out 6
                        have hfz30_7 := blk_frozen BK23001.out 7
                        go_wp2_with (first | ((with_reducible refine gate_callee (f := 49) rfl ?_); refine goesL_ (some 40) rfl rfl Try.func49 (by kernel_rfl) rfl #[.string a0_1] rfl (by (try simp only [List.map_toArray, List.map_cons, List.map_nil]); first | done | rfl | (simp only [List.length_drop, List.length_take]; rfl)) ?_; (with_reducible refine (impl_IsTerm.calls kj22 a0_1 true _ A26.out).mono ?_); rintro e w' ⟨rfl, ⟨nd, rfl⟩⟩; refine ⟨_, rfl, ?_⟩) | (go_at_call 95; (with_reducible refine (impl_IsValidRegex.calls kj22 a0_3 a0_4 _ _ l0_5 t23006 _ ?side1 ?side2 A29.out).mono ?_); (case side1 => repeat (first | exact (Kd.C_below HR0_5.out (by repeat (first | (with_reducible first | exact HB.out | apply below_alloc | apply pw_below_drewN | apply below_drew1 | refine below_set ?_ GE23001.out) | exact HB.out))) | (with_reducible refine Kd.C_alloc ?_ _) | (with_reducible refine Kd.C_drewN ?_ _) | (with_reducible refine Kd.C_drew ?_))); (case side2 => exact HC0_5.out); rintro e w31 ⟨rfl, hb⟩; have n0_ := Aside0.mk (blk_below (g := gb23001) (o := .cells #[.int .i64 a0_0, .string a0_1, .string a0_2, .int .i64 a0_3, .string a0_4, .slice A0_5 l0_5.length c0_5, .slice A0_6 l0_6.length c0_6, .int .i64 a0_7] 44 (0, 0)) (by (with_reducible repeat (first | refine blk_drewN ?_ _ | refine blk_drew ?_ | refine blk_alloc ?_ _)); exact BK23001.out) hb); have n1_ := Aside0.mk (below_step (by repeat (first | (with_reducible first | exact HB.out | apply below_alloc | apply pw_below_drewN | apply below_drew1 | refine below_set ?_ GE23001.out) | exact HB.out)) hb); clear BK23001; clear HB; have BK23001 := n0_; have HB := n1_; clear n0_ n1_; (try clear hb); (try clear hb2); (try clear hk); (try clear hi)))
                        go_ret
                        exact ⟨by first | rfl | (simp [errW_none, errW_some] <;> rfl) | (simp [*, errW_none, errW_some] <;> rfl), by repeat (first | (with_reducible first | exact HB.out | apply below_alloc | apply pw_below_drewN | apply below_drew1 | refine below_set ?_ GE23001.out) | exact HB.out)⟩
                      · rw [if_neg c28] at H
                        have c28b0 : (a0_2.toList == ([] : List UInt8)) = false := beq_eq_false_iff_ne.mpr c28
                        have c28b1 : (a0_2.toList != ([] : List UInt8)) = true := bne_iff_ne.mpr c28
                        obtain rfl := Option.some.inj H
                        have hcz32_0 : wc.cell? ⟨gb23001, 0, none⟩ = some (.int .i64 a0_0) := (blk_cell BK23001.out 0).trans rfl
                        have hcz32_1 : wc.cell? ⟨gb23001, 1, none⟩ = some (.string a0_1) := (blk_cell BK23001.out 1).trans rfl
                        have hcz32_2 : wc.cell? ⟨gb23001, 2, none⟩ = some (.string a0_2) := (blk_cell BK23001.out 2).trans rfl
                        have hcz32_3 : wc.cell? ⟨gb23001, 3, none⟩ = some (.int .i64 a0_3) := (blk_cell BK23001.out 3).trans rfl
                        have hcz32_4 : wc.cell? ⟨gb23001, 4, none⟩ = some (.string a0_4) := (blk_cell BK23001.out 4).trans rfl
                        have hcz32_5 : wc.cell? ⟨gb23001, 5, none⟩ = some (.slice A0_5 l0_5.length c0_5) := (blk_cell BK23001.out 5).trans rfl
                        have hcz32_6 : wc.cell? ⟨gb23001, 6, none⟩ = some (.slice A0_6 l0_6.length c0_6) := (blk_cell BK23001.out 6).trans rfl
                        have hcz32_7 : wc.cell? ⟨gb23001, 7, none⟩ = some (.int .i64 a0_7) := (blk_cell BK23001.out 7).trans rfl
                        have hfz32_0 := blk_frozen BK23001.out 0
                        have hfz32_1 := blk_frozen BK23001.out 1
                        have hfz32_2 := blk_frozen BK23001.out 2
                        have hfz32_3 := blk_frozen BK23001.out 3
                        have hfz32_4 := blk_frozen BK23001.out 4
                        have hfz32_5 := blk_frozen BK23001.out 5
                        have hfz32_6 := blk_frozen BK23001.out 6
                        have hfz32_7 := blk_frozen BK23001.out 7
                        go_wp2_with (first | ((with_reducible refine gate_callee (f := 49) rfl ?_); refine goesL_ (some 40) rfl rfl Try.func49 (by kernel_rfl) rfl #[.string a0_1] rfl (by (try simp only [List.map_toArray, List.map_cons, List.map_nil]); first | done | rfl | (simp only [List.length_drop, List.length_take]; rfl)) ?_; (with_reducible refine (impl_IsTerm.calls kj22 a0_1 true _ A26.out).mono ?_); rintro e w' ⟨rfl, ⟨nd, rfl⟩⟩; refine ⟨_, rfl, ?_⟩))
                        go_ret
                        exact ⟨by first | rfl | (simp [errW_none, errW_some] <;> rfl) | (simp [*, errW_none, errW_some] <;> rfl), by repeat (first | (with_reducible first | exact HB.out | apply below_alloc | apply pw_below_drewN | apply below_drew1 | refine below_set ?_ GE23001.out) | exact HB.out)⟩
                    · replace c27 := Bool.eq_false_iff.mpr c27
                      subst c27
                      have H1 : (some false) = some r := by rw [if_neg (show ¬ (false = true) by decide)] at H; exact H
                      clear H
                      have H := H1
                      clear H1
                      obtain rfl := Option.some.inj H
                      have hcz33_0 : wc.cell? ⟨gb23001, 0, none⟩ = some (.int .i64 a0_0) := (blk_cell BK23001.out 0).trans rfl
                      have hcz33_1 : wc.cell? ⟨gb23001, 1, none⟩ = some (.string a0_1) := (blk_cell BK23001.out 1).trans rfl
                      have hcz33_2 : wc.cell? ⟨gb23001, 2, none⟩ = some (.string a0_2) := (blk_cell BK23001.out 2).trans rfl
                      have hcz33_3 : wc.cell? ⟨gb23001, 3, none⟩ = some (.int .i64 a0_3) := (blk_cell BK23001.out 3).trans rfl
                      have hcz33_4 : wc.cell? ⟨gb23001, 4, none⟩ = some (.string a0_4) := (blk_cell BK23001.out 4).trans rfl
                      have hcz33_5 : wc.cell? ⟨gb23001, 5, none⟩ = some (.slice A0_5 l0_5.length c0_5) := (blk_cell BK23001.out 5).trans rfl
                      have hcz33_6 : wc.cell? ⟨gb23001, 6, none⟩ = some (.slice A0_6 l0_6.length c0_6) := (blk_cell BK23001.out 6).trans rfl
                      have hcz33_7 : wc.cell? ⟨gb23001, 7, none⟩ = some (.int .i64 a0_7) := (blk_cell BK23001.out 7).trans rfl
                      have hfz33_0 := blk_frozen BK23001.out 0
                      have hfz33_1 := blk_frozen BK23001.out 1
                      have hfz33_2 := blk_frozen BK23001.out 2
                      have hfz33_3 := blk_frozen BK23001.out 3
                      have hfz33_4 := blk_frozen BK23001.out 4
                      have hfz33_5 := blk_frozen BK23001.out 5
                      have hfz33_6 := blk_frozen BK23001.out 6
                      have hfz33_7 := blk_frozen BK23001.out 7
                      go_wp2_with (first | ((with_reducible refine gate_callee (f := 49) rfl ?_); refine goesL_ (some 40) rfl rfl Try.func49 (by kernel_rfl) rfl #[.string a0_1] rfl (by (try simp only [List.map_toArray, List.map_cons, List.map_nil]); first | done | rfl | (simp only [List.length_drop, List.length_take]; rfl)) ?_; (with_reducible refine (impl_IsTerm.calls kj22 a0_1 false _ A26.out).mono ?_); rintro e w' ⟨rfl, ⟨nd, rfl⟩⟩; refine ⟨_, rfl, ?_⟩))
                      go_ret
                      exact ⟨by first | rfl | (simp [errW_none, errW_some] <;> rfl) | (simp [*, errW_none, errW_some] <;> rfl), by repeat (first | (with_reducible first | exact HB.out | apply below_alloc | apply pw_below_drewN | apply below_drew1 | refine below_set ?_ GE23001.out) | exact HB.out)⟩
                  · replace c25 := Bool.eq_false_iff.mpr c25
                    subst c25
                    have H1 : (if a0_0 = 5 then (if a0_1.toList = ([] : List UInt8) then (if a0_2.toList = ([] : List UInt8) then ((impl_isZeroRegex.f a0_3 a0_4 l0_5).bind fun t23007 => (if t23007 = true then (if (l0_6.length : Int) = 3 then ((impl_within.f a0_7 (-99) 99).bind fun t23008 => (if t23008 = true then ((slices_ContainsFunc_int_int_97.f kj22 l0_6).bind fun t23009 => (some (!t23009))) else (some false))) else (some false)) else (some false))) else (some false)) else (some false)) else (some false)) = some r := by rw [if_neg (show ¬ (false = true) by decide)] at H; exact H
                    clear H
                    have H := H1
                    clear H1
                    by_cases c34 : a0_0 = 5
                    · rw [if_pos c34] at H
                      have c34b0 : (a0_0 == 5) = true := beq_iff_eq.mpr c34
                      have c34b1 : (a0_0 != 5) = false := bne_eq_false_iff_eq.mpr c34
                      clear c34
                      by_cases c35 : a0_1.toList = ([] : List UInt8)
                      · rw [if_pos c35] at H
                        have c35b0 : (a0_1.toList == ([] : List UInt8)) = true := beq_iff_eq.mpr c35
                        have c35b1 : (a0_1.toList != ([] : List UInt8)) = false := bne_eq_false_iff_eq.mpr c35
                        clear c35
                        by_cases c36 : a0_2.toList = ([] : List UInt8)
                        · rw [if_pos c36] at H
                          have c36b0 : (a0_2.toList == ([] : List UInt8)) = true := beq_iff_eq.mpr c36
                          have c36b1 : (a0_2.toList != ([] : List UInt8)) = false := bne_eq_false_iff_eq.mpr c36
                          clear c36
                          replace H := Option.bind_eq_some_iff.mp H
                          obtain ⟨t23007, A370, H⟩ := H
                          replace H : (if t23007 = true then (if (l0_6.length : Int) = 3 then ((impl_within.f a0_7 (-99) 99).bind fun t23008 => (if t23008 = true then ((slices_ContainsFunc_int_int_97.f kj22 l0_6).bind fun t23009 => (some (!t23009))) else (some false))) else (some false)) else (some false)) = some r := H
                          have A37 := Aside0.mk A370
                          clear A370
                          by_cases c38 : t23007 = true
                          · subst c38
                            have H1 : (if (l0_6.length : Int) = 3 then ((impl_within.f a0_7 (-99) 99).bind fun t23008 => (if t23008 = true then ((slices_ContainsFunc_int_int_97.f kj22 l0_6).bind fun t23009 => (some (!t23009))) else (some false))) else (some false)) = some r := by rw [if_pos rfl] at H; exact H
                            clear H
                            have H := H1
                            clear H1
                            by_cases c39 : (l0_6.length : Int) = 3
                            · rw [if_pos c39] at H
                              have c39b0 : ((l0_6.length : Int) == 3) = true := beq_iff_eq.mpr c39
                              have c39b1 : ((l0_6.length : Int) != 3) = false := bne_eq_false_iff_eq.mpr c39
                              clear c39
                              replace H := Option.bind_eq_some_iff.mp H
                              obtain ⟨t23008, A400, H⟩ := H
                              replace H : (if t23008 = true then ((slices_ContainsFunc_int_int_97.f kj22 l0_6).bind fun t23009 => (some (!t23009))) else (some false)) = some r := H
                              have A40 := Aside0.mk A400
                              clear A400
                              by_cases c41 : t23008 = true
                              · subst c41
                                have H1 : ((slices_ContainsFunc_int_int_97.f kj22 l0_6).bind fun t23009 => (some (!t23009))) = some r := by rw [if_pos rfl] at H; exact H
                                clear H
                                have H := H1
                                clear H1
                                replace H := Option.bind_eq_some_iff.mp H
                                obtain ⟨t23009, A420, H⟩ := H
                                replace H : (some (!t23009)) = some r := H
                                have A42 := Aside0.mk A420
                                clear A420
                                obtain rfl := Option.some.inj H
                                have hcz43_0 : wc.cell? ⟨gb23001, 0, none⟩ = some (.int .i64 a0_0) := (blk_cell BK23001.out 0).trans rfl
                                have hcz43_1 : wc.cell? ⟨gb23001, 1, none⟩ = some (.string a0_1) := (blk_cell BK23001.out 1).trans rfl
                                have hcz43_2 : wc.cell? ⟨gb23001, 2, none⟩ = some (.string a0_2) := (blk_cell BK23001.out 2).trans rfl
                                have hcz43_3 : wc.cell? ⟨gb23001, 3, none⟩ = some (.int .i64 a0_3) := (blk_cell BK23001.out 3).trans rfl
                                have hcz43_4 : wc.cell? ⟨gb23001, 4, none⟩ = some (.string a0_4) := (blk_cell BK23001.out 4).trans rfl
                                have hcz43_5 : wc.cell? ⟨gb23001, 5, none⟩ = some (.slice A0_5 l0_5.length c0_5) := (blk_cell BK23001.out 5).trans rfl
                                have hcz43_6 : wc.cell? ⟨gb23001, 6, none⟩ = some (.slice A0_6 l0_6.length c0_6) := (blk_cell BK23001.out 6).trans rfl
                                have hcz43_7 : wc.cell? ⟨gb23001, 7, none⟩ = some (.int .i64 a0_7) := (blk_cell BK23001.out 7).trans rfl
                                have hfz43_0 := blk_frozen BK23001.out 0
                                have hfz43_1 := blk_frozen BK23001.out 1
                                have hfz43_2 := blk_frozen BK23001.out 2
                                have hfz43_3 := blk_frozen BK23001.out 3
                                have hfz43_4 := blk_frozen BK23001.out 4
                                have hfz43_5 := blk_frozen BK23001.out 5
                                have hfz43_6 := blk_frozen BK23001.out 6
                                have hfz43_7 := blk_frozen BK23001.out 7
                                go_wp2_with (first | (go_at_call 94; (with_reducible refine (impl_isZeroRegex.calls a0_3 a0_4 _ _ l0_5 true _ ?side1 ?side2 A37.out).mono ?_); (case side1 => repeat (first | exact (Kd.C_below HR0_5.out HB.out) | (with_reducible refine Kd.C_alloc ?_ _) | (with_reducible refine Kd.C_drewN ?_ _) | (with_reducible refine Kd.C_drew ?_))); (case side2 => exact HC0_5.out); rintro e w44 ⟨rfl, hb⟩; have n0_ := Aside0.mk (blk_below (g := gb23001) (o := .cells #[.int .i64 a0_0, .string a0_1, .string a0_2, .int .i64 a0_3, .string a0_4, .slice A0_5 l0_5.length c0_5, .slice A0_6 l0_6.length c0_6, .int .i64 a0_7] 44 (0, 0)) (by (with_reducible repeat (first | refine blk_drewN ?_ _ | refine blk_drew ?_ | refine blk_alloc ?_ _)); exact BK23001.out) hb); have n1_ := Aside0.mk (below_step (by repeat (first | (with_reducible first | exact HB.out | apply below_alloc | apply pw_below_drewN | apply below_drew1 | refine below_set ?_ GE23001.out) | exact HB.out)) hb); clear BK23001; clear HB; have BK23001 := n0_; have HB := n1_; clear n0_ n1_; (try clear hb); (try clear hb2); (try clear hk); (try clear hi); have hcz45_0 : w44.cell? ⟨gb23001, 0, none⟩ = some (.int .i64 a0_0) := (blk_cell BK23001.out 0).trans rfl; have hcz45_1 : w44.cell? ⟨gb23001, 1, none⟩ = some (.string a0_1) := (blk_cell BK23001.out 1).trans rfl; have hcz45_2 : w44.cell? ⟨gb23001, 2, none⟩ = some (.string a0_2) := (blk_cell BK23001.out 2).trans rfl; have hcz45_3 : w44.cell? ⟨gb23001, 3, none⟩ = some (.int .i64 a0_3) := (blk_cell BK23001.out 3).trans rfl; have hcz45_4 : w44.cell? ⟨gb23001, 4, none⟩ = some (.string a0_4) := (blk_cell BK23001.out 4).trans rfl; have hcz45_5 : w44.cell? ⟨gb23001, 5, none⟩ = some (.slice A0_5 l0_5.length c0_5) := (blk_cell BK23001.out 5).trans rfl; have hcz45_6 : w44.cell? ⟨gb23001, 6, none⟩ = some (.slice A0_6 l0_6.length c0_6) := (blk_cell BK23001.out 6).trans rfl; have hcz45_7 : w44.cell? ⟨gb23001, 7, none⟩ = some (.int .i64 a0_7) := (blk_cell BK23001.out 7).trans rfl; have hfz45_0 := blk_frozen BK23001.out 0; have hfz45_1 := blk_frozen BK23001.out 1; have hfz45_2 := blk_frozen BK23001.out 2; have hfz45_3 := blk_frozen BK23001.out 3; have hfz45_4 := blk_frozen BK23001.out 4; have hfz45_5 := blk_frozen BK23001.out 5; have hfz45_6 := blk_frozen BK23001.out 6; have hfz45_7 := blk_frozen BK23001.out 7) | (go_at_call 96; (with_reducible refine (impl_within.calls a0_7 (-99) 99 true _ A40.out).mono ?_); rintro e w' ⟨rfl, ⟨nd, rfl⟩⟩) | ((with_reducible refine gate_callee (f := 97) rfl ?_); refine goesL_ (some 81) rfl rfl Try.func97 (by kernel_rfl) rfl #[.slice A0_6 l0_6.length c0_6, .func (.func 98) #[] #[]] rfl (by (try simp only [List.map_toArray, List.map_cons, List.map_nil]); first | done | rfl | (simp only [List.length_drop, List.length_take]; rfl)) ?_; (with_reducible refine (slices_ContainsFunc_int_int_97.calls kj22 _ _ l0_6 t23009 _ ?side1 ?side2 A42.out).mono ?_); (case side1 => repeat (first | exact (Kd.C_below HR0_6.out (by repeat (first | (with_reducible first | exact HB.out | apply below_alloc | apply pw_below_drewN | apply below_drew1 | refine below_set ?_ GE23001.out) | exact HB.out))) | (with_reducible refine Kd.C_alloc ?_ _) | (with_reducible refine Kd.C_drewN ?_ _) | (with_reducible refine Kd.C_drew ?_))); (case side2 => exact HC0_6.out); rintro e w' ⟨rfl, ⟨nd, rfl⟩⟩; refine ⟨_, rfl, ?_⟩))
                                go_ret
                                exact ⟨by first | rfl | (simp [errW_none, errW_some] <;> rfl) | (simp [*, errW_none, errW_some] <;> rfl), by repeat (first | (with_reducible first | exact HB.out | apply below_alloc | apply pw_below_drewN | apply below_drew1 | refine below_set ?_ GE23001.out) | exact HB.out)⟩
                              · replace c41 := Bool.eq_false_iff.mpr c41
                                subst c41
                                have H1 : (some false) = some r := by rw [if_neg (show ¬ (false = true) by decide)] at H; exact H
                                clear H
                                have H := H1
                                clear H1
                                obtain rfl := Option.some.inj H
                                have hcz46_0 : wc.cell? ⟨gb23001, 0, none⟩ = some (.int .i64 a0_0) := (blk_cell BK23001.out 0).trans rfl
                                have hcz46_1 : wc.cell? ⟨gb23001, 1, none⟩ = some (.string a0_1) := (blk_cell BK23001.out 1).trans rfl
                                have hcz46_2 : wc.cell? ⟨gb23001, 2, none⟩ = some (.string a0_2) := (blk_cell BK23001.out 2).trans rfl
                                have hcz46_3 : wc.cell? ⟨gb23001, 3, none⟩ = some (.int .i64 a0_3) := (blk_cell BK23001.out 3).trans rfl
                                have hcz46_4 : wc.cell? ⟨gb23001, 4, none⟩ = some (.string a0_4) := (blk_cell BK23001.out 4).trans rfl
                                have hcz46_5 : wc.cell? ⟨gb23001, 5, none⟩ = some (.slice A0_5 l0_5.length c0_5) := (blk_cell BK23001.out 5).trans rfl
                                have hcz46_6 : wc.cell? ⟨gb23001, 6, none⟩ = some (.slice A0_6 l0_6.length c0_6) := (blk_cell BK23001.out 6).trans rfl
                                have hcz46_7 : wc.cell? ⟨gb23001, 7, none⟩ = some (.int .i64 a0_7) := (blk_cell BK23001.out 7).trans rfl
                                have hfz46_0 := blk_frozen BK23001.out 0
                                have hfz46_1 := blk_frozen BK23001.out 1
                                have hfz46_2 := blk_frozen BK23001.out 2
                                have hfz46_3 := blk_frozen BK23001.out 3
                                have hfz46_4 := blk_frozen BK23001.out 4
                                have hfz46_5 := blk_frozen BK23001.out 5
                                have hfz46_6 := blk_frozen BK23001.out 6
                                have hfz46_7 := blk_frozen BK23001.out 7
                                go_wp2_with (first | (go_at_call 94; (with_reducible refine (impl_isZeroRegex.calls a0_3 a0_4 _ _ l0_5 true _ ?side1 ?side2 A37.out).mono ?_); (case side1 => repeat (first | exact (Kd.C_below HR0_5.out HB.out) | (with_reducible refine Kd.C_alloc ?_ _) | (with_reducible refine Kd.C_drewN ?_ _) | (with_reducible refine Kd.C_drew ?_))); (case side2 => exact HC0_5.out); rintro e w47 ⟨rfl, hb⟩; have n0_ := Aside0.mk (blk_below (g := gb23001) (o := .cells #[.int .i64 a0_0, .string a0_1, .string a0_2, .int .i64 a0_3, .string a0_4, .slice A0_5 l0_5.length c0_5, .slice A0_6 l0_6.length c0_6, .int .i64 a0_7] 44 (0, 0)) (by (with_reducible repeat (first | refine blk_drewN ?_ _ | refine blk_drew ?_ | refine blk_alloc ?_ _)); exact BK23001.out) hb); have n1_ := Aside0.mk (below_step (by repeat (first | (with_reducible first | exact HB.out | apply below_alloc | apply pw_below_drewN | apply below_drew1 | refine below_set ?_ GE23001.out) | exact HB.out)) hb); clear BK23001; clear HB; have BK23001 := n0_; have HB := n1_; clear n0_ n1_; (try clear hb); (try clear hb2); (try clear hk); (try clear hi); have hcz48_0 : w47.cell? ⟨gb23001, 0, none⟩ = some (.int .i64 a0_0) := (blk_cell BK23001.out 0).trans rfl; have hcz48_1 : w47.cell? ⟨gb23001, 1, none⟩ = some (.string a0_1) := (blk_cell BK23001.out 1).trans rfl; have hcz48_2 : w47.cell? ⟨gb23001, 2, none⟩ = some (.string a0_2) := (blk_cell BK23001.out 2).trans rfl; have hcz48_3 : w47.cell? ⟨gb23001, 3, none⟩ = some (.int .i64 a0_3) := (blk_cell BK23001.out 3).trans rfl; have hcz48_4 : w47.cell? ⟨gb23001, 4, none⟩ = some (.string a0_4) := (blk_cell BK23001.out 4).trans rfl; have hcz48_5 : w47.cell? ⟨gb23001, 5, none⟩ = some (.slice A0_5 l0_5.length c0_5) := (blk_cell BK23001.out 5).trans rfl; have hcz48_6 : w47.cell? ⟨gb23001, 6, none⟩ = some (.slice A0_6 l0_6.length c0_6) := (blk_cell BK23001.out 6).trans rfl; have hcz48_7 : w47.cell? ⟨gb23001, 7, none⟩ = some (.int .i64 a0_7) := (blk_cell BK23001.out 7).trans rfl; have hfz48_0 := blk_frozen BK23001.out 0; have hfz48_1 := blk_frozen BK23001.out 1; have hfz48_2 := blk_frozen BK23001.out 2; have hfz48_3 := blk_frozen BK23001.out 3; have hfz48_4 := blk_frozen BK23001.out 4; have hfz48_5 := blk_frozen BK23001.out 5; have hfz48_6 := blk_frozen BK23001.out 6; have hfz48_7 := blk_frozen BK23001.out 7) | (go_at_call 96; (with_reducible refine (impl_within.calls a0_7 (-99) 99 false _ A40.out).mono ?_); rintro e w' ⟨rfl, ⟨nd, rfl⟩⟩))
                                go_ret
                                exact ⟨by first | rfl | (simp [errW_none, errW_some] <;> rfl) | (simp [*, errW_none, errW_some] <;> rfl), by repeat (first | (with_reducible first | exact HB.out | apply below_alloc | apply pw_below_drewN | apply below_drew1 | refine below_set ?_ GE23001.out) | exact HB.out)⟩
                            · rw [if_neg c39] at H
                              have c39b0 : ((l0_6.length : Int) == 3) = false := beq_eq_false_iff_ne.mpr c39
                              have c39b1 : ((l0_6.length : Int) != 3) = true := bne_iff_ne.mpr c39
                              obtain rfl := Option.some.inj H
                              have hcz49_0 : wc.cell? ⟨gb23001, 0, none⟩ = some (.int .i64 a0_0) := (blk_cell BK23001.out 0).trans rfl
                              have hcz49_1 : wc.cell? ⟨gb23001, 1, none⟩ = some (.string a0_1) := (blk_cell BK23001.out 1).trans rfl
                              have hcz49_2 : wc.cell? ⟨gb23001, 2, none⟩ = some (.string a0_2) := (blk_cell BK23001.out 2).trans rfl
                              have hcz49_3 : wc.cell? ⟨gb23001, 3, none⟩ = some (.int .i64 a0_3) := (blk_cell BK23001.out 3).trans rfl
                              have hcz49_4 : wc.cell? ⟨gb23001, 4, none⟩ = some (.string a0_4) := (blk_cell BK23001.out 4).trans rfl
                              have hcz49_5 : wc.cell? ⟨gb23001, 5, none⟩ = some (.slice A0_5 l0_5.length c0_5) := (blk_cell BK23001.out 5).trans rfl
                              have hcz49_6 : wc.cell? ⟨gb23001, 6, none⟩ = some (.slice A0_6 l0_6.length c0_6) := (blk_cell BK23001.out 6).trans rfl
                              have hcz49_7 : wc.cell? ⟨gb23001, 7, none⟩ = some (.int .i64 a0_7) := (blk_cell BK23001.out 7).trans rfl
                              have hfz49_0 := blk_frozen BK23001.out 0
                              have hfz49_1 := blk_frozen BK23001.out 1
                              have hfz49_2 := blk_frozen BK23001.out 2
                              have hfz49_3 := blk_frozen BK23001.out 3
                              have hfz49_4 := blk_frozen BK23001.out 4
                              have hfz49_5 := blk_frozen BK23001.out 5
                              have hfz49_6 := blk_frozen BK23001.out 6
                              have hfz49_7 := blk_frozen BK23001.out 7
                              go_wp2_with (first | (go_at_call 94; (with_reducible refine (impl_isZeroRegex.calls a0_3 a0_4 _ _ l0_5 true _ ?side1 ?side2 A37.out).mono ?_); (case side1 => repeat (first | exact (Kd.C_below HR0_5.out HB.out) | (with_reducible refine Kd.C_alloc ?_ _) | (with_reducible refine Kd.C_drewN ?_ _) | (with_reducible refine Kd.C_drew ?_))); (case side2 => exact HC0_5.out); rintro e w50 ⟨rfl, hb⟩; have n0_ := Aside0.mk (blk_below (g := gb23001) (o := .cells #[.int .i64 a0_0, .string a0_1, .string a0_2, .int .i64 a0_3, .string a0_4, .slice A0_5 l0_5.length c0_5, .slice A0_6 l0_6.length c0_6, .int .i64 a0_7] 44 (0, 0)) (by (with_reducible repeat (first | refine blk_drewN ?_ _ | refine blk_drew ?_ | refine blk_alloc ?_ _)); exact BK23001.out) hb); have n1_ := Aside0.mk (below_step (by repeat (first | (with_reducible first | exact HB.out | apply below_alloc | apply pw_below_drewN | apply below_drew1 | refine below_set ?_ GE23001.out) | exact HB.out)) hb); clear BK23001; clear HB; have BK23001 := n0_; have HB := n1_; clear n0_ n1_; (try clear hb); (try clear hb2); (try clear hk); (try clear hi); have hcz51_0 : w50.cell? ⟨gb23001, 0, none⟩ = some (.int .i64 a0_0) := (blk_cell BK23001.out 0).trans rfl; have hcz51_1 : w50.cell? ⟨gb23001, 1, none⟩ = some (.string a0_1) := (blk_cell BK23001.out 1).trans rfl; have hcz51_2 : w50.cell? ⟨gb23001, 2, none⟩ = some (.string a0_2) := (blk_cell BK23001.out 2).trans rfl; have hcz51_3 : w50.cell? ⟨gb23001, 3, none⟩ = some (.int .i64 a0_3) := (blk_cell BK23001.out 3).trans rfl; have hcz51_4 : w50.cell? ⟨gb23001, 4, none⟩ = some (.string a0_4) := (blk_cell BK23001.out 4).trans rfl; have hcz51_5 : w50.cell? ⟨gb23001, 5, none⟩ = some (.slice A0_5 l0_5.length c0_5) := (blk_cell BK23001.out 5).trans rfl; have hcz51_6 : w50.cell? ⟨gb23001, 6, none⟩ = some (.slice A0_6 l0_6.length c0_6) := (blk_cell BK23001.out 6).trans rfl; have hcz51_7 : w50.cell? ⟨gb23001, 7, none⟩ = some (.int .i64 a0_7) := (blk_cell BK23001.out 7).trans rfl; have hfz51_0 := blk_frozen BK23001.out 0; have hfz51_1 := blk_frozen BK23001.out 1; have hfz51_2 := blk_frozen BK23001.out 2; have hfz51_3 := blk_frozen BK23001.out 3; have hfz51_4 := blk_frozen BK23001.out 4; have hfz51_5 := blk_frozen BK23001.out 5; have hfz51_6 := blk_frozen BK23001.out 6; have hfz51_7 := blk_frozen BK23001.out 7))
                              go_ret
                              exact ⟨by first | rfl | (simp [errW_none, errW_some] <;> rfl) | (simp [*, errW_none, errW_some] <;> rfl), by repeat (first | (with_reducible first | exact HB.out | apply below_alloc | apply pw_below_drewN | apply below_drew1 | refine below_set ?_ GE23001.out) | exact HB.out)⟩
                          · replace c38 := Bool.eq_false_iff.mpr c38
                            subst c38
                            have H1 : (some false) = some r := by rw [if_neg (show ¬ (false = true) by decide)] at H; exact H
                            clear H
                            have H := H1
                            clear H1
                            obtain rfl := Option.some.inj H
                            have hcz52_0 : wc.cell? ⟨gb23001, 0, none⟩ = some (.int .i64 a0_0) := (blk_cell BK23001.out 0).trans rfl
                            have hcz52_1 : wc.cell? ⟨gb23001, 1, none⟩ = some (.string a0_1) := (blk_cell BK23001.out 1).trans rfl
                            have hcz52_2 : wc.cell? ⟨gb23001, 2, none⟩ = some (.string a0_2) := (blk_cell BK23001.out 2).trans rfl
                            have hcz52_3 : wc.cell? ⟨gb23001, 3, none⟩ = some (.int .i64 a0_3) := (blk_cell BK23001.out 3).trans rfl
                            have hcz52_4 : wc.cell? ⟨gb23001, 4, none⟩ = some (.string a0_4) := (blk_cell BK23001.out 4).trans rfl
                            have hcz52_5 : wc.cell? ⟨gb23001, 5, none⟩ = some (.slice A0_5 l0_5.length c0_5) := (blk_cell BK23001.out 5).trans rfl
                            have hcz52_6 : wc.cell? ⟨gb23001, 6, none⟩ = some (.slice A0_6 l0_6.length c0_6) := (blk_cell BK23001.out 6).trans rfl
                            have hcz52_7 : wc.cell? ⟨gb23001, 7, none⟩ = some (.int .i64 a0_7) := (blk_cell BK23001.out 7).trans rfl
                            have hfz52_0 := blk_frozen BK23001.out 0
                            have hfz52_1 := blk_frozen BK23001.out 1
                            have hfz52_2 := blk_frozen BK23001.out 2
                            have hfz52_3 := blk_frozen BK23001.out 3
                            have hfz52_4 := blk_frozen BK23001.out 4
                            have hfz52_5 := blk_frozen BK23001.out 5
                            have hfz52_6 := blk_frozen BK23001.out 6
                            have hfz52_7 := blk_frozen BK23001.out 7
                            go_wp2_with (first | (go_at_call 94; (with_reducible refine (impl_isZeroRegex.calls a0_3 a0_4 _ _ l0_5 false _ ?side1 ?side2 A37.out).mono ?_); (case side1 => repeat (first | exact (Kd.C_below HR0_5.out HB.out) | (with_reducible refine Kd.C_alloc ?_ _) | (with_reducible refine Kd.C_drewN ?_ _) | (with_reducible refine Kd.C_drew ?_))); (case side2 => exact HC0_5.out); rintro e w53 ⟨rfl, hb⟩; have n0_ := Aside0.mk (blk_below (g := gb23001) (o := .cells #[.int .i64 a0_0, .string a0_1, .string a0_2, .int .i64 a0_3, .string a0_4, .slice A0_5 l0_5.length c0_5, .slice A0_6 l0_6.length c0_6, .int .i64 a0_7] 44 (0, 0)) (by (with_reducible repeat (first | refine blk_drewN ?_ _ | refine blk_drew ?_ | refine blk_alloc ?_ _)); exact BK23001.out) hb); have n1_ := Aside0.mk (below_step (by repeat (first | (with_reducible first | exact HB.out | apply below_alloc | apply pw_below_drewN | apply below_drew1 | refine below_set ?_ GE23001.out) | exact HB.out)) hb); clear BK23001; clear HB; have BK23001 := n0_; have HB := n1_; clear n0_ n1_; (try clear hb); (try clear hb2); (try clear hk); (try clear hi)))
                            go_ret
                            exact ⟨by first | rfl | (simp [errW_none, errW_some] <;> rfl) | (simp [*, errW_none, errW_some] <;> rfl), by repeat (first | (with_reducible first | exact HB.out | apply below_alloc | apply pw_below_drewN | apply below_drew1 | refine below_set ?_ GE23001.out) | exact HB.out)⟩
                        · rw [if_neg c36] at H
                          have c36b0 : (a0_2.toList == ([] : List UInt8)) = false := beq_eq_false_iff_ne.mpr c36
                          have c36b1 : (a0_2.toList != ([] : List UInt8)) = true := bne_iff_ne.mpr c36
                          obtain rfl := Option.some.inj H
                          have hcz54_0 : wc.cell? ⟨gb23001, 0, none⟩ = some (.int .i64 a0_0) := (blk_cell BK23001.out 0).trans rfl
                          have hcz54_1 : wc.cell? ⟨gb23001, 1, none⟩ = some (.string a0_1) := (blk_cell BK23001.out 1).trans rfl
                          have hcz54_2 : wc.cell? ⟨gb23001, 2, none⟩ = some (.string a0_2) := (blk_cell BK23001.out 2).trans rfl
                          have hcz54_3 : wc.cell? ⟨gb23001, 3, none⟩ = some (.int .i64 a0_3) := (blk_cell BK23001.out 3).trans rfl
                          have hcz54_4 : wc.cell? ⟨gb23001, 4, none⟩ = some (.string a0_4) := (blk_cell BK23001.out 4).trans rfl
                          have hcz54_5 : wc.cell? ⟨gb23001, 5, none⟩ = some (.slice A0_5 l0_5.length c0_5) := (blk_cell BK23001.out 5).trans rfl
                          have hcz54_6 : wc.cell? ⟨gb23001, 6, none⟩ = some (.slice A0_6 l0_6.length c0_6) := (blk_cell BK23001.out 6).trans rfl
                          have hcz54_7 : wc.cell? ⟨gb23001, 7, none⟩ = some (.int .i64 a0_7) := (blk_cell BK23001.out 7).trans rfl
                          have hfz54_0 := blk_frozen BK23001.out 0
                          have hfz54_1 := blk_frozen BK23001.out 1
                          have hfz54_2 := blk_frozen BK23001.out 2
                          have hfz54_3 := blk_frozen BK23001.out 3
                          have hfz54_4 := blk_frozen BK23001.out 4
                          have hfz54_5 := blk_frozen BK23001.out 5
                          have hfz54_6 := blk_frozen BK23001.out 6
                          have hfz54_7 := blk_frozen BK23001.out 7
                          go_wp2
                          go_ret
                          exact ⟨by first | rfl | (simp [errW_none, errW_some] <;> rfl) | (simp [*, errW_none, errW_some] <;> rfl), by repeat (first | (with_reducible first | exact HB.out | apply below_alloc | apply pw_below_drewN | apply below_drew1 | refine below_set ?_ GE23001.out) | exact HB.out)⟩
                      · rw [if_neg c35] at H
                        have c35b0 : (a0_1.toList == ([] : List UInt8)) = false := beq_eq_false_iff_ne.mpr c35
                        have c35b1 : (a0_1.toList != ([] : List UInt8)) = true := bne_iff_ne.mpr c35
                        obtain rfl := Option.some.inj H
                        have hcz55_0 : wc.cell? ⟨gb23001, 0, none⟩ = some (.int .i64 a0_0) := (blk_cell BK23001.out 0).trans rfl
                        have hcz55_1 : wc.cell? ⟨gb23001, 1, none⟩ = some (.string a0_1) := (blk_cell BK23001.out 1).trans rfl
                        have hcz55_2 : wc.cell? ⟨gb23001, 2, none⟩ = some (.string a0_2) := (blk_cell BK23001.out 2).trans rfl
                        have hcz55_3 : wc.cell? ⟨gb23001, 3, none⟩ = some (.int .i64 a0_3) := (blk_cell BK23001.out 3).trans rfl
                        have hcz55_4 : wc.cell? ⟨gb23001, 4, none⟩ = some (.string a0_4) := (blk_cell BK23001.out 4).trans rfl
                        have hcz55_5 : wc.cell? ⟨gb23001, 5, none⟩ = some (.slice A0_5 l0_5.length c0_5) := (blk_cell BK23001.out 5).trans rfl
                        have hcz55_6 : wc.cell? ⟨gb23001, 6, none⟩ = some (.slice A0_6 l0_6.length c0_6) := (blk_cell BK23001.out 6).trans rfl
                        have hcz55_7 : wc.cell? ⟨gb23001, 7, none⟩ = some (.int .i64 a0_7) := (blk_cell BK23001.out 7).trans rfl
                        have hfz55_0 := blk_frozen BK23001.out 0
                        have hfz55_1 := blk_frozen BK23001.out 1
                        have hfz55_2 := blk_frozen BK23001.out 2
                        have hfz55_3 := blk_frozen BK23001.out 3
                        have hfz55_4 := blk_frozen BK23001.out 4
                        have hfz55_5 := blk_frozen BK23001.out 5
                        have hfz55_6 := blk_frozen BK23001.out 6
                        have hfz55_7 := blk_frozen BK23001.out 7
                        go_wp2
                        go_ret
                        exact ⟨by first | rfl | (simp [errW_none, errW_some] <;> rfl) | (simp [*, errW_none, errW_some] <;> rfl), by repeat (first | (with_reducible first | exact HB.out | apply below_alloc | apply pw_below_drewN | apply below_drew1 | refine below_set ?_ GE23001.out) | exact HB.out)⟩
                    · rw [if_neg c34] at H
                      have c34b0 : (a0_0 == 5) = false := beq_eq_false_iff_ne.mpr c34
                      have c34b1 : (a0_0 != 5) = true := bne_iff_ne.mpr c34
                      obtain rfl := Option.some.inj H
                      go_wp2
                      go_ret
                      exact ⟨by first | rfl | (simp [errW_none, errW_some] <;> rfl) | (simp [*, errW_none, errW_some] <;> rfl), by repeat (first | (with_reducible first | exact HB.out | apply below_alloc | apply pw_below_drewN | apply below_drew1 | refine below_set ?_ GE23001.out) | exact HB.out)⟩


end Go.Proofs.Ytpppopdmnejcfaa.A


namespace Go.Proofs.Ytpppopdmnejcfaa.A
open Go.RowKit Go.Proofs.Ytpppopdmnejcfaa.Ext Go.Proofs.YtpppopdmnejcfaaW.PrintWords Go.Proofs.YtpppopdmnejcfaaW.PrintLast Go.Proofs.YtpppopdmnejcfaaW.PrintMore
attribute [local go_sem] max2_int min2_int max_two min_two max_three min_three max_four min_four   -- for this text's walks alone
set_option linter.unusedVariables false
set_option linter.unusedSimpArgs false

/-! ### impl_VarsOfConstraint: function 62 -/
def impl_VarsOfConstraint.l0 : Nat → ByteArray → List Int → Int → Int → Option (ByteArray)
  | 0, _, _, _, _ => none
  | k + 1, x3, x15, x16, x17 => if x17 < x16 then (if 0 ≤ x17 then (if x17 < (x15.length : Int) then (if (rd x15 x17) = 0 then (impl_VarsOfConstraint.l0 k x3 x15 x16 (wrap64 (x17 + 1))) else (if x17 ≤ (wrap64 (x17 + 1)) then (if (wrap64 (x17 + 1)) ≤ 3 then (if x3.size + ((⟨#[88, 89, 90]⟩ : ByteArray).extract (x17 : Int).toNat ((wrap64 (x17 + 1)) : Int).toNat).size ≤ 9223372036854775807 then (impl_VarsOfConstraint.l0 k (x3 ++ ((⟨#[88, 89, 90]⟩ : ByteArray).extract (x17 : Int).toNat ((wrap64 (x17 + 1)) : Int).toNat)) x15 x16 (wrap64 (x17 + 1))) else (none)) else (none)) else (none))) else (none)) else (none)) else ((impl_VarsOf.f k x3).bind fun t62004 => (some t62004))
def impl_VarsOfConstraint.f (k : Nat) (a0_0 : Int) (a0_1 : ByteArray) (a0_2 : ByteArray) (a0_3 : Int) (a0_4 : ByteArray) (l0_5 : List (S42)) (l0_6 : List Int) (a0_7 : Int) : Option (ByteArray) := (impl_IsValidConstraint.f k a0_0 a0_1 a0_2 a0_3 a0_4 l0_5 l0_6 a0_7).bind fun t62002 => (if t62002 = true then (if a0_1.size + a0_2.size ≤ 9223372036854775807 then (impl_VarsOfConstraint.l0 k (a0_1 ++ a0_2) l0_6 (l0_6.length : Int) 0) else (none)) else (some (⟨#[]⟩ : ByteArray)))
theorem impl_VarsOfConstraint.mono_l : ∀ k, (∀ y0 y1 y2 y3, LeO (impl_VarsOfConstraint.l0 k y0 y1 y2 y3) (impl_VarsOfConstraint.l0 (k + 1) y0 y1 y2 y3))
  | 0 => fun _ _ _ _ r h => by simp [impl_VarsOfConstraint.l0] at h
  | k + 1 => by
    have ih0 := impl_VarsOfConstraint.mono_l k
    · intro y0 y1 y2 y3
      unfold impl_VarsOfConstraint.l0
      repeat' first
      | (with_reducible exact ih0 _ _ _ _)
      | (with_reducible exact impl_IsValidConstraint.mono _ _ _ _ _ _ _ _ _)
      | (with_reducible exact impl_VarsOf.mono _ _)
      | (with_reducible exact LeO.refl _)
      | (with_reducible exact LeO.none _)
      | (with_reducible refine LeO.ite ?_ ?_)
      | (with_reducible refine LeO.bind ?_ (fun _ => ?_))
      | exact ih0 _ _ _ _
      | exact impl_IsValidConstraint.mono _ _ _ _ _ _ _ _ _
      | exact impl_VarsOf.mono _ _
      | exact LeO.none _
      | refine LeO.ite ?_ ?_
      | refine LeO.bind ?_ (fun _ => ?_)
theorem impl_VarsOfConstraint.mono : ∀ a0 a1 a2 a3 a4 a5 a6 a7 k, LeO (impl_VarsOfConstraint.f k a0 a1 a2 a3 a4 a5 a6 a7) (impl_VarsOfConstraint.f (k + 1) a0 a1 a2 a3 a4 a5 a6 a7) := by
  intro a0 a1 a2 a3 a4 a5 a6 a7 k
  have ih0 := impl_VarsOfConstraint.mono_l k
  unfold impl_VarsOfConstraint.f
  repeat' first
      | (with_reducible exact ih0 _ _ _ _)
      | (with_reducible exact impl_IsValidConstraint.mono _ _ _ _ _ _ _ _ _)
      | (with_reducible exact impl_VarsOf.mono _ _)
      | (with_reducible exact LeO.refl _)
      | (with_reducible exact LeO.none _)
      | (with_reducible refine LeO.ite ?_ ?_)
      | (with_reducible refine LeO.bind ?_ (fun _ => ?_))
      | exact ih0 _ _ _ _
      | exact impl_IsValidConstraint.mono _ _ _ _ _ _ _ _ _
      | exact impl_VarsOf.mono _ _
      | exact LeO.none _
      | refine LeO.ite ?_ ?_
      | refine LeO.bind ?_ (fun _ => ?_)
set_option maxHeartbeats 8000000 in
set_option maxRecDepth 100000 in
theorem impl_VarsOfConstraint.calls (k : Nat) (a0_0 : Int) (a0_1 : ByteArray) (a0_2 : ByteArray) (a0_3 : Int) (a0_4 : ByteArray) (A0_5 : Option Addr) (c0_5 : Nat) (l0_5 : List (S42)) (A0_6 : Option Addr) (c0_6 : Nat) (l0_6 : List Int) (a0_7 : Int) (r : ByteArray) (w : World) (hr0_5 : Kd.C k42 w A0_5 l0_5.length l0_5) (hc0_5 : l0_5.length ≤ c0_5) (hr0_6 : Kd.C (Kd.int .i64) w A0_6 l0_6.length l0_6) (hc0_6 : l0_6.length ≤ c0_6) (h : impl_VarsOfConstraint.f k a0_0 a0_1 a0_2 a0_3 a0_4 l0_5 l0_6 a0_7 = some r) :
    Calls Try.prog 62 #[.agg #[.int .i64 a0_0, .string a0_1, .string a0_2, .int .i64 a0_3, .string a0_4, .slice A0_5 l0_5.length c0_5, .slice A0_6 l0_6.length c0_6, .int .i64 a0_7]] w fun e w' => e = .returned (.string r) ∧ Below w.heap.size w w' := by
  have hu44 := Try.underlying44
  have HR0_5 := Aside0.mk hr0_5
  have HC0_5 := Aside0.mk hc0_5
  clear hr0_5 hc0_5
  have HR0_6 := Aside0.mk hr0_6
  have HC0_6 := Aside0.mk hc0_6
  clear hr0_6 hc0_6
  have HB := Aside0.mk (Below.refl w.heap.size w)
  have H : ((impl_IsValidConstraint.f k a0_0 a0_1 a0_2 a0_3 a0_4 l0_5 l0_6 a0_7).bind fun t62002 => (if t62002 = true then (if a0_1.size + a0_2.size ≤ 9223372036854775807 then (impl_VarsOfConstraint.l0 k (a0_1 ++ a0_2) l0_6 (l0_6.length : Int) 0) else (none)) else (some (⟨#[]⟩ : ByteArray)))) = some r := h
  clear h
  replace H := Option.bind_eq_some_iff.mp H
  obtain ⟨t62002, A20, H⟩ := H
  replace H : (if t62002 = true then (if a0_1.size + a0_2.size ≤ 9223372036854775807 then (impl_VarsOfConstraint.l0 k (a0_1 ++ a0_2) l0_6 (l0_6.length : Int) 0) else (none)) else (some (⟨#[]⟩ : ByteArray))) = some r := H
  have A2 := Aside0.mk A20
  clear A20
  by_cases c3 : t62002 = true
  · subst c3
    have H1 : (if a0_1.size + a0_2.size ≤ 9223372036854775807 then (impl_VarsOfConstraint.l0 k (a0_1 ++ a0_2) l0_6 (l0_6.length : Int) 0) else (none)) = some r := by rw [if_pos rfl] at H; exact H
    clear H
    have H := H1
    clear H1
    by_cases c4 : a0_1.size + a0_2.size ≤ 9223372036854775807
    · rw [if_pos c4] at H
      have c4z := c4
      try simp at c4z
      try replace c4z := eq_false (Nat.not_lt.2 c4z)
      have c4b0 := eq_true c4
      have c4b1 : decide (a0_1.size + a0_2.size ≤ 9223372036854775807) = true := decide_eq_true c4
      try have c4b2 : (9223372036854775807 < a0_1.size + a0_2.size) = False := eq_false (Nat.not_lt.2 c4)
      have H' := Aside0.mk H
      clear H
      go_enter Try.func62, Try.ntmps62
      go_wp2_with (first | ((with_reducible refine gate_dst (N := 1) rfl ?_); refine box_event ?hg (N := 1) ?hd (cs := #[.int .i64 a0_0, .string a0_1, .string a0_2, .int .i64 a0_3, .string a0_4, .slice A0_5 l0_5.length c0_5, .slice A0_6 l0_6.length c0_6, .int .i64 a0_7]) (t := 44) ?hr ?_; (case hd => rfl); (case hg => rfl); (case hr => first | (go_simp; done) | (go_simp; rfl)); intro gb62001 hg w5 hbox hb; have n0_ := Aside0.mk (below_step (by repeat (first | (with_reducible first | exact HB.out | apply below_alloc | apply pw_below_drewN | apply below_drew1) | exact HB.out)) hb); have n1_ := Aside0.mk (hbox); have n2_ := Aside0.mk ((by rw [hg]; exact (below_size (by repeat (first | (with_reducible first | exact HB.out | apply below_alloc | apply pw_below_drewN | apply below_drew1) | exact HB.out))) : w.heap.size ≤ gb62001)); have n3_ := Aside0.mk ((by rw [hg]; exact (below_size (by repeat (first | (with_reducible first | exact HB.out | apply below_alloc | apply pw_below_drewN | apply below_drew1) | exact HB.out))) : w.heap.size ≤ gb62001)); clear HB; have HB := n0_; have BK62001 := n1_; have GW62001 := n2_; have GE62001 := n3_; clear n0_ n1_ n2_ n3_; clear hb hbox hg; have hcz6_0 : w5.cell? ⟨gb62001, 0, none⟩ = some (.int .i64 a0_0) := (blk_cell BK62001.out 0).trans rfl; have hcz6_1 : w5.cell? ⟨gb62001, 1, none⟩ = some (.string a0_1) := (blk_cell BK62001.out 1).trans rfl; have hcz6_2 : w5.cell? ⟨gb62001, 2, none⟩ = some (.string a0_2) := (blk_cell BK62001.out 2).trans rfl; have hcz6_3 : w5.cell? ⟨gb62001, 3, none⟩ = some (.int .i64 a0_3) := (blk_cell BK62001.out 3).trans rfl; have hcz6_4 : w5.cell? ⟨gb62001, 4, none⟩ = some (.string a0_4) := (blk_cell BK62001.out 4).trans rfl; have hcz6_5 : w5.cell? ⟨gb62001, 5, none⟩ = some (.slice A0_5 l0_5.length c0_5) := (blk_cell BK62001.out 5).trans rfl; have hcz6_6 : w5.cell? ⟨gb62001, 6, none⟩ = some (.slice A0_6 l0_6.length c0_6) := (blk_cell BK62001.out 6).trans rfl; have hcz6_7 : w5.cell? ⟨gb62001, 7, none⟩ = some (.int .i64 a0_7) := (blk_cell BK62001.out 7).trans rfl; have hfz6_0 := blk_frozen BK62001.out 0; have hfz6_1 := blk_frozen BK62001.out 1; have hfz6_2 := blk_frozen BK62001.out 2; have hfz6_3 := blk_frozen BK62001.out 3; have hfz6_4 := blk_frozen BK62001.out 4; have hfz6_5 := blk_frozen BK62001.out 5; have hfz6_6 := blk_frozen BK62001.out 6; have hfz6_7 := blk_frozen BK62001.out 7) | ((with_reducible refine gate_callee (f := 23) rfl ?_); refine goesL_ (some 7) rfl rfl Try.func23 (by kernel_rfl) rfl #[.agg #[.int .i64 a0_0, .string a0_1, .string a0_2, .int .i64 a0_3, .string a0_4, .slice A0_5 l0_5.length c0_5, .slice A0_6 l0_6.length c0_6, .int .i64 a0_7]] rfl (by (try simp only [List.map_toArray, List.map_cons, List.map_nil]); first | done | rfl | (simp only [List.length_drop, List.length_take]; rfl)) ?_; (with_reducible refine (impl_IsValidConstraint.calls k a0_0 a0_1 a0_2 a0_3 a0_4 _ _ l0_5 _ _ l0_6 a0_7 true _ ?side1 ?side2 ?side3 ?side4 A2.out).mono ?_); (case side1 => repeat (first | exact (Kd.C_below HR0_5.out HB.out) | (with_reducible refine Kd.C_alloc ?_ _) | (with_reducible refine Kd.C_drewN ?_ _) | (with_reducible refine Kd.C_drew ?_))); (case side2 => exact HC0_5.out); (case side3 => repeat (first | exact (Kd.C_below HR0_6.out HB.out) | (with_reducible refine Kd.C_alloc ?_ _) | (with_reducible refine Kd.C_drewN ?_ _) | (with_reducible refine Kd.C_drew ?_))); (case side4 => exact HC0_6.out); rintro e w7 ⟨rfl, hb⟩; refine ⟨_, rfl, ?_⟩; have n0_ := Aside0.mk (blk_below (g := gb62001) (o := .cells #[.int .i64 a0_0, .string a0_1, .string a0_2, .int .i64 a0_3, .string a0_4, .slice A0_5 l0_5.length c0_5, .slice A0_6 l0_6.length c0_6, .int .i64 a0_7] 44 (0, 0)) (by (with_reducible repeat (first | refine blk_drewN ?_ _ | refine blk_drew ?_ | refine blk_alloc ?_ _)); exact BK62001.out) hb); have n1_ := Aside0.mk (below_step (by repeat (first | (with_reducible first | exact HB.out | apply below_alloc | apply pw_below_drewN | apply below_drew1 | refine below_set ?_ GE62001.out) | exact HB.out)) hb); clear BK62001; clear HB; have BK62001 := n0_; have HB := n1_; clear n0_ n1_; (try clear hb); (try clear hb2); (try clear hk); (try clear hi); have hcz8_0 : w7.cell? ⟨gb62001, 0, none⟩ = some (.int .i64 a0_0) := (blk_cell BK62001.out 0).trans rfl; have hcz8_1 : w7.cell? ⟨gb62001, 1, none⟩ = some (.string a0_1) := (blk_cell BK62001.out 1).trans rfl; have hcz8_2 : w7.cell? ⟨gb62001, 2, none⟩ = some (.string a0_2) := (blk_cell BK62001.out 2).trans rfl; have hcz8_3 : w7.cell? ⟨gb62001, 3, none⟩ = some (.int .i64 a0_3) := (blk_cell BK62001.out 3).trans rfl; have hcz8_4 : w7.cell? ⟨gb62001, 4, none⟩ = some (.string a0_4) := (blk_cell BK62001.out 4).trans rfl; have hcz8_5 : w7.cell? ⟨gb62001, 5, none⟩ = some (.slice A0_5 l0_5.length c0_5) := (blk_cell BK62001.out 5).trans rfl; have hcz8_6 : w7.cell? ⟨gb62001, 6, none⟩ = some (.slice A0_6 l0_6.length c0_6) := (blk_cell BK62001.out 6).trans rfl; have hcz8_7 : w7.cell? ⟨gb62001, 7, none⟩ = some (.int .i64 a0_7) := (blk_cell BK62001.out 7).trans rfl; have hfz8_0 := blk_frozen BK62001.out 0; have hfz8_1 := blk_frozen BK62001.out 1; have hfz8_2 := blk_frozen BK62001.out 2; have hfz8_3 := blk_frozen BK62001.out 3; have hfz8_4 := blk_frozen BK62001.out 4; have hfz8_5 := blk_frozen BK62001.out 5; have hfz8_6 := blk_frozen BK62001.out 6; have hfz8_7 := blk_frozen BK62001.out 7))
      first | go_loopg [3, 17] k (fun kq v3 v17 w' => ∃ (x3_1 : ByteArray) (x17_1 : Int), v3 = .string x3_1 ∧ v17 = .int .i64 x17_1 ∧ Aside0 (impl_VarsOfConstraint.l0 kq x3_1 l0_6 (l0_6.length : Int) x17_1 = some r) ∧ Aside0 (kq ≤ k) ∧ Aside0 (w'.heap[gb62001]? = some (.cells #[.int .i64 a0_0, .string a0_1, .string a0_2, .int .i64 a0_3, .string a0_4, (.slice A0_5 l0_5.length c0_5), (.slice A0_6 l0_6.length c0_6), .int .i64 a0_7] 44 (0, 0))) ∧ Aside0 (Below w.heap.size w w')) | (simp only [Act.put, List.setIfInBounds_toArray, List.set_cons_succ, List.set_cons_zero]; go_loopg [3, 17] k (fun kq v3 v17 w' => ∃ (x3_1 : ByteArray) (x17_1 : Int), v3 = .string x3_1 ∧ v17 = .int .i64 x17_1 ∧ Aside0 (impl_VarsOfConstraint.l0 kq x3_1 l0_6 (l0_6.length : Int) x17_1 = some r) ∧ Aside0 (kq ≤ k) ∧ Aside0 (w'.heap[gb62001]? = some (.cells #[.int .i64 a0_0, .string a0_1, .string a0_2, .int .i64 a0_3, .string a0_4, (.slice A0_5 l0_5.length c0_5), (.slice A0_6 l0_6.length c0_6), .int .i64 a0_7] 44 (0, 0))) ∧ Aside0 (Below w.heap.size w w')))
      case atStart => exact ⟨(a0_1 ++ a0_2), (0), (by first | rfl | (simp; done) | (simp [*]; done)), (by first | rfl | (simp; done) | (simp [*]; done)), H', ⟨Nat.le_refl _⟩, ⟨by (with_reducible repeat (first | refine blk_drewN ?_ _ | refine blk_drew ?_ | refine blk_alloc ?_ _)); exact BK62001.out⟩, ⟨by repeat (first | (with_reducible first | exact HB.out | apply below_alloc | apply pw_below_drewN | apply below_drew1 | refine below_set ?_ GE62001.out) | exact HB.out)⟩⟩
      case round =>
        clear H'
        try clear c2
        try clear p2
        try clear c3
        try clear c4
        try clear c4b0
        try clear c4b1
        try clear c4b2
        try clear c6
        try clear hcz6_0
        try clear hcz6_1
        try clear hcz6_2
        try clear hcz6_3
        try clear hcz6_4
        try clear hcz6_5
        try clear hcz6_6
        try clear hcz6_7
        try clear hcz8_0
        try clear hcz8_1
        try clear hcz8_2
        try clear hcz8_3
        try clear hcz8_4
        try clear hcz8_5
        try clear hcz8_6
        try clear hcz8_7
        try clear hfz6_0
        try clear hfz6_1
        try clear hfz6_2
        try clear hfz6_3
        try clear hfz6_4
        try clear hfz6_5
        try clear hfz6_6
        try clear hfz6_7
        try clear hfz8_0
        try clear hfz8_1
        try clear hfz8_2
        try clear hfz8_3
        try clear hfz8_4
        try clear hfz8_5
        try clear hfz8_6
        try clear hfz8_7
        obtain ⟨x3_1, x17_1, rfl, rfl, HA, HK1, BK62001, HB⟩ := hrel
        cases gk with
        | zero => exact absurd HA.out (by simp [impl_VarsOfConstraint.l0])
        | succ k1 =>
          have H := HA.out
          clear HA
          simp only [impl_VarsOfConstraint.l0] at H
          by_cases c9 : x17_1 < (l0_6.length : Int)
          · rw [if_pos c9] at H
            have c9b0 : decide (x17_1 < (l0_6.length : Int)) = true := decide_eq_true c9
            clear c9
            by_cases c10 : 0 ≤ x17_1
            · rw [if_pos c10] at H
              have c10b0 : decide (0 ≤ x17_1) = true := decide_eq_true c10
              clear c10
              by_cases c11 : x17_1 < (l0_6.length : Int)
              · rw [if_pos c11] at H
                have c11b0 : decide (x17_1 < (l0_6.length : Int)) = true := decide_eq_true c11
                clear c11
                by_cases c12 : (rd l0_6 x17_1) = 0
                · rw [if_pos c12] at H
                  have c12b0 : ((rd l0_6 x17_1) == 0) = true := beq_iff_eq.mpr c12
                  have c12b1 : ((rd l0_6 x17_1) != 0) = false := bne_eq_false_iff_eq.mpr c12
                  clear c12
                  have H' := Aside0.mk H
                  clear H
                  have p62003 : 0 ≤ (x17_1 : Int) := of_decide_eq_true (by first | (with_reducible assumption) | assumption)
                  have q62003 : x17_1 < (l0_6.length : Int) := of_decide_eq_true (by first | (with_reducible assumption) | assumption)
                  obtain ⟨ad62003, e62003, hx62003_0⟩ := Kd.at_int HR0_6.out x17_1 p62003 q62003
                  cases e62003
                  replace hx62003_0 := (HB.out.cell (World.block_lt_of_cell? w _ hx62003_0)).trans hx62003_0
                  replace p62003 := eq_true p62003
                  replace q62003 := eq_true q62003
                  go_wp2
                  go_roundg k1
                  case measure => have := HK1.out; omega
                  case rel => exact ⟨(x3_1), (wrap64 (x17_1 + 1)), (by first | rfl | (simp; done) | (simp [*]; done)), (by first | rfl | (simp; done) | (simp [*]; done)), H', ⟨by have := HK1.out; omega⟩, ⟨by (with_reducible repeat (first | refine blk_drewN ?_ _ | refine blk_drew ?_ | refine blk_alloc ?_ _)); exact BK62001.out⟩, ⟨by repeat (first | (with_reducible first | exact HB.out | apply below_alloc | apply pw_below_drewN | apply below_drew1 | refine below_set ?_ GE62001.out) | exact HB.out)⟩⟩
                · rw [if_neg c12] at H
                  have c12b0 : ((rd l0_6 x17_1) == 0) = false := beq_eq_false_iff_ne.mpr c12
                  have c12b1 : ((rd l0_6 x17_1) != 0) = true := bne_iff_ne.mpr c12
                  have c13b0 := eq_true (of_decide_eq_true (by first | (with_reducible assumption) | assumption) : 0 ≤ x17_1)
                  by_cases c14 : x17_1 ≤ (wrap64 (x17_1 + 1))
                  · rw [if_pos c14] at H
                    have c14b0 := eq_true c14
                    have c14b1 : decide (x17_1 ≤ (wrap64 (x17_1 + 1))) = true := decide_eq_true c14
                    by_cases c15 : (wrap64 (x17_1 + 1)) ≤ 3
                    · rw [if_pos c15] at H
                      have c15b0 := eq_true c15
                      have c15b1 : decide ((wrap64 (x17_1 + 1)) ≤ 3) = true := decide_eq_true c15
                      by_cases c16 : x3_1.size + ((⟨#[88, 89, 90]⟩ : ByteArray).extract (x17_1 : Int).toNat ((wrap64 (x17_1 + 1)) : Int).toNat).size ≤ 9223372036854775807
                      · rw [if_pos c16] at H
                        have c16z := c16
                        try simp at c16z
                        try replace c16z := eq_false (Nat.not_lt.2 c16z)
                        have c16b0 := eq_true c16
                        have c16b1 : decide (x3_1.size + ((⟨#[88, 89, 90]⟩ : ByteArray).extract (x17_1 : Int).toNat ((wrap64 (x17_1 + 1)) : Int).toNat).size ≤ 9223372036854775807) = true := decide_eq_true c16
                        try have c16b2 : (9223372036854775807 < x3_1.size + ((⟨#[88, 89, 90]⟩ : ByteArray).extract (x17_1 : Int).toNat ((wrap64 (x17_1 + 1)) : Int).toNat).size) = False := eq_false (Nat.not_lt.2 c16)
                        have H' := Aside0.mk H
                        clear H
                        have p62003 : 0 ≤ (x17_1 : Int) := of_decide_eq_true (by first | (with_reducible assumption) | assumption)
                        have q62003 : x17_1 < (l0_6.length : Int) := of_decide_eq_true (by first | (with_reducible assumption) | assumption)
                        obtain ⟨ad62003, e62003, hx62003_0⟩ := Kd.at_int HR0_6.out x17_1 p62003 q62003
                        cases e62003
                        replace hx62003_0 := (HB.out.cell (World.block_lt_of_cell? w _ hx62003_0)).trans hx62003_0
                        replace p62003 := eq_true p62003
                        replace q62003 := eq_true q62003
                        go_wp2
                        go_roundg k1
                        case measure => have := HK1.out; omega
                        case rel => exact ⟨(x3_1 ++ ((⟨#[88, 89, 90]⟩ : ByteArray).extract (x17_1 : Int).toNat ((wrap64 (x17_1 + 1)) : Int).toNat)), (wrap64 (x17_1 + 1)), (by first | rfl | (simp; done) | (simp [*]; done)), (by first | rfl | (simp; done) | (simp [*]; done)), H', ⟨by have := HK1.out; omega⟩, ⟨by (with_reducible repeat (first | refine blk_drewN ?_ _ | refine blk_drew ?_ | refine blk_alloc ?_ _)); exact BK62001.out⟩, ⟨by repeat (first | (with_reducible first | exact HB.out | apply below_alloc | apply pw_below_drewN | apply below_drew1 | refine below_set ?_ GE62001.out) | exact HB.out)⟩⟩
                      · rw [if_neg c16] at H
                        exact absurd H (by simp)
                    · rw [if_neg c15] at H
                      exact absurd H (by simp)
                  · rw [if_neg c14] at H
                    exact absurd H (by simp)
              · rw [if_neg c11] at H
                exact absurd H (by simp)
            · rw [if_neg c10] at H
              exact absurd H (by simp)
          · rw [if_neg c9] at H
            have c9b0 : decide (x17_1 < (l0_6.length : Int)) = false := decide_eq_false c9
            clear c9
            replace H := Option.bind_eq_some_iff.mp H
            obtain ⟨t62004, A170, H⟩ := H
            replace H : (some t62004) = some r := H
            have A17 := Aside0.mk A170
            clear A170
            obtain rfl := Option.some.inj H
            go_wp2_with (first | ((with_reducible refine gate_callee (f := 47) rfl ?_); refine goesL_ (some 32) rfl rfl Try.func47 (by kernel_rfl) rfl #[.string x3_1] rfl (by (try simp only [List.map_toArray, List.map_cons, List.map_nil]); first | done | rfl | (simp only [List.length_drop, List.length_take]; rfl)) ?_; (with_reducible refine (impl_VarsOf.calls k1 x3_1 t62004 _ A17.out).mono ?_); rintro e w' ⟨rfl, ⟨nd, rfl⟩⟩; refine ⟨_, rfl, ?_⟩))
            go_ret
            exact ⟨by first | rfl | (simp [errW_none, errW_some] <;> rfl) | (simp [*, errW_none, errW_some] <;> rfl), by repeat (first | (with_reducible first | exact HB.out | apply below_alloc | apply pw_below_drewN | apply below_drew1 | refine below_set ?_ GE62001.out) | exact HB.out)⟩
    · rw [if_neg c4] at H
      exact absurd H (by simp)
  · replace c3 := Bool.eq_false_iff.mpr c3
    subst c3
    have H1 : (some (⟨#[]⟩ : ByteArray)) = some r := by rw [if_neg (show ¬ (false = true) by decide)] at H; exact H
    clear H
    have H := H1
    clear H1
    obtain rfl := Option.some.inj H
    go_enter Try.func62, Try.ntmps62
    go_wp2_with (first | ((with_reducible refine gate_dst (N := 1) rfl ?_); refine box_event ?hg (N := 1) ?hd (cs := #[.int .i64 a0_0, .string a0_1, .string a0_2, .int .i64 a0_3, .string a0_4, .slice A0_5 l0_5.length c0_5, .slice A0_6 l0_6.length c0_6, .int .i64 a0_7]) (t := 44) ?hr ?_; (case hd => rfl); (case hg => rfl); (case hr => first | (go_simp; done) | (go_simp; rfl)); intro gb62001 hg w18 hbox hb; have n0_ := Aside0.mk (below_step (by repeat (first | (with_reducible first | exact HB.out | apply below_alloc | apply pw_below_drewN | apply below_drew1) | exact HB.out)) hb); have n1_ := Aside0.mk (hbox); have n2_ := Aside0.mk ((by rw [hg]; exact (below_size (by repeat (first | (with_reducible first | exact HB.out | apply below_alloc | apply pw_below_drewN | apply below_drew1) | exact HB.out))) : w.heap.size ≤ gb62001)); have n3_ := Aside0.mk ((by rw [hg]; exact (below_size (by repeat (first | (with_reducible first | exact HB.out | apply below_alloc | apply pw_below_drewN | apply below_drew1) | exact HB.out))) : w.heap.size ≤ gb62001)); clear HB; have HB := n0_; have BK62001 := n1_; have GW62001 := n2_; have GE62001 := n3_; clear n0_ n1_ n2_ n3_; clear hb hbox hg; have hcz19_0 : w18.cell? ⟨gb62001, 0, none⟩ = some (.int .i64 a0_0) := (blk_cell BK62001.out 0).trans rfl; have hcz19_1 : w18.cell? ⟨gb62001, 1, none⟩ = some (.string a0_1) := (blk_cell BK62001.out 1).trans rfl; have hcz19_2 : w18.cell? ⟨gb62001, 2, none⟩ = some (.string a0_2) := (blk_cell BK62001.out 2).trans rfl; have hcz19_3 : w18.cell? ⟨gb62001, 3, none⟩ = some (.int .i64 a0_3) := (blk_cell BK62001.out 3).trans rfl; have hcz19_4 : w18.cell? ⟨gb62001, 4, none⟩ = some (.string a0_4) := (blk_cell BK62001.out 4).trans rfl; have hcz19_5 : w18.cell? ⟨gb62001, 5, none⟩ = some (.slice A0_5 l0_5.length c0_5) := (blk_cell BK62001.out 5).trans rfl; have hcz19_6 : w18.cell? ⟨gb62001, 6, none⟩ = some (.slice A0_6 l0_6.length c0_6) := (blk_cell BK62001.out 6).trans rfl; have hcz19_7 : w18.cell? ⟨gb62001, 7, none⟩ = some (.int .i64 a0_7) := (blk_cell BK62001.out 7).trans rfl; have hfz19_0 := blk_frozen BK62001.out 0; have hfz19_1 := blk_frozen BK62001.out 1; have hfz19_2 := blk_frozen BK62001.out 2; have hfz19_3 := blk_frozen BK62001.out 3; have hfz19_4 := blk_frozen BK62001.out 4; have hfz19_5 := blk_frozen BK62001.out 5; have hfz19_6 := blk_frozen BK62001.out 6; have hfz19_7 := blk_frozen BK62001.out 7) | ((with_reducible refine gate_callee (f := 23) rfl ?_); refine goesL_ (some 7) rfl rfl Try.func23 (by kernel_rfl) rfl #[.agg #[.int .i64 a0_0, .string a0_1, .string a0_2, .int .i64 a0_3, .string a0_4, .slice A0_5 l0_5.length c0_5, .slice A0_6 l0_6.length c0_6, .int .i64 a0_7]] rfl (by (try simp only [List.map_toArray, List.map_cons, List.map_nil]); first | done | rfl | (simp only [List.length_drop, List.length_take]; rfl)) ?_; (with_reducible refine (impl_IsValidConstraint.calls k a0_0 a0_1 a0_2 a0_3 a0_4 _ _ l0_5 _ _ l0_6 a0_7 false _ ?side1 ?side2 ?side3 ?side4 A2.out).mono ?_); (case side1 => repeat (first | exact (Kd.C_below HR0_5.out HB.out) | (with_reducible refine Kd.C_alloc ?_ _) | (with_reducible refine Kd.C_drewN ?_ _) | (with_reducible refine Kd.C_drew ?_))); (case side2 => exact HC0_5.out); (case side3 => repeat (first | exact (Kd.C_below HR0_6.out HB.out) | (with_reducible refine Kd.C_alloc ?_ _) | (with_reducible refine Kd.C_drewN ?_ _) | (with_reducible refine Kd.C_drew ?_))); (case side4 => exact HC0_6.out); rintro e w20 ⟨rfl, hb⟩; refine ⟨_, rfl, ?_⟩; have n0_ := Aside0.mk (blk_below (g := gb62001) (o := .cells #[.int .i64 a0_0, .string a0_1, .string a0_2, .int .i64 a0_3, .string a0_4, .slice A0_5 l0_5.length c0_5, .slice A0_6 l0_6.length c0_6, .int .i64 a0_7] 44 (0, 0)) (by (with_reducible repeat (first | refine blk_drewN ?_ _ | refine blk_drew ?_ | refine blk_alloc ?_ _)); exact BK62001.out) hb); have n1_ := Aside0.mk (below_step (by repeat (first | (with_reducible first | exact HB.out | apply below_alloc | apply pw_below_drewN | apply below_drew1 | refine below_set ?_ GE62001.out) | exact HB.out)) hb); clear BK62001; clear HB; have BK62001 := n0_; have HB := n1_; clear n0_ n1_; (try clear hb); (try clear hb2); (try clear hk); (try clear hi)))
    go_ret
    exact ⟨by first | rfl | (simp [errW_none, errW_some] <;> rfl) | (simp [*, errW_none, errW_some] <;> rfl), by repeat (first | (with_reducible first | exact HB.out | apply below_alloc | apply pw_below_drewN | apply below_drew1 | refine below_set ?_ GE62001.out) | exact HB.out)⟩


end Go.Proofs.Ytpppopdmnejcfaa.A


namespace Go.Proofs.Ytpppopdmnejcfaa.A
open Go.RowKit Go.Proofs.Ytpppopdmnejcfaa.Ext Go.Proofs.YtpppopdmnejcfaaW.PrintWords Go.Proofs.YtpppopdmnejcfaaW.PrintLast Go.Proofs.YtpppopdmnejcfaaW.PrintMore
attribute [local go_sem] max2_int min2_int max_two min_two max_three min_three max_four min_four   -- for this text's walks alone
set_option linter.unusedVariables false
set_option linter.unusedSimpArgs false

/-! ### impl_IsValidProblem_1: function 149 -/
def impl_IsValidProblem_1.f (k : Nat) (a0_0 : Int) (a0_1 : ByteArray) (a0_2 : ByteArray) (a0_3 : Int) (a0_4 : ByteArray) (l0_5 : List (S42)) (l0_6 : List Int) (a0_7 : Int) : Option (Bool) := (impl_IsValidConstraint.f k a0_0 a0_1 a0_2 a0_3 a0_4 l0_5 l0_6 a0_7).bind fun t149002 => (some (!t149002))
theorem impl_IsValidProblem_1.mono : ∀ a0 a1 a2 a3 a4 a5 a6 a7 k, LeO (impl_IsValidProblem_1.f k a0 a1 a2 a3 a4 a5 a6 a7) (impl_IsValidProblem_1.f (k + 1) a0 a1 a2 a3 a4 a5 a6 a7) := by
  intro a0 a1 a2 a3 a4 a5 a6 a7 k
  unfold impl_IsValidProblem_1.f
  repeat' first
      | (with_reducible exact impl_IsValidConstraint.mono _ _ _ _ _ _ _ _ _)
      | (with_reducible exact LeO.refl _)
      | (with_reducible exact LeO.none _)
      | (with_reducible refine LeO.ite ?_ ?_)
      | (with_reducible refine LeO.bind ?_ (fun _ => ?_))
      | exact impl_IsValidConstraint.mono _ _ _ _ _ _ _ _ _
      | exact LeO.none _
      | refine LeO.ite ?_ ?_
      | refine LeO.bind ?_ (fun _ => ?_)
set_option maxHeartbeats 8000000 in
set_option maxRecDepth 100000 in
theorem impl_IsValidProblem_1.calls (k : Nat) (a0_0 : Int) (a0_1 : ByteArray) (a0_2 : ByteArray) (a0_3 : Int) (a0_4 : ByteArray) (A0_5 : Option Addr) (c0_5 : Nat) (l0_5 : List (S42)) (A0_6 : Option Addr) (c0_6 : Nat) (l0_6 : List Int) (a0_7 : Int) (r : Bool) (w : World) (hr0_5 : Kd.C k42 w A0_5 l0_5.length l0_5) (hc0_5 : l0_5.length ≤ c0_5) (hr0_6 : Kd.C (Kd.int .i64) w A0_6 l0_6.length l0_6) (hc0_6 : l0_6.length ≤ c0_6) (h : impl_IsValidProblem_1.f k a0_0 a0_1 a0_2 a0_3 a0_4 l0_5 l0_6 a0_7 = some r) :
    Calls Try.prog 149 #[.agg #[.int .i64 a0_0, .string a0_1, .string a0_2, .int .i64 a0_3, .string a0_4, .slice A0_5 l0_5.length c0_5, .slice A0_6 l0_6.length c0_6, .int .i64 a0_7]] w fun e w' => e = .returned (.bool r) ∧ Below w.heap.size w w' := by
  have hu44 := Try.underlying44
  have HR0_5 := Aside0.mk hr0_5
  have HC0_5 := Aside0.mk hc0_5
  clear hr0_5 hc0_5
  have HR0_6 := Aside0.mk hr0_6
  have HC0_6 := Aside0.mk hc0_6
  clear hr0_6 hc0_6
  have HB := Aside0.mk (Below.refl w.heap.size w)
  have H : ((impl_IsValidConstraint.f k a0_0 a0_1 a0_2 a0_3 a0_4 l0_5 l0_6 a0_7).bind fun t149002 => (some (!t149002))) = some r := h
  clear h
  replace H := Option.bind_eq_some_iff.mp H
  obtain ⟨t149002, A20, H⟩ := H
  replace H : (some (!t149002)) = some r := H
  have A2 := Aside0.mk A20
  clear A20
  obtain rfl := Option.some.inj H
  go_enter Try.func149, Try.ntmps149
  go_wp2_with (first | ((with_reducible refine gate_dst (N := 1) rfl ?_); refine box_event ?hg (N := 1) ?hd (cs := #[.int .i64 a0_0, .string a0_1, .string a0_2, .int .i64 a0_3, .string a0_4, .slice A0_5 l0_5.length c0_5, .slice A0_6 l0_6.length c0_6, .int .i64 a0_7]) (t := 44) ?hr ?_; (case hd => rfl); (case hg => rfl); (case hr => first | (go_simp; done) | (go_simp; rfl)); intro gb149001 hg w3 hbox hb; have n0_ := Aside0.mk (below_step (by repeat (first | (with_reducible first | exact HB.out | apply below_alloc | apply pw_below_drewN | apply below_drew1) | exact HB.out)) hb); have n1_ := Aside0.mk (hbox); have n2_ := Aside0.mk ((by rw [hg]; exact (below_size (by repeat (first | (with_reducible first | exact HB.out | apply below_alloc | apply pw_below_drewN | apply below_drew1) | exact HB.out))) : w.heap.size ≤ gb149001)); have n3_ := Aside0.mk ((by rw [hg]; exact (below_size (by repeat (first | (with_reducible first | exact HB.out | apply below_alloc | apply pw_below_drewN | apply below_drew1) | exact HB.out))) : w.heap.size ≤ gb149001)); clear HB; have HB := n0_; have BK149001 := n1_; have GW149001 := n2_; have GE149001 := n3_; clear n0_ n1_ n2_ n3_; clear hb hbox hg; have hcz4_0 : w3.cell? ⟨gb149001, 0, none⟩ = some (.int .i64 a0_0) := (blk_cell BK149001.out 0).trans rfl; have hcz4_1 : w3.cell? ⟨gb149001, 1, none⟩ = some (.string a0_1) := (blk_cell BK149001.out 1).trans rfl; have hcz4_2 : w3.cell? ⟨gb149001, 2, none⟩ = some (.string a0_2) := (blk_cell BK149001.out 2).trans rfl; have hcz4_3 : w3.cell? ⟨gb149001, 3, none⟩ = some (.int .i64 a0_3) := (blk_cell BK149001.out 3).trans rfl; have hcz4_4 : w3.cell? ⟨gb149001, 4, none⟩ = some (.string a0_4) := (blk_cell BK149001.out 4).trans rfl; have hcz4_5 : w3.cell? ⟨gb149001, 5, none⟩ = some (.slice A0_5 l0_5.length c0_5) := (blk_cell BK149001.out 5).trans rfl; have hcz4_6 : w3.cell? ⟨gb149001, 6, none⟩ = some (.slice A0_6 l0_6.length c0_6) := (blk_cell BK149001.out 6).trans rfl; have hcz4_7 : w3.cell? ⟨gb149001, 7, none⟩ = some (.int .i64 a0_7) := (blk_cell BK149001.out 7).trans rfl; have hfz4_0 := blk_frozen BK149001.out 0; have hfz4_1 := blk_frozen BK149001.out 1; have hfz4_2 := blk_frozen BK149001.out 2; have hfz4_3 := blk_frozen BK149001.out 3; have hfz4_4 := blk_frozen BK149001.out 4; have hfz4_5 := blk_frozen BK149001.out 5; have hfz4_6 := blk_frozen BK149001.out 6; have hfz4_7 := blk_frozen BK149001.out 7) | ((with_reducible refine gate_callee (f := 23) rfl ?_); refine goesL_ (some 4) rfl rfl Try.func23 (by kernel_rfl) rfl #[.agg #[.int .i64 a0_0, .string a0_1, .string a0_2, .int .i64 a0_3, .string a0_4, .slice A0_5 l0_5.length c0_5, .slice A0_6 l0_6.length c0_6, .int .i64 a0_7]] rfl (by (try simp only [List.map_toArray, List.map_cons, List.map_nil]); first | done | rfl | (simp only [List.length_drop, List.length_take]; rfl)) ?_; (with_reducible refine (impl_IsValidConstraint.calls k a0_0 a0_1 a0_2 a0_3 a0_4 _ _ l0_5 _ _ l0_6 a0_7 t149002 _ ?side1 ?side2 ?side3 ?side4 A2.out).mono ?_); (case side1 => repeat (first | exact (Kd.C_below HR0_5.out HB.out) | (with_reducible refine Kd.C_alloc ?_ _) | (with_reducible refine Kd.C_drewN ?_ _) | (with_reducible refine Kd.C_drew ?_))); (case side2 => exact HC0_5.out); (case side3 => repeat (first | exact (Kd.C_below HR0_6.out HB.out) | (with_reducible refine Kd.C_alloc ?_ _) | (with_reducible refine Kd.C_drewN ?_ _) | (with_reducible refine Kd.C_drew ?_))); (case side4 => exact HC0_6.out); rintro e w5 ⟨rfl, hb⟩; refine ⟨_, rfl, ?_⟩; have n0_ := Aside0.mk (blk_below (g := gb149001) (o := .cells #[.int .i64 a0_0, .string a0_1, .string a0_2, .int .i64 a0_3, .string a0_4, .slice A0_5 l0_5.length c0_5, .slice A0_6 l0_6.length c0_6, .int .i64 a0_7] 44 (0, 0)) (by (with_reducible repeat (first | refine blk_drewN ?_ _ | refine blk_drew ?_ | refine blk_alloc ?_ _)); exact BK149001.out) hb); have n1_ := Aside0.mk (below_step (by repeat (first | (with_reducible first | exact HB.out | apply below_alloc | apply pw_below_drewN | apply below_drew1 | refine below_set ?_ GE149001.out) | exact HB.out)) hb); clear BK149001; clear HB; have BK149001 := n0_; have HB := n1_; clear n0_ n1_; (try clear hb); (try clear hb2); (try clear hk); (try clear hi)))
  go_ret
  exact ⟨by first | rfl | (simp [errW_none, errW_some] <;> rfl) | (simp [*, errW_none, errW_some] <;> rfl), by repeat (first | (with_reducible first | exact HB.out | apply below_alloc | apply pw_below_drewN | apply below_drew1 | refine below_set ?_ GE149001.out) | exact HB.out)⟩


end Go.Proofs.Ytpppopdmnejcfaa.A


namespace Go.Proofs.Ytpppopdmnejcfaa.A
open Go.RowKit Go.Proofs.Ytpppopdmnejcfaa.Ext Go.Proofs.YtpppopdmnejcfaaW.PrintWords Go.Proofs.YtpppopdmnejcfaaW.PrintLast Go.Proofs.YtpppopdmnejcfaaW.PrintMore
attribute [local go_sem] max2_int min2_int max_two min_two max_three min_three max_four min_four   -- for this text's walks alone
set_option linter.unusedVariables false
set_option linter.unusedSimpArgs false

/-! ### impl_Constraint_182: function 182 -/
def impl_Constraint_182.l0 : Nat → List (S44) → Int → Int → Option (Int)
  | 0, _, _, _ => none
  | k + 1, x0, x7, x8 => if x8 < x7 then (if 0 ≤ x8 then (if x8 < (x0.length : Int) then ((impl_IsValidProblem_1.f k ((rd_T44 x0 x8).f0) ((rd_T44 x0 x8).f1) ((rd_T44 x0 x8).f2) ((rd_T44 x0 x8).f3.f0) ((rd_T44 x0 x8).f3.f1) ((rd_T44 x0 x8).f3.f2) ((rd_T44 x0 x8).f4) ((rd_T44 x0 x8).f5)).bind fun t182002 => (if t182002 = true then (some x8) else (impl_Constraint_182.l0 k x0 x7 (wrap64 (x8 + 1))))) else (none)) else (none)) else (some (-1))
def impl_Constraint_182.f (k : Nat) (l0 : List (S44)) : Option (Int) := impl_Constraint_182.l0 k l0 (l0.length : Int) 0
theorem impl_Constraint_182.mono_l : ∀ k, (∀ y0 y1 y2, LeO (impl_Constraint_182.l0 k y0 y1 y2) (impl_Constraint_182.l0 (k + 1) y0 y1 y2))
  | 0 => fun _ _ _ r h => by simp [impl_Constraint_182.l0] at h
  | k + 1 => by
    have ih0 := impl_Constraint_182.mono_l k
    · intro y0 y1 y2
      unfold impl_Constraint_182.l0
      repeat' first
      | (with_reducible exact ih0 _ _ _)
      | (with_reducible exact impl_IsValidProblem_1.mono _ _ _ _ _ _ _ _ _)
      | (with_reducible exact LeO.refl _)
      | (with_reducible exact LeO.none _)
      | (with_reducible refine LeO.ite ?_ ?_)
      | (with_reducible refine LeO.bind ?_ (fun _ => ?_))
      | exact ih0 _ _ _
      | exact impl_IsValidProblem_1.mono _ _ _ _ _ _ _ _ _
      | exact LeO.none _
      | refine LeO.ite ?_ ?_
      | refine LeO.bind ?_ (fun _ => ?_)
theorem impl_Constraint_182.mono : ∀ a0 k, LeO (impl_Constraint_182.f k a0) (impl_Constraint_182.f (k + 1) a0) := by
  intro a0 k
  have ih0 := impl_Constraint_182.mono_l k
  unfold impl_Constraint_182.f
  repeat' first
      | (with_reducible exact ih0 _ _ _)
      | (with_reducible exact impl_IsValidProblem_1.mono _ _ _ _ _ _ _ _ _)
      | (with_reducible exact LeO.refl _)
      | (with_reducible exact LeO.none _)
      | (with_reducible refine LeO.ite ?_ ?_)
      | (with_reducible refine LeO.bind ?_ (fun _ => ?_))
      | exact ih0 _ _ _
      | exact impl_IsValidProblem_1.mono _ _ _ _ _ _ _ _ _
      | exact LeO.none _
      | refine LeO.ite ?_ ?_
      | refine LeO.bind ?_ (fun _ => ?_)
set_option maxHeartbeats 8000000 in
set_option maxRecDepth 100000 in
theorem impl_Constraint_182.calls (k : Nat) (A0 : Option Addr) (c0 : Nat) (l0 : List (S44)) (r : Int) (w : World) (hr0 : Kd.C k44 w A0 l0.length l0) (hc0 : l0.length ≤ c0) (h : impl_Constraint_182.f k l0 = some r) :
    Calls Try.prog 182 #[.slice A0 l0.length c0, .func (.func 149) #[] #[]] w fun e w' => e = .returned (.int .i64 r) ∧ Below w.heap.size w w' := by
  have hu44 := Try.underlying44
  have HR0 := Aside0.mk hr0
  have HC0 := Aside0.mk hc0
  clear hr0 hc0
  have HB := Aside0.mk (Below.refl w.heap.size w)
  have H : (impl_Constraint_182.l0 k l0 (l0.length : Int) 0) = some r := h
  clear h
  have H' := Aside0.mk H
  clear H
  go_enter Try.func182, Try.ntmps182
  go_wp2
  first | go_loopg [8] k (fun kq v8 w' => ∃ (x8_1 : Int), v8 = .int .i64 x8_1 ∧ Aside0 (impl_Constraint_182.l0 kq l0 (l0.length : Int) x8_1 = some r) ∧ Aside0 (kq ≤ k) ∧ Aside0 (Below w.heap.size w w')) | (simp only [Act.put, List.setIfInBounds_toArray, List.set_cons_succ, List.set_cons_zero]; go_loopg [8] k (fun kq v8 w' => ∃ (x8_1 : Int), v8 = .int .i64 x8_1 ∧ Aside0 (impl_Constraint_182.l0 kq l0 (l0.length : Int) x8_1 = some r) ∧ Aside0 (kq ≤ k) ∧ Aside0 (Below w.heap.size w w')))
  case atStart => exact ⟨(0), (by first | rfl | (simp; done) | (simp [*]; done)), H', ⟨Nat.le_refl _⟩, ⟨by repeat (first | (with_reducible first | exact HB.out | apply below_alloc | apply pw_below_drewN | apply below_drew1) | exact HB.out)⟩⟩
  case round =>
    clear H'
    try clear c1
    obtain ⟨x8_1, rfl, HA, HK1, HB⟩ := hrel
    cases gk with
    | zero => exact absurd HA.out (by simp [impl_Constraint_182.l0])
    | succ k1 =>
      have H := HA.out
      clear HA
      simp only [impl_Constraint_182.l0] at H
      by_cases c2 : x8_1 < (l0.length : Int)
      · rw [if_pos c2] at H
        have c2b0 : decide (x8_1 < (l0.length : Int)) = true := decide_eq_true c2
        clear c2
        by_cases c3 : 0 ≤ x8_1
        · rw [if_pos c3] at H
          have c3b0 : decide (0 ≤ x8_1) = true := decide_eq_true c3
          clear c3
          by_cases c4 : x8_1 < (l0.length : Int)
          · rw [if_pos c4] at H
            have c4b0 : decide (x8_1 < (l0.length : Int)) = true := decide_eq_true c4
            clear c4
            replace H := Option.bind_eq_some_iff.mp H
            obtain ⟨t182002, A50, H⟩ := H
            replace H : (if t182002 = true then (some x8_1) else (impl_Constraint_182.l0 k1 l0 (l0.length : Int) (wrap64 (x8_1 + 1)))) = some r := H
            have A5 := Aside0.mk A50
            clear A50
            by_cases c6 : t182002 = true
            · subst c6
              have H1 : (some x8_1) = some r := by rw [if_pos rfl] at H; exact H
              clear H
              have H := H1
              clear H1
              obtain rfl := Option.some.inj H
              have p182001 : 0 ≤ (x8_1 : Int) := of_decide_eq_true (by first | (with_reducible assumption) | assumption)
              have q182001 : x8_1 < (l0.length : Int) := of_decide_eq_true (by first | (with_reducible assumption) | assumption)
              obtain ⟨ad182001, A182001_5, c182001_5, A182001_6, c182001_6, e182001, hx182001_0, hx182001_1, hx182001_2, hx182001_3, hx182001_4, hx182001_5, hx182001_6, hx182001_7, hl182001_5, hi182001_5, hl182001_6, hi182001_6⟩ := at_T44 HR0.out x8_1 p182001 q182001
              cases e182001
              replace hx182001_0 := (HB.out.cell (World.block_lt_of_cell? w _ hx182001_0)).trans hx182001_0
              replace hx182001_1 := (HB.out.cell (World.block_lt_of_cell? w _ hx182001_1)).trans hx182001_1
              replace hx182001_2 := (HB.out.cell (World.block_lt_of_cell? w _ hx182001_2)).trans hx182001_2
              replace hx182001_3 := (HB.out.cell (World.block_lt_of_cell? w _ hx182001_3)).trans hx182001_3
              replace hx182001_4 := (HB.out.cell (World.block_lt_of_cell? w _ hx182001_4)).trans hx182001_4
              replace hx182001_5 := (HB.out.cell (World.block_lt_of_cell? w _ hx182001_5)).trans hx182001_5
              replace hx182001_6 := (HB.out.cell (World.block_lt_of_cell? w _ hx182001_6)).trans hx182001_6
              replace hx182001_7 := (HB.out.cell (World.block_lt_of_cell? w _ hx182001_7)).trans hx182001_7
              have HR182001_5 := Aside0.mk hi182001_5
              have HC182001_5 := Aside0.mk hl182001_5
              clear hi182001_5 hl182001_5
              have HR182001_6 := Aside0.mk hi182001_6
              have HC182001_6 := Aside0.mk hl182001_6
              clear hi182001_6 hl182001_6
              replace p182001 := eq_true p182001
              replace q182001 := eq_true q182001
              go_wp2_with (first | ((with_reducible refine gate_dst (N := 16) rfl ?_); refine goesF_ (some 16) rfl rfl Try.func149 (by kernel_rfl) rfl #[.agg #[.int .i64 ((rd_T44 l0 x8_1).f0), .string ((rd_T44 l0 x8_1).f1), .string ((rd_T44 l0 x8_1).f2), .int .i64 ((rd_T44 l0 x8_1).f3.f0), .string ((rd_T44 l0 x8_1).f3.f1), .slice A182001_5 ((rd_T44 l0 x8_1).f3.f2).length c182001_5, .slice A182001_6 ((rd_T44 l0 x8_1).f4).length c182001_6, .int .i64 ((rd_T44 l0 x8_1).f5)]] rfl (by first | rfl | (go_simp; done)) (by (try simp only [List.map_toArray, List.map_cons, List.map_nil]); first | done | rfl | (simp only [List.length_drop, List.length_take]; rfl)) ?_; (with_reducible refine (impl_IsValidProblem_1.calls k1 ((rd_T44 l0 x8_1).f0) ((rd_T44 l0 x8_1).f1) ((rd_T44 l0 x8_1).f2) ((rd_T44 l0 x8_1).f3.f0) ((rd_T44 l0 x8_1).f3.f1) _ _ ((rd_T44 l0 x8_1).f3.f2) _ _ ((rd_T44 l0 x8_1).f4) ((rd_T44 l0 x8_1).f5) true _ ?side1 ?side2 ?side3 ?side4 A5.out).mono ?_); (case side1 => repeat (first | exact (Kd.C_below HR182001_5.out HB.out) | (with_reducible refine Kd.C_alloc ?_ _) | (with_reducible refine Kd.C_drewN ?_ _) | (with_reducible refine Kd.C_drew ?_))); (case side2 => exact HC182001_5.out); (case side3 => repeat (first | exact (Kd.C_below HR182001_6.out HB.out) | (with_reducible refine Kd.C_alloc ?_ _) | (with_reducible refine Kd.C_drewN ?_ _) | (with_reducible refine Kd.C_drew ?_))); (case side4 => exact HC182001_6.out); rintro e w7 ⟨rfl, hb⟩; refine ⟨_, rfl, ?_⟩; have n0_ := Aside0.mk (below_step (by repeat (first | (with_reducible first | exact HB.out | apply below_alloc | apply pw_below_drewN | apply below_drew1) | exact HB.out)) hb); clear HB; have HB := n0_; clear n0_; (try clear hb); (try clear hb2); (try clear hk); (try clear hi)))
              go_ret
              exact ⟨by first | rfl | (simp [errW_none, errW_some] <;> rfl) | (simp [*, errW_none, errW_some] <;> rfl), by repeat (first | (with_reducible first | exact HB.out | apply below_alloc | apply pw_below_drewN | apply below_drew1) | exact HB.out)⟩
            · replace c6 := Bool.eq_false_iff.mpr c6
              subst c6
              have H1 : (impl_Constraint_182.l0 k1 l0 (l0.length : Int) (wrap64 (x8_1 + 1))) = some r := by rw [if_neg (show ¬ (false = true) by decide)] at H; exact H
              clear H
              have H := H1
              clear H1
              have H' := Aside0.mk H
              clear H
              have p182001 : 0 ≤ (x8_1 : Int) := of_decide_eq_true (by first | (with_reducible assumption) | assumption)
              have q182001 : x8_1 < (l0.length : Int) := of_decide_eq_true (by first | (with_reducible assumption) | assumption)
              obtain ⟨ad182001, A182001_5, c182001_5, A182001_6, c182001_6, e182001, hx182001_0, hx182001_1, hx182001_2, hx182001_3, hx182001_4, hx182001_5, hx182001_6, hx182001_7, hl182001_5, hi182001_5, hl182001_6, hi182001_6⟩ := at_T44 HR0.out x8_1 p182001 q182001
              cases e182001
              replace hx182001_0 := (HB.out.cell (World.block_lt_of_cell? w _ hx182001_0)).trans hx182001_0
              replace hx182001_1 := (HB.out.cell (World.block_lt_of_cell? w _ hx182001_1)).trans hx182001_1
              replace hx182001_2 := (HB.out.cell (World.block_lt_of_cell? w _ hx182001_2)).trans hx182001_2
              replace hx182001_3 := (HB.out.cell (World.block_lt_of_cell? w _ hx182001_3)).trans hx182001_3
              replace hx182001_4 := (HB.out.cell (World.block_lt_of_cell? w _ hx182001_4)).trans hx182001_4
              replace hx182001_5 := (HB.out.cell (World.block_lt_of_cell? w _ hx182001_5)).trans hx182001_5
              replace hx182001_6 := (HB.out.cell (World.block_lt_of_cell? w _ hx182001_6)).trans hx182001_6
              replace hx182001_7 := (HB.out.cell (World.block_lt_of_cell? w _ hx182001_7)).trans hx182001_7
              have HR182001_5 := Aside0.mk hi182001_5
              have HC182001_5 := Aside0.mk hl182001_5
              clear hi182001_5 hl182001_5
              have HR182001_6 := Aside0.mk hi182001_6
              have HC182001_6 := Aside0.mk hl182001_6
              clear hi182001_6 hl182001_6
              replace p182001 := eq_true p182001
              replace q182001 := eq_true q182001
              go_wp2_with (first | ((with_reducible refine gate_dst (N := 16) rfl ?_); refine goesF_ (some 16) rfl rfl Try.func149 (by kernel_rfl) rfl #[.agg #[.int .i64 ((rd_T44 l0 x8_1).f0), .string ((rd_T44 l0 x8_1).f1), .string ((rd_T44 l0 x8_1).f2), .int .i64 ((rd_T44 l0 x8_1).f3.f0), .string ((rd_T44 l0 x8_1).f3.f1), .slice A182001_5 ((rd_T44 l0 x8_1).f3.f2).length c182001_5, .slice A182001_6 ((rd_T44 l0 x8_1).f4).length c182001_6, .int .i64 ((rd_T44 l0 x8_1).f5)]] rfl (by first | rfl | (go_simp; done)) (by (try simp only [List.map_toArray, List.map_cons, List.map_nil]); first | done | rfl | (simp only [List.length_drop, List.length_take]; rfl)) ?_; (with_reducible refine (impl_IsValidProblem_1.calls k1 ((rd_T44 l0 x8_1).f0) ((rd_T44 l0 x8_1).f1) ((rd_T44 l0 x8_1).f2) ((rd_T44 l0 x8_1).f3.f0) ((rd_T44 l0 x8_1).f3.f1) _ _ ((rd_T44 l0 x8_1).f3.f2) _ _ ((rd_T44 l0 x8_1).f4) ((rd_T44 l0 x8_1).f5) false _ ?side1 ?side2 ?side3 ?side4 A5.out).mono ?_); (case side1 => repeat (first | exact (Kd.C_below HR182001_5.out HB.out) | (with_reducible refine Kd.C_alloc ?_ _) | (with_reducible refine Kd.C_drewN ?_ _) | (with_reducible refine Kd.C_drew ?_))); (case side2 => exact HC182001_5.out); (case side3 => repeat (first | exact (Kd.C_below HR182001_6.out HB.out) | (with_reducible refine Kd.C_alloc ?_ _) | (with_reducible refine Kd.C_drewN ?_ _) | (with_reducible refine Kd.C_drew ?_))); (case side4 => exact HC182001_6.out); rintro e w8 ⟨rfl, hb⟩; refine ⟨_, rfl, ?_⟩; have n0_ := Aside0.mk (below_step (by repeat (first | (with_reducible first | exact HB.out | apply below_alloc | apply pw_below_drewN | apply below_drew1) | exact HB.out)) hb); clear HB; have HB := n0_; clear n0_; (try clear hb); (try clear hb2); (try clear hk); (try clear hi)))
              go_roundg k1
              case measure => have := HK1.out; omega
              case rel => exact ⟨(wrap64 (x8_1 + 1)), (by first | rfl | (simp; done) | (simp [*]; done)), H', ⟨by have := HK1.out; omega⟩, ⟨by repeat (first | (with_reducible first | exact HB.out | apply below_alloc | apply pw_below_drewN | apply below_drew1) | exact HB.out)⟩⟩
          · rw [if_neg c4] at H
            exact absurd H (by simp)
        · rw [if_neg c3] at H
          exact absurd H (by simp)
      · rw [if_neg c2] at H
        have c2b0 : decide (x8_1 < (l0.length : Int)) = false := decide_eq_false c2
        clear c2
        obtain rfl := Option.some.inj H
        go_wp2
        go_ret
        exact ⟨by first | rfl | (simp [errW_none, errW_some] <;> rfl) | (simp [*, errW_none, errW_some] <;> rfl), by repeat (first | (with_reducible first | exact HB.out | apply below_alloc | apply pw_below_drewN | apply below_drew1) | exact HB.out)⟩


end Go.Proofs.Ytpppopdmnejcfaa.A


namespace Go.Proofs.Ytpppopdmnejcfaa.A
open Go.RowKit Go.Proofs.Ytpppopdmnejcfaa.Ext Go.Proofs.YtpppopdmnejcfaaW.PrintWords Go.Proofs.YtpppopdmnejcfaaW.PrintLast Go.Proofs.YtpppopdmnejcfaaW.PrintMore
attribute [local go_sem] max2_int min2_int max_two min_two max_three min_three max_four min_four   -- for this text's walks alone
set_option linter.unusedVariables false
set_option linter.unusedSimpArgs false

/-! ### impl_Constraint_148: function 148 -/
def impl_Constraint_148.f (k : Nat) (l0 : List (S44)) : Option (Bool) := (impl_Constraint_182.f k l0).bind fun t148001 => (some (decide (t148001 ≥ 0)))
theorem impl_Constraint_148.mono : ∀ a0 k, LeO (impl_Constraint_148.f k a0) (impl_Constraint_148.f (k + 1) a0) := by
  intro a0 k
  unfold impl_Constraint_148.f
  repeat' first
      | (with_reducible exact impl_Constraint_182.mono _ _)
      | (with_reducible exact LeO.refl _)
      | (with_reducible exact LeO.none _)
      | (with_reducible refine LeO.ite ?_ ?_)
      | (with_reducible refine LeO.bind ?_ (fun _ => ?_))
      | exact impl_Constraint_182.mono _ _
      | exact LeO.none _
      | refine LeO.ite ?_ ?_
      | refine LeO.bind ?_ (fun _ => ?_)
set_option maxHeartbeats 8000000 in
set_option maxRecDepth 100000 in
theorem impl_Constraint_148.calls (k : Nat) (A0 : Option Addr) (c0 : Nat) (l0 : List (S44)) (r : Bool) (w : World) (hr0 : Kd.C k44 w A0 l0.length l0) (hc0 : l0.length ≤ c0) (h : impl_Constraint_148.f k l0 = some r) :
    Calls Try.prog 148 #[.slice A0 l0.length c0, .func (.func 149) #[] #[]] w fun e w' => e = .returned (.bool r) ∧ Below w.heap.size w w' := by
  have HR0 := Aside0.mk hr0
  have HC0 := Aside0.mk hc0
  clear hr0 hc0
  have HB := Aside0.mk (Below.refl w.heap.size w)
  have H : ((impl_Constraint_182.f k l0).bind fun t148001 => (some (decide (t148001 ≥ 0)))) = some r := h
  clear h
  replace H := Option.bind_eq_some_iff.mp H
  obtain ⟨t148001, A20, H⟩ := H
  replace H : (some (decide (t148001 ≥ 0))) = some r := H
  have A2 := Aside0.mk A20
  clear A20
  obtain rfl := Option.some.inj H
  go_enter Try.func148, Try.ntmps148
  go_wp2_with (first | ((with_reducible refine gate_callee (f := 182) rfl ?_); refine goesL_ (some 7) rfl rfl Try.func182 (by kernel_rfl) rfl #[.slice A0 l0.length c0, .func (.func 149) #[] #[]] rfl (by (try simp only [List.map_toArray, List.map_cons, List.map_nil]); first | done | rfl | (simp only [List.length_drop, List.length_take]; rfl)) ?_; (with_reducible refine (impl_Constraint_182.calls k _ _ l0 t148001 _ ?side1 ?side2 A2.out).mono ?_); (case side1 => repeat (first | exact HR0.out | (with_reducible refine Kd.C_alloc ?_ _) | (with_reducible refine Kd.C_drewN ?_ _) | (with_reducible refine Kd.C_drew ?_))); (case side2 => exact HC0.out); rintro e w3 ⟨rfl, hb⟩; refine ⟨_, rfl, ?_⟩; have n0_ := Aside0.mk (below_step (by repeat (first | (with_reducible first | exact HB.out | apply below_alloc | apply pw_below_drewN | apply below_drew1) | exact HB.out)) hb); clear HB; have HB := n0_; clear n0_; (try clear hb); (try clear hb2); (try clear hk); (try clear hi)))
  go_ret
  exact ⟨by first | rfl | (simp [errW_none, errW_some] <;> rfl) | (simp [*, errW_none, errW_some] <;> rfl), by repeat (first | (with_reducible first | exact HB.out | apply below_alloc | apply pw_below_drewN | apply below_drew1) | exact HB.out)⟩


end Go.Proofs.Ytpppopdmnejcfaa.A


namespace Go.Proofs.Ytpppopdmnejcfaa.A
open Go.RowKit Go.Proofs.Ytpppopdmnejcfaa.Ext Go.Proofs.YtpppopdmnejcfaaW.PrintWords Go.Proofs.YtpppopdmnejcfaaW.PrintLast Go.Proofs.YtpppopdmnejcfaaW.PrintMore
attribute [local go_sem] max2_int min2_int max_two min_two max_three min_three max_four min_four   -- for this text's walks alone
set_option linter.unusedVariables false
set_option linter.unusedSimpArgs false

/-! ### impl_IsValidProblem: function 64 -/
def impl_IsValidProblem.f (k : Nat) (l0_0 : List (S44)) : Option (Bool) := if (l0_0.length : Int) ≤ 6 then ((impl_Constraint_148.f k l0_0).bind fun t64002 => (some (!t64002))) else (some false)
theorem impl_IsValidProblem.mono : ∀ a0 k, LeO (impl_IsValidProblem.f k a0) (impl_IsValidProblem.f (k + 1) a0) := by
  intro a0 k
  unfold impl_IsValidProblem.f
  repeat' first
      | (with_reducible exact impl_Constraint_148.mono _ _)
      | (with_reducible exact LeO.refl _)
      | (with_reducible exact LeO.none _)
      | (with_reducible refine LeO.ite ?_ ?_)
      | (with_reducible refine LeO.bind ?_ (fun _ => ?_))
      | exact impl_Constraint_148.mono _ _
      | exact LeO.none _
      | refine LeO.ite ?_ ?_
      | refine LeO.bind ?_ (fun _ => ?_)
set_option maxHeartbeats 8000000 in
set_option maxRecDepth 100000 in
theorem impl_IsValidProblem.calls (k : Nat) (A0_0 : Option Addr) (c0_0 : Nat) (l0_0 : List (S44)) (r : Bool) (w : World) (hr0_0 : Kd.C k44 w A0_0 l0_0.length l0_0) (hc0_0 : l0_0.length ≤ c0_0) (h : impl_IsValidProblem.f k l0_0 = some r) :
    Calls Try.prog 64 #[.agg #[.slice A0_0 l0_0.length c0_0]] w fun e w' => e = .returned (.bool r) ∧ Below w.heap.size w w' := by
  have hu29 := Try.underlying29
  have HR0_0 := Aside0.mk hr0_0
  have HC0_0 := Aside0.mk hc0_0
  clear hr0_0 hc0_0
  have HB := Aside0.mk (Below.refl w.heap.size w)
  have H : (if (l0_0.length : Int) ≤ 6 then ((impl_Constraint_148.f k l0_0).bind fun t64002 => (some (!t64002))) else (some false)) = some r := h
  clear h
  by_cases c2 : (l0_0.length : Int) ≤ 6
  · rw [if_pos c2] at H
    have c2b0 : decide ((l0_0.length : Int) ≤ 6) = true := decide_eq_true c2
    have c2b1 : decide (l0_0.length ≤ 6) = true := decide_eq_true (by omega)
    clear c2
    replace H := Option.bind_eq_some_iff.mp H
    obtain ⟨t64002, A30, H⟩ := H
    replace H : (some (!t64002)) = some r := H
    have A3 := Aside0.mk A30
    clear A30
    obtain rfl := Option.some.inj H
    go_enter Try.func64, Try.ntmps64
    go_wp2_with (first | ((with_reducible refine gate_dst (N := 1) rfl ?_); refine box_event ?hg (N := 1) ?hd (cs := #[.slice A0_0 l0_0.length c0_0]) (t := 29) ?hr ?_; (case hd => rfl); (case hg => rfl); (case hr => first | (go_simp; done) | (go_simp; rfl)); intro gb64001 hg w4 hbox hb; have n0_ := Aside0.mk (below_step (by repeat (first | (with_reducible first | exact HB.out | apply below_alloc | apply pw_below_drewN | apply below_drew1) | exact HB.out)) hb); have n1_ := Aside0.mk (hbox); have n2_ := Aside0.mk ((by rw [hg]; exact (below_size (by repeat (first | (with_reducible first | exact HB.out | apply below_alloc | apply pw_below_drewN | apply below_drew1) | exact HB.out))) : w.heap.size ≤ gb64001)); have n3_ := Aside0.mk ((by rw [hg]; exact (below_size (by repeat (first | (with_reducible first | exact HB.out | apply below_alloc | apply pw_below_drewN | apply below_drew1) | exact HB.out))) : w.heap.size ≤ gb64001)); clear HB; have HB := n0_; have BK64001 := n1_; have GW64001 := n2_; have GE64001 := n3_; clear n0_ n1_ n2_ n3_; clear hb hbox hg; have hcz5_0 : w4.cell? ⟨gb64001, 0, none⟩ = some (.slice A0_0 l0_0.length c0_0) := (blk_cell BK64001.out 0).trans rfl; have hfz5_0 := blk_frozen BK64001.out 0) | (go_at_call 148; (with_reducible refine (impl_Constraint_148.calls k _ _ l0_0 t64002 _ ?side1 ?side2 A3.out).mono ?_); (case side1 => repeat (first | exact (Kd.C_below HR0_0.out HB.out) | (with_reducible refine Kd.C_alloc ?_ _) | (with_reducible refine Kd.C_drewN ?_ _) | (with_reducible refine Kd.C_drew ?_))); (case side2 => exact HC0_0.out); rintro e w6 ⟨rfl, hb⟩; have n0_ := Aside0.mk (blk_below (g := gb64001) (o := .cells #[.slice A0_0 l0_0.length c0_0] 29 (0, 0)) (by (with_reducible repeat (first | refine blk_drewN ?_ _ | refine blk_drew ?_ | refine blk_alloc ?_ _)); exact BK64001.out) hb); have n1_ := Aside0.mk (below_step (by repeat (first | (with_reducible first | exact HB.out | apply below_alloc | apply pw_below_drewN | apply below_drew1 | refine below_set ?_ GE64001.out) | exact HB.out)) hb); clear BK64001; clear HB; have BK64001 := n0_; have HB := n1_; clear n0_ n1_; (try clear hb); (try clear hb2); (try clear hk); (try clear hi)))
    go_ret
    exact ⟨by first | rfl | (simp [errW_none, errW_some] <;> rfl) | (simp [*, errW_none, errW_some] <;> rfl), by repeat (first | (with_reducible first | exact HB.out | apply below_alloc | apply pw_below_drewN | apply below_drew1 | refine below_set ?_ GE64001.out) | exact HB.out)⟩
  · rw [if_neg c2] at H
    have c2b0 : decide ((l0_0.length : Int) ≤ 6) = false := decide_eq_false c2
    have c2b1 : decide (l0_0.length ≤ 6) = false := decide_eq_false (by omega)
    clear c2
    obtain rfl := Option.some.inj H
    go_enter Try.func64, Try.ntmps64
    go_wp2_with (first | ((with_reducible refine gate_dst (N := 1) rfl ?_); refine box_event ?hg (N := 1) ?hd (cs := #[.slice A0_0 l0_0.length c0_0]) (t := 29) ?hr ?_; (case hd => rfl); (case hg => rfl); (case hr => first | (go_simp; done) | (go_simp; rfl)); intro gb64001 hg w7 hbox hb; have n0_ := Aside0.mk (below_step (by repeat (first | (with_reducible first | exact HB.out | apply below_alloc | apply pw_below_drewN | apply below_drew1) | exact HB.out)) hb); have n1_ := Aside0.mk (hbox); have n2_ := Aside0.mk ((by rw [hg]; exact (below_size (by repeat (first | (with_reducible first | exact HB.out | apply below_alloc | apply pw_below_drewN | apply below_drew1) | exact HB.out))) : w.heap.size ≤ gb64001)); have n3_ := Aside0.mk ((by rw [hg]; exact (below_size (by repeat (first | (with_reducible first | exact HB.out | apply below_alloc | apply pw_below_drewN | apply below_drew1) | exact HB.out))) : w.heap.size ≤ gb64001)); clear HB; have HB := n0_; have BK64001 := n1_; have GW64001 := n2_; have GE64001 := n3_; clear n0_ n1_ n2_ n3_; clear hb hbox hg; have hcz8_0 : w7.cell? ⟨gb64001, 0, none⟩ = some (.slice A0_0 l0_0.length c0_0) := (blk_cell BK64001.out 0).trans rfl; have hfz8_0 := blk_frozen BK64001.out 0))
    go_ret
    exact ⟨by first | rfl | (simp [errW_none, errW_some] <;> rfl) | (simp [*, errW_none, errW_some] <;> rfl), by repeat (first | (with_reducible first | exact HB.out | apply below_alloc | apply pw_below_drewN | apply below_drew1 | refine below_set ?_ GE64001.out) | exact HB.out)⟩

/-! ### impl_VarsOfProblem: function 66 -/
def impl_VarsOfProblem.l0 : Nat → ByteArray → List (S44) → Int → Int → Option (ByteArray)
  | 0, _, _, _, _ => none
  | k + 1, x3, x10, x11, x12 => if x12 < x11 then (if 0 ≤ x12 then (if x12 < (x10.length : Int) then ((impl_VarsOfConstraint.f k ((rd_T44 x10 x12).f0) ((rd_T44 x10 x12).f1) ((rd_T44 x10 x12).f2) ((rd_T44 x10 x12).f3.f0) ((rd_T44 x10 x12).f3.f1) ((rd_T44 x10 x12).f3.f2) ((rd_T44 x10 x12).f4) ((rd_T44 x10 x12).f5)).bind fun t66005 => (if x3.size + t66005.size ≤ 9223372036854775807 then (impl_VarsOfProblem.l0 k (x3 ++ t66005) x10 x11 (wrap64 (x12 + 1))) else (none))) else (none)) else (none)) else ((impl_VarsOf.f k x3).bind fun t66006 => (some t66006))
def impl_VarsOfProblem.f (k : Nat) (l0_0 : List (S44)) : Option (ByteArray) := (impl_IsValidProblem.f k l0_0).bind fun t66002 => (if t66002 = true then (impl_VarsOfProblem.l0 k (⟨#[]⟩ : ByteArray) l0_0 (l0_0.length : Int) 0) else (some (⟨#[]⟩ : ByteArray)))
theorem impl_VarsOfProblem.mono_l : ∀ k, (∀ y0 y1 y2 y3, LeO (impl_VarsOfProblem.l0 k y0 y1 y2 y3) (impl_VarsOfProblem.l0 (k + 1) y0 y1 y2 y3))
  | 0 => fun _ _ _ _ r h => by simp [impl_VarsOfProblem.l0] at h
  | k + 1 => by
    have ih0 := impl_VarsOfProblem.mono_l k
    · intro y0 y1 y2 y3
      unfold impl_VarsOfProblem.l0
      repeat' first
      | (with_reducible exact ih0 _ _ _ _)
      | (with_reducible exact impl_IsValidProblem.mono _ _)
      | (with_reducible exact impl_VarsOf.mono _ _)
      | (with_reducible exact impl_VarsOfConstraint.mono _ _ _ _ _ _ _ _ _)
      | (with_reducible exact LeO.refl _)
      | (with_reducible exact LeO.none _)
      | (with_reducible refine LeO.ite ?_ ?_)
      | (with_reducible refine LeO.bind ?_ (fun _ => ?_))
      | exact ih0 _ _ _ _
      | exact impl_IsValidProblem.mono _ _
      | exact impl_VarsOf.mono _ _
      | exact impl_VarsOfConstraint.mono _ _ _ _ _ _ _ _ _
      | exact LeO.none _
      | refine LeO.ite ?_ ?_
      | refine LeO.bind ?_ (fun _ => ?_)
theorem impl_VarsOfProblem.mono : ∀ a0 k, LeO (impl_VarsOfProblem.f k a0) (impl_VarsOfProblem.f (k + 1) a0) := by
  intro a0 k
  have ih0 := impl_VarsOfProblem.mono_l k
  unfold impl_VarsOfProblem.f
  repeat' first
      | (with_reducible exact ih0 _ _ _ _)
      | (with_reducible exact impl_IsValidProblem.mono _ _)
      | (with_reducible exact impl_VarsOf.mono _ _)
      | (with_reducible exact impl_VarsOfConstraint.mono _ _ _ _ _ _ _ _ _)
      | (with_reducible exact LeO.refl _)
      | (with_reducible exact LeO.none _)
      | (with_reducible refine LeO.ite ?_ ?_)
      | (with_reducible refine LeO.bind ?_ (fun _ => ?_))
      | exact ih0 _ _ _ _
      | exact impl_IsValidProblem.mono _ _
      | exact impl_VarsOf.mono _ _
      | exact impl_VarsOfConstraint.mono _ _ _ _ _ _ _ _ _
      | exact LeO.none _
      | refine LeO.ite ?_ ?_
      | refine LeO.bind ?_ (fun _ => ?_)
set_option maxHeartbeats 8000000 in
set_option maxRecDepth 100000 in
theorem impl_VarsOfProblem.calls (k : Nat) (A0_0 : Option Addr) (c0_0 : Nat) (l0_0 : List (S44)) (r : ByteArray) (w : World) (hr0_0 : Kd.C k44 w A0_0 l0_0.length l0_0) (hc0_0 : l0_0.length ≤ c0_0) (h : impl_VarsOfProblem.f k l0_0 = some r) :
    Calls Try.prog 66 #[.agg #[.slice A0_0 l0_0.length c0_0]] w fun e w' => e = .returned (.string r) ∧ Below w.heap.size w w' := by
  have hu29 := Try.underlying29
  have hu44 := Try.underlying44
  have HR0_0 := Aside0.mk hr0_0
  have HC0_0 := Aside0.mk hc0_0
  clear hr0_0 hc0_0
  have HB := Aside0.mk (Below.refl w.heap.size w)
  have H : ((impl_IsValidProblem.f k l0_0).bind fun t66002 => (if t66002 = true then (impl_VarsOfProblem.l0 k (⟨#[]⟩ : ByteArray) l0_0 (l0_0.length : Int) 0) else (some (⟨#[]⟩ : ByteArray)))) = some r := h
  clear h
  replace H := Option.bind_eq_some_iff.mp H
  obtain ⟨t66002, A20, H⟩ := H
  replace H : (if t66002 = true then (impl_VarsOfProblem.l0 k (⟨#[]⟩ : ByteArray) l0_0 (l0_0.length : Int) 0) else (some (⟨#[]⟩ : ByteArray))) = some r := H
  have A2 := Aside0.mk A20
  clear A20
  by_cases c3 : t66002 = true
  · subst c3
    have H1 : (impl_VarsOfProblem.l0 k (⟨#[]⟩ : ByteArray) l0_0 (l0_0.length : Int) 0) = some r := by rw [if_pos rfl] at H; exact H
    clear H
    have H := H1
    clear H1
    have H' := Aside0.mk H
    clear H
    go_enter Try.func66, Try.ntmps66
    go_wp2_with (first | ((with_reducible refine gate_dst (N := 1) rfl ?_); refine box_event ?hg (N := 1) ?hd (cs := #[.slice A0_0 l0_0.length c0_0]) (t := 29) ?hr ?_; (case hd => rfl); (case hg => rfl); (case hr => first | (go_simp; done) | (go_simp; rfl)); intro gb66001 hg w4 hbox hb; have n0_ := Aside0.mk (below_step (by repeat (first | (with_reducible first | exact HB.out | apply below_alloc | apply pw_below_drewN | apply below_drew1) | exact HB.out)) hb); have n1_ := Aside0.mk (hbox); have n2_ := Aside0.mk ((by rw [hg]; exact (below_size (by repeat (first | (with_reducible first | exact HB.out | apply below_alloc | apply pw_below_drewN | apply below_drew1) | exact HB.out))) : w.heap.size ≤ gb66001)); have n3_ := Aside0.mk ((by rw [hg]; exact (below_size (by repeat (first | (with_reducible first | exact HB.out | apply below_alloc | apply pw_below_drewN | apply below_drew1) | exact HB.out))) : w.heap.size ≤ gb66001)); clear HB; have HB := n0_; have BK66001 := n1_; have GW66001 := n2_; have GE66001 := n3_; clear n0_ n1_ n2_ n3_; clear hb hbox hg; have hcz5_0 : w4.cell? ⟨gb66001, 0, none⟩ = some (.slice A0_0 l0_0.length c0_0) := (blk_cell BK66001.out 0).trans rfl; have hfz5_0 := blk_frozen BK66001.out 0) | ((with_reducible refine gate_callee (f := 64) rfl ?_); refine goesL_ (some 7) rfl rfl Try.func64 (by kernel_rfl) rfl #[.agg #[.slice A0_0 l0_0.length c0_0]] rfl (by (try simp only [List.map_toArray, List.map_cons, List.map_nil]); first | done | rfl | (simp only [List.length_drop, List.length_take]; rfl)) ?_; (with_reducible refine (impl_IsValidProblem.calls k _ _ l0_0 true _ ?side1 ?side2 A2.out).mono ?_); (case side1 => repeat (first | exact (Kd.C_below HR0_0.out HB.out) | (with_reducible refine Kd.C_alloc ?_ _) | (with_reducible refine Kd.C_drewN ?_ _) | (with_reducible refine Kd.C_drew ?_))); (case side2 => exact HC0_0.out); rintro e w6 ⟨rfl, hb⟩; refine ⟨_, rfl, ?_⟩; have n0_ := Aside0.mk (blk_below (g := gb66001) (o := .cells #[.slice A0_0 l0_0.length c0_0] 29 (0, 0)) (by (with_reducible repeat (first | refine blk_drewN ?_ _ | refine blk_drew ?_ | refine blk_alloc ?_ _)); exact BK66001.out) hb); have n1_ := Aside0.mk (below_step (by repeat (first | (with_reducible first | exact HB.out | apply below_alloc | apply pw_below_drewN | apply below_drew1 | refine below_set ?_ GE66001.out) | exact HB.out)) hb); clear BK66001; clear HB; have BK66001 := n0_; have HB := n1_; clear n0_ n1_; (try clear hb); (try clear hb2); (try clear hk); (try clear hi); have hcz7_0 : w6.cell? ⟨gb66001, 0, none⟩ = some (.slice A0_0 l0_0.length c0_0) := (blk_cell BK66001.out 0).trans rfl; have hfz7_0 := blk_frozen BK66001.out 0))
    first | go_loopg [3, 12] k (fun kq v3 v12 w' => ∃ (x3_1 : ByteArray) (x12_1 : Int), v3 = .string x3_1 ∧ v12 = .int .i64 x12_1 ∧ Aside0 (impl_VarsOfProblem.l0 kq x3_1 l0_0 (l0_0.length : Int) x12_1 = some r) ∧ Aside0 (kq ≤ k) ∧ Aside0 (w'.heap[gb66001]? = some (.cells #[(.slice A0_0 l0_0.length c0_0)] 29 (0, 0))) ∧ Aside0 (Below w.heap.size w w')) | (simp only [Act.put, List.setIfInBounds_toArray, List.set_cons_succ, List.set_cons_zero]; go_loopg [3, 12] k (fun kq v3 v12 w' => ∃ (x3_1 : ByteArray) (x12_1 : Int), v3 = .string x3_1 ∧ v12 = .int .i64 x12_1 ∧ Aside0 (impl_VarsOfProblem.l0 kq x3_1 l0_0 (l0_0.length : Int) x12_1 = some r) ∧ Aside0 (kq ≤ k) ∧ Aside0 (w'.heap[gb66001]? = some (.cells #[(.slice A0_0 l0_0.length c0_0)] 29 (0, 0))) ∧ Aside0 (Below w.heap.size w w')))
    case atStart => exact ⟨((⟨#[]⟩ : ByteArray)), (0), (by first | rfl | (simp; done) | (simp [*]; done)), (by first | rfl | (simp; done) | (simp [*]; done)), H', ⟨Nat.le_refl _⟩, ⟨by (with_reducible repeat (first | refine blk_drewN ?_ _ | refine blk_drew ?_ | refine blk_alloc ?_ _)); exact BK66001.out⟩, ⟨by repeat (first | (with_reducible first | exact HB.out | apply below_alloc | apply pw_below_drewN | apply below_drew1 | refine below_set ?_ GE66001.out) | exact HB.out)⟩⟩
    case round =>
      clear H'
      try clear p2
      try clear c3
      try clear c6
      try clear hcz5_0
      try clear hcz7_0
      try clear hfz5_0
      try clear hfz7_0
      obtain ⟨x3_1, x12_1, rfl, rfl, HA, HK1, BK66001, HB⟩ := hrel
      cases gk with
      | zero => exact absurd HA.out (by simp [impl_VarsOfProblem.l0])
      | succ k1 =>
        have H := HA.out
        clear HA
        simp only [impl_VarsOfProblem.l0] at H
        by_cases c8 : x12_1 < (l0_0.length : Int)
        · rw [if_pos c8] at H
          have c8b0 : decide (x12_1 < (l0_0.length : Int)) = true := decide_eq_true c8
          clear c8
          by_cases c9 : 0 ≤ x12_1
          · rw [if_pos c9] at H
            have c9b0 : decide (0 ≤ x12_1) = true := decide_eq_true c9
            clear c9
            by_cases c10 : x12_1 < (l0_0.length : Int)
            · rw [if_pos c10] at H
              have c10b0 : decide (x12_1 < (l0_0.length : Int)) = true := decide_eq_true c10
              clear c10
              replace H := Option.bind_eq_some_iff.mp H
              obtain ⟨t66005, A110, H⟩ := H
              replace H : (if x3_1.size + t66005.size ≤ 9223372036854775807 then (impl_VarsOfProblem.l0 k1 (x3_1 ++ t66005) l0_0 (l0_0.length : Int) (wrap64 (x12_1 + 1))) else (none)) = some r := H
              have A11 := Aside0.mk A110
              clear A110
              by_cases c12 : x3_1.size + t66005.size ≤ 9223372036854775807
              · rw [if_pos c12] at H
                have c12z := c12
                try simp at c12z
                try replace c12z := eq_false (Nat.not_lt.2 c12z)
                have c12b0 := eq_true c12
                have c12b1 : decide (x3_1.size + t66005.size ≤ 9223372036854775807) = true := decide_eq_true c12
                try have c12b2 : (9223372036854775807 < x3_1.size + t66005.size) = False := eq_false (Nat.not_lt.2 c12)
                have H' := Aside0.mk H
                clear H
                have p66003 : 0 ≤ (x12_1 : Int) := of_decide_eq_true (by first | (with_reducible assumption) | assumption)
                have q66003 : x12_1 < (l0_0.length : Int) := of_decide_eq_true (by first | (with_reducible assumption) | assumption)
                obtain ⟨ad66003, A66003_5, c66003_5, A66003_6, c66003_6, e66003, hx66003_0, hx66003_1, hx66003_2, hx66003_3, hx66003_4, hx66003_5, hx66003_6, hx66003_7, hl66003_5, hi66003_5, hl66003_6, hi66003_6⟩ := at_T44 HR0_0.out x12_1 p66003 q66003
                cases e66003
                replace hx66003_0 := (HB.out.cell (World.block_lt_of_cell? w _ hx66003_0)).trans hx66003_0
                replace hx66003_1 := (HB.out.cell (World.block_lt_of_cell? w _ hx66003_1)).trans hx66003_1
                replace hx66003_2 := (HB.out.cell (World.block_lt_of_cell? w _ hx66003_2)).trans hx66003_2
                replace hx66003_3 := (HB.out.cell (World.block_lt_of_cell? w _ hx66003_3)).trans hx66003_3
                replace hx66003_4 := (HB.out.cell (World.block_lt_of_cell? w _ hx66003_4)).trans hx66003_4
                replace hx66003_5 := (HB.out.cell (World.block_lt_of_cell? w _ hx66003_5)).trans hx66003_5
                replace hx66003_6 := (HB.out.cell (World.block_lt_of_cell? w _ hx66003_6)).trans hx66003_6
                replace hx66003_7 := (HB.out.cell (World.block_lt_of_cell? w _ hx66003_7)).trans hx66003_7
                have HR66003_5 := Aside0.mk hi66003_5
                have HC66003_5 := Aside0.mk hl66003_5
                clear hi66003_5 hl66003_5
                have HR66003_6 := Aside0.mk hi66003_6
                have HC66003_6 := Aside0.mk hl66003_6
                clear hi66003_6 hl66003_6
                replace p66003 := eq_true p66003
                replace q66003 := eq_true q66003
                go_wp2_with (first | ((with_reducible refine gate_dst (N := 5) rfl ?_); refine box_event ?hg (N := 5) ?hd (cs := #[.int .i64 0, .string (⟨#[]⟩ : ByteArray), .string (⟨#[]⟩ : ByteArray), .int .i64 0, .string (⟨#[]⟩ : ByteArray), .slice none 0 0, .slice none 0 0, .int .i64 0]) (t := 44) ?hr ?_; (case hd => rfl); (case hg => rfl); (case hr => first | (go_simp; done) | (go_simp; rfl)); intro gb66004 hg w13 hbox hb; have n0_ := Aside0.mk (blk_below (g := gb66001) (o := .cells #[.slice (some ad66003) l0_0.length c0_0] 29 (0, 0)) (by (with_reducible repeat (first | refine blk_drewN ?_ _ | refine blk_drew ?_ | refine blk_alloc ?_ _)); exact BK66001.out) hb); have n1_ := Aside0.mk (below_step (by repeat (first | (with_reducible first | exact HB.out | apply below_alloc | apply pw_below_drewN | apply below_drew1 | refine below_set ?_ GE66001.out) | exact HB.out)) hb); have n2_ := Aside0.mk (hbox); have n3_ := Aside0.mk ((by rw [hg]; exact (below_size (by repeat (first | (with_reducible first | exact HB.out | apply below_alloc | apply pw_below_drewN | apply below_drew1 | refine below_set ?_ GE66001.out) | exact HB.out))) : w.heap.size ≤ gb66004)); have n4_ := Aside0.mk ((by rw [hg]; exact (below_size (by repeat (first | (with_reducible first | exact HB.out | apply below_alloc | apply pw_below_drewN | apply below_drew1 | refine below_set ?_ GE66001.out) | exact HB.out))) : w.heap.size ≤ gb66004)); have n5_ := Aside0.mk ((by rw [hg]; exact Nat.ne_of_lt (blk_lt (g := gb66001) (o := .cells #[.slice (some ad66003) l0_0.length c0_0] 29 (0, 0)) (by (with_reducible repeat (first | refine blk_drewN ?_ _ | refine blk_drew ?_ | refine blk_alloc ?_ _)); exact BK66001.out)) : gb66001 ≠ gb66004)); have n6_ := Aside0.mk ((by rw [hg]; exact Nat.ne_of_gt (blk_lt (g := gb66001) (o := .cells #[.slice (some ad66003) l0_0.length c0_0] 29 (0, 0)) (by (with_reducible repeat (first | refine blk_drewN ?_ _ | refine blk_drew ?_ | refine blk_alloc ?_ _)); exact BK66001.out)) : gb66004 ≠ gb66001)); clear BK66001; clear HB; have BK66001 := n0_; have HB := n1_; have BK66004 := n2_; have GW66004 := n3_; have GE66004 := n4_; have NB66001_66004 := n5_; have NB66004_66001 := n6_; clear n0_ n1_ n2_ n3_ n4_ n5_ n6_; clear hb hbox hg; have hnb14 := NB66004_66001.out; have hnc14 := NB66001_66004.out; have hcz15_0 : w13.cell? ⟨gb66004, 0, none⟩ = some (.int .i64 0) := (blk_cell BK66004.out 0).trans rfl; have hcz15_1 : w13.cell? ⟨gb66004, 1, none⟩ = some (.string (⟨#[]⟩ : ByteArray)) := (blk_cell BK66004.out 1).trans rfl; have hcz15_2 : w13.cell? ⟨gb66004, 2, none⟩ = some (.string (⟨#[]⟩ : ByteArray)) := (blk_cell BK66004.out 2).trans rfl; have hcz15_3 : w13.cell? ⟨gb66004, 3, none⟩ = some (.int .i64 0) := (blk_cell BK66004.out 3).trans rfl; have hcz15_4 : w13.cell? ⟨gb66004, 4, none⟩ = some (.string (⟨#[]⟩ : ByteArray)) := (blk_cell BK66004.out 4).trans rfl; have hcz15_5 : w13.cell? ⟨gb66004, 5, none⟩ = some (.slice none 0 0) := (blk_cell BK66004.out 5).trans rfl; have hcz15_6 : w13.cell? ⟨gb66004, 6, none⟩ = some (.slice none 0 0) := (blk_cell BK66004.out 6).trans rfl; have hcz15_7 : w13.cell? ⟨gb66004, 7, none⟩ = some (.int .i64 0) := (blk_cell BK66004.out 7).trans rfl; have hfz15_0 := blk_frozen BK66004.out 0; have hfz15_1 := blk_frozen BK66004.out 1; have hfz15_2 := blk_frozen BK66004.out 2; have hfz15_3 := blk_frozen BK66004.out 3; have hfz15_4 := blk_frozen BK66004.out 4; have hfz15_5 := blk_frozen BK66004.out 5; have hfz15_6 := blk_frozen BK66004.out 6; have hfz15_7 := blk_frozen BK66004.out 7) | ((with_reducible refine gate_callee (f := 62) rfl ?_); refine goesL_ (some 18) rfl rfl Try.func62 (by kernel_rfl) rfl #[.agg #[.int .i64 ((rd_T44 l0_0 x12_1).f0), .string ((rd_T44 l0_0 x12_1).f1), .string ((rd_T44 l0_0 x12_1).f2), .int .i64 ((rd_T44 l0_0 x12_1).f3.f0), .string ((rd_T44 l0_0 x12_1).f3.f1), .slice A66003_5 ((rd_T44 l0_0 x12_1).f3.f2).length c66003_5, .slice A66003_6 ((rd_T44 l0_0 x12_1).f4).length c66003_6, .int .i64 ((rd_T44 l0_0 x12_1).f5)]] rfl (by (try simp only [List.map_toArray, List.map_cons, List.map_nil]); first | done | rfl | (simp only [List.length_drop, List.length_take]; rfl)) ?_; (with_reducible refine (impl_VarsOfConstraint.calls k1 ((rd_T44 l0_0 x12_1).f0) ((rd_T44 l0_0 x12_1).f1) ((rd_T44 l0_0 x12_1).f2) ((rd_T44 l0_0 x12_1).f3.f0) ((rd_T44 l0_0 x12_1).f3.f1) _ _ ((rd_T44 l0_0 x12_1).f3.f2) _ _ ((rd_T44 l0_0 x12_1).f4) ((rd_T44 l0_0 x12_1).f5) t66005 _ ?side1 ?side2 ?side3 ?side4 A11.out).mono ?_); (case side1 => exact Kd.C_below HR66003_5.out (by repeat (first | (with_reducible first | exact HB.out | apply below_alloc | apply pw_below_drewN | apply below_drew1 | refine below_set ?_ GE66001.out | refine below_set ?_ GE66004.out) | exact HB.out))); (case side2 => exact HC66003_5.out); (case side3 => exact Kd.C_below HR66003_6.out (by repeat (first | (with_reducible first | exact HB.out | apply below_alloc | apply pw_below_drewN | apply below_drew1 | refine below_set ?_ GE66001.out | refine below_set ?_ GE66004.out) | exact HB.out))); (case side4 => exact HC66003_6.out); rintro e w16 ⟨rfl, hb⟩; refine ⟨_, rfl, ?_⟩; have n0_ := Aside0.mk (blk_below (g := gb66001) (o := .cells #[.slice (some ad66003) l0_0.length c0_0] 29 (0, 0)) (by (with_reducible repeat (first | refine blk_drewN ?_ _ | refine blk_drew ?_ | refine blk_alloc ?_ _)); refine blk_far ?_ NB66001_66004.out _; (with_reducible repeat (first | refine blk_drewN ?_ _ | refine blk_drew ?_ | refine blk_alloc ?_ _)); refine blk_far ?_ NB66001_66004.out _; (with_reducible repeat (first | refine blk_drewN ?_ _ | refine blk_drew ?_ | refine blk_alloc ?_ _)); refine blk_far ?_ NB66001_66004.out _; (with_reducible repeat (first | refine blk_drewN ?_ _ | refine blk_drew ?_ | refine blk_alloc ?_ _)); refine blk_far ?_ NB66001_66004.out _; (with_reducible repeat (first | refine blk_drewN ?_ _ | refine blk_drew ?_ | refine blk_alloc ?_ _)); refine blk_far ?_ NB66001_66004.out _; (with_reducible repeat (first | refine blk_drewN ?_ _ | refine blk_drew ?_ | refine blk_alloc ?_ _)); refine blk_far ?_ NB66001_66004.out _; (with_reducible repeat (first | refine blk_drewN ?_ _ | refine blk_drew ?_ | refine blk_alloc ?_ _)); refine blk_far ?_ NB66001_66004.out _; (with_reducible repeat (first | refine blk_drewN ?_ _ | refine blk_drew ?_ | refine blk_alloc ?_ _)); refine blk_far ?_ NB66001_66004.out _; (with_reducible repeat (first | refine blk_drewN ?_ _ | refine blk_drew ?_ | refine blk_alloc ?_ _)); exact BK66001.out) hb); have n1_ := Aside0.mk (blk_below (g := gb66004) (o := .cells #[.int .i64 ((rd_T44 l0_0 x12_1).f0), .string ((rd_T44 l0_0 x12_1).f1), .string ((rd_T44 l0_0 x12_1).f2), .int .i64 ((rd_T44 l0_0 x12_1).f3.f0), .string ((rd_T44 l0_0 x12_1).f3.f1), .slice A66003_5 ((rd_T44 l0_0 x12_1).f3.f2).length c66003_5, .slice A66003_6 ((rd_T44 l0_0 x12_1).f4).length c66003_6, .int .i64 ((rd_T44 l0_0 x12_1).f5)] 44 (0, 0)) (by (with_reducible repeat (first | refine blk_drewN ?_ _ | refine blk_drew ?_ | refine blk_alloc ?_ _)); refine blk_put (cs := #[.int .i64 ((rd_T44 l0_0 x12_1).f0), .string ((rd_T44 l0_0 x12_1).f1), .string ((rd_T44 l0_0 x12_1).f2), .int .i64 ((rd_T44 l0_0 x12_1).f3.f0), .string ((rd_T44 l0_0 x12_1).f3.f1), .slice A66003_5 ((rd_T44 l0_0 x12_1).f3.f2).length c66003_5, .slice A66003_6 ((rd_T44 l0_0 x12_1).f4).length c66003_6, .int .i64 0]) ?_ 7 _ rfl; (with_reducible repeat (first | refine blk_drewN ?_ _ | refine blk_drew ?_ | refine blk_alloc ?_ _)); refine blk_put (cs := #[.int .i64 ((rd_T44 l0_0 x12_1).f0), .string ((rd_T44 l0_0 x12_1).f1), .string ((rd_T44 l0_0 x12_1).f2), .int .i64 ((rd_T44 l0_0 x12_1).f3.f0), .string ((rd_T44 l0_0 x12_1).f3.f1), .slice A66003_5 ((rd_T44 l0_0 x12_1).f3.f2).length c66003_5, .slice none 0 0, .int .i64 0]) ?_ 6 _ rfl; (with_reducible repeat (first | refine blk_drewN ?_ _ | refine blk_drew ?_ | refine blk_alloc ?_ _)); refine blk_put (cs := #[.int .i64 ((rd_T44 l0_0 x12_1).f0), .string ((rd_T44 l0_0 x12_1).f1), .string ((rd_T44 l0_0 x12_1).f2), .int .i64 ((rd_T44 l0_0 x12_1).f3.f0), .string ((rd_T44 l0_0 x12_1).f3.f1), .slice none 0 0, .slice none 0 0, .int .i64 0]) ?_ 5 _ rfl; (with_reducible repeat (first | refine blk_drewN ?_ _ | refine blk_drew ?_ | refine blk_alloc ?_ _)); refine blk_put (cs := #[.int .i64 ((rd_T44 l0_0 x12_1).f0), .string ((rd_T44 l0_0 x12_1).f1), .string ((rd_T44 l0_0 x12_1).f2), .int .i64 ((rd_T44 l0_0 x12_1).f3.f0), .string (⟨#[]⟩ : ByteArray), .slice none 0 0, .slice none 0 0, .int .i64 0]) ?_ 4 _ rfl; (with_reducible repeat (first | refine blk_drewN ?_ _ | refine blk_drew ?_ | refine blk_alloc ?_ _)); refine blk_put (cs := #[.int .i64 ((rd_T44 l0_0 x12_1).f0), .string ((rd_T44 l0_0 x12_1).f1), .string ((rd_T44 l0_0 x12_1).f2), .int .i64 0, .string (⟨#[]⟩ : ByteArray), .slice none 0 0, .slice none 0 0, .int .i64 0]) ?_ 3 _ rfl; (with_reducible repeat (first | refine blk_drewN ?_ _ | refine blk_drew ?_ | refine blk_alloc ?_ _)); refine blk_put (cs := #[.int .i64 ((rd_T44 l0_0 x12_1).f0), .string ((rd_T44 l0_0 x12_1).f1), .string (⟨#[]⟩ : ByteArray), .int .i64 0, .string (⟨#[]⟩ : ByteArray), .slice none 0 0, .slice none 0 0, .int .i64 0]) ?_ 2 _ rfl; (with_reducible repeat (first | refine blk_drewN ?_ _ | refine blk_drew ?_ | refine blk_alloc ?_ _)); refine blk_put (cs := #[.int .i64 ((rd_T44 l0_0 x12_1).f0), .string (⟨#[]⟩ : ByteArray), .string (⟨#[]⟩ : ByteArray), .int .i64 0, .string (⟨#[]⟩ : ByteArray), .slice none 0 0, .slice none 0 0, .int .i64 0]) ?_ 1 _ rfl; (with_reducible repeat (first | refine blk_drewN ?_ _ | refine blk_drew ?_ | refine blk_alloc ?_ _)); refine blk_put (cs := #[.int .i64 0, .string (⟨#[]⟩ : ByteArray), .string (⟨#[]⟩ : ByteArray), .int .i64 0, .string (⟨#[]⟩ : ByteArray), .slice none 0 0, .slice none 0 0, .int .i64 0]) ?_ 0 _ rfl; (with_reducible repeat (first | refine blk_drewN ?_ _ | refine blk_drew ?_ | refine blk_alloc ?_ _)); exact BK66004.out) hb); have n2_ := Aside0.mk (below_step (by repeat (first | (with_reducible first | exact HB.out | apply below_alloc | apply pw_below_drewN | apply below_drew1 | refine below_set ?_ GE66001.out | refine below_set ?_ GE66004.out) | exact HB.out)) hb); clear BK66001; clear BK66004; clear HB; have BK66001 := n0_; have BK66004 := n1_; have HB := n2_; clear n0_ n1_ n2_; (try clear hb); (try clear hb2); (try clear hk); (try clear hi)))
                go_roundg k1
                case measure => have := HK1.out; omega
                case rel => exact ⟨(x3_1 ++ t66005), (wrap64 (x12_1 + 1)), (by first | rfl | (simp; done) | (simp [*]; done)), (by first | rfl | (simp; done) | (simp [*]; done)), H', ⟨by have := HK1.out; omega⟩, ⟨by (with_reducible repeat (first | refine blk_drewN ?_ _ | refine blk_drew ?_ | refine blk_alloc ?_ _)); exact BK66001.out⟩, ⟨by repeat (first | (with_reducible first | exact HB.out | apply below_alloc | apply pw_below_drewN | apply below_drew1 | refine below_set ?_ GE66001.out | refine below_set ?_ GE66004.out) | exact HB.out)⟩⟩
              · rw [if_neg c12] at H
                exact absurd H (by simp)
            · rw [if_neg c10] at H
              exact absurd H (by simp)
          · rw [if_neg c9] at H
            exact absurd H (by simp)
        · rw [if_neg c8] at H
          have c8b0 : decide (x12_1 < (l0_0.length : Int)) = false := decide_eq_false c8
          clear c8
          replace H := Option.bind_eq_some_iff.mp H
          obtain ⟨t66006, A170, H⟩ := H
          replace H : (some t66006) = some r := H
          have A17 := Aside0.mk A170
          clear A170
          obtain rfl := Option.some.inj H
          go_wp2_with (first | ((with_reducible refine gate_callee (f := 47) rfl ?_); refine goesL_ (some 22) rfl rfl Try.func47 (by kernel_rfl) rfl #[.string x3_1] rfl (by (try simp only [List.map_toArray, List.map_cons, List.map_nil]); first | done | rfl | (simp only [List.length_drop, List.length_take]; rfl)) ?_; (with_reducible refine (impl_VarsOf.calls k1 x3_1 t66006 _ A17.out).mono ?_); rintro e w' ⟨rfl, ⟨nd, rfl⟩⟩; refine ⟨_, rfl, ?_⟩))
          go_ret
          exact ⟨by first | rfl | (simp [errW_none, errW_some] <;> rfl) | (simp [*, errW_none, errW_some] <;> rfl), by repeat (first | (with_reducible first | exact HB.out | apply below_alloc | apply pw_below_drewN | apply below_drew1 | refine below_set ?_ GE66001.out) | exact HB.out)⟩
  · replace c3 := Bool.eq_false_iff.mpr c3
    subst c3
    have H1 : (some (⟨#[]⟩ : ByteArray)) = some r := by rw [if_neg (show ¬ (false = true) by decide)] at H; exact H
    clear H
    have H := H1
    clear H1
    obtain rfl := Option.some.inj H
    go_enter Try.func66, Try.ntmps66
    go_wp2_with (first | ((with_reducible refine gate_dst (N := 1) rfl ?_); refine box_event ?hg (N := 1) ?hd (cs := #[.slice A0_0 l0_0.length c0_0]) (t := 29) ?hr ?_; (case hd => rfl); (case hg => rfl); (case hr => first | (go_simp; done) | (go_simp; rfl)); intro gb66001 hg w18 hbox hb; have n0_ := Aside0.mk (below_step (by repeat (first | (with_reducible first | exact HB.out | apply below_alloc | apply pw_below_drewN | apply below_drew1) | exact HB.out)) hb); have n1_ := Aside0.mk (hbox); have n2_ := Aside0.mk ((by rw [hg]; exact (below_size (by repeat (first | (with_reducible first | exact HB.out | apply below_alloc | apply pw_below_drewN | apply below_drew1) | exact HB.out))) : w.heap.size ≤ gb66001)); have n3_ := Aside0.mk ((by rw [hg]; exact (below_size (by repeat (first | (with_reducible first | exact HB.out | apply below_alloc | apply pw_below_drewN | apply below_drew1) | exact HB.out))) : w.heap.size ≤ gb66001)); clear HB; have HB := n0_; have BK66001 := n1_; have GW66001 := n2_; have GE66001 := n3_; clear n0_ n1_ n2_ n3_; clear hb hbox hg; have hcz19_0 : w18.cell? ⟨gb66001, 0, none⟩ = some (.slice A0_0 l0_0.length c0_0) := (blk_cell BK66001.out 0).trans rfl; have hfz19_0 := blk_frozen BK66001.out 0) | ((with_reducible refine gate_callee (f := 64) rfl ?_); refine goesL_ (some 7) rfl rfl Try.func64 (by kernel_rfl) rfl #[.agg #[.slice A0_0 l0_0.length c0_0]] rfl (by (try simp only [List.map_toArray, List.map_cons, List.map_nil]); first | done | rfl | (simp only [List.length_drop, List.length_take]; rfl)) ?_; (with_reducible refine (impl_IsValidProblem.calls k _ _ l0_0 false _ ?side1 ?side2 A2.out).mono ?_); (case side1 => repeat (first | exact (Kd.C_below HR0_0.out HB.out) | (with_reducible refine Kd.C_alloc ?_ _) | (with_reducible refine Kd.C_drewN ?_ _) | (with_reducible refine Kd.C_drew ?_))); (case side2 => exact HC0_0.out); rintro e w20 ⟨rfl, hb⟩; refine ⟨_, rfl, ?_⟩; have n0_ := Aside0.mk (blk_below (g := gb66001) (o := .cells #[.slice A0_0 l0_0.length c0_0] 29 (0, 0)) (by (with_reducible repeat (first | refine blk_drewN ?_ _ | refine blk_drew ?_ | refine blk_alloc ?_ _)); exact BK66001.out) hb); have n1_ := Aside0.mk (below_step (by repeat (first | (with_reducible first | exact HB.out | apply below_alloc | apply pw_below_drewN | apply below_drew1 | refine below_set ?_ GE66001.out) | exact HB.out)) hb); clear BK66001; clear HB; have BK66001 := n0_; have HB := n1_; clear n0_ n1_; (try clear hb); (try clear hb2); (try clear hk); (try clear hi)))
    go_ret
    exact ⟨by first | rfl | (simp [errW_none, errW_some] <;> rfl) | (simp [*, errW_none, errW_some] <;> rfl), by repeat (first | (with_reducible first | exact HB.out | apply below_alloc | apply pw_below_drewN | apply below_drew1 | refine below_set ?_ GE66001.out) | exact HB.out)⟩


end Go.Proofs.Ytpppopdmnejcfaa.A


namespace Go.Proofs.Ytpppopdmnejcfaa.A
open Go.RowKit Go.Proofs.Ytpppopdmnejcfaa.Ext Go.Proofs.YtpppopdmnejcfaaW.PrintWords Go.Proofs.YtpppopdmnejcfaaW.PrintLast Go.Proofs.YtpppopdmnejcfaaW.PrintMore
attribute [local go_sem] max2_int min2_int max_two min_two max_three min_three max_four min_four   -- for this text's walks alone
set_option linter.unusedVariables false
set_option linter.unusedSimpArgs false

/-! ### impl_BoundOf: function 68 -/
def impl_BoundOf.f (k : Nat) (l0_0 : List (S44)) : Option (Int) := (impl_IsValidProblem.f k l0_0).bind fun t68002 => (if t68002 = true then ((some (([5, 5, 3, 2] : List Int) : List Int)).bind fun y68003 => ((impl_VarsOfProblem.f k l0_0).bind fun t68006 => (if 0 ≤ (t68006.size : Int) then (if (t68006.size : Int) < (y68003.length : Int) then (some (rd y68003 (t68006.size : Int))) else (none)) else (none)))) else (some (-1)))
theorem impl_BoundOf.mono : ∀ a0 k, LeO (impl_BoundOf.f k a0) (impl_BoundOf.f (k + 1) a0) := by
  intro a0 k
  unfold impl_BoundOf.f
  repeat' first
      | (with_reducible exact impl_IsValidProblem.mono _ _)
      | (with_reducible exact impl_VarsOfProblem.mono _ _)
      | (with_reducible exact LeO.refl _)
      | (with_reducible exact LeO.none _)
      | (with_reducible refine LeO.ite ?_ ?_)
      | (with_reducible refine LeO.bind ?_ (fun _ => ?_))
      | exact impl_IsValidProblem.mono _ _
      | exact impl_VarsOfProblem.mono _ _
      | exact LeO.none _
      | refine LeO.ite ?_ ?_
      | refine LeO.bind ?_ (fun _ => ?_)
set_option maxHeartbeats 8000000 in
set_option maxRecDepth 100000 in
theorem impl_BoundOf.calls (k : Nat) (A0_0 : Option Addr) (c0_0 : Nat) (l0_0 : List (S44)) (r : Int) (w : World) (hr0_0 : Kd.C k44 w A0_0 l0_0.length l0_0) (hc0_0 : l0_0.length ≤ c0_0) (h : impl_BoundOf.f k l0_0 = some r) :
    Calls Try.prog 68 #[.agg #[.slice A0_0 l0_0.length c0_0]] w fun e w' => e = .returned (.int .i64 r) ∧ Below w.heap.size w w' := by
  have hu29 := Try.underlying29
  have HR0_0 := Aside0.mk hr0_0
  have HC0_0 := Aside0.mk hc0_0
  clear hr0_0 hc0_0
  have HB := Aside0.mk (Below.refl w.heap.size w)
  have H : ((impl_IsValidProblem.f k l0_0).bind fun t68002 => (if t68002 = true then ((some (([5, 5, 3, 2] : List Int) : List Int)).bind fun y68003 => ((impl_VarsOfProblem.f k l0_0).bind fun t68006 => (if 0 ≤ (t68006.size : Int) then (if (t68006.size : Int) < (y68003.length : Int) then (some (rd y68003 (t68006.size : Int))) else (none)) else (none)))) else (some (-1)))) = some r := h
  clear h
  replace H := Option.bind_eq_some_iff.mp H
  obtain ⟨t68002, A20, H⟩ := H
  replace H : (if t68002 = true then ((some (([5, 5, 3, 2] : List Int) : List Int)).bind fun y68003 => ((impl_VarsOfProblem.f k l0_0).bind fun t68006 => (if 0 ≤ (t68006.size : Int) then (if (t68006.size : Int) < (y68003.length : Int) then (some (rd y68003 (t68006.size : Int))) else (none)) else (none)))) else (some (-1))) = some r := H
  have A2 := Aside0.mk A20
  clear A20
  by_cases c3 : t68002 = true
  · subst c3
    have H1 : ((some (([5, 5, 3, 2] : List Int) : List Int)).bind fun y68003 => ((impl_VarsOfProblem.f k l0_0).bind fun t68006 => (if 0 ≤ (t68006.size : Int) then (if (t68006.size : Int) < (y68003.length : Int) then (some (rd y68003 (t68006.size : Int))) else (none)) else (none)))) = some r := by rw [if_pos rfl] at H; exact H
    clear H
    have H := H1
    clear H1
    obtain ⟨y68003, hy68003⟩ : ∃ y_ : List Int, y_ = (([5, 5, 3, 2] : List Int)) := ⟨_, rfl⟩
    replace H : ((impl_VarsOfProblem.f k l0_0).bind fun t68006 => (if 0 ≤ (t68006.size : Int) then (if (t68006.size : Int) < (y68003.length : Int) then (some (rd y68003 (t68006.size : Int))) else (none)) else (none))) = some r := by first | (rw [hy68003]; with_reducible exact H) | (have H2_ := (Option.bind_some _ _).symm.trans H; rw [hy68003]; with_reducible exact H2_) | (have H2_ := (Option.bind_some _ _).symm.trans H; with_reducible exact H2_) | with_reducible exact H | (rw [hy68003]; exact H) | exact H
    have Ny68003 := Aside0.mk hy68003
    clear hy68003
    replace H := Option.bind_eq_some_iff.mp H
    obtain ⟨t68006, A40, H⟩ := H
    replace H : (if 0 ≤ (t68006.size : Int) then (if (t68006.size : Int) < (y68003.length : Int) then (some (rd y68003 (t68006.size : Int))) else (none)) else (none)) = some r := H
    have A4 := Aside0.mk A40
    clear A40
    by_cases c5 : 0 ≤ (t68006.size : Int)
    · rw [if_pos c5] at H
      have c5b0 : decide (0 ≤ (t68006.size : Int)) = true := decide_eq_true c5
      have c5b1 : decide (0 ≤ t68006.size) = true := decide_eq_true (by omega)
      clear c5
      by_cases c6 : (t68006.size : Int) < (y68003.length : Int)
      · rw [if_pos c6] at H
        have c6b0 : decide ((t68006.size : Int) < (y68003.length : Int)) = true := decide_eq_true c6
        have c6b1 : decide (t68006.size < y68003.length) = true := decide_eq_true (Int.ofNat_lt.mp c6)
        clear c6
        obtain rfl := Option.some.inj H
        go_enter Try.func68, Try.ntmps68
        go_wp2_with (first | ((with_reducible refine gate_dst (N := 1) rfl ?_); refine box_event ?hg (N := 1) ?hd (cs := #[.slice A0_0 l0_0.length c0_0]) (t := 29) ?hr ?_; (case hd => rfl); (case hg => rfl); (case hr => first | (go_simp; done) | (go_simp; rfl)); intro gb68001 hg w7 hbox hb; have n0_ := Aside0.mk (below_step (by repeat (first | (with_reducible first | exact HB.out | apply below_alloc | apply pw_below_drewN | apply below_drew1) | exact HB.out)) hb); have n1_ := Aside0.mk (hbox); have n2_ := Aside0.mk ((by rw [hg]; exact (below_size (by repeat (first | (with_reducible first | exact HB.out | apply below_alloc | apply pw_below_drewN | apply below_drew1) | exact HB.out))) : w.heap.size ≤ gb68001)); have n3_ := Aside0.mk ((by rw [hg]; exact (below_size (by repeat (first | (with_reducible first | exact HB.out | apply below_alloc | apply pw_below_drewN | apply below_drew1) | exact HB.out))) : w.heap.size ≤ gb68001)); clear HB; have HB := n0_; have BK68001 := n1_; have GW68001 := n2_; have GE68001 := n3_; clear n0_ n1_ n2_ n3_; clear hb hbox hg; have hcz8_0 : w7.cell? ⟨gb68001, 0, none⟩ = some (.slice A0_0 l0_0.length c0_0) := (blk_cell BK68001.out 0).trans rfl; have hfz8_0 := blk_frozen BK68001.out 0) | ((with_reducible refine gate_callee (f := 64) rfl ?_); refine goesL_ (some 4) rfl rfl Try.func64 (by kernel_rfl) rfl #[.agg #[.slice A0_0 l0_0.length c0_0]] rfl (by (try simp only [List.map_toArray, List.map_cons, List.map_nil]); first | done | rfl | (simp only [List.length_drop, List.length_take]; rfl)) ?_; (with_reducible refine (impl_IsValidProblem.calls k _ _ l0_0 true _ ?side1 ?side2 A2.out).mono ?_); (case side1 => repeat (first | exact (Kd.C_below HR0_0.out HB.out) | (with_reducible refine Kd.C_alloc ?_ _) | (with_reducible refine Kd.C_drewN ?_ _) | (with_reducible refine Kd.C_drew ?_))); (case side2 => exact HC0_0.out); rintro e w9 ⟨rfl, hb⟩; refine ⟨_, rfl, ?_⟩; have n0_ := Aside0.mk (blk_below (g := gb68001) (o := .cells #[.slice A0_0 l0_0.length c0_0] 29 (0, 0)) (by (with_reducible repeat (first | refine blk_drewN ?_ _ | refine blk_drew ?_ | refine blk_alloc ?_ _)); exact BK68001.out) hb); have n1_ := Aside0.mk (below_step (by repeat (first | (with_reducible first | exact HB.out | apply below_alloc | apply pw_below_drewN | apply below_drew1 | refine below_set ?_ GE68001.out) | exact HB.out)) hb); clear BK68001; clear HB; have BK68001 := n0_; have HB := n1_; clear n0_ n1_; (try clear hb); (try clear hb2); (try clear hk); (try clear hi)) | ((with_reducible refine gate_dst (N := 6) rfl ?_); refine Kd.R_lit (Kd.int .i64) _ 3 ?hg (N := 6) ?hd (xs := ([5, 5, 3, 2] : List Int)) (inner := [.int .i64 5, .int .i64 5, .int .i64 3, .int .i64 2]) (ok := fun _ => True) (okp := fun _ => True) ?hr ?hp (fun _ hk => hk) trivial (Below.refl _ _) (Nat.le_refl _) (by simp) ?_; (case hd => rfl); (case hg => rfl); (case hr => first | (go_simp; done) | (go_simp; rfl)); (case hp => exact (Reps.one (show Kd.M (Kd.int .i64) _ _ _ 5 [.int .i64 5] from rfl) (Reps.one (show Kd.M (Kd.int .i64) _ _ _ 5 [.int .i64 5] from rfl) (Reps.one (show Kd.M (Kd.int .i64) _ _ _ 3 [.int .i64 3] from rfl) (Reps.one (show Kd.M (Kd.int .i64) _ _ _ 2 [.int .i64 2] from rfl) (Reps.none _ _)))))); intro v68004 w10 ho11 hb hg_ hnew_; clear hg_ hnew_; (first | rw [← Ny68003.out] at ho11 | (simp only [Int.reduceToNat] at ho11; rw [← Ny68003.out] at ho11)); have n0_ := Aside0.mk (Kd.R_lower ho11 (below_size (by repeat (first | (with_reducible first | exact HB.out | apply below_alloc | apply pw_below_drewN | apply below_drew1 | refine below_set ?_ GE68001.out) | exact HB.out)))); have n1_ := Aside0.mk (blk_below (g := gb68001) (o := .cells #[.slice A0_0 l0_0.length c0_0] 29 (0, 0)) (by (with_reducible repeat (first | refine blk_drewN ?_ _ | refine blk_drew ?_ | refine blk_alloc ?_ _)); exact BK68001.out) hb); have n2_ := Aside0.mk (below_step (by repeat (first | (with_reducible first | exact HB.out | apply below_alloc | apply pw_below_drewN | apply below_drew1 | refine below_set ?_ GE68001.out) | exact HB.out)) hb); clear BK68001; clear HB; have HO68005 := n0_; have BK68001 := n1_; have HB := n2_; clear n0_ n1_ n2_; clear hb ho11; have hcz12_0 : w10.cell? ⟨gb68001, 0, none⟩ = some (.slice A0_0 l0_0.length c0_0) := (blk_cell BK68001.out 0).trans rfl; have hfz12_0 := blk_frozen BK68001.out 0) | ((with_reducible refine gate_callee (f := 66) rfl ?_); refine goesL_ (some 8) rfl rfl Try.func66 (by kernel_rfl) rfl #[.agg #[.slice A0_0 l0_0.length c0_0]] rfl (by (try simp only [List.map_toArray, List.map_cons, List.map_nil]); first | done | rfl | (simp only [List.length_drop, List.length_take]; rfl)) ?_; (with_reducible refine (impl_VarsOfProblem.calls k _ _ l0_0 t68006 _ ?side1 ?side2 A4.out).mono ?_); (case side1 => repeat (first | exact (Kd.C_below HR0_0.out HB.out) | (with_reducible refine Kd.C_alloc ?_ _) | (with_reducible refine Kd.C_drewN ?_ _) | (with_reducible refine Kd.C_drew ?_))); (case side2 => exact HC0_0.out); rintro e w13 ⟨rfl, hb⟩; refine ⟨_, rfl, ?_⟩; have n0_ := Aside0.mk (Kd.R_below (by (with_reducible repeat (first | apply Kd.R_alloc | apply Kd.R_drewN | apply Kd.R_drew)); exact HO68005.out) hb); have n1_ := Aside0.mk (blk_below (g := gb68001) (o := .cells #[.slice A0_0 l0_0.length c0_0] 29 (0, 0)) (by (with_reducible repeat (first | refine blk_drewN ?_ _ | refine blk_drew ?_ | refine blk_alloc ?_ _)); exact BK68001.out) hb); have n2_ := Aside0.mk (below_step (by repeat (first | (with_reducible first | exact HB.out | apply below_alloc | apply pw_below_drewN | apply below_drew1 | refine below_set ?_ GE68001.out) | exact HB.out)) hb); clear HO68005; clear BK68001; clear HB; have HO68005 := n0_; have BK68001 := n1_; have HB := n2_; clear n0_ n1_ n2_; (try clear hb); (try clear hb2); (try clear hk); (try clear hi); obtain ⟨Ao14, co14, eo14⟩ := Kd.R_slice HO68005.out; subst eo14; have p68007 : 0 ≤ ((t68006.size : Int) : Int) := of_decide_eq_true (by first | (with_reducible assumption) | assumption); have q68007 : (t68006.size : Int) < (y68003.length : Int) := of_decide_eq_true (by first | (with_reducible assumption) | assumption); obtain ⟨ad68007, e68007, hx68007_0⟩ := Kd.at_int (Kd.R_reads' HO68005.out).2.2 (t68006.size : Int) p68007 q68007; (try simp only [Int.toNat_natCast] at hx68007_0); cases e68007; replace p68007 := eq_true p68007; replace q68007 := eq_true q68007))
        go_ret
        exact ⟨by first | rfl | (simp [errW_none, errW_some] <;> rfl) | (simp [*, errW_none, errW_some] <;> rfl), by repeat (first | (with_reducible first | exact HB.out | apply below_alloc | apply pw_below_drewN | apply below_drew1 | refine below_set ?_ GE68001.out) | exact HB.out)⟩
      · rw [if_neg c6] at H
        exact absurd H (by simp)
    · rw [if_neg c5] at H
      exact absurd H (by simp)
  · replace c3 := Bool.eq_false_iff.mpr c3
    subst c3
    have H1 : (some (-1)) = some r := by rw [if_neg (show ¬ (false = true) by decide)] at H; exact H
    clear H
    have H := H1
    clear H1
    obtain rfl := Option.some.inj H
    go_enter Try.func68, Try.ntmps68
    go_wp2_with (first | ((with_reducible refine gate_dst (N := 1) rfl ?_); refine box_event ?hg (N := 1) ?hd (cs := #[.slice A0_0 l0_0.length c0_0]) (t := 29) ?hr ?_; (case hd => rfl); (case hg => rfl); (case hr => first | (go_simp; done) | (go_simp; rfl)); intro gb68001 hg w15 hbox hb; have n0_ := Aside0.mk (below_step (by repeat (first | (with_reducible first | exact HB.out | apply below_alloc | apply pw_below_drewN | apply below_drew1) | exact HB.out)) hb); have n1_ := Aside0.mk (hbox); have n2_ := Aside0.mk ((by rw [hg]; exact (below_size (by repeat (first | (with_reducible first | exact HB.out | apply below_alloc | apply pw_below_drewN | apply below_drew1) | exact HB.out))) : w.heap.size ≤ gb68001)); have n3_ := Aside0.mk ((by rw [hg]; exact (below_size (by repeat (first | (with_reducible first | exact HB.out | apply below_alloc | apply pw_below_drewN | apply below_drew1) | exact HB.out))) : w.heap.size ≤ gb68001)); clear HB; have HB := n0_; have BK68001 := n1_; have GW68001 := n2_; have GE68001 := n3_; clear n0_ n1_ n2_ n3_; clear hb hbox hg; have hcz16_0 : w15.cell? ⟨gb68001, 0, none⟩ = some (.slice A0_0 l0_0.length c0_0) := (blk_cell BK68001.out 0).trans rfl; have hfz16_0 := blk_frozen BK68001.out 0) | ((with_reducible refine gate_callee (f := 64) rfl ?_); refine goesL_ (some 4) rfl rfl Try.func64 (by kernel_rfl) rfl #[.agg #[.slice A0_0 l0_0.length c0_0]] rfl (by (try simp only [List.map_toArray, List.map_cons, List.map_nil]); first | done | rfl | (simp only [List.length_drop, List.length_take]; rfl)) ?_; (with_reducible refine (impl_IsValidProblem.calls k _ _ l0_0 false _ ?side1 ?side2 A2.out).mono ?_); (case side1 => repeat (first | exact (Kd.C_below HR0_0.out HB.out) | (with_reducible refine Kd.C_alloc ?_ _) | (with_reducible refine Kd.C_drewN ?_ _) | (with_reducible refine Kd.C_drew ?_))); (case side2 => exact HC0_0.out); rintro e w17 ⟨rfl, hb⟩; refine ⟨_, rfl, ?_⟩; have n0_ := Aside0.mk (blk_below (g := gb68001) (o := .cells #[.slice A0_0 l0_0.length c0_0] 29 (0, 0)) (by (with_reducible repeat (first | refine blk_drewN ?_ _ | refine blk_drew ?_ | refine blk_alloc ?_ _)); exact BK68001.out) hb); have n1_ := Aside0.mk (below_step (by repeat (first | (with_reducible first | exact HB.out | apply below_alloc | apply pw_below_drewN | apply below_drew1 | refine below_set ?_ GE68001.out) | exact HB.out)) hb); clear BK68001; clear HB; have BK68001 := n0_; have HB := n1_; clear n0_ n1_; (try clear hb); (try clear hb2); (try clear hk); (try clear hi)))
    go_ret
    exact ⟨by first | rfl | (simp [errW_none, errW_some] <;> rfl) | (simp [*, errW_none, errW_some] <;> rfl), by repeat (first | (with_reducible first | exact HB.out | apply below_alloc | apply pw_below_drewN | apply below_drew1 | refine below_set ?_ GE68001.out) | exact HB.out)⟩


end Go.Proofs.Ytpppopdmnejcfaa.A

