/- FnExactMovesOf: what its proof needs, put together by this session's program wip/merge.py out of the texts that wip/xp.py printed and of this session's own. -/
import Derived.Test.YtgllnohlocfeoaaQFnExactMovesOf2
namespace Go.Proofs.Ytgllnohlocfeoaa.A
open Go.RowKit Go.Proofs.Ytgllnohlocfeoaa.Ext Go.Proofs.YtgllnohlocfeoaaW.PrintWords Go.Proofs.YtgllnohlocfeoaaW.PrintLast Go.Proofs.YtgllnohlocfeoaaW.PrintMore
attribute [local go_sem] max2_int min2_int max_two min_two max_three min_three max_four min_four   -- for this text's walks alone
set_option linter.unusedVariables false
set_option linter.unusedSimpArgs false

/-! ### impl_MovesOf: function 13 -/
mutual
def impl_MovesOf.j0 : Nat → Bool → ByteArray → ByteArray → Option ((List (S58)))
  | 0, _, _, _ => none
  | k + 1, x19, x13002000, x13002001 => if x19 = true then (some ([] : List (S58))) else (if x13002000.toList = ([] : List UInt8) then (impl_MovesOf.j1 k true x13002000 x13002001) else (impl_MovesOf.j1 k (x13002001.toList == ([] : List UInt8)) x13002000 x13002001))
def impl_MovesOf.j1 : Nat → Bool → ByteArray → ByteArray → Option ((List (S58)))
  | 0, _, _, _ => none
  | k + 1, x27, x13002000, x13002001 => if x27 = true then (if x13002000.size + x13002001.size ≤ 9223372036854775807 then (if 0 < ((x13002000 ++ x13002001).size : Int) then (some (([(⟨bt (x13002000 ++ x13002001) 0, (⟨#[]⟩ : ByteArray)⟩ : S58)] : List (S58)))) else (none)) else (none)) else (if 0 < (x13002000.size : Int) then (if 0 < (x13002001.size : Int) then ((some (([(⟨bt x13002000 0, bt x13002001 0⟩ : S60), (⟨bt x13002001 0, bt x13002000 0⟩ : S60)] : List (S60)) : List (S60))).bind fun y13011 => (impl_MovesOf.l0 k (([] : List (S58))) y13011 (y13011.length : Int) 0)) else (none)) else (none))
def impl_MovesOf.l0 : Nat → List (S58) → List (S60) → Int → Int → Option ((List (S58)))
  | 0, _, _, _, _ => none
  | k + 1, x5, x49, x50, x51 => if x51 < x50 then (if 0 ≤ x51 then (if x51 < (x49.length : Int) then ((impl_isVariable.f ((rd_T60 x49 x51).f0)).bind fun t13016 => (if t13016 = true then (if x5.length < 5864062014805 then ((some (x5 ++ [(⟨(rd_T60 x49 x51).f0, (⟨#[]⟩ : ByteArray)⟩ : S58)] : List (S58))).bind fun y13017 => ((impl_isVariable.f ((rd_T60 x49 x51).f1)).bind fun t13020 => (if t13020 = true then (if y13017.length < 5864062014805 then (impl_MovesOf.l0 k (y13017 ++ [(⟨(rd_T60 x49 x51).f0, strOfNums (([(rd_T60 x49 x51).f1, (rd_T60 x49 x51).f0] : List Int))⟩ : S58)]) x49 x50 (wrap64 (x51 + 1))) else (none)) else ((impl_LetterIndex.f ((rd_T60 x49 x51).f1)).bind fun t13027 => (if t13027 ≥ 0 then (if y13017.length < 5864062014805 then (impl_MovesOf.l0 k (y13017 ++ [(⟨(rd_T60 x49 x51).f0, strOfNums (([(rd_T60 x49 x51).f1, (rd_T60 x49 x51).f0] : List Int))⟩ : S58)]) x49 x50 (wrap64 (x51 + 1))) else (none)) else (impl_MovesOf.l0 k y13017 x49 x50 (wrap64 (x51 + 1)))))))) else (none)) else (impl_MovesOf.l0 k x5 x49 x50 (wrap64 (x51 + 1))))) else (none)) else (none)) else (some x5)
end
def impl_MovesOf.f (k : Nat) (a0_0 : ByteArray) (a0_1 : ByteArray) : Option ((List (S58))) := (impl_StripEquation.f k a0_0 a0_1).bind fun bt13002 => (if bt13002.1.size + bt13002.2.size ≤ 9223372036854775807 then (if (bt13002.1 ++ bt13002.2).toList = ([] : List UInt8) then (impl_MovesOf.j0 k true bt13002.1 bt13002.2) else ((impl_IsClash.f k bt13002.1 bt13002.2).bind fun t13004 => (impl_MovesOf.j0 k t13004 bt13002.1 bt13002.2))) else (none))
theorem impl_MovesOf.mono_l : ∀ k, (∀ y0 y1 y2, LeO (impl_MovesOf.j0 k y0 y1 y2) (impl_MovesOf.j0 (k + 1) y0 y1 y2)) ∧ (∀ y0 y1 y2, LeO (impl_MovesOf.j1 k y0 y1 y2) (impl_MovesOf.j1 (k + 1) y0 y1 y2)) ∧ (∀ y0 y1 y2 y3, LeO (impl_MovesOf.l0 k y0 y1 y2 y3) (impl_MovesOf.l0 (k + 1) y0 y1 y2 y3))
  | 0 => ⟨fun _ _ _ r h => by simp [impl_MovesOf.j0] at h, fun _ _ _ r h => by simp [impl_MovesOf.j1] at h, fun _ _ _ _ r h => by simp [impl_MovesOf.l0] at h⟩
  | k + 1 => by
    obtain ⟨ih0, ih1, ih2⟩ := impl_MovesOf.mono_l k
    refine ⟨?_, ?_, ?_⟩
    · intro y0 y1 y2
      unfold impl_MovesOf.j0
      repeat' first
      | (with_reducible exact ih0 _ _ _)
      | (with_reducible exact ih1 _ _ _)
      | (with_reducible exact ih2 _ _ _ _)
      | (with_reducible exact impl_IsClash.mono _ _ _)
      | (with_reducible exact impl_StripEquation.mono _ _ _)
      | (with_reducible exact LeO.refl _)
      | (with_reducible exact LeO.none _)
      | (with_reducible refine LeO.ite ?_ ?_)
      | (with_reducible refine LeO.bind ?_ (fun _ => ?_))
      | exact ih0 _ _ _
      | exact ih1 _ _ _
      | exact ih2 _ _ _ _
      | exact impl_IsClash.mono _ _ _
      | exact impl_StripEquation.mono _ _ _
      | exact LeO.none _
      | refine LeO.ite ?_ ?_
      | refine LeO.bind ?_ (fun _ => ?_)
    · intro y0 y1 y2
      unfold impl_MovesOf.j1
      repeat' first
      | (with_reducible exact ih0 _ _ _)
      | (with_reducible exact ih1 _ _ _)
      | (with_reducible exact ih2 _ _ _ _)
      | (with_reducible exact impl_IsClash.mono _ _ _)
      | (with_reducible exact impl_StripEquation.mono _ _ _)
      | (with_reducible exact LeO.refl _)
      | (with_reducible exact LeO.none _)
      | (with_reducible refine LeO.ite ?_ ?_)
      | (with_reducible refine LeO.bind ?_ (fun _ => ?_))
      | exact ih0 _ _ _
      | exact ih1 _ _ _
      | exact ih2 _ _ _ _
      | exact impl_IsClash.mono _ _ _
      | exact impl_StripEquation.mono _ _ _
      | exact LeO.none _
      | refine LeO.ite ?_ ?_
      | refine LeO.bind ?_ (fun _ => ?_)
    · intro y0 y1 y2 y3
      unfold impl_MovesOf.l0
      repeat' first
      | (with_reducible exact ih0 _ _ _)
      | (with_reducible exact ih1 _ _ _)
      | (with_reducible exact ih2 _ _ _ _)
      | (with_reducible exact impl_IsClash.mono _ _ _)
      | (with_reducible exact impl_StripEquation.mono _ _ _)
      | (with_reducible exact LeO.refl _)
      | (with_reducible exact LeO.none _)
      | (with_reducible refine LeO.ite ?_ ?_)
      | (with_reducible refine LeO.bind ?_ (fun _ => ?_))
      | exact ih0 _ _ _
      | exact ih1 _ _ _
      | exact ih2 _ _ _ _
      | exact impl_IsClash.mono _ _ _
      | exact impl_StripEquation.mono _ _ _
      | exact LeO.none _
      | refine LeO.ite ?_ ?_
      | refine LeO.bind ?_ (fun _ => ?_)
theorem impl_MovesOf.mono : ∀ a0 a1 k, LeO (impl_MovesOf.f k a0 a1) (impl_MovesOf.f (k + 1) a0 a1) := by
  intro a0 a1 k
  obtain ⟨ih0, ih1, ih2⟩ := impl_MovesOf.mono_l k
  unfold impl_MovesOf.f
  repeat' first
      | (with_reducible exact ih0 _ _ _)
      | (with_reducible exact ih1 _ _ _)
      | (with_reducible exact ih2 _ _ _ _)
      | (with_reducible exact impl_IsClash.mono _ _ _)
      | (with_reducible exact impl_StripEquation.mono _ _ _)
      | (with_reducible exact LeO.refl _)
      | (with_reducible exact LeO.none _)
      | (with_reducible refine LeO.ite ?_ ?_)
      | (with_reducible refine LeO.bind ?_ (fun _ => ?_))
      | exact ih0 _ _ _
      | exact ih1 _ _ _
      | exact ih2 _ _ _ _
      | exact impl_IsClash.mono _ _ _
      | exact impl_StripEquation.mono _ _ _
      | exact LeO.none _
      | refine LeO.ite ?_ ?_
      | refine LeO.bind ?_ (fun _ => ?_)
set_option maxHeartbeats 8000000 in
set_option maxRecDepth 100000 in
theorem impl_MovesOf.calls (k : Nat) (a0_0 : ByteArray) (a0_1 : ByteArray) (r : List (S58)) (w : World) (h : impl_MovesOf.f k a0_0 a0_1 = some r) :
    Calls Try.prog 13 #[.agg #[.string a0_0, .string a0_1]] w fun e w' => ∃ v0_ : Value, e = .returned (v0_) ∧ Kd.R k58 58 w' w.heap.size (fun _ => True) v0_ r ∧ Below w.heap.size w w' := by
  have hu34 := Try.underlying34
  have hu58 := Try.underlying58
  have hu60 := Try.underlying60
  have HB := Aside0.mk (Below.refl w.heap.size w)
  have H : ((impl_StripEquation.f k a0_0 a0_1).bind fun bt13002 => (if bt13002.1.size + bt13002.2.size ≤ 9223372036854775807 then (if (bt13002.1 ++ bt13002.2).toList = ([] : List UInt8) then (impl_MovesOf.j0 k true bt13002.1 bt13002.2) else ((impl_IsClash.f k bt13002.1 bt13002.2).bind fun t13004 => (impl_MovesOf.j0 k t13004 bt13002.1 bt13002.2))) else (none))) = some r := h
  clear h
  replace H := Option.bind_eq_some_iff.mp H
  obtain ⟨⟨t13002, t13003⟩, A20, H⟩ := H
  replace H : (if t13002.size + t13003.size ≤ 9223372036854775807 then (if (t13002 ++ t13003).toList = ([] : List UInt8) then (impl_MovesOf.j0 k true t13002 t13003) else ((impl_IsClash.f k t13002 t13003).bind fun t13004 => (impl_MovesOf.j0 k t13004 t13002 t13003))) else (none)) = some r := H
  have A2 := Aside0.mk A20
  clear A20
  have HC3 := Aside0.mk H
  clear H
  go_enter Try.func13, Try.ntmps13
  go_upto_region 2 with (first | ((with_reducible refine gate_dst (N := 1) rfl ?_); refine box_event ?hg (N := 1) ?hd (cs := #[.string a0_0, .string a0_1]) (t := 34) ?hr ?_; (case hd => rfl); (case hg => rfl); (case hr => first | (go_simp; done) | (go_simp; rfl)); intro gb13001 hg w4 hbox hb; have n0_ := Aside0.mk (below_step (by repeat (first | (with_reducible first | exact HB.out | apply below_alloc | apply pw_below_drewN | apply below_drew1) | exact HB.out)) hb); have n1_ := Aside0.mk (hbox); have n2_ := Aside0.mk ((by rw [hg]; exact (below_size (by repeat (first | (with_reducible first | exact HB.out | apply below_alloc | apply pw_below_drewN | apply below_drew1) | exact HB.out))) : w.heap.size ≤ gb13001)); have n3_ := Aside0.mk ((by rw [hg]; exact (below_size (by repeat (first | (with_reducible first | exact HB.out | apply below_alloc | apply pw_below_drewN | apply below_drew1) | exact HB.out))) : w.heap.size ≤ gb13001)); clear HB; have HB := n0_; have BK13001 := n1_; have GW13001 := n2_; have GE13001 := n3_; clear n0_ n1_ n2_ n3_; clear hb hbox hg; have hcz5_0 : w4.cell? ⟨gb13001, 0, none⟩ = some (.string a0_0) := (blk_cell BK13001.out 0).trans rfl; have hcz5_1 : w4.cell? ⟨gb13001, 1, none⟩ = some (.string a0_1) := (blk_cell BK13001.out 1).trans rfl; have hfz5_0 := blk_frozen BK13001.out 0; have hfz5_1 := blk_frozen BK13001.out 1) | (go_at_call 31; (with_reducible refine (impl_StripEquation.calls k a0_0 a0_1 t13002 t13003 _ A2.out).mono ?_); rintro e w6 ⟨rfl, hb⟩; have n0_ := Aside0.mk (blk_below (g := gb13001) (o := .cells #[.string a0_0, .string a0_1] 34 (0, 0)) (by (with_reducible repeat (first | refine blk_drewN ?_ _ | refine blk_drew ?_ | refine blk_alloc ?_ _)); exact BK13001.out) hb); have n1_ := Aside0.mk (below_step (by repeat (first | (with_reducible first | exact HB.out | apply below_alloc | apply pw_below_drewN | apply below_drew1 | refine below_set ?_ GE13001.out) | exact HB.out)) hb); clear BK13001; clear HB; have BK13001 := n0_; have HB := n1_; clear n0_ n1_; (try clear hb); (try clear hb2); (try clear hk); (try clear hi); have hcz7_0 : w6.cell? ⟨gb13001, 0, none⟩ = some (.string a0_0) := (blk_cell BK13001.out 0).trans rfl; have hcz7_1 : w6.cell? ⟨gb13001, 1, none⟩ = some (.string a0_1) := (blk_cell BK13001.out 1).trans rfl; have hfz7_0 := blk_frozen BK13001.out 0; have hfz7_1 := blk_frozen BK13001.out 1))
  repeat (go_quiet (first | ((with_reducible refine gate_dst (N := 1) rfl ?_); refine box_event ?hg (N := 1) ?hd (cs := #[.string a0_0, .string a0_1]) (t := 34) ?hr ?_; (case hd => rfl); (case hg => rfl); (case hr => first | (go_simp; done) | (go_simp; rfl)); intro gb13001 hg w4 hbox hb; have n0_ := Aside0.mk (below_step (by repeat (first | (with_reducible first | exact HB.out | apply below_alloc | apply pw_below_drewN | apply below_drew1) | exact HB.out)) hb); have n1_ := Aside0.mk (hbox); have n2_ := Aside0.mk ((by rw [hg]; exact (below_size (by repeat (first | (with_reducible first | exact HB.out | apply below_alloc | apply pw_below_drewN | apply below_drew1) | exact HB.out))) : w.heap.size ≤ gb13001)); have n3_ := Aside0.mk ((by rw [hg]; exact (below_size (by repeat (first | (with_reducible first | exact HB.out | apply below_alloc | apply pw_below_drewN | apply below_drew1) | exact HB.out))) : w.heap.size ≤ gb13001)); clear HB; have HB := n0_; have BK13001 := n1_; have GW13001 := n2_; have GE13001 := n3_; clear n0_ n1_ n2_ n3_; clear hb hbox hg; have hcz5_0 : w4.cell? ⟨gb13001, 0, none⟩ = some (.string a0_0) := (blk_cell BK13001.out 0).trans rfl; have hcz5_1 : w4.cell? ⟨gb13001, 1, none⟩ = some (.string a0_1) := (blk_cell BK13001.out 1).trans rfl; have hfz5_0 := blk_frozen BK13001.out 0; have hfz5_1 := blk_frozen BK13001.out 1) | (go_at_call 31; (with_reducible refine (impl_StripEquation.calls k a0_0 a0_1 t13002 t13003 _ A2.out).mono ?_); rintro e w6 ⟨rfl, hb⟩; have n0_ := Aside0.mk (blk_below (g := gb13001) (o := .cells #[.string a0_0, .string a0_1] 34 (0, 0)) (by (with_reducible repeat (first | refine blk_drewN ?_ _ | refine blk_drew ?_ | refine blk_alloc ?_ _)); exact BK13001.out) hb); have n1_ := Aside0.mk (below_step (by repeat (first | (with_reducible first | exact HB.out | apply below_alloc | apply pw_below_drewN | apply below_drew1 | refine below_set ?_ GE13001.out) | exact HB.out)) hb); clear BK13001; clear HB; have BK13001 := n0_; have HB := n1_; clear n0_ n1_; (try clear hb); (try clear hb2); (try clear hk); (try clear hi); have hcz7_0 : w6.cell? ⟨gb13001, 0, none⟩ = some (.string a0_0) := (blk_cell BK13001.out 0).trans rfl; have hcz7_1 : w6.cell? ⟨gb13001, 1, none⟩ = some (.string a0_1) := (blk_cell BK13001.out 1).trans rfl; have hfz7_0 := blk_frozen BK13001.out 0; have hfz7_1 := blk_frozen BK13001.out 1)); go_upto_region 2 with (first | ((with_reducible refine gate_dst (N := 1) rfl ?_); refine box_event ?hg (N := 1) ?hd (cs := #[.string a0_0, .string a0_1]) (t := 34) ?hr ?_; (case hd => rfl); (case hg => rfl); (case hr => first | (go_simp; done) | (go_simp; rfl)); intro gb13001 hg w4 hbox hb; have n0_ := Aside0.mk (below_step (by repeat (first | (with_reducible first | exact HB.out | apply below_alloc | apply pw_below_drewN | apply below_drew1) | exact HB.out)) hb); have n1_ := Aside0.mk (hbox); have n2_ := Aside0.mk ((by rw [hg]; exact (below_size (by repeat (first | (with_reducible first | exact HB.out | apply below_alloc | apply pw_below_drewN | apply below_drew1) | exact HB.out))) : w.heap.size ≤ gb13001)); have n3_ := Aside0.mk ((by rw [hg]; exact (below_size (by repeat (first | (with_reducible first | exact HB.out | apply below_alloc | apply pw_below_drewN | apply below_drew1) | exact HB.out))) : w.heap.size ≤ gb13001)); clear HB; have HB := n0_; have BK13001 := n1_; have GW13001 := n2_; have GE13001 := n3_; clear n0_ n1_ n2_ n3_; clear hb hbox hg; have hcz5_0 : w4.cell? ⟨gb13001, 0, none⟩ = some (.string a0_0) := (blk_cell BK13001.out 0).trans rfl; have hcz5_1 : w4.cell? ⟨gb13001, 1, none⟩ = some (.string a0_1) := (blk_cell BK13001.out 1).trans rfl; have hfz5_0 := blk_frozen BK13001.out 0; have hfz5_1 := blk_frozen BK13001.out 1) | (go_at_call 31; (with_reducible refine (impl_StripEquation.calls k a0_0 a0_1 t13002 t13003 _ A2.out).mono ?_); rintro e w6 ⟨rfl, hb⟩; have n0_ := Aside0.mk (blk_below (g := gb13001) (o := .cells #[.string a0_0, .string a0_1] 34 (0, 0)) (by (with_reducible repeat (first | refine blk_drewN ?_ _ | refine blk_drew ?_ | refine blk_alloc ?_ _)); exact BK13001.out) hb); have n1_ := Aside0.mk (below_step (by repeat (first | (with_reducible first | exact HB.out | apply below_alloc | apply pw_below_drewN | apply below_drew1 | refine below_set ?_ GE13001.out) | exact HB.out)) hb); clear BK13001; clear HB; have BK13001 := n0_; have HB := n1_; clear n0_ n1_; (try clear hb); (try clear hb2); (try clear hk); (try clear hi); have hcz7_0 : w6.cell? ⟨gb13001, 0, none⟩ = some (.string a0_0) := (blk_cell BK13001.out 0).trans rfl; have hcz7_1 : w6.cell? ⟨gb13001, 1, none⟩ = some (.string a0_1) := (blk_cell BK13001.out 1).trans rfl; have hfz7_0 := blk_frozen BK13001.out 0; have hfz7_1 := blk_frozen BK13001.out 1)))
  (try simp only [Act.put, List.setIfInBounds_toArray, List.set_cons_zero, List.set_cons_succ])
  go_cut [19] (fun v19 wc => ∃ (kq : Nat) (x19_2 : Bool), v19 = .bool x19_2 ∧ Aside0 (impl_MovesOf.j0 kq x19_2 t13002 t13003 = some r) ∧ Aside0 (kq ≤ k) ∧ Aside0 (wc.heap[gb13001]? = some (.cells #[.string t13002, .string t13003] 34 (0, 0))) ∧ Aside0 (Below w.heap.size w wc))
  case first =>
    have H := HC3.out
    clear HC3
    by_cases c8 : t13002.size + t13003.size ≤ 9223372036854775807
    · rw [if_pos c8] at H
      have c8z := c8
      try simp at c8z
      try replace c8z := eq_false (Nat.not_lt.2 c8z)
      have c8b0 := eq_true c8
      have c8b1 : decide (t13002.size + t13003.size ≤ 9223372036854775807) = true := decide_eq_true c8
      try have c8b2 : (9223372036854775807 < t13002.size + t13003.size) = False := eq_false (Nat.not_lt.2 c8)
      by_cases c9 : (t13002 ++ t13003).toList = ([] : List UInt8)
      · rw [if_pos c9] at H
        have c9b0 : ((t13002 ++ t13003).toList == ([] : List UInt8)) = true := beq_iff_eq.mpr c9
        have c9b1 : ((t13002 ++ t13003).toList != ([] : List UInt8)) = false := bne_eq_false_iff_eq.mpr c9
        clear c9
        (first | rw [c9b0] | (simp only [i64_w, i32_w]; rw [c9b0]) | skip)
        have H' := Aside0.mk H
        clear H
        have hcz10_0 : w6.cell? ⟨gb13001, 0, none⟩ = some (.string a0_0) := (blk_cell BK13001.out 0).trans rfl
        have hcz10_1 : w6.cell? ⟨gb13001, 1, none⟩ = some (.string a0_1) := (blk_cell BK13001.out 1).trans rfl
        have hfz10_0 := blk_frozen BK13001.out 0
        have hfz10_1 := blk_frozen BK13001.out 1
        go_wp2
        repeat (go_quiet (fail); try go_wp2)
        go_meet
        case rel => exact ⟨_, (true), (by first | rfl | (simp; done) | (simp [*]; done)), H', ⟨by first | omega | exact Nat.le_refl _⟩, ⟨by (with_reducible repeat (first | refine blk_drewN ?_ _ | refine blk_drew ?_ | refine blk_alloc ?_ _)); refine blk_put (cs := #[.string t13002, .string a0_1]) ?_ 1 _ rfl; (with_reducible repeat (first | refine blk_drewN ?_ _ | refine blk_drew ?_ | refine blk_alloc ?_ _)); refine blk_put (cs := #[.string a0_0, .string a0_1]) ?_ 0 _ rfl; (with_reducible repeat (first | refine blk_drewN ?_ _ | refine blk_drew ?_ | refine blk_alloc ?_ _)); exact BK13001.out⟩, ⟨by repeat (first | (with_reducible first | exact HB.out | apply below_alloc | apply pw_below_drewN | apply below_drew1 | refine below_set ?_ GE13001.out) | exact HB.out)⟩⟩
      · rw [if_neg c9] at H
        have c9b0 : ((t13002 ++ t13003).toList == ([] : List UInt8)) = false := beq_eq_false_iff_ne.mpr c9
        have c9b1 : ((t13002 ++ t13003).toList != ([] : List UInt8)) = true := bne_iff_ne.mpr c9
        (first | rw [c9b0] | (simp only [i64_w, i32_w]; rw [c9b0]) | skip)
        replace H := Option.bind_eq_some_iff.mp H
        obtain ⟨t13004, A110, H⟩ := H
        replace H : (impl_MovesOf.j0 k t13004 t13002 t13003) = some r := H
        have A11 := Aside0.mk A110
        clear A110
        have H' := Aside0.mk H
        clear H
        have hcz12_0 : w6.cell? ⟨gb13001, 0, none⟩ = some (.string a0_0) := (blk_cell BK13001.out 0).trans rfl
        have hcz12_1 : w6.cell? ⟨gb13001, 1, none⟩ = some (.string a0_1) := (blk_cell BK13001.out 1).trans rfl
        have hfz12_0 := blk_frozen BK13001.out 0
        have hfz12_1 := blk_frozen BK13001.out 1
        go_wp2_with (first | (go_at_call 32; (with_reducible refine (impl_IsClash.calls k t13002 t13003 t13004 _ A11.out).mono ?_); rintro e w13 ⟨rfl, hb⟩; have n0_ := Aside0.mk (blk_below (g := gb13001) (o := .cells #[.string t13002, .string t13003] 34 (0, 0)) (by (with_reducible repeat (first | refine blk_drewN ?_ _ | refine blk_drew ?_ | refine blk_alloc ?_ _)); refine blk_put (cs := #[.string t13002, .string a0_1]) ?_ 1 _ rfl; (with_reducible repeat (first | refine blk_drewN ?_ _ | refine blk_drew ?_ | refine blk_alloc ?_ _)); refine blk_put (cs := #[.string a0_0, .string a0_1]) ?_ 0 _ rfl; (with_reducible repeat (first | refine blk_drewN ?_ _ | refine blk_drew ?_ | refine blk_alloc ?_ _)); exact BK13001.out) hb); have n1_ := Aside0.mk (below_step (by repeat (first | (with_reducible first | exact HB.out | apply below_alloc | apply pw_below_drewN | apply below_drew1 | refine below_set ?_ GE13001.out) | exact HB.out)) hb); clear BK13001; clear HB; have BK13001 := n0_; have HB := n1_; clear n0_ n1_; (try clear hb); (try clear hb2); (try clear hk); (try clear hi)))
        repeat (go_quiet (first | (go_at_call 32; (with_reducible refine (impl_IsClash.calls k t13002 t13003 t13004 _ A11.out).mono ?_); rintro e w13 ⟨rfl, hb⟩; have n0_ := Aside0.mk (blk_below (g := gb13001) (o := .cells #[.string t13002, .string t13003] 34 (0, 0)) (by (with_reducible repeat (first | refine blk_drewN ?_ _ | refine blk_drew ?_ | refine blk_alloc ?_ _)); refine blk_put (cs := #[.string t13002, .string a0_1]) ?_ 1 _ rfl; (with_reducible repeat (first | refine blk_drewN ?_ _ | refine blk_drew ?_ | refine blk_alloc ?_ _)); refine blk_put (cs := #[.string a0_0, .string a0_1]) ?_ 0 _ rfl; (with_reducible repeat (first | refine blk_drewN ?_ _ | refine blk_drew ?_ | refine blk_alloc ?_ _)); exact BK13001.out) hb); have n1_ := Aside0.mk (below_step (by repeat (first | (with_reducible first | exact HB.out | apply below_alloc | apply pw_below_drewN | apply below_drew1 | refine below_set ?_ GE13001.out) | exact HB.out)) hb); clear BK13001; clear HB; have BK13001 := n0_; have HB := n1_; clear n0_ n1_; (try clear hb); (try clear hb2); (try clear hk); (try clear hi))); try go_wp2_with (first | (go_at_call 32; (with_reducible refine (impl_IsClash.calls k t13002 t13003 t13004 _ A11.out).mono ?_); rintro e w13 ⟨rfl, hb⟩; have n0_ := Aside0.mk (blk_below (g := gb13001) (o := .cells #[.string t13002, .string t13003] 34 (0, 0)) (by (with_reducible repeat (first | refine blk_drewN ?_ _ | refine blk_drew ?_ | refine blk_alloc ?_ _)); refine blk_put (cs := #[.string t13002, .string a0_1]) ?_ 1 _ rfl; (with_reducible repeat (first | refine blk_drewN ?_ _ | refine blk_drew ?_ | refine blk_alloc ?_ _)); refine blk_put (cs := #[.string a0_0, .string a0_1]) ?_ 0 _ rfl; (with_reducible repeat (first | refine blk_drewN ?_ _ | refine blk_drew ?_ | refine blk_alloc ?_ _)); exact BK13001.out) hb); have n1_ := Aside0.mk (below_step (by repeat (first | (with_reducible first | exact HB.out | apply below_alloc | apply pw_below_drewN | apply below_drew1 | refine below_set ?_ GE13001.out) | exact HB.out)) hb); clear BK13001; clear HB; have BK13001 := n0_; have HB := n1_; clear n0_ n1_; (try clear hb); (try clear hb2); (try clear hk); (try clear hi))))
        go_meet
        case rel => exact ⟨_, (t13004), (by first | rfl | (simp; done) | (simp [*]; done)), H', ⟨by first | omega | exact Nat.le_refl _⟩, ⟨by (with_reducible repeat (first | refine blk_drewN ?_ _ | refine blk_drew ?_ | refine blk_alloc ?_ _)); exact BK13001.out⟩, ⟨by repeat (first | (with_reducible first | exact HB.out | apply below_alloc | apply pw_below_drewN | apply below_drew1 | refine below_set ?_ GE13001.out) | exact HB.out)⟩⟩
    · rw [if_neg c8] at H
      exact absurd H (by simp)
  case rest =>
    clear HC3
    try clear c1
    try clear p2
    try clear c8
    try clear c8b0
    try clear c8b1
    try clear c8b2
    try clear c9
    try clear c9b0
    try clear c9b1
    try clear c13
    try clear hcz10_0
    try clear hcz10_1
    try clear hcz12_0
    try clear hcz12_1
    try clear hcz5_0
    try clear hcz5_1
    try clear hcz7_0
    try clear hcz7_1
    try clear hfz10_0
    try clear hfz10_1
    try clear hfz12_0
    try clear hfz12_1
    try clear hfz5_0
    try clear hfz5_1
    try clear hfz7_0
    try clear hfz7_1
    obtain ⟨kq, x19_2, rfl, HA, HJ2, BK13001, HB⟩ := hcut
    cases kq with
    | zero => exact absurd HA.out (by simp [impl_MovesOf.j0])
    | succ kj2 =>
      have H := HA.out
      clear HA
      simp only [impl_MovesOf.j0] at H
      by_cases c14 : x19_2 = true
      · subst c14
        have H1 : (some ([] : List (S58))) = some r := by rw [if_pos rfl] at H; exact H
        clear H
        have H := H1
        clear H1
        obtain rfl := Option.some.inj H
        go_wp2
        repeat (go_quiet (fail); try go_wp2)
        go_ret
        exact ⟨_, by first | rfl | (simp [errW_none, errW_some] <;> rfl) | (simp [*, errW_none, errW_some] <;> rfl), by first | exact Kd.R_nil _ _ _ _ _ | exact Kd.N_nil _ _ _ _ _ | exact Kd.V_nil _ _ _ _ _ | exact Kd.Q_nil _ _ _ _ _ | exact Kd.S_nil _ _ _ _ _, by repeat (first | (with_reducible first | exact HB.out | apply below_alloc | apply pw_below_drewN | apply below_drew1 | refine below_set ?_ GE13001.out) | exact HB.out)⟩
      · replace c14 := Bool.eq_false_iff.mpr c14
        subst c14
        have H1 : (if t13002.toList = ([] : List UInt8) then (impl_MovesOf.j1 kj2 true t13002 t13003) else (impl_MovesOf.j1 kj2 (t13003.toList == ([] : List UInt8)) t13002 t13003)) = some r := by rw [if_neg (show ¬ (false = true) by decide)] at H; exact H
        clear H
        have H := H1
        clear H1
        have HC15 := Aside0.mk H
        clear H
        go_upto_region 4 with (fail)
        repeat (go_quiet (fail); go_upto_region 4 with (fail))
        go_cut [27] (fun v27 wc => ∃ (kq : Nat) (x27_14 : Bool), v27 = .bool x27_14 ∧ Aside0 (impl_MovesOf.j1 kq x27_14 t13002 t13003 = some r) ∧ Aside0 (kq ≤ kj2) ∧ Aside0 (wc.heap[gb13001]? = some (.cells #[.string t13002, .string t13003] 34 (0, 0))) ∧ Aside0 (Below w.heap.size w wc))
        case first =>
          have H := HC15.out
          clear HC15
          by_cases c16 : t13002.toList = ([] : List UInt8)
          · rw [if_pos c16] at H
            have c16b0 : (t13002.toList == ([] : List UInt8)) = true := beq_iff_eq.mpr c16
            have c16b1 : (t13002.toList != ([] : List UInt8)) = false := bne_eq_false_iff_eq.mpr c16
            clear c16
            (first | rw [c16b0] | (simp only [i64_w, i32_w]; rw [c16b0]) | skip)
            have H' := Aside0.mk H
            clear H
            have hcz17_0 : wc.cell? ⟨gb13001, 0, none⟩ = some (.string t13002) := (blk_cell BK13001.out 0).trans rfl
            have hcz17_1 : wc.cell? ⟨gb13001, 1, none⟩ = some (.string t13003) := (blk_cell BK13001.out 1).trans rfl
            have hfz17_0 := blk_frozen BK13001.out 0
            have hfz17_1 := blk_frozen BK13001.out 1
            go_wp2
            repeat (go_quiet (fail); try go_wp2)
            go_meet
            case rel => exact ⟨_, (true), (by first | rfl | (simp; done) | (simp [*]; done)), H', ⟨by have := HJ2.out; first | omega | exact Nat.le_refl _⟩, ⟨by (with_reducible repeat (first | refine blk_drewN ?_ _ | refine blk_drew ?_ | refine blk_alloc ?_ _)); exact BK13001.out⟩, ⟨by repeat (first | (with_reducible first | exact HB.out | apply below_alloc | apply pw_below_drewN | apply below_drew1 | refine below_set ?_ GE13001.out) | exact HB.out)⟩⟩
          · rw [if_neg c16] at H
            have c16b0 : (t13002.toList == ([] : List UInt8)) = false := beq_eq_false_iff_ne.mpr c16
            have c16b1 : (t13002.toList != ([] : List UInt8)) = true := bne_iff_ne.mpr c16
            (first | rw [c16b0] | (simp only [i64_w, i32_w]; rw [c16b0]) | skip)
            have H' := Aside0.mk H
            clear H
            have hcz18_0 : wc.cell? ⟨gb13001, 0, none⟩ = some (.string t13002) := (blk_cell BK13001.out 0).trans rfl
            have hcz18_1 : wc.cell? ⟨gb13001, 1, none⟩ = some (.string t13003) := (blk_cell BK13001.out 1).trans rfl
            have hfz18_0 := blk_frozen BK13001.out 0
            have hfz18_1 := blk_frozen BK13001.out 1
            go_wp2
            repeat (go_quiet (fail); try go_wp2)
            go_meet
            case rel => exact ⟨_, ((t13003.toList == ([] : List UInt8))), (by first | rfl | (simp; done) | (simp [*]; done)), H', ⟨by have := HJ2.out; first | omega | exact Nat.le_refl _⟩, ⟨by (with_reducible repeat (first | refine blk_drewN ?_ _ | refine blk_drew ?_ | refine blk_alloc ?_ _)); exact BK13001.out⟩, ⟨by repeat (first | (with_reducible first | exact HB.out | apply below_alloc | apply pw_below_drewN | apply below_drew1 | refine below_set ?_ GE13001.out) | exact HB.out)⟩⟩
        case rest =>
          clear HC15
          try clear c1
          try clear p2
          try clear c8
          try clear c8b0
          try clear c8b1
          try clear c8b2
          try clear c9
          try clear c9b0
          try clear c9b1
          try clear c13
          try clear c14
          try clear c16
          try clear c16b0
          try clear c16b1
          try clear hcz10_0
          try clear hcz10_1
          try clear hcz12_0
          try clear hcz12_1
          try clear hcz17_0
          try clear hcz17_1
          try clear hcz18_0
          try clear hcz18_1
          try clear hcz5_0
          try clear hcz5_1
          try clear hcz7_0
          try clear hcz7_1
          try clear hfz10_0
          try clear hfz10_1
          try clear hfz12_0
          try clear hfz12_1
          try clear hfz17_0
          try clear hfz17_1
          try clear hfz18_0
          try clear hfz18_1
          try clear hfz5_0
          try clear hfz5_1
          try clear hfz7_0
          try clear hfz7_1
          try clear p2
          obtain ⟨kq, x27_14, rfl, HA, HJ14, BK13001, HB⟩ := hcut
          cases kq with
          | zero => exact absurd HA.out (by simp [impl_MovesOf.j1])
          | succ kj14 =>
            have H := HA.out
            clear HA
            simp only [impl_MovesOf.j1] at H
            by_cases c19 : x27_14 = true
            · subst c19
              have H1 : (if t13002.size + t13003.size ≤ 9223372036854775807 then (if 0 < ((t13002 ++ t13003).size : Int) then (some (([(⟨bt (t13002 ++ t13003) 0, (⟨#[]⟩ : ByteArray)⟩ : S58)] : List (S58)))) else (none)) else (none)) = some r := by rw [if_pos rfl] at H; exact H
              clear H
              have H := H1
              clear H1
              by_cases c20 : t13002.size + t13003.size ≤ 9223372036854775807
              · rw [if_pos c20] at H
                have c20z := c20
                try simp at c20z
                try replace c20z := eq_false (Nat.not_lt.2 c20z)
                have c20b0 := eq_true c20
                have c20b1 : decide (t13002.size + t13003.size ≤ 9223372036854775807) = true := decide_eq_true c20
                try have c20b2 : (9223372036854775807 < t13002.size + t13003.size) = False := eq_false (Nat.not_lt.2 c20)
                by_cases c21 : 0 < ((t13002 ++ t13003).size : Int)
                · rw [if_pos c21] at H
                  have c21b0 : decide (0 < ((t13002 ++ t13003).size : Int)) = true := decide_eq_true c21
                  have c21y := c21b0
                  try simp at c21y
                  have c21b1 : decide (0 < (t13002 ++ t13003).size) = true := decide_eq_true (by omega)
                  clear c21
                  obtain ⟨y13005, hy13005⟩ : ∃ y_ : List (S58), y_ = (([(⟨bt (t13002 ++ t13003) 0, (⟨#[]⟩ : ByteArray)⟩ : S58)] : List (S58))) := ⟨_, rfl⟩
                  replace H : (some y13005) = some r := by first | (rw [hy13005]; with_reducible exact H) | (have H2_ := (Option.bind_some _ _).symm.trans H; rw [hy13005]; with_reducible exact H2_) | (have H2_ := (Option.bind_some _ _).symm.trans H; with_reducible exact H2_) | with_reducible exact H | (rw [hy13005]; exact H) | exact H
                  have Ny13005 := Aside0.mk hy13005
                  clear hy13005
                  obtain rfl := Option.some.inj H
                  have hcz23_0 : wc.cell? ⟨gb13001, 0, none⟩ = some (.string t13002) := (blk_cell BK13001.out 0).trans rfl
                  have hcz23_1 : wc.cell? ⟨gb13001, 1, none⟩ = some (.string t13003) := (blk_cell BK13001.out 1).trans rfl
                  have hfz23_0 := blk_frozen BK13001.out 0
                  have hfz23_1 := blk_frozen BK13001.out 1
                  have p22 : 0 ≤ (0 : Int) := (by omega)
                  have q22 : 0 < (t13002 ++ t13003).size := (by have : (0 : Int) < ((t13002 ++ t13003).size : Int) := of_decide_eq_true (by first | (with_reducible assumption) | assumption); omega)
                  have hx22 : ∀ h : 0 < (t13002 ++ t13003).size, (((t13002 ++ t13003)[0]'h).toNat : Int) = bt (t13002 ++ t13003) 0 := bt_at (t13002 ++ t13003) 0
                  clear p22
                  have qi22 : (0 < ((t13002 ++ t13003).size : Int)) = True := eq_true (of_decide_eq_true (by first | (with_reducible assumption) | assumption))
                  replace q22 := eq_true q22
                  go_wp2_with (first | ((with_reducible refine gate_dst (N := 35) rfl ?_); refine Kd.R_lit k58 _ 58 ?hg (N := 35) ?hd (xs := ([(⟨bt (t13002 ++ t13003) 0, (⟨#[]⟩ : ByteArray)⟩ : S58)] : List (S58))) (inner := [.int .u8 (bt (t13002 ++ t13003) 0), .string (⟨#[]⟩ : ByteArray)]) (ok := fun _ => True) (okp := fun _ => True) ?hr ?hp (fun _ hk => hk) trivial (Below.refl _ _) (Nat.le_refl _) (by simp) ?_; (case hd => rfl); (case hg => rfl); (case hr => first | (go_simp; done) | (go_simp; rfl)); (case hp => exact (Reps.c2 (show Kd.M k58 _ _ _ (⟨bt (t13002 ++ t13003) 0, (⟨#[]⟩ : ByteArray)⟩ : S58) [.int .u8 (bt (t13002 ++ t13003) 0), .string (⟨#[]⟩ : ByteArray)] from (k58_mkM _ _ _ (⟨bt (t13002 ++ t13003) 0, (⟨#[]⟩ : ByteArray)⟩ : S58) )) (Reps.none _ _))); intro v13006 w24 ho25 hb hg_ hnew_; clear hg_ hnew_; (first | rw [← Ny13005.out] at ho25 | (simp only [Int.reduceToNat] at ho25; rw [← Ny13005.out] at ho25)); have n0_ := Aside0.mk (Kd.R_lower ho25 (below_size (by repeat (first | (with_reducible first | exact HB.out | apply below_alloc | apply pw_below_drewN | apply below_drew1 | refine below_set ?_ GE13001.out) | exact HB.out)))); have n1_ := Aside0.mk (blk_below (g := gb13001) (o := .cells #[.string t13002, .string t13003] 34 (0, 0)) (by (with_reducible repeat (first | refine blk_drewN ?_ _ | refine blk_drew ?_ | refine blk_alloc ?_ _)); exact BK13001.out) hb); have n2_ := Aside0.mk (below_step (by repeat (first | (with_reducible first | exact HB.out | apply below_alloc | apply pw_below_drewN | apply below_drew1 | refine below_set ?_ GE13001.out) | exact HB.out)) hb); clear BK13001; clear HB; have HO13007 := n0_; have BK13001 := n1_; have HB := n2_; clear n0_ n1_ n2_; clear hb ho25))
                  repeat (go_quiet (first | ((with_reducible refine gate_dst (N := 35) rfl ?_); refine Kd.R_lit k58 _ 58 ?hg (N := 35) ?hd (xs := ([(⟨bt (t13002 ++ t13003) 0, (⟨#[]⟩ : ByteArray)⟩ : S58)] : List (S58))) (inner := [.int .u8 (bt (t13002 ++ t13003) 0), .string (⟨#[]⟩ : ByteArray)]) (ok := fun _ => True) (okp := fun _ => True) ?hr ?hp (fun _ hk => hk) trivial (Below.refl _ _) (Nat.le_refl _) (by simp) ?_; (case hd => rfl); (case hg => rfl); (case hr => first | (go_simp; done) | (go_simp; rfl)); (case hp => exact (Reps.c2 (show Kd.M k58 _ _ _ (⟨bt (t13002 ++ t13003) 0, (⟨#[]⟩ : ByteArray)⟩ : S58) [.int .u8 (bt (t13002 ++ t13003) 0), .string (⟨#[]⟩ : ByteArray)] from (k58_mkM _ _ _ (⟨bt (t13002 ++ t13003) 0, (⟨#[]⟩ : ByteArray)⟩ : S58) )) (Reps.none _ _))); intro v13006 w24 ho25 hb hg_ hnew_; clear hg_ hnew_; (first | rw [← Ny13005.out] at ho25 | (simp only [Int.reduceToNat] at ho25; rw [← Ny13005.out] at ho25)); have n0_ := Aside0.mk (Kd.R_lower ho25 (below_size (by repeat (first | (with_reducible first | exact HB.out | apply below_alloc | apply pw_below_drewN | apply below_drew1 | refine below_set ?_ GE13001.out) | exact HB.out)))); have n1_ := Aside0.mk (blk_below (g := gb13001) (o := .cells #[.string t13002, .string t13003] 34 (0, 0)) (by (with_reducible repeat (first | refine blk_drewN ?_ _ | refine blk_drew ?_ | refine blk_alloc ?_ _)); exact BK13001.out) hb); have n2_ := Aside0.mk (below_step (by repeat (first | (with_reducible first | exact HB.out | apply below_alloc | apply pw_below_drewN | apply below_drew1 | refine below_set ?_ GE13001.out) | exact HB.out)) hb); clear BK13001; clear HB; have HO13007 := n0_; have BK13001 := n1_; have HB := n2_; clear n0_ n1_ n2_; clear hb ho25)); try go_wp2_with (first | ((with_reducible refine gate_dst (N := 35) rfl ?_); refine Kd.R_lit k58 _ 58 ?hg (N := 35) ?hd (xs := ([(⟨bt (t13002 ++ t13003) 0, (⟨#[]⟩ : ByteArray)⟩ : S58)] : List (S58))) (inner := [.int .u8 (bt (t13002 ++ t13003) 0), .string (⟨#[]⟩ : ByteArray)]) (ok := fun _ => True) (okp := fun _ => True) ?hr ?hp (fun _ hk => hk) trivial (Below.refl _ _) (Nat.le_refl _) (by simp) ?_; (case hd => rfl); (case hg => rfl); (case hr => first | (go_simp; done) | (go_simp; rfl)); (case hp => exact (Reps.c2 (show Kd.M k58 _ _ _ (⟨bt (t13002 ++ t13003) 0, (⟨#[]⟩ : ByteArray)⟩ : S58) [.int .u8 (bt (t13002 ++ t13003) 0), .string (⟨#[]⟩ : ByteArray)] from (k58_mkM _ _ _ (⟨bt (t13002 ++ t13003) 0, (⟨#[]⟩ : ByteArray)⟩ : S58) )) (Reps.none _ _))); intro v13006 w24 ho25 hb hg_ hnew_; clear hg_ hnew_; (first | rw [← Ny13005.out] at ho25 | (simp only [Int.reduceToNat] at ho25; rw [← Ny13005.out] at ho25)); have n0_ := Aside0.mk (Kd.R_lower ho25 (below_size (by repeat (first | (with_reducible first | exact HB.out | apply below_alloc | apply pw_below_drewN | apply below_drew1 | refine below_set ?_ GE13001.out) | exact HB.out)))); have n1_ := Aside0.mk (blk_below (g := gb13001) (o := .cells #[.string t13002, .string t13003] 34 (0, 0)) (by (with_reducible repeat (first | refine blk_drewN ?_ _ | refine blk_drew ?_ | refine blk_alloc ?_ _)); exact BK13001.out) hb); have n2_ := Aside0.mk (below_step (by repeat (first | (with_reducible first | exact HB.out | apply below_alloc | apply pw_below_drewN | apply below_drew1 | refine below_set ?_ GE13001.out) | exact HB.out)) hb); clear BK13001; clear HB; have HO13007 := n0_; have BK13001 := n1_; have HB := n2_; clear n0_ n1_ n2_; clear hb ho25)))
                  go_ret
                  exact ⟨_, by first | rfl | (simp [errW_none, errW_some] <;> rfl) | (simp [*, errW_none, errW_some] <;> rfl), by (with_reducible repeat (first | apply Kd.R_alloc | apply Kd.R_drewN | apply Kd.R_drew)); exact HO13007.out, by repeat (first | (with_reducible first | exact HB.out | apply below_alloc | apply pw_below_drewN | apply below_drew1 | refine below_set ?_ GE13001.out) | exact HB.out)⟩
                · rw [if_neg c21] at H
                  exact absurd H (by simp)
              · rw [if_neg c20] at H
                exact absurd H (by simp)
            · replace c19 := Bool.eq_false_iff.mpr c19
              subst c19
              have H1 : (if 0 < (t13002.size : Int) then (if 0 < (t13003.size : Int) then ((some (([(⟨bt t13002 0, bt t13003 0⟩ : S60), (⟨bt t13003 0, bt t13002 0⟩ : S60)] : List (S60)) : List (S60))).bind fun y13011 => (impl_MovesOf.l0 kj14 (([] : List (S58))) y13011 (y13011.length : Int) 0)) else (none)) else (none)) = some r := by rw [if_neg (show ¬ (false = true) by decide)] at H; exact H
              clear H
              have H := H1
              clear H1
              by_cases c26 : 0 < (t13002.size : Int)
              · rw [if_pos c26] at H
                have c26b0 : decide (0 < (t13002.size : Int)) = true := decide_eq_true c26
                have c26b1 : decide (0 < t13002.size) = true := decide_eq_true (by omega)
                clear c26
                by_cases c28 : 0 < (t13003.size : Int)
                · rw [if_pos c28] at H
                  have c28b0 : decide (0 < (t13003.size : Int)) = true := decide_eq_true c28
                  have c28b1 : decide (0 < t13003.size) = true := decide_eq_true (by omega)
                  clear c28
                  obtain ⟨y13008, hy13008⟩ : ∃ y_ : List (S58), y_ = (([] : List (S58))) := ⟨_, rfl⟩
                  replace H : ((some (([(⟨bt t13002 0, bt t13003 0⟩ : S60), (⟨bt t13003 0, bt t13002 0⟩ : S60)] : List (S60)) : List (S60))).bind fun y13011 => (impl_MovesOf.l0 kj14 y13008 y13011 (y13011.length : Int) 0)) = some r := by first | (rw [hy13008]; with_reducible exact H) | (have H2_ := (Option.bind_some _ _).symm.trans H; rw [hy13008]; with_reducible exact H2_) | (have H2_ := (Option.bind_some _ _).symm.trans H; with_reducible exact H2_) | with_reducible exact H | (rw [hy13008]; exact H) | exact H
                  have Ny13008 := Aside0.mk hy13008
                  clear hy13008
                  obtain ⟨y13011, hy13011⟩ : ∃ y_ : List (S60), y_ = (([(⟨bt t13002 0, bt t13003 0⟩ : S60), (⟨bt t13003 0, bt t13002 0⟩ : S60)] : List (S60))) := ⟨_, rfl⟩
                  replace H : (impl_MovesOf.l0 kj14 y13008 y13011 (y13011.length : Int) 0) = some r := by first | (rw [hy13011]; with_reducible exact H) | (have H2_ := (Option.bind_some _ _).symm.trans H; rw [hy13011]; with_reducible exact H2_) | (have H2_ := (Option.bind_some _ _).symm.trans H; with_reducible exact H2_) | with_reducible exact H | (rw [hy13011]; exact H) | exact H
                  have Ny13011 := Aside0.mk hy13011
                  clear hy13011
                  have H' := Aside0.mk H
                  clear H
                  have hcz30_0 : wc.cell? ⟨gb13001, 0, none⟩ = some (.string t13002) := (blk_cell BK13001.out 0).trans rfl
                  have hcz30_1 : wc.cell? ⟨gb13001, 1, none⟩ = some (.string t13003) := (blk_cell BK13001.out 1).trans rfl
                  have hfz30_0 := blk_frozen BK13001.out 0
                  have hfz30_1 := blk_frozen BK13001.out 1
                  have p27 : 0 ≤ (0 : Int) := (by omega)
                  have q27 : 0 < t13002.size := (by have : (0 : Int) < (t13002.size : Int) := of_decide_eq_true (by first | (with_reducible assumption) | assumption); omega)
                  have hx27 : ∀ h : 0 < t13002.size, ((t13002[0]'h).toNat : Int) = bt t13002 0 := bt_at t13002 0
                  clear p27
                  have qi27 : (0 < (t13002.size : Int)) = True := eq_true (of_decide_eq_true (by first | (with_reducible assumption) | assumption))
                  replace q27 := eq_true q27
                  have p29 : 0 ≤ (0 : Int) := (by omega)
                  have q29 : 0 < t13003.size := (by have : (0 : Int) < (t13003.size : Int) := of_decide_eq_true (by first | (with_reducible assumption) | assumption); omega)
                  have hx29 : ∀ h : 0 < t13003.size, ((t13003[0]'h).toNat : Int) = bt t13003 0 := bt_at t13003 0
                  clear p29
                  have qi29 : (0 < (t13003.size : Int)) = True := eq_true (of_decide_eq_true (by first | (with_reducible assumption) | assumption))
                  replace q29 := eq_true q29
                  go_wp2_with (first | ((with_reducible refine gate_dst (N := 42) rfl ?_); refine Kd.R_lit k58 _ 58 ?hg (N := 42) ?hd (xs := ([] : List (S58))) (inner := []) (ok := fun _ => True) (okp := fun _ => True) ?hr ?hp (fun _ hk => hk) trivial (Below.refl _ _) (Nat.le_refl _) (by simp) ?_; (case hd => rfl); (case hg => rfl); (case hr => first | (go_simp; done) | (go_simp; rfl)); (case hp => exact (Reps.none _ _)); intro v13009 w31 ho32 hb hg_ hnew_; clear hg_ hnew_; (first | rw [← Ny13008.out] at ho32 | (simp only [Int.reduceToNat] at ho32; rw [← Ny13008.out] at ho32)); have n0_ := Aside0.mk (Kd.R_lower ho32 (below_size (by repeat (first | (with_reducible first | exact HB.out | apply below_alloc | apply pw_below_drewN | apply below_drew1 | refine below_set ?_ GE13001.out) | exact HB.out)))); have n1_ := Aside0.mk (blk_below (g := gb13001) (o := .cells #[.string t13002, .string t13003] 34 (0, 0)) (by (with_reducible repeat (first | refine blk_drewN ?_ _ | refine blk_drew ?_ | refine blk_alloc ?_ _)); exact BK13001.out) hb); have n2_ := Aside0.mk (below_step (by repeat (first | (with_reducible first | exact HB.out | apply below_alloc | apply pw_below_drewN | apply below_drew1 | refine below_set ?_ GE13001.out) | exact HB.out)) hb); clear BK13001; clear HB; have HO13010 := n0_; have BK13001 := n1_; have HB := n2_; clear n0_ n1_ n2_; clear hb ho32) | ((with_reducible refine gate_dst (N := 49) rfl ?_); refine Kd.R_lit k60 _ 60 ?hg (N := 49) ?hd (xs := ([(⟨bt t13002 0, bt t13003 0⟩ : S60), (⟨bt t13003 0, bt t13002 0⟩ : S60)] : List (S60))) (inner := [.int .u8 (bt t13002 0), .int .u8 (bt t13003 0), .int .u8 (bt t13003 0), .int .u8 (bt t13002 0)]) (ok := fun _ => True) (okp := fun _ => True) ?hr ?hp (fun _ hk => hk) trivial (Below.refl _ _) (Nat.le_refl _) (by simp) ?_; (case hd => rfl); (case hg => rfl); (case hr => first | (go_simp; done) | (go_simp; rfl)); (case hp => exact (Reps.c2 (show Kd.M k60 _ _ _ (⟨bt t13002 0, bt t13003 0⟩ : S60) [.int .u8 (bt t13002 0), .int .u8 (bt t13003 0)] from (k60_mkM _ _ _ (⟨bt t13002 0, bt t13003 0⟩ : S60) )) (Reps.c2 (show Kd.M k60 _ _ _ (⟨bt t13003 0, bt t13002 0⟩ : S60) [.int .u8 (bt t13003 0), .int .u8 (bt t13002 0)] from (k60_mkM _ _ _ (⟨bt t13003 0, bt t13002 0⟩ : S60) )) (Reps.none _ _)))); intro v13012 w33 ho34 hb hg_ hnew_; clear hg_ hnew_; (first | rw [← Ny13011.out] at ho34 | (simp only [Int.reduceToNat] at ho34; rw [← Ny13011.out] at ho34)); have n0_ := Aside0.mk (Kd.R_below (by (with_reducible repeat (first | apply Kd.R_alloc | apply Kd.R_drewN | apply Kd.R_drew)); exact HO13010.out) hb); have n1_ := Aside0.mk (Kd.R_lower ho34 (below_size (by repeat (first | (with_reducible first | exact HB.out | apply below_alloc | apply pw_below_drewN | apply below_drew1 | refine below_set ?_ GE13001.out) | exact HB.out)))); have n2_ := Aside0.mk (blk_below (g := gb13001) (o := .cells #[.string t13002, .string t13003] 34 (0, 0)) (by (with_reducible repeat (first | refine blk_drewN ?_ _ | refine blk_drew ?_ | refine blk_alloc ?_ _)); exact BK13001.out) hb); have n3_ := Aside0.mk (below_step (by repeat (first | (with_reducible first | exact HB.out | apply below_alloc | apply pw_below_drewN | apply below_drew1 | refine below_set ?_ GE13001.out) | exact HB.out)) hb); clear HO13010; clear BK13001; clear HB; have HO13010 := n0_; have HO13013 := n1_; have BK13001 := n2_; have HB := n3_; clear n0_ n1_ n2_ n3_; clear hb ho34; obtain ⟨Ao35, co35, eo35⟩ := Kd.R_slice HO13013.out; subst eo35))
                  repeat (go_quiet (first | ((with_reducible refine gate_dst (N := 42) rfl ?_); refine Kd.R_lit k58 _ 58 ?hg (N := 42) ?hd (xs := ([] : List (S58))) (inner := []) (ok := fun _ => True) (okp := fun _ => True) ?hr ?hp (fun _ hk => hk) trivial (Below.refl _ _) (Nat.le_refl _) (by simp) ?_; (case hd => rfl); (case hg => rfl); (case hr => first | (go_simp; done) | (go_simp; rfl)); (case hp => exact (Reps.none _ _)); intro v13009 w31 ho32 hb hg_ hnew_; clear hg_ hnew_; (first | rw [← Ny13008.out] at ho32 | (simp only [Int.reduceToNat] at ho32; rw [← Ny13008.out] at ho32)); have n0_ := Aside0.mk (Kd.R_lower ho32 (below_size (by repeat (first | (with_reducible first | exact HB.out | apply below_alloc | apply pw_below_drewN | apply below_drew1 | refine below_set ?_ GE13001.out) | exact HB.out)))); have n1_ := Aside0.mk (blk_below (g := gb13001) (o := .cells #[.string t13002, .string t13003] 34 (0, 0)) (by (with_reducible repeat (first | refine blk_drewN ?_ _ | refine blk_drew ?_ | refine blk_alloc ?_ _)); exact BK13001.out) hb); have n2_ := Aside0.mk (below_step (by repeat (first | (with_reducible first | exact HB.out | apply below_alloc | apply pw_below_drewN | apply below_drew1 | refine below_set ?_ GE13001.out) | exact HB.out)) hb); clear BK13001; clear HB; have HO13010 := n0_; have BK13001 := n1_; have HB := n2_; clear n0_ n1_ n2_; clear hb ho32) | ((with_reducible refine gate_dst (N := 49) rfl ?_); refine Kd.R_lit k60 _ 60 ?hg (N := 49) ?hd (xs := ([(⟨bt t13002 0, bt t13003 0⟩ : S60), (⟨bt t13003 0, bt t13002 0⟩ : S60)] : List (S60))) (inner := [.int .u8 (bt t13002 0), .int .u8 (bt t13003 0), .int .u8 (bt t13003 0), .int .u8 (bt t13002 0)]) (ok := fun _ => True) (okp := fun _ => True) ?hr ?hp (fun _ hk => hk) trivial (Below.refl _ _) (Nat.le_refl _) (by simp) ?_; (case hd => rfl); (case hg => rfl); (case hr => first | (go_simp; done) | (go_simp; rfl)); (case hp => exact (Reps.c2 (show Kd.M k60 _ _ _ (⟨bt t13002 0, bt t13003 0⟩ : S60) [.int .u8 (bt t13002 0), .int .u8 (bt t13003 0)] from (k60_mkM _ _ _ (⟨bt t13002 0, bt t13003 0⟩ : S60) )) (Reps.c2 (show Kd.M k60 _ _ _ (⟨bt t13003 0, bt t13002 0⟩ : S60) [.int .u8 (bt t13003 0), .int .u8 (bt t13002 0)] from (k60_mkM _ _ _ (⟨bt t13003 0, bt t13002 0⟩ : S60) )) (Reps.none _ _)))); intro v13012 w33 ho34 hb hg_ hnew_; clear hg_ hnew_; (first | rw [← Ny13011.out] at ho34 | (simp only [Int.reduceToNat] at ho34; rw [← Ny13011.out] at ho34)); have n0_ := Aside0.mk (Kd.R_below (by (with_reducible repeat (first | apply Kd.R_alloc | apply Kd.R_drewN | apply Kd.R_drew)); exact HO13010.out) hb); have n1_ := Aside0.mk (Kd.R_lower ho34 (below_size (by repeat (first | (with_reducible first | exact HB.out | apply below_alloc | apply pw_below_drewN | apply below_drew1 | refine below_set ?_ GE13001.out) | exact HB.out)))); have n2_ := Aside0.mk (blk_below (g := gb13001) (o := .cells #[.string t13002, .string t13003] 34 (0, 0)) (by (with_reducible repeat (first | refine blk_drewN ?_ _ | refine blk_drew ?_ | refine blk_alloc ?_ _)); exact BK13001.out) hb); have n3_ := Aside0.mk (below_step (by repeat (first | (with_reducible first | exact HB.out | apply below_alloc | apply pw_below_drewN | apply below_drew1 | refine below_set ?_ GE13001.out) | exact HB.out)) hb); clear HO13010; clear BK13001; clear HB; have HO13010 := n0_; have HO13013 := n1_; have BK13001 := n2_; have HB := n3_; clear n0_ n1_ n2_ n3_; clear hb ho34; obtain ⟨Ao35, co35, eo35⟩ := Kd.R_slice HO13013.out; subst eo35)); try go_wp2_with (first | ((with_reducible refine gate_dst (N := 42) rfl ?_); refine Kd.R_lit k58 _ 58 ?hg (N := 42) ?hd (xs := ([] : List (S58))) (inner := []) (ok := fun _ => True) (okp := fun _ => True) ?hr ?hp (fun _ hk => hk) trivial (Below.refl _ _) (Nat.le_refl _) (by simp) ?_; (case hd => rfl); (case hg => rfl); (case hr => first | (go_simp; done) | (go_simp; rfl)); (case hp => exact (Reps.none _ _)); intro v13009 w31 ho32 hb hg_ hnew_; clear hg_ hnew_; (first | rw [← Ny13008.out] at ho32 | (simp only [Int.reduceToNat] at ho32; rw [← Ny13008.out] at ho32)); have n0_ := Aside0.mk (Kd.R_lower ho32 (below_size (by repeat (first | (with_reducible first | exact HB.out | apply below_alloc | apply pw_below_drewN | apply below_drew1 | refine below_set ?_ GE13001.out) | exact HB.out)))); have n1_ := Aside0.mk (blk_below (g := gb13001) (o := .cells #[.string t13002, .string t13003] 34 (0, 0)) (by (with_reducible repeat (first | refine blk_drewN ?_ _ | refine blk_drew ?_ | refine blk_alloc ?_ _)); exact BK13001.out) hb); have n2_ := Aside0.mk (below_step (by repeat (first | (with_reducible first | exact HB.out | apply below_alloc | apply pw_below_drewN | apply below_drew1 | refine below_set ?_ GE13001.out) | exact HB.out)) hb); clear BK13001; clear HB; have HO13010 := n0_; have BK13001 := n1_; have HB := n2_; clear n0_ n1_ n2_; clear hb ho32) | ((with_reducible refine gate_dst (N := 49) rfl ?_); refine Kd.R_lit k60 _ 60 ?hg (N := 49) ?hd (xs := ([(⟨bt t13002 0, bt t13003 0⟩ : S60), (⟨bt t13003 0, bt t13002 0⟩ : S60)] : List (S60))) (inner := [.int .u8 (bt t13002 0), .int .u8 (bt t13003 0), .int .u8 (bt t13003 0), .int .u8 (bt t13002 0)]) (ok := fun _ => True) (okp := fun _ => True) ?hr ?hp (fun _ hk => hk) trivial (Below.refl _ _) (Nat.le_refl _) (by simp) ?_; (case hd => rfl); (case hg => rfl); (case hr => first | (go_simp; done) | (go_simp; rfl)); (case hp => exact (Reps.c2 (show Kd.M k60 _ _ _ (⟨bt t13002 0, bt t13003 0⟩ : S60) [.int .u8 (bt t13002 0), .int .u8 (bt t13003 0)] from (k60_mkM _ _ _ (⟨bt t13002 0, bt t13003 0⟩ : S60) )) (Reps.c2 (show Kd.M k60 _ _ _ (⟨bt t13003 0, bt t13002 0⟩ : S60) [.int .u8 (bt t13003 0), .int .u8 (bt t13002 0)] from (k60_mkM _ _ _ (⟨bt t13003 0, bt t13002 0⟩ : S60) )) (Reps.none _ _)))); intro v13012 w33 ho34 hb hg_ hnew_; clear hg_ hnew_; (first | rw [← Ny13011.out] at ho34 | (simp only [Int.reduceToNat] at ho34; rw [← Ny13011.out] at ho34)); have n0_ := Aside0.mk (Kd.R_below (by (with_reducible repeat (first | apply Kd.R_alloc | apply Kd.R_drewN | apply Kd.R_drew)); exact HO13010.out) hb); have n1_ := Aside0.mk (Kd.R_lower ho34 (below_size (by repeat (first | (with_reducible first | exact HB.out | apply below_alloc | apply pw_below_drewN | apply below_drew1 | refine below_set ?_ GE13001.out) | exact HB.out)))); have n2_ := Aside0.mk (blk_below (g := gb13001) (o := .cells #[.string t13002, .string t13003] 34 (0, 0)) (by (with_reducible repeat (first | refine blk_drewN ?_ _ | refine blk_drew ?_ | refine blk_alloc ?_ _)); exact BK13001.out) hb); have n3_ := Aside0.mk (below_step (by repeat (first | (with_reducible first | exact HB.out | apply below_alloc | apply pw_below_drewN | apply below_drew1 | refine below_set ?_ GE13001.out) | exact HB.out)) hb); clear HO13010; clear BK13001; clear HB; have HO13010 := n0_; have HO13013 := n1_; have BK13001 := n2_; have HB := n3_; clear n0_ n1_ n2_ n3_; clear hb ho34; obtain ⟨Ao35, co35, eo35⟩ := Kd.R_slice HO13013.out; subst eo35)))
                  first | go_loopg [5, 51] kj14 (fun kq v5 v51 w' => ∃ (x5_3 : List (S58)) (x51_3 : Int), v51 = .int .i64 x51_3 ∧ Aside0 (impl_MovesOf.l0 kq x5_3 y13011 (y13011.length : Int) x51_3 = some r) ∧ Aside0 (kq ≤ kj14) ∧ Aside0 (Kd.R k58 58 w' w.heap.size (fun _ => True) v5 x5_3) ∧ Aside0 (Kd.R k60 60 w' w.heap.size (fun _ => True) (.slice Ao35 y13011.length co35) y13011) ∧ Aside0 (w'.heap[gb13001]? = some (.cells #[.string t13002, .string t13003] 34 (0, 0))) ∧ Aside0 (Below w.heap.size w w')) | (simp only [Act.put, List.setIfInBounds_toArray, List.set_cons_succ, List.set_cons_zero]; go_loopg [5, 51] kj14 (fun kq v5 v51 w' => ∃ (x5_3 : List (S58)) (x51_3 : Int), v51 = .int .i64 x51_3 ∧ Aside0 (impl_MovesOf.l0 kq x5_3 y13011 (y13011.length : Int) x51_3 = some r) ∧ Aside0 (kq ≤ kj14) ∧ Aside0 (Kd.R k58 58 w' w.heap.size (fun _ => True) v5 x5_3) ∧ Aside0 (Kd.R k60 60 w' w.heap.size (fun _ => True) (.slice Ao35 y13011.length co35) y13011) ∧ Aside0 (w'.heap[gb13001]? = some (.cells #[.string t13002, .string t13003] 34 (0, 0))) ∧ Aside0 (Below w.heap.size w w')))
                  case atStart => exact ⟨(y13008), (0), (by first | rfl | (simp; done) | (simp [*]; done)), H', ⟨Nat.le_refl _⟩, ⟨by (with_reducible repeat (first | apply Kd.R_alloc | apply Kd.R_drewN | apply Kd.R_drew)); exact HO13010.out⟩, ⟨by (with_reducible repeat (first | apply Kd.R_alloc | apply Kd.R_drewN | apply Kd.R_drew)); exact HO13013.out⟩, ⟨by (with_reducible repeat (first | refine blk_drewN ?_ _ | refine blk_drew ?_ | refine blk_alloc ?_ _)); exact BK13001.out⟩, ⟨by repeat (first | (with_reducible first | exact HB.out | apply below_alloc | apply pw_below_drewN | apply below_drew1 | refine below_set ?_ GE13001.out) | exact HB.out)⟩⟩
                  case round =>
                    clear H'
                    try clear c1
                    try clear c2
                    try clear p2
                    try clear q2
                    try clear hx2
                    try clear qi2
                    try clear c8
                    try clear c8b0
                    try clear c8b1
                    try clear c8b2
                    try clear c9
                    try clear c9b0
                    try clear c9b1
                    try clear c13
                    try clear c14
                    try clear c16
                    try clear c16b0
                    try clear c16b1
                    try clear c19
                    try clear c20
                    try clear c20b0
                    try clear c20b1
                    try clear c20b2
                    try clear c21
                    try clear c21b0
                    try clear c21b1
                    try clear p22
                    try clear q22
                    try clear hx22
                    try clear qi22
                    try clear c26
                    try clear c26b0
                    try clear c26b1
                    try clear p27
                    try clear q27
                    try clear hx27
                    try clear qi27
                    try clear c28
                    try clear c28b0
                    try clear c28b1
                    try clear p29
                    try clear q29
                    try clear hx29
                    try clear qi29
                    try clear hcz10_0
                    try clear hcz10_1
                    try clear hcz12_0
                    try clear hcz12_1
                    try clear hcz17_0
                    try clear hcz17_1
                    try clear hcz18_0
                    try clear hcz18_1
                    try clear hcz23_0
                    try clear hcz23_1
                    try clear hcz30_0
                    try clear hcz30_1
                    try clear hcz5_0
                    try clear hcz5_1
                    try clear hcz7_0
                    try clear hcz7_1
                    try clear hfz10_0
                    try clear hfz10_1
                    try clear hfz12_0
                    try clear hfz12_1
                    try clear hfz17_0
                    try clear hfz17_1
                    try clear hfz18_0
                    try clear hfz18_1
                    try clear hfz23_0
                    try clear hfz23_1
                    try clear hfz30_0
                    try clear hfz30_1
                    try clear hfz5_0
                    try clear hfz5_1
                    try clear hfz7_0
                    try clear hfz7_1
                    try clear p2
                    try clear p22
                    try clear p27
                    try clear p29
                    try clear q22
                    try clear q27
                    try clear q29
                    obtain ⟨x5_3, x51_3, rfl, HA, HK3, HO_5, HO_49, BK13001, HB⟩ := hrel
                    cases gk with
                    | zero => exact absurd HA.out (by simp [impl_MovesOf.l0])
                    | succ k3 =>
                      have H := HA.out
                      clear HA
                      simp only [impl_MovesOf.l0] at H
                      by_cases c36 : x51_3 < (y13011.length : Int)
                      · rw [if_pos c36] at H
                        have c36b0 : decide (x51_3 < (y13011.length : Int)) = true := decide_eq_true c36
                        clear c36
                        by_cases c37 : 0 ≤ x51_3
                        · rw [if_pos c37] at H
                          have c37b0 : decide (0 ≤ x51_3) = true := decide_eq_true c37
                          clear c37
                          by_cases c38 : x51_3 < (y13011.length : Int)
                          · rw [if_pos c38] at H
                            have c38b0 : decide (x51_3 < (y13011.length : Int)) = true := decide_eq_true c38
                            clear c38
                            replace H := Option.bind_eq_some_iff.mp H
                            obtain ⟨t13016, A390, H⟩ := H
                            replace H : (if t13016 = true then (if x5_3.length < 5864062014805 then ((some (x5_3 ++ [(⟨(rd_T60 y13011 x51_3).f0, (⟨#[]⟩ : ByteArray)⟩ : S58)] : List (S58))).bind fun y13017 => ((impl_isVariable.f ((rd_T60 y13011 x51_3).f1)).bind fun t13020 => (if t13020 = true then (if y13017.length < 5864062014805 then (impl_MovesOf.l0 k3 (y13017 ++ [(⟨(rd_T60 y13011 x51_3).f0, strOfNums (([(rd_T60 y13011 x51_3).f1, (rd_T60 y13011 x51_3).f0] : List Int))⟩ : S58)]) y13011 (y13011.length : Int) (wrap64 (x51_3 + 1))) else (none)) else ((impl_LetterIndex.f ((rd_T60 y13011 x51_3).f1)).bind fun t13027 => (if t13027 ≥ 0 then (if y13017.length < 5864062014805 then (impl_MovesOf.l0 k3 (y13017 ++ [(⟨(rd_T60 y13011 x51_3).f0, strOfNums (([(rd_T60 y13011 x51_3).f1, (rd_T60 y13011 x51_3).f0] : List Int))⟩ : S58)]) y13011 (y13011.length : Int) (wrap64 (x51_3 + 1))) else (none)) else (impl_MovesOf.l0 k3 y13017 y13011 (y13011.length : Int) (wrap64 (x51_3 + 1)))))))) else (none)) else (impl_MovesOf.l0 k3 x5_3 y13011 (y13011.length : Int) (wrap64 (x51_3 + 1)))) = some r := H
                            have A39 := Aside0.mk A390
                            clear A390
                            by_cases c40 : t13016 = true
                            · subst c40
                              have H1 : (if x5_3.length < 5864062014805 then ((some (x5_3 ++ [(⟨(rd_T60 y13011 x51_3).f0, (⟨#[]⟩ : ByteArray)⟩ : S58)] : List (S58))).bind fun y13017 => ((impl_isVariable.f ((rd_T60 y13011 x51_3).f1)).bind fun t13020 => (if t13020 = true then (if y13017.length < 5864062014805 then (impl_MovesOf.l0 k3 (y13017 ++ [(⟨(rd_T60 y13011 x51_3).f0, strOfNums (([(rd_T60 y13011 x51_3).f1, (rd_T60 y13011 x51_3).f0] : List Int))⟩ : S58)]) y13011 (y13011.length : Int) (wrap64 (x51_3 + 1))) else (none)) else ((impl_LetterIndex.f ((rd_T60 y13011 x51_3).f1)).bind fun t13027 => (if t13027 ≥ 0 then (if y13017.length < 5864062014805 then (impl_MovesOf.l0 k3 (y13017 ++ [(⟨(rd_T60 y13011 x51_3).f0, strOfNums (([(rd_T60 y13011 x51_3).f1, (rd_T60 y13011 x51_3).f0] : List Int))⟩ : S58)]) y13011 (y13011.length : Int) (wrap64 (x51_3 + 1))) else (none)) else (impl_MovesOf.l0 k3 y13017 y13011 (y13011.length : Int) (wrap64 (x51_3 + 1)))))))) else (none)) = some r := by rw [if_pos rfl] at H; exact H
                              clear H
                              have H := H1
                              clear H1
                              by_cases c41 : x5_3.length < 5864062014805
                              · rw [if_pos c41] at H
                                have LMc41 := Aside0.mk c41
                                clear c41
                                obtain ⟨y13017, hy13017⟩ : ∃ y_ : List (S58), y_ = (x5_3 ++ [(⟨(rd_T60 y13011 x51_3).f0, (⟨#[]⟩ : ByteArray)⟩ : S58)]) := ⟨_, rfl⟩
                                replace H : ((impl_isVariable.f ((rd_T60 y13011 x51_3).f1)).bind fun t13020 => (if t13020 = true then (if y13017.length < 5864062014805 then (impl_MovesOf.l0 k3 (y13017 ++ [(⟨(rd_T60 y13011 x51_3).f0, strOfNums (([(rd_T60 y13011 x51_3).f1, (rd_T60 y13011 x51_3).f0] : List Int))⟩ : S58)]) y13011 (y13011.length : Int) (wrap64 (x51_3 + 1))) else (none)) else ((impl_LetterIndex.f ((rd_T60 y13011 x51_3).f1)).bind fun t13027 => (if t13027 ≥ 0 then (if y13017.length < 5864062014805 then (impl_MovesOf.l0 k3 (y13017 ++ [(⟨(rd_T60 y13011 x51_3).f0, strOfNums (([(rd_T60 y13011 x51_3).f1, (rd_T60 y13011 x51_3).f0] : List Int))⟩ : S58)]) y13011 (y13011.length : Int) (wrap64 (x51_3 + 1))) else (none)) else (impl_MovesOf.l0 k3 y13017 y13011 (y13011.length : Int) (wrap64 (x51_3 + 1))))))) = some r := by first | (rw [hy13017]; with_reducible exact H) | (have H2_ := (Option.bind_some _ _).symm.trans H; rw [hy13017]; with_reducible exact H2_) | (have H2_ := (Option.bind_some _ _).symm.trans H; with_reducible exact H2_) | with_reducible exact H | (rw [hy13017]; exact H) | exact H
                                have Ny13017 := Aside0.mk hy13017
                                clear hy13017
                                replace H := Option.bind_eq_some_iff.mp H
                                obtain ⟨t13020, A420, H⟩ := H
                                replace H : (if t13020 = true then (if y13017.length < 5864062014805 then (impl_MovesOf.l0 k3 (y13017 ++ [(⟨(rd_T60 y13011 x51_3).f0, strOfNums (([(rd_T60 y13011 x51_3).f1, (rd_T60 y13011 x51_3).f0] : List Int))⟩ : S58)]) y13011 (y13011.length : Int) (wrap64 (x51_3 + 1))) else (none)) else ((impl_LetterIndex.f ((rd_T60 y13011 x51_3).f1)).bind fun t13027 => (if t13027 ≥ 0 then (if y13017.length < 5864062014805 then (impl_MovesOf.l0 k3 (y13017 ++ [(⟨(rd_T60 y13011 x51_3).f0, strOfNums (([(rd_T60 y13011 x51_3).f1, (rd_T60 y13011 x51_3).f0] : List Int))⟩ : S58)]) y13011 (y13011.length : Int) (wrap64 (x51_3 + 1))) else (none)) else (impl_MovesOf.l0 k3 y13017 y13011 (y13011.length : Int) (wrap64 (x51_3 + 1)))))) = some r := H
                                have A42 := Aside0.mk A420
                                clear A420
                                by_cases c43 : t13020 = true
                                · subst c43
                                  have H1 : (if y13017.length < 5864062014805 then (impl_MovesOf.l0 k3 (y13017 ++ [(⟨(rd_T60 y13011 x51_3).f0, strOfNums (([(rd_T60 y13011 x51_3).f1, (rd_T60 y13011 x51_3).f0] : List Int))⟩ : S58)]) y13011 (y13011.length : Int) (wrap64 (x51_3 + 1))) else (none)) = some r := by rw [if_pos rfl] at H; exact H
                                  clear H
                                  have H := H1
                                  clear H1
                                  obtain ⟨y13021, hy13021⟩ : ∃ y_ : List Int, y_ = (([(rd_T60 y13011 x51_3).f1, (rd_T60 y13011 x51_3).f0] : List Int)) := ⟨_, rfl⟩
                                  replace H : (if y13017.length < 5864062014805 then (impl_MovesOf.l0 k3 (y13017 ++ [(⟨(rd_T60 y13011 x51_3).f0, strOfNums y13021⟩ : S58)]) y13011 (y13011.length : Int) (wrap64 (x51_3 + 1))) else (none)) = some r := by first | (rw [hy13021]; with_reducible exact H) | (have H2_ := (Option.bind_some _ _).symm.trans H; rw [hy13021]; with_reducible exact H2_) | (have H2_ := (Option.bind_some _ _).symm.trans H; with_reducible exact H2_) | with_reducible exact H | (rw [hy13021]; exact H) | exact H
                                  have Ny13021 := Aside0.mk hy13021
                                  clear hy13021
                                  by_cases c44 : y13017.length < 5864062014805
                                  · rw [if_pos c44] at H
                                    have LMc44 := Aside0.mk c44
                                    clear c44
                                    obtain ⟨y13024, hy13024⟩ : ∃ y_ : List (S58), y_ = (y13017 ++ [(⟨(rd_T60 y13011 x51_3).f0, strOfNums y13021⟩ : S58)]) := ⟨_, rfl⟩
                                    replace H : (impl_MovesOf.l0 k3 y13024 y13011 (y13011.length : Int) (wrap64 (x51_3 + 1))) = some r := by first | (rw [hy13024]; with_reducible exact H) | (have H2_ := (Option.bind_some _ _).symm.trans H; rw [hy13024]; with_reducible exact H2_) | (have H2_ := (Option.bind_some _ _).symm.trans H; with_reducible exact H2_) | with_reducible exact H | (rw [hy13024]; exact H) | exact H
                                    have Ny13024 := Aside0.mk hy13024
                                    clear hy13024
                                    have H' := Aside0.mk H
                                    clear H
                                    have p13014 : 0 ≤ (x51_3 : Int) := of_decide_eq_true (by first | (with_reducible assumption) | assumption)
                                    have q13014 : x51_3 < (y13011.length : Int) := of_decide_eq_true (by first | (with_reducible assumption) | assumption)
                                    obtain ⟨ad13014, e13014, hx13014_0, hx13014_1⟩ := at_T60 (Kd.R_reads' HO_49.out).2.2 x51_3 p13014 q13014
                                    cases e13014
                                    replace p13014 := eq_true p13014
                                    replace q13014 := eq_true q13014
                                    go_wp2_with (first | ((with_reducible refine gate_dst (N := 7) rfl ?_); refine box_event ?hg (N := 7) ?hd (cs := #[.int .u8 0, .int .u8 0]) (t := 60) ?hr ?_; (case hd => rfl); (case hg => rfl); (case hr => first | (go_simp; done) | (go_simp; rfl)); intro gb13015 hg w45 hbox hb; have n0_ := Aside0.mk (Kd.R_below (by (with_reducible repeat (first | apply Kd.R_alloc | apply Kd.R_drewN | apply Kd.R_drew)); exact HO_5.out) hb); have n1_ := Aside0.mk (Kd.R_below (Kd.R_elderB (by (with_reducible repeat (first | apply Kd.R_alloc | apply Kd.R_drewN | apply Kd.R_drew)); exact HO_49.out) gb13015 (Nat.le_of_eq hg.symm)) hb); have n2_ := Aside0.mk (blk_below (g := gb13001) (o := .cells #[.string t13002, .string t13003] 34 (0, 0)) (by (with_reducible repeat (first | refine blk_drewN ?_ _ | refine blk_drew ?_ | refine blk_alloc ?_ _)); exact BK13001.out) hb); have n3_ := Aside0.mk (below_step (by repeat (first | (with_reducible first | exact HB.out | apply below_alloc | apply pw_below_drewN | apply below_drew1 | refine below_set ?_ GE13001.out) | exact HB.out)) hb); have n4_ := Aside0.mk (hbox); have n5_ := Aside0.mk ((by rw [hg]; exact (below_size (by repeat (first | (with_reducible first | exact HB.out | apply below_alloc | apply pw_below_drewN | apply below_drew1 | refine below_set ?_ GE13001.out) | exact HB.out))) : w.heap.size ≤ gb13015)); have n6_ := Aside0.mk ((by rw [hg]; exact (below_size (by repeat (first | (with_reducible first | exact HB.out | apply below_alloc | apply pw_below_drewN | apply below_drew1 | refine below_set ?_ GE13001.out) | exact HB.out))) : w.heap.size ≤ gb13015)); have n7_ := Aside0.mk ((by rw [hg]; exact Nat.ne_of_lt (blk_lt (g := gb13001) (o := .cells #[.string t13002, .string t13003] 34 (0, 0)) (by (with_reducible repeat (first | refine blk_drewN ?_ _ | refine blk_drew ?_ | refine blk_alloc ?_ _)); exact BK13001.out)) : gb13001 ≠ gb13015)); have n8_ := Aside0.mk ((by rw [hg]; exact Nat.ne_of_gt (blk_lt (g := gb13001) (o := .cells #[.string t13002, .string t13003] 34 (0, 0)) (by (with_reducible repeat (first | refine blk_drewN ?_ _ | refine blk_drew ?_ | refine blk_alloc ?_ _)); exact BK13001.out)) : gb13015 ≠ gb13001)); clear HO_5; clear HO_49; clear BK13001; clear HB; have HO_5 := n0_; have HO_49 := n1_; have BK13001 := n2_; have HB := n3_; have BK13015 := n4_; have GW13015 := n5_; have GE13015 := n6_; have NB13001_13015 := n7_; have NB13015_13001 := n8_; clear n0_ n1_ n2_ n3_ n4_ n5_ n6_ n7_ n8_; clear hb hbox hg; have hnb46 := NB13015_13001.out; have hnc46 := NB13001_13015.out; have hcz47_0 : w45.cell? ⟨gb13015, 0, none⟩ = some (.int .u8 0) := (blk_cell BK13015.out 0).trans rfl; have hcz47_1 : w45.cell? ⟨gb13015, 1, none⟩ = some (.int .u8 0) := (blk_cell BK13015.out 1).trans rfl; have hfz47_0 := blk_frozen BK13015.out 0; have hfz47_1 := blk_frozen BK13015.out 1) | (go_at_call 33; (with_reducible refine (impl_isVariable.calls ((rd_T60 y13011 x51_3).f0) true _ A39.out).mono ?_); rintro e w' ⟨rfl, ⟨nd, rfl⟩⟩; (try first | exact ⟨rfl, _, World.drewN_drewN _ _ _⟩ | exact ⟨rfl, _, Eq.trans (World.drewN_drewN _ _ _) (congrArg (World.drewN _) (Nat.add_assoc _ _ _))⟩)) | ((with_reducible refine gate_builtin (b := .append) (xs := #[.tmp 59, .tmp 63]) rfl ?_); at_builtin; refine Kd.R_append k58 (w0 := w) w.heap.size rfl (.tmp 59) (.tmp 63) 32 58 (.agg #[(.int .u8 0), (.string ⟨#[]⟩)]) 24 rfl Try.underlying32 info58 rfl (by decide) (by omega) u5 x5_3 (⟨(rd_T60 y13011 x51_3).f0, (⟨#[]⟩ : ByteArray)⟩ : S58) [.int .u8 ((rd_T60 y13011 x51_3).f0), .string (⟨#[]⟩ : ByteArray)] (fun _ => True) (fun _ => False) rfl (by first | (go_simp; done) | (go_simp; rfl)) ?aP (fun _ hk => hk.elim) ?aF ?aO ?aB ?aS ?aL ?_; (case aP => exact k58_mkM _ _ _ (⟨(rd_T60 y13011 x51_3).f0, (⟨#[]⟩ : ByteArray)⟩ : S58)); (case aB => exact (by repeat (first | (with_reducible first | exact HB.out | apply below_alloc | apply pw_below_drewN | apply below_drew1 | refine below_set ?_ GE13001.out | refine below_set ?_ GE13015.out) | exact HB.out))); (case aF => exact (fun _ _ => trivial)); (case aO => exact (by (with_reducible repeat (first | apply Kd.R_alloc | apply Kd.R_drewN | apply Kd.R_drew)); exact Kd.R_mono (Kd.R_far (p := ⟨gb13015, 1, none⟩) (Kd.R_far (p := ⟨gb13015, 0, none⟩) (Kd.R_types HO_5.out BK13015.out (by decide)) (fun _ hk => hk.2) (.int .u8 ((rd_T60 y13011 x51_3).f0))) (fun _ hk => hk.2) (.int .u8 ((rd_T60 y13011 x51_3).f1))) (fun _ hk => trivial))); (case aS => exact (below_size (by repeat (first | (with_reducible first | exact HB.out | apply below_alloc | apply pw_below_drewN | apply below_drew1 | refine below_set ?_ GE13001.out | refine below_set ?_ GE13015.out) | exact HB.out)))); (case aL => have := LMc41.out; omega); intro v13018 w48 ho hb hg hat; rw [← Ny13017.out] at ho; have n0_ := Aside0.mk (Kd.R_over' (by (with_reducible repeat (first | apply Kd.R_alloc | apply Kd.R_drewN | apply Kd.R_drew)); exact (Kd.R_mono (Kd.R_far (p := ⟨gb13015, 1, none⟩) (Kd.R_far (p := ⟨gb13015, 0, none⟩) (Kd.R_mono HO_49.out (fun k_ hk => (⟨hk, hk.2⟩ : _ ∧ k_ ≠ gb13015))) (fun _ hk => hk.2) (.int .u8 ((rd_T60 y13011 x51_3).f0))) (fun _ hk => hk.2) (.int .u8 ((rd_T60 y13011 x51_3).f1))) (fun _ h_ => h_.1))) (Kd.R_typed (by (with_reducible repeat (first | apply Kd.R_alloc | apply Kd.R_drewN | apply Kd.R_drew)); exact (Kd.R_mono (Kd.R_far (p := ⟨gb13015, 1, none⟩) (Kd.R_far (p := ⟨gb13015, 0, none⟩) (Kd.R_types HO_5.out BK13015.out (by decide)) (fun _ hk => hk.2) (.int .u8 ((rd_T60 y13011 x51_3).f0))) (fun _ hk => hk.2) (.int .u8 ((rd_T60 y13011 x51_3).f1))) (fun _ h_ => h_.1)))) (by decide) hg); have n1_ := Aside0.mk (blk_grown (g := gb13001) (o := .cells #[.string t13002, .string t13003] 34 (0, 0)) (by (with_reducible repeat (first | refine blk_drewN ?_ _ | refine blk_drew ?_ | refine blk_alloc ?_ _)); refine blk_far ?_ NB13001_13015.out _; (with_reducible repeat (first | refine blk_drewN ?_ _ | refine blk_drew ?_ | refine blk_alloc ?_ _)); refine blk_far ?_ NB13001_13015.out _; (with_reducible repeat (first | refine blk_drewN ?_ _ | refine blk_drew ?_ | refine blk_alloc ?_ _)); exact BK13001.out) hg (Kd.R_ne HO_5.out BK13001.out (by decide))); have n2_ := Aside0.mk (blk_grown (g := gb13015) (o := .cells #[.int .u8 ((rd_T60 y13011 x51_3).f0), .int .u8 ((rd_T60 y13011 x51_3).f1)] 60 (0, 0)) (by (with_reducible repeat (first | refine blk_drewN ?_ _ | refine blk_drew ?_ | refine blk_alloc ?_ _)); refine blk_put (cs := #[.int .u8 ((rd_T60 y13011 x51_3).f0), .int .u8 0]) ?_ 1 _ rfl; (with_reducible repeat (first | refine blk_drewN ?_ _ | refine blk_drew ?_ | refine blk_alloc ?_ _)); refine blk_put (cs := #[.int .u8 0, .int .u8 0]) ?_ 0 _ rfl; (with_reducible repeat (first | refine blk_drewN ?_ _ | refine blk_drew ?_ | refine blk_alloc ?_ _)); exact BK13015.out) hg (Kd.R_ne HO_5.out BK13015.out (by decide))); have n3_ := Aside0.mk (hb); have n4_ := Aside0.mk (ho); clear HO_49; clear BK13001; clear BK13015; clear HB; clear HO_5; have HO_49 := n0_; have BK13001 := n1_; have BK13015 := n2_; have HB := n3_; have HO13019 := n4_; clear n0_ n1_ n2_ n3_ n4_; clear ho hb hg hat; have hcz49_0 : w48.cell? ⟨gb13015, 0, none⟩ = some (.int .u8 ((rd_T60 y13011 x51_3).f0)) := (blk_cell BK13015.out 0).trans rfl; have hcz49_1 : w48.cell? ⟨gb13015, 1, none⟩ = some (.int .u8 ((rd_T60 y13011 x51_3).f1)) := (blk_cell BK13015.out 1).trans rfl; have hfz49_0 := blk_frozen BK13015.out 0; have hfz49_1 := blk_frozen BK13015.out 1) | (go_at_call 33; (with_reducible refine (impl_isVariable.calls ((rd_T60 y13011 x51_3).f1) true _ A42.out).mono ?_); rintro e w' ⟨rfl, ⟨nd, rfl⟩⟩; (try first | exact ⟨rfl, _, World.drewN_drewN _ _ _⟩ | exact ⟨rfl, _, Eq.trans (World.drewN_drewN _ _ _) (congrArg (World.drewN _) (Nat.add_assoc _ _ _))⟩)) | ((with_reducible refine gate_dst (N := 81) rfl ?_); refine Kd.R_lit (Kd.int .u8) _ 5 ?hg (N := 81) ?hd (xs := ([(rd_T60 y13011 x51_3).f1, (rd_T60 y13011 x51_3).f0] : List Int)) (inner := [.int .u8 ((rd_T60 y13011 x51_3).f1), .int .u8 ((rd_T60 y13011 x51_3).f0)]) (ok := fun _ => True) (okp := fun _ => True) ?hr ?hp (fun _ hk => hk) trivial (Below.refl _ _) (Nat.le_refl _) (by simp) ?_; (case hd => rfl); (case hg => rfl); (case hr => first | (go_simp; done) | (go_simp; rfl)); (case hp => exact (Reps.one (show Kd.M (Kd.int .u8) _ _ _ ((rd_T60 y13011 x51_3).f1) [.int .u8 ((rd_T60 y13011 x51_3).f1)] from rfl) (Reps.one (show Kd.M (Kd.int .u8) _ _ _ ((rd_T60 y13011 x51_3).f0) [.int .u8 ((rd_T60 y13011 x51_3).f0)] from rfl) (Reps.none _ _)))); intro v13022 w50 ho51 hb hg_ hnew_; clear hg_ hnew_; (first | rw [← Ny13021.out] at ho51 | (simp only [Int.reduceToNat] at ho51; rw [← Ny13021.out] at ho51)); have n0_ := Aside0.mk (Kd.R_below (by (with_reducible repeat (first | apply Kd.R_alloc | apply Kd.R_drewN | apply Kd.R_drew)); exact HO_49.out) hb); have n1_ := Aside0.mk (Kd.R_below (by (with_reducible repeat (first | apply Kd.R_alloc | apply Kd.R_drewN | apply Kd.R_drew)); exact HO13019.out) hb); have n2_ := Aside0.mk (Kd.R_lower ho51 (below_size (by repeat (first | (with_reducible first | exact HB.out | apply below_alloc | apply pw_below_drewN | apply below_drew1 | refine below_set ?_ GE13001.out | refine below_set ?_ GE13015.out) | exact HB.out)))); have n3_ := Aside0.mk (blk_below (g := gb13001) (o := .cells #[.string t13002, .string t13003] 34 (0, 0)) (by (with_reducible repeat (first | refine blk_drewN ?_ _ | refine blk_drew ?_ | refine blk_alloc ?_ _)); exact BK13001.out) hb); have n4_ := Aside0.mk (blk_below (g := gb13015) (o := .cells #[.int .u8 ((rd_T60 y13011 x51_3).f0), .int .u8 ((rd_T60 y13011 x51_3).f1)] 60 (0, 0)) (by (with_reducible repeat (first | refine blk_drewN ?_ _ | refine blk_drew ?_ | refine blk_alloc ?_ _)); exact BK13015.out) hb); have n5_ := Aside0.mk (below_step (by repeat (first | (with_reducible first | exact HB.out | apply below_alloc | apply pw_below_drewN | apply below_drew1 | refine below_set ?_ GE13001.out | refine below_set ?_ GE13015.out) | exact HB.out)) hb); clear HO_49; clear HO13019; clear BK13001; clear BK13015; clear HB; have HO_49 := n0_; have HO13019 := n1_; have HO13023 := n2_; have BK13001 := n3_; have BK13015 := n4_; have HB := n5_; clear n0_ n1_ n2_ n3_ n4_ n5_; clear hb ho51; have hcv52 := own_string (P := Try.prog) Try.underlying64 Try.underlying5 Try.underlying9 (Kd.own_of_R HO13023.out)) | ((with_reducible refine gate_builtin (b := .append) (xs := #[.tmp 74, .tmp 84]) rfl ?_); at_builtin; refine Kd.R_append k58 (w0 := w) w.heap.size rfl (.tmp 74) (.tmp 84) 32 58 (.agg #[(.int .u8 0), (.string ⟨#[]⟩)]) 24 rfl Try.underlying32 info58 rfl (by decide) (by omega) v13018 y13017 (⟨(rd_T60 y13011 x51_3).f0, strOfNums y13021⟩ : S58) [.int .u8 ((rd_T60 y13011 x51_3).f0), .string (strOfNums y13021)] (fun _ => True) (fun _ => False) rfl rfl ?aP (fun _ hk => hk.elim) ?aF ?aO ?aB ?aS ?aL ?_; (case aP => exact k58_mkM _ _ _ (⟨(rd_T60 y13011 x51_3).f0, strOfNums y13021⟩ : S58)); (case aB => exact (by repeat (first | (with_reducible first | exact HB.out | apply below_alloc | apply pw_below_drewN | apply below_drew1 | refine below_set ?_ GE13001.out | refine below_set ?_ GE13015.out) | exact HB.out))); (case aF => exact (fun _ _ => trivial)); (case aO => exact (by (with_reducible repeat (first | apply Kd.R_alloc | apply Kd.R_drewN | apply Kd.R_drew)); exact HO13019.out)); (case aS => exact (below_size (by repeat (first | (with_reducible first | exact HB.out | apply below_alloc | apply pw_below_drewN | apply below_drew1 | refine below_set ?_ GE13001.out | refine below_set ?_ GE13015.out) | exact HB.out)))); (case aL => have := LMc44.out; omega); intro v13025 w53 ho hb hg hat; rw [← Ny13024.out] at ho; have n0_ := Aside0.mk (Kd.R_over' (by (with_reducible repeat (first | apply Kd.R_alloc | apply Kd.R_drewN | apply Kd.R_drew)); exact HO_49.out) (Kd.R_typed (by (with_reducible repeat (first | apply Kd.R_alloc | apply Kd.R_drewN | apply Kd.R_drew)); exact HO13019.out)) (by decide) hg); have n1_ := Aside0.mk (blk_grown (g := gb13001) (o := .cells #[.string t13002, .string t13003] 34 (0, 0)) (by (with_reducible repeat (first | refine blk_drewN ?_ _ | refine blk_drew ?_ | refine blk_alloc ?_ _)); exact BK13001.out) hg (Kd.R_ne HO13019.out BK13001.out (by decide))); have n2_ := Aside0.mk (blk_grown (g := gb13015) (o := .cells #[.int .u8 ((rd_T60 y13011 x51_3).f0), .int .u8 ((rd_T60 y13011 x51_3).f1)] 60 (0, 0)) (by (with_reducible repeat (first | refine blk_drewN ?_ _ | refine blk_drew ?_ | refine blk_alloc ?_ _)); exact BK13015.out) hg (Kd.R_ne HO13019.out BK13015.out (by decide))); have n3_ := Aside0.mk (Kd.R_over' (by (with_reducible repeat (first | apply Kd.R_alloc | apply Kd.R_drewN | apply Kd.R_drew)); exact HO13023.out) (Kd.R_typed (by (with_reducible repeat (first | apply Kd.R_alloc | apply Kd.R_drewN | apply Kd.R_drew)); exact HO13019.out)) (by decide) hg); have n4_ := Aside0.mk (hb); have n5_ := Aside0.mk (ho); clear HO_49; clear BK13001; clear BK13015; clear HO13023; clear HB; clear HO13019; have HO_49 := n0_; have BK13001 := n1_; have BK13015 := n2_; have HO13023 := n3_; have HB := n4_; have HO13026 := n5_; clear n0_ n1_ n2_ n3_ n4_ n5_; clear ho hb hg hat))
                                    repeat (go_quiet (first | ((with_reducible refine gate_dst (N := 7) rfl ?_); refine box_event ?hg (N := 7) ?hd (cs := #[.int .u8 0, .int .u8 0]) (t := 60) ?hr ?_; (case hd => rfl); (case hg => rfl); (case hr => first | (go_simp; done) | (go_simp; rfl)); intro gb13015 hg w45 hbox hb; have n0_ := Aside0.mk (Kd.R_below (by (with_reducible repeat (first | apply Kd.R_alloc | apply Kd.R_drewN | apply Kd.R_drew)); exact HO_5.out) hb); have n1_ := Aside0.mk (Kd.R_below (Kd.R_elderB (by (with_reducible repeat (first | apply Kd.R_alloc | apply Kd.R_drewN | apply Kd.R_drew)); exact HO_49.out) gb13015 (Nat.le_of_eq hg.symm)) hb); have n2_ := Aside0.mk (blk_below (g := gb13001) (o := .cells #[.string t13002, .string t13003] 34 (0, 0)) (by (with_reducible repeat (first | refine blk_drewN ?_ _ | refine blk_drew ?_ | refine blk_alloc ?_ _)); exact BK13001.out) hb); have n3_ := Aside0.mk (below_step (by repeat (first | (with_reducible first | exact HB.out | apply below_alloc | apply pw_below_drewN | apply below_drew1 | refine below_set ?_ GE13001.out) | exact HB.out)) hb); have n4_ := Aside0.mk (hbox); have n5_ := Aside0.mk ((by rw [hg]; exact (below_size (by repeat (first | (with_reducible first | exact HB.out | apply below_alloc | apply pw_below_drewN | apply below_drew1 | refine below_set ?_ GE13001.out) | exact HB.out))) : w.heap.size ≤ gb13015)); have n6_ := Aside0.mk ((by rw [hg]; exact (below_size (by repeat (first | (with_reducible first | exact HB.out | apply below_alloc | apply pw_below_drewN | apply below_drew1 | refine below_set ?_ GE13001.out) | exact HB.out))) : w.heap.size ≤ gb13015)); have n7_ := Aside0.mk ((by rw [hg]; exact Nat.ne_of_lt (blk_lt (g := gb13001) (o := .cells #[.string t13002, .string t13003] 34 (0, 0)) (by (with_reducible repeat (first | refine blk_drewN ?_ _ | refine blk_drew ?_ | refine blk_alloc ?_ _)); exact BK13001.out)) : gb13001 ≠ gb13015)); have n8_ := Aside0.mk ((by rw [hg]; exact Nat.ne_of_gt (blk_lt (g := gb13001) (o := .cells #[.string t13002, .string t13003] 34 (0, 0)) (by (with_reducible repeat (first | refine blk_drewN ?_ _ | refine blk_drew ?_ | refine blk_alloc ?_ _)); exact BK13001.out)) : gb13015 ≠ gb13001)); clear HO_5; clear HO_49; clear BK13001; clear HB; have HO_5 := n0_; have HO_49 := n1_; have BK13001 := n2_; have HB := n3_; have BK13015 := n4_; have GW13015 := n5_; have GE13015 := n6_; have NB13001_13015 := n7_; have NB13015_13001 := n8_; clear n0_ n1_ n2_ n3_ n4_ n5_ n6_ n7_ n8_; clear hb hbox hg; have hnb46 := NB13015_13001.out; have hnc46 := NB13001_13015.out; have hcz47_0 : w45.cell? ⟨gb13015, 0, none⟩ = some (.int .u8 0) := (blk_cell BK13015.out 0).trans rfl; have hcz47_1 : w45.cell? ⟨gb13015, 1, none⟩ = some (.int .u8 0) := (blk_cell BK13015.out 1).trans rfl; have hfz47_0 := blk_frozen BK13015.out 0; have hfz47_1 := blk_frozen BK13015.out 1) | (go_at_call 33; (with_reducible refine (impl_isVariable.calls ((rd_T60 y13011 x51_3).f0) true _ A39.out).mono ?_); rintro e w' ⟨rfl, ⟨nd, rfl⟩⟩; (try first | exact ⟨rfl, _, World.drewN_drewN _ _ _⟩ | exact ⟨rfl, _, Eq.trans (World.drewN_drewN _ _ _) (congrArg (World.drewN _) (Nat.add_assoc _ _ _))⟩)) | ((with_reducible refine gate_builtin (b := .append) (xs := #[.tmp 59, .tmp 63]) rfl ?_); at_builtin; refine Kd.R_append k58 (w0 := w) w.heap.size rfl (.tmp 59) (.tmp 63) 32 58 (.agg #[(.int .u8 0), (.string ⟨#[]⟩)]) 24 rfl Try.underlying32 info58 rfl (by decide) (by omega) u5 x5_3 (⟨(rd_T60 y13011 x51_3).f0, (⟨#[]⟩ : ByteArray)⟩ : S58) [.int .u8 ((rd_T60 y13011 x51_3).f0), .string (⟨#[]⟩ : ByteArray)] (fun _ => True) (fun _ => False) rfl (by first | (go_simp; done) | (go_simp; rfl)) ?aP (fun _ hk => hk.elim) ?aF ?aO ?aB ?aS ?aL ?_; (case aP => exact k58_mkM _ _ _ (⟨(rd_T60 y13011 x51_3).f0, (⟨#[]⟩ : ByteArray)⟩ : S58)); (case aB => exact (by repeat (first | (with_reducible first | exact HB.out | apply below_alloc | apply pw_below_drewN | apply below_drew1 | refine below_set ?_ GE13001.out | refine below_set ?_ GE13015.out) | exact HB.out))); (case aF => exact (fun _ _ => trivial)); (case aO => exact (by (with_reducible repeat (first | apply Kd.R_alloc | apply Kd.R_drewN | apply Kd.R_drew)); exact Kd.R_mono (Kd.R_far (p := ⟨gb13015, 1, none⟩) (Kd.R_far (p := ⟨gb13015, 0, none⟩) (Kd.R_types HO_5.out BK13015.out (by decide)) (fun _ hk => hk.2) (.int .u8 ((rd_T60 y13011 x51_3).f0))) (fun _ hk => hk.2) (.int .u8 ((rd_T60 y13011 x51_3).f1))) (fun _ hk => trivial))); (case aS => exact (below_size (by repeat (first | (with_reducible first | exact HB.out | apply below_alloc | apply pw_below_drewN | apply below_drew1 | refine below_set ?_ GE13001.out | refine below_set ?_ GE13015.out) | exact HB.out)))); (case aL => have := LMc41.out; omega); intro v13018 w48 ho hb hg hat; rw [← Ny13017.out] at ho; have n0_ := Aside0.mk (Kd.R_over' (by (with_reducible repeat (first | apply Kd.R_alloc | apply Kd.R_drewN | apply Kd.R_drew)); exact (Kd.R_mono (Kd.R_far (p := ⟨gb13015, 1, none⟩) (Kd.R_far (p := ⟨gb13015, 0, none⟩) (Kd.R_mono HO_49.out (fun k_ hk => (⟨hk, hk.2⟩ : _ ∧ k_ ≠ gb13015))) (fun _ hk => hk.2) (.int .u8 ((rd_T60 y13011 x51_3).f0))) (fun _ hk => hk.2) (.int .u8 ((rd_T60 y13011 x51_3).f1))) (fun _ h_ => h_.1))) (Kd.R_typed (by (with_reducible repeat (first | apply Kd.R_alloc | apply Kd.R_drewN | apply Kd.R_drew)); exact (Kd.R_mono (Kd.R_far (p := ⟨gb13015, 1, none⟩) (Kd.R_far (p := ⟨gb13015, 0, none⟩) (Kd.R_types HO_5.out BK13015.out (by decide)) (fun _ hk => hk.2) (.int .u8 ((rd_T60 y13011 x51_3).f0))) (fun _ hk => hk.2) (.int .u8 ((rd_T60 y13011 x51_3).f1))) (fun _ h_ => h_.1)))) (by decide) hg); have n1_ := Aside0.mk (blk_grown (g := gb13001) (o := .cells #[.string t13002, .string t13003] 34 (0, 0)) (by (with_reducible repeat (first | refine blk_drewN ?_ _ | refine blk_drew ?_ | refine blk_alloc ?_ _)); refine blk_far ?_ NB13001_13015.out _; (with_reducible repeat (first | refine blk_drewN ?_ _ | refine blk_drew ?_ | refine blk_alloc ?_ _)); refine blk_far ?_ NB13001_13015.out _; (with_reducible repeat (first | refine blk_drewN ?_ _ | refine blk_drew ?_ | refine blk_alloc ?_ _)); exact BK13001.out) hg (Kd.R_ne HO_5.out BK13001.out (by decide))); have n2_ := Aside0.mk (blk_grown (g := gb13015) (o := .cells #[.int .u8 ((rd_T60 y13011 x51_3).f0), .int .u8 ((rd_T60 y13011 x51_3).f1)] 60 (0, 0)) (by (with_reducible repeat (first | refine blk_drewN ?_ _ | refine blk_drew ?_ | refine blk_alloc ?_ _)); refine blk_put (cs := #[.int .u8 ((rd_T60 y13011 x51_3).f0), .int .u8 0]) ?_ 1 _ rfl; (with_reducible repeat (first | refine blk_drewN ?_ _ | refine blk_drew ?_ | refine blk_alloc ?_ _)); refine blk_put (cs := #[.int .u8 0, .int .u8 0]) ?_ 0 _ rfl; (with_reducible repeat (first | refine blk_drewN ?_ _ | refine blk_drew ?_ | refine blk_alloc ?_ _)); exact BK13015.out) hg (Kd.R_ne HO_5.out BK13015.out (by decide))); have n3_ := Aside0.mk (hb); have n4_ := Aside0.mk (ho); clear HO_49; clear BK13001; clear BK13015; clear HB; clear HO_5; have HO_49 := n0_; have BK13001 := n1_; have BK13015 := n2_; have HB := n3_; have HO13019 := n4_; clear n0_ n1_ n2_ n3_ n4_; clear ho hb hg hat; have hcz49_0 : w48.cell? ⟨gb13015, 0, none⟩ = some (.int .u8 ((rd_T60 y13011 x51_3).f0)) := (blk_cell BK13015.out 0).trans rfl; have hcz49_1 : w48.cell? ⟨gb13015, 1, none⟩ = some (.int .u8 ((rd_T60 y13011 x51_3).f1)) := (blk_cell BK13015.out 1).trans rfl; have hfz49_0 := blk_frozen BK13015.out 0; have hfz49_1 := blk_frozen BK13015.out 1) | (go_at_call 33; (with_reducible refine (impl_isVariable.calls ((rd_T60 y13011 x51_3).f1) true _ A42.out).mono ?_); rintro e w' ⟨rfl, ⟨nd, rfl⟩⟩; (try first | exact ⟨rfl, _, World.drewN_drewN _ _ _⟩ | exact ⟨rfl, _, Eq.trans (World.drewN_drewN _ _ _) (congrArg (World.drewN _) (Nat.add_assoc _ _ _))⟩)) | ((with_reducible refine gate_dst (N := 81) rfl ?_); refine Kd.R_lit (Kd.int .u8) _ 5 ?hg (N := 81) ?hd (xs := ([(rd_T60 y13011 x51_3).f1, (rd_T60 y13011 x51_3).f0] : List Int)) (inner := [.int .u8 ((rd_T60 y13011 x51_3).f1), .int .u8 ((rd_T60 y13011 x51_3).f0)]) (ok := fun _ => True) (okp := fun _ => True) ?hr ?hp (fun _ hk => hk) trivial (Below.refl _ _) (Nat.le_refl _) (by simp) ?_; (case hd => rfl); (case hg => rfl); (case hr => first | (go_simp; done) | (go_simp; rfl)); (case hp => exact (Reps.one (show Kd.M (Kd.int .u8) _ _ _ ((rd_T60 y13011 x51_3).f1) [.int .u8 ((rd_T60 y13011 x51_3).f1)] from rfl) (Reps.one (show Kd.M (Kd.int .u8) _ _ _ ((rd_T60 y13011 x51_3).f0) [.int .u8 ((rd_T60 y13011 x51_3).f0)] from rfl) (Reps.none _ _)))); intro v13022 w50 ho51 hb hg_ hnew_; clear hg_ hnew_; (first | rw [← Ny13021.out] at ho51 | (simp only [Int.reduceToNat] at ho51; rw [← Ny13021.out] at ho51)); have n0_ := Aside0.mk (Kd.R_below (by (with_reducible repeat (first | apply Kd.R_alloc | apply Kd.R_drewN | apply Kd.R_drew)); exact HO_49.out) hb); have n1_ := Aside0.mk (Kd.R_below (by (with_reducible repeat (first | apply Kd.R_alloc | apply Kd.R_drewN | apply Kd.R_drew)); exact HO13019.out) hb); have n2_ := Aside0.mk (Kd.R_lower ho51 (below_size (by repeat (first | (with_reducible first | exact HB.out | apply below_alloc | apply pw_below_drewN | apply below_drew1 | refine below_set ?_ GE13001.out | refine below_set ?_ GE13015.out) | exact HB.out)))); have n3_ := Aside0.mk (blk_below (g := gb13001) (o := .cells #[.string t13002, .string t13003] 34 (0, 0)) (by (with_reducible repeat (first | refine blk_drewN ?_ _ | refine blk_drew ?_ | refine blk_alloc ?_ _)); exact BK13001.out) hb); have n4_ := Aside0.mk (blk_below (g := gb13015) (o := .cells #[.int .u8 ((rd_T60 y13011 x51_3).f0), .int .u8 ((rd_T60 y13011 x51_3).f1)] 60 (0, 0)) (by (with_reducible repeat (first | refine blk_drewN ?_ _ | refine blk_drew ?_ | refine blk_alloc ?_ _)); exact BK13015.out) hb); have n5_ := Aside0.mk (below_step (by repeat (first | (with_reducible first | exact HB.out | apply below_alloc | apply pw_below_drewN | apply below_drew1 | refine below_set ?_ GE13001.out | refine below_set ?_ GE13015.out) | exact HB.out)) hb); clear HO_49; clear HO13019; clear BK13001; clear BK13015; clear HB; have HO_49 := n0_; have HO13019 := n1_; have HO13023 := n2_; have BK13001 := n3_; have BK13015 := n4_; have HB := n5_; clear n0_ n1_ n2_ n3_ n4_ n5_; clear hb ho51; have hcv52 := own_string (P := Try.prog) Try.underlying64 Try.underlying5 Try.underlying9 (Kd.own_of_R HO13023.out)) | ((with_reducible refine gate_builtin (b := .append) (xs := #[.tmp 74, .tmp 84]) rfl ?_); at_builtin; refine Kd.R_append k58 (w0 := w) w.heap.size rfl (.tmp 74) (.tmp 84) 32 58 (.agg #[(.int .u8 0), (.string ⟨#[]⟩)]) 24 rfl Try.underlying32 info58 rfl (by decide) (by omega) v13018 y13017 (⟨(rd_T60 y13011 x51_3).f0, strOfNums y13021⟩ : S58) [.int .u8 ((rd_T60 y13011 x51_3).f0), .string (strOfNums y13021)] (fun _ => True) (fun _ => False) rfl rfl ?aP (fun _ hk => hk.elim) ?aF ?aO ?aB ?aS ?aL ?_; (case aP => exact k58_mkM _ _ _ (⟨(rd_T60 y13011 x51_3).f0, strOfNums y13021⟩ : S58)); (case aB => exact (by repeat (first | (with_reducible first | exact HB.out | apply below_alloc | apply pw_below_drewN | apply below_drew1 | refine below_set ?_ GE13001.out | refine below_set ?_ GE13015.out) | exact HB.out))); (case aF => exact (fun _ _ => trivial)); (case aO => exact (by (with_reducible repeat (first | apply Kd.R_alloc | apply Kd.R_drewN | apply Kd.R_drew)); exact HO13019.out)); (case aS => exact (below_size (by repeat (first | (with_reducible first | exact HB.out | apply below_alloc | apply pw_below_drewN | apply below_drew1 | refine below_set ?_ GE13001.out | refine below_set ?_ GE13015.out) | exact HB.out)))); (case aL => have := LMc44.out; omega); intro v13025 w53 ho hb hg hat; rw [← Ny13024.out] at ho; have n0_ := Aside0.mk (Kd.R_over' (by (with_reducible repeat (first | apply Kd.R_alloc | apply Kd.R_drewN | apply Kd.R_drew)); exact HO_49.out) (Kd.R_typed (by (with_reducible repeat (first | apply Kd.R_alloc | apply Kd.R_drewN | apply Kd.R_drew)); exact HO13019.out)) (by decide) hg); have n1_ := Aside0.mk (blk_grown (g := gb13001) (o := .cells #[.string t13002, .string t13003] 34 (0, 0)) (by (with_reducible repeat (first | refine blk_drewN ?_ _ | refine blk_drew ?_ | refine blk_alloc ?_ _)); exact BK13001.out) hg (Kd.R_ne HO13019.out BK13001.out (by decide))); have n2_ := Aside0.mk (blk_grown (g := gb13015) (o := .cells #[.int .u8 ((rd_T60 y13011 x51_3).f0), .int .u8 ((rd_T60 y13011 x51_3).f1)] 60 (0, 0)) (by (with_reducible repeat (first | refine blk_drewN ?_ _ | refine blk_drew ?_ | refine blk_alloc ?_ _)); exact BK13015.out) hg (Kd.R_ne HO13019.out BK13015.out (by decide))); have n3_ := Aside0.mk (Kd.R_over' (by (with_reducible repeat (first | apply Kd.R_alloc | apply Kd.R_drewN | apply Kd.R_drew)); exact HO13023.out) (Kd.R_typed (by (with_reducible repeat (first | apply Kd.R_alloc | apply Kd.R_drewN | apply Kd.R_drew)); exact HO13019.out)) (by decide) hg); have n4_ := Aside0.mk (hb); have n5_ := Aside0.mk (ho); clear HO_49; clear BK13001; clear BK13015; clear HO13023; clear HB; clear HO13019; have HO_49 := n0_; have BK13001 := n1_; have BK13015 := n2_; have HO13023 := n3_; have HB := n4_; have HO13026 := n5_; clear n0_ n1_ n2_ n3_ n4_ n5_; clear ho hb hg hat)); try go_wp2_with (first | ((with_reducible refine gate_dst (N := 7) rfl ?_); refine box_event ?hg (N := 7) ?hd (cs := #[.int .u8 0, .int .u8 0]) (t := 60) ?hr ?_; (case hd => rfl); (case hg => rfl); (case hr => first | (go_simp; done) | (go_simp; rfl)); intro gb13015 hg w45 hbox hb; have n0_ := Aside0.mk (Kd.R_below (by (with_reducible repeat (first | apply Kd.R_alloc | apply Kd.R_drewN | apply Kd.R_drew)); exact HO_5.out) hb); have n1_ := Aside0.mk (Kd.R_below (Kd.R_elderB (by (with_reducible repeat (first | apply Kd.R_alloc | apply Kd.R_drewN | apply Kd.R_drew)); exact HO_49.out) gb13015 (Nat.le_of_eq hg.symm)) hb); have n2_ := Aside0.mk (blk_below (g := gb13001) (o := .cells #[.string t13002, .string t13003] 34 (0, 0)) (by (with_reducible repeat (first | refine blk_drewN ?_ _ | refine blk_drew ?_ | refine blk_alloc ?_ _)); exact BK13001.out) hb); have n3_ := Aside0.mk (below_step (by repeat (first | (with_reducible first | exact HB.out | apply below_alloc | apply pw_below_drewN | apply below_drew1 | refine below_set ?_ GE13001.out) | exact HB.out)) hb); have n4_ := Aside0.mk (hbox); have n5_ := Aside0.mk ((by rw [hg]; exact (below_size (by repeat (first | (with_reducible first | exact HB.out | apply below_alloc | apply pw_below_drewN | apply below_drew1 | refine below_set ?_ GE13001.out) | exact HB.out))) : w.heap.size ≤ gb13015)); have n6_ := Aside0.mk ((by rw [hg]; exact (below_size (by repeat (first | (with_reducible first | exact HB.out | apply below_alloc | apply pw_below_drewN | apply below_drew1 | refine below_set ?_ GE13001.out) | exact HB.out))) : w.heap.size ≤ gb13015)); have n7_ := Aside0.mk ((by rw [hg]; exact Nat.ne_of_lt (blk_lt (g := gb13001) (o := .cells #[.string t13002, .string t13003] 34 (0, 0)) (by (with_reducible repeat (first | refine blk_drewN ?_ _ | refine blk_drew ?_ | refine blk_alloc ?_ _)); exact BK13001.out)) : gb13001 ≠ gb13015)); have n8_ := Aside0.mk ((by rw [hg]; exact Nat.ne_of_gt (blk_lt (g := gb13001) (o := .cells #[.string t13002, .string t13003] 34 (0, 0)) (by (with_reducible repeat (first | refine blk_drewN ?_ _ | refine blk_drew ?_ | refine blk_alloc ?_ _)); exact BK13001.out)) : gb13015 ≠ gb13001)); clear HO_5; clear HO_49; clear BK13001; clear HB; have HO_5 := n0_; have HO_49 := n1_; have BK13001 := n2_; have HB := n3_; have BK13015 := n4_; have GW13015 := n5_; have GE13015 := n6_; have NB13001_13015 := n7_; have NB13015_13001 := n8_; clear n0_ n1_ n2_ n3_ n4_ n5_ n6_ n7_ n8_; clear hb hbox hg; have hnb46 := NB13015_13001.out; have hnc46 := NB13001_13015.out; have hcz47_0 : w45.cell? ⟨gb13015, 0, none⟩ = some (.int .u8 0) := (blk_cell BK13015.out 0).trans rfl; have hcz47_1 : w45.cell? ⟨gb13015, 1, none⟩ = some (.int .u8 0) := (blk_cell BK13015.out 1).trans rfl; have hfz47_0 := blk_frozen BK13015.out 0; have hfz47_1 := blk_frozen BK13015.out 1) | (go_at_call 33; (with_reducible refine (impl_isVariable.calls ((rd_T60 y13011 x51_3).f0) true _ A39.out).mono ?_); rintro e w' ⟨rfl, ⟨nd, rfl⟩⟩; (try first | exact ⟨rfl, _, World.drewN_drewN _ _ _⟩ | exact ⟨rfl, _, Eq.trans (World.drewN_drewN _ _ _) (congrArg (World.drewN _) (Nat.add_assoc _ _ _))⟩)) | ((with_reducible refine gate_builtin (b := .append) (xs := #[.tmp 59, .tmp 63]) rfl ?_); at_builtin; refine Kd.R_append k58 (w0 := w) w.heap.size rfl (.tmp 59) (.tmp 63) 32 58 (.agg #[(.int .u8 0), (.string ⟨#[]⟩)]) 24 rfl Try.underlying32 info58 rfl (by decide) (by omega) u5 x5_3 (⟨(rd_T60 y13011 x51_3).f0, (⟨#[]⟩ : ByteArray)⟩ : S58) [.int .u8 ((rd_T60 y13011 x51_3).f0), .string (⟨#[]⟩ : ByteArray)] (fun _ => True) (fun _ => False) rfl (by first | (go_simp; done) | (go_simp; rfl)) ?aP (fun _ hk => hk.elim) ?aF ?aO ?aB ?aS ?aL ?_; (case aP => exact k58_mkM _ _ _ (⟨(rd_T60 y13011 x51_3).f0, (⟨#[]⟩ : ByteArray)⟩ : S58)); (case aB => exact (by repeat (first | (with_reducible first | exact HB.out | apply below_alloc | apply pw_below_drewN | apply below_drew1 | refine below_set ?_ GE13001.out | refine below_set ?_ GE13015.out) | exact HB.out))); (case aF => exact (fun _ _ => trivial)); (case aO => exact (by (with_reducible repeat (first | apply Kd.R_alloc | apply Kd.R_drewN | apply Kd.R_drew)); exact Kd.R_mono (Kd.R_far (p := ⟨gb13015, 1, none⟩) (Kd.R_far (p := ⟨gb13015, 0, none⟩) (Kd.R_types HO_5.out BK13015.out (by decide)) (fun _ hk => hk.2) (.int .u8 ((rd_T60 y13011 x51_3).f0))) (fun _ hk => hk.2) (.int .u8 ((rd_T60 y13011 x51_3).f1))) (fun _ hk => trivial))); (case aS => exact (below_size (by repeat (first | (with_reducible first | exact HB.out | apply below_alloc | apply pw_below_drewN | apply below_drew1 | refine below_set ?_ GE13001.out | refine below_set ?_ GE13015.out) | exact HB.out)))); (case aL => have := LMc41.out; omega); intro v13018 w48 ho hb hg hat; rw [← Ny13017.out] at ho; have n0_ := Aside0.mk (Kd.R_over' (by (with_reducible repeat (first | apply Kd.R_alloc | apply Kd.R_drewN | apply Kd.R_drew)); exact (Kd.R_mono (Kd.R_far (p := ⟨gb13015, 1, none⟩) (Kd.R_far (p := ⟨gb13015, 0, none⟩) (Kd.R_mono HO_49.out (fun k_ hk => (⟨hk, hk.2⟩ : _ ∧ k_ ≠ gb13015))) (fun _ hk => hk.2) (.int .u8 ((rd_T60 y13011 x51_3).f0))) (fun _ hk => hk.2) (.int .u8 ((rd_T60 y13011 x51_3).f1))) (fun _ h_ => h_.1))) (Kd.R_typed (by (with_reducible repeat (first | apply Kd.R_alloc | apply Kd.R_drewN | apply Kd.R_drew)); exact (Kd.R_mono (Kd.R_far (p := ⟨gb13015, 1, none⟩) (Kd.R_far (p := ⟨gb13015, 0, none⟩) (Kd.R_types HO_5.out BK13015.out (by decide)) (fun _ hk => hk.2) (.int .u8 ((rd_T60 y13011 x51_3).f0))) (fun _ hk => hk.2) (.int .u8 ((rd_T60 y13011 x51_3).f1))) (fun _ h_ => h_.1)))) (by decide) hg); have n1_ := Aside0.mk (blk_grown (g := gb13001) (o := .cells #[.string t13002, .string t13003] 34 (0, 0)) (by (with_reducible repeat (first | refine blk_drewN ?_ _ | refine blk_drew ?_ | refine blk_alloc ?_ _)); refine blk_far ?_ NB13001_13015.out _; (with_reducible repeat (first | refine blk_drewN ?_ _ | refine blk_drew ?_ | refine blk_alloc ?_ _)); refine blk_far ?_ NB13001_13015.out _; (with_reducible repeat (first | refine blk_drewN ?_ _ | refine blk_drew ?_ | refine blk_alloc ?_ _)); exact BK13001.out) hg (Kd.R_ne HO_5.out BK13001.out (by decide))); have n2_ := Aside0.mk (blk_grown (g := gb13015) (o := .cells #[.int .u8 ((rd_T60 y13011 x51_3).f0), .int .u8 ((rd_T60 y13011 x51_3).f1)] 60 (0, 0)) (by (with_reducible repeat (first | refine blk_drewN ?_ _ | refine blk_drew ?_ | refine blk_alloc ?_ _)); refine blk_put (cs := #[.int .u8 ((rd_T60 y13011 x51_3).f0), .int .u8 0]) ?_ 1 _ rfl; (with_reducible repeat (first | refine blk_drewN ?_ _ | refine blk_drew ?_ | refine blk_alloc ?_ _)); refine blk_put (cs := #[.int .u8 0, .int .u8 0]) ?_ 0 _ rfl; (with_reducible repeat (first | refine blk_drewN ?_ _ | refine blk_drew ?_ | refine blk_alloc ?_ _)); exact BK13015.out) hg (Kd.R_ne HO_5.out BK13015.out (by decide))); have n3_ := Aside0.mk (hb); have n4_ := Aside0.mk (ho); clear HO_49; clear BK13001; clear BK13015; clear HB; clear HO_5; have HO_49 := n0_; have BK13001 := n1_; have BK13015 := n2_; have HB := n3_; have HO13019 := n4_; clear n0_ n1_ n2_ n3_ n4_; clear ho hb hg hat; have hcz49_0 : w48.cell? ⟨gb13015, 0, none⟩ = some (.int .u8 ((rd_T60 y13011 x51_3).f0)) := (blk_cell BK13015.out 0).trans rfl; have hcz49_1 : w48.cell? ⟨gb13015, 1, none⟩ = some (.int .u8 ((rd_T60 y13011 x51_3).f1)) := (blk_cell BK13015.out 1).trans rfl; have hfz49_0 := blk_frozen BK13015.out 0; have hfz49_1 := blk_frozen BK13015.out 1) | (go_at_call 33; (with_reducible refine (impl_isVariable.calls ((rd_T60 y13011 x51_3).f1) true _ A42.out).mono ?_); rintro e w' ⟨rfl, ⟨nd, rfl⟩⟩; (try first | exact ⟨rfl, _, World.drewN_drewN _ _ _⟩ | exact ⟨rfl, _, Eq.trans (World.drewN_drewN _ _ _) (congrArg (World.drewN _) (Nat.add_assoc _ _ _))⟩)) | ((with_reducible refine gate_dst (N := 81) rfl ?_); refine Kd.R_lit (Kd.int .u8) _ 5 ?hg (N := 81) ?hd (xs := ([(rd_T60 y13011 x51_3).f1, (rd_T60 y13011 x51_3).f0] : List Int)) (inner := [.int .u8 ((rd_T60 y13011 x51_3).f1), .int .u8 ((rd_T60 y13011 x51_3).f0)]) (ok := fun _ => True) (okp := fun _ => True) ?hr ?hp (fun _ hk => hk) trivial (Below.refl _ _) (Nat.le_refl _) (by simp) ?_; (case hd => rfl); (case hg => rfl); (case hr => first | (go_simp; done) | (go_simp; rfl)); (case hp => exact (Reps.one (show Kd.M (Kd.int .u8) _ _ _ ((rd_T60 y13011 x51_3).f1) [.int .u8 ((rd_T60 y13011 x51_3).f1)] from rfl) (Reps.one (show Kd.M (Kd.int .u8) _ _ _ ((rd_T60 y13011 x51_3).f0) [.int .u8 ((rd_T60 y13011 x51_3).f0)] from rfl) (Reps.none _ _)))); intro v13022 w50 ho51 hb hg_ hnew_; clear hg_ hnew_; (first | rw [← Ny13021.out] at ho51 | (simp only [Int.reduceToNat] at ho51; rw [← Ny13021.out] at ho51)); have n0_ := Aside0.mk (Kd.R_below (by (with_reducible repeat (first | apply Kd.R_alloc | apply Kd.R_drewN | apply Kd.R_drew)); exact HO_49.out) hb); have n1_ := Aside0.mk (Kd.R_below (by (with_reducible repeat (first | apply Kd.R_alloc | apply Kd.R_drewN | apply Kd.R_drew)); exact HO13019.out) hb); have n2_ := Aside0.mk (Kd.R_lower ho51 (below_size (by repeat (first | (with_reducible first | exact HB.out | apply below_alloc | apply pw_below_drewN | apply below_drew1 | refine below_set ?_ GE13001.out | refine below_set ?_ GE13015.out) | exact HB.out)))); have n3_ := Aside0.mk (blk_below (g := gb13001) (o := .cells #[.string t13002, .string t13003] 34 (0, 0)) (by (with_reducible repeat (first | refine blk_drewN ?_ _ | refine blk_drew ?_ | refine blk_alloc ?_ _)); exact BK13001.out) hb); have n4_ := Aside0.mk (blk_below (g := gb13015) (o := .cells #[.int .u8 ((rd_T60 y13011 x51_3).f0), .int .u8 ((rd_T60 y13011 x51_3).f1)] 60 (0, 0)) (by (with_reducible repeat (first | refine blk_drewN ?_ _ | refine blk_drew ?_ | refine blk_alloc ?_ _)); exact BK13015.out) hb); have n5_ := Aside0.mk (below_step (by repeat (first | (with_reducible first | exact HB.out | apply below_alloc | apply pw_below_drewN | apply below_drew1 | refine below_set ?_ GE13001.out | refine below_set ?_ GE13015.out) | exact HB.out)) hb); clear HO_49; clear HO13019; clear BK13001; clear BK13015; clear HB; have HO_49 := n0_; have HO13019 := n1_; have HO13023 := n2_; have BK13001 := n3_; have BK13015 := n4_; have HB := n5_; clear n0_ n1_ n2_ n3_ n4_ n5_; clear hb ho51; have hcv52 := own_string (P := Try.prog) Try.underlying64 Try.underlying5 Try.underlying9 (Kd.own_of_R HO13023.out)) | ((with_reducible refine gate_builtin (b := .append) (xs := #[.tmp 74, .tmp 84]) rfl ?_); at_builtin; refine Kd.R_append k58 (w0 := w) w.heap.size rfl (.tmp 74) (.tmp 84) 32 58 (.agg #[(.int .u8 0), (.string ⟨#[]⟩)]) 24 rfl Try.underlying32 info58 rfl (by decide) (by omega) v13018 y13017 (⟨(rd_T60 y13011 x51_3).f0, strOfNums y13021⟩ : S58) [.int .u8 ((rd_T60 y13011 x51_3).f0), .string (strOfNums y13021)] (fun _ => True) (fun _ => False) rfl rfl ?aP (fun _ hk => hk.elim) ?aF ?aO ?aB ?aS ?aL ?_; (case aP => exact k58_mkM _ _ _ (⟨(rd_T60 y13011 x51_3).f0, strOfNums y13021⟩ : S58)); (case aB => exact (by repeat (first | (with_reducible first | exact HB.out | apply below_alloc | apply pw_below_drewN | apply below_drew1 | refine below_set ?_ GE13001.out | refine below_set ?_ GE13015.out) | exact HB.out))); (case aF => exact (fun _ _ => trivial)); (case aO => exact (by (with_reducible repeat (first | apply Kd.R_alloc | apply Kd.R_drewN | apply Kd.R_drew)); exact HO13019.out)); (case aS => exact (below_size (by repeat (first | (with_reducible first | exact HB.out | apply below_alloc | apply pw_below_drewN | apply below_drew1 | refine below_set ?_ GE13001.out | refine below_set ?_ GE13015.out) | exact HB.out)))); (case aL => have := LMc44.out; omega); intro v13025 w53 ho hb hg hat; rw [← Ny13024.out] at ho; have n0_ := Aside0.mk (Kd.R_over' (by (with_reducible repeat (first | apply Kd.R_alloc | apply Kd.R_drewN | apply Kd.R_drew)); exact HO_49.out) (Kd.R_typed (by (with_reducible repeat (first | apply Kd.R_alloc | apply Kd.R_drewN | apply Kd.R_drew)); exact HO13019.out)) (by decide) hg); have n1_ := Aside0.mk (blk_grown (g := gb13001) (o := .cells #[.string t13002, .string t13003] 34 (0, 0)) (by (with_reducible repeat (first | refine blk_drewN ?_ _ | refine blk_drew ?_ | refine blk_alloc ?_ _)); exact BK13001.out) hg (Kd.R_ne HO13019.out BK13001.out (by decide))); have n2_ := Aside0.mk (blk_grown (g := gb13015) (o := .cells #[.int .u8 ((rd_T60 y13011 x51_3).f0), .int .u8 ((rd_T60 y13011 x51_3).f1)] 60 (0, 0)) (by (with_reducible repeat (first | refine blk_drewN ?_ _ | refine blk_drew ?_ | refine blk_alloc ?_ _)); exact BK13015.out) hg (Kd.R_ne HO13019.out BK13015.out (by decide))); have n3_ := Aside0.mk (Kd.R_over' (by (with_reducible repeat (first | apply Kd.R_alloc | apply Kd.R_drewN | apply Kd.R_drew)); exact HO13023.out) (Kd.R_typed (by (with_reducible repeat (first | apply Kd.R_alloc | apply Kd.R_drewN | apply Kd.R_drew)); exact HO13019.out)) (by decide) hg); have n4_ := Aside0.mk (hb); have n5_ := Aside0.mk (ho); clear HO_49; clear BK13001; clear BK13015; clear HO13023; clear HB; clear HO13019; have HO_49 := n0_; have BK13001 := n1_; have BK13015 := n2_; have HO13023 := n3_; have HB := n4_; have HO13026 := n5_; clear n0_ n1_ n2_ n3_ n4_ n5_; clear ho hb hg hat)))
                                    go_roundg k3
                                    case measure => have := HJ2.out; have := HJ14.out; have := HK3.out; omega
                                    case rel => exact ⟨(y13024), (wrap64 (x51_3 + 1)), (by first | rfl | (simp; done) | (simp [*]; done)), H', ⟨by have := HJ2.out; have := HJ14.out; have := HK3.out; omega⟩, ⟨by (with_reducible repeat (first | apply Kd.R_alloc | apply Kd.R_drewN | apply Kd.R_drew)); exact HO13026.out⟩, ⟨by (with_reducible repeat (first | apply Kd.R_alloc | apply Kd.R_drewN | apply Kd.R_drew)); exact Kd.R_mono HO_49.out (fun _ hk => trivial)⟩, ⟨by (with_reducible repeat (first | refine blk_drewN ?_ _ | refine blk_drew ?_ | refine blk_alloc ?_ _)); exact BK13001.out⟩, ⟨by repeat (first | (with_reducible first | exact HB.out | apply below_alloc | apply pw_below_drewN | apply below_drew1 | refine below_set ?_ GE13001.out | refine below_set ?_ GE13015.out) | exact HB.out)⟩⟩
                                  · rw [if_neg c44] at H
                                    exact absurd H (by simp)
                                · replace c43 := Bool.eq_false_iff.mpr c43
                                  subst c43
                                  have H1 : ((impl_LetterIndex.f ((rd_T60 y13011 x51_3).f1)).bind fun t13027 => (if t13027 ≥ 0 then (if y13017.length < 5864062014805 then (impl_MovesOf.l0 k3 (y13017 ++ [(⟨(rd_T60 y13011 x51_3).f0, strOfNums (([(rd_T60 y13011 x51_3).f1, (rd_T60 y13011 x51_3).f0] : List Int))⟩ : S58)]) y13011 (y13011.length : Int) (wrap64 (x51_3 + 1))) else (none)) else (impl_MovesOf.l0 k3 y13017 y13011 (y13011.length : Int) (wrap64 (x51_3 + 1))))) = some r := by rw [if_neg (show ¬ (false = true) by decide)] at H; exact H
                                  clear H
                                  have H := H1
                                  clear H1
                                  replace H := Option.bind_eq_some_iff.mp H
                                  obtain ⟨t13027, A540, H⟩ := H
                                  replace H : (if t13027 ≥ 0 then (if y13017.length < 5864062014805 then (impl_MovesOf.l0 k3 (y13017 ++ [(⟨(rd_T60 y13011 x51_3).f0, strOfNums (([(rd_T60 y13011 x51_3).f1, (rd_T60 y13011 x51_3).f0] : List Int))⟩ : S58)]) y13011 (y13011.length : Int) (wrap64 (x51_3 + 1))) else (none)) else (impl_MovesOf.l0 k3 y13017 y13011 (y13011.length : Int) (wrap64 (x51_3 + 1)))) = some r := H
                                  have A54 := Aside0.mk A540
                                  clear A540
                                  by_cases c55 : t13027 ≥ 0
                                  · rw [if_pos c55] at H
                                    have c55b0 : decide (0 ≤ t13027) = true := decide_eq_true c55
                                    clear c55
                                    obtain ⟨y13028, hy13028⟩ : ∃ y_ : List Int, y_ = (([(rd_T60 y13011 x51_3).f1, (rd_T60 y13011 x51_3).f0] : List Int)) := ⟨_, rfl⟩
                                    replace H : (if y13017.length < 5864062014805 then (impl_MovesOf.l0 k3 (y13017 ++ [(⟨(rd_T60 y13011 x51_3).f0, strOfNums y13028⟩ : S58)]) y13011 (y13011.length : Int) (wrap64 (x51_3 + 1))) else (none)) = some r := by first | (rw [hy13028]; with_reducible exact H) | (have H2_ := (Option.bind_some _ _).symm.trans H; rw [hy13028]; with_reducible exact H2_) | (have H2_ := (Option.bind_some _ _).symm.trans H; with_reducible exact H2_) | with_reducible exact H | (rw [hy13028]; exact H) | exact H
                                    have Ny13028 := Aside0.mk hy13028
                                    clear hy13028
                                    by_cases c56 : y13017.length < 5864062014805
                                    · rw [if_pos c56] at H
                                      have LMc56 := Aside0.mk c56
                                      clear c56
                                      obtain ⟨y13031, hy13031⟩ : ∃ y_ : List (S58), y_ = (y13017 ++ [(⟨(rd_T60 y13011 x51_3).f0, strOfNums y13028⟩ : S58)]) := ⟨_, rfl⟩
                                      replace H : (impl_MovesOf.l0 k3 y13031 y13011 (y13011.length : Int) (wrap64 (x51_3 + 1))) = some r := by first | (rw [hy13031]; with_reducible exact H) | (have H2_ := (Option.bind_some _ _).symm.trans H; rw [hy13031]; with_reducible exact H2_) | (have H2_ := (Option.bind_some _ _).symm.trans H; with_reducible exact H2_) | with_reducible exact H | (rw [hy13031]; exact H) | exact H
                                      have Ny13031 := Aside0.mk hy13031
                                      clear hy13031
                                      have H' := Aside0.mk H
                                      clear H
                                      have p13014 : 0 ≤ (x51_3 : Int) := of_decide_eq_true (by first | (with_reducible assumption) | assumption)
                                      have q13014 : x51_3 < (y13011.length : Int) := of_decide_eq_true (by first | (with_reducible assumption) | assumption)
                                      obtain ⟨ad13014, e13014, hx13014_0, hx13014_1⟩ := at_T60 (Kd.R_reads' HO_49.out).2.2 x51_3 p13014 q13014
                                      cases e13014
                                      replace p13014 := eq_true p13014
                                      replace q13014 := eq_true q13014
                                      go_wp2_with (first | ((with_reducible refine gate_dst (N := 7) rfl ?_); refine box_event ?hg (N := 7) ?hd (cs := #[.int .u8 0, .int .u8 0]) (t := 60) ?hr ?_; (case hd => rfl); (case hg => rfl); (case hr => first | (go_simp; done) | (go_simp; rfl)); intro gb13015 hg w57 hbox hb; have n0_ := Aside0.mk (Kd.R_below (by (with_reducible repeat (first | apply Kd.R_alloc | apply Kd.R_drewN | apply Kd.R_drew)); exact HO_5.out) hb); have n1_ := Aside0.mk (Kd.R_below (Kd.R_elderB (by (with_reducible repeat (first | apply Kd.R_alloc | apply Kd.R_drewN | apply Kd.R_drew)); exact HO_49.out) gb13015 (Nat.le_of_eq hg.symm)) hb); have n2_ := Aside0.mk (blk_below (g := gb13001) (o := .cells #[.string t13002, .string t13003] 34 (0, 0)) (by (with_reducible repeat (first | refine blk_drewN ?_ _ | refine blk_drew ?_ | refine blk_alloc ?_ _)); exact BK13001.out) hb); have n3_ := Aside0.mk (below_step (by repeat (first | (with_reducible first | exact HB.out | apply below_alloc | apply pw_below_drewN | apply below_drew1 | refine below_set ?_ GE13001.out) | exact HB.out)) hb); have n4_ := Aside0.mk (hbox); have n5_ := Aside0.mk ((by rw [hg]; exact (below_size (by repeat (first | (with_reducible first | exact HB.out | apply below_alloc | apply pw_below_drewN | apply below_drew1 | refine below_set ?_ GE13001.out) | exact HB.out))) : w.heap.size ≤ gb13015)); have n6_ := Aside0.mk ((by rw [hg]; exact (below_size (by repeat (first | (with_reducible first | exact HB.out | apply below_alloc | apply pw_below_drewN | apply below_drew1 | refine below_set ?_ GE13001.out) | exact HB.out))) : w.heap.size ≤ gb13015)); have n7_ := Aside0.mk ((by rw [hg]; exact Nat.ne_of_lt (blk_lt (g := gb13001) (o := .cells #[.string t13002, .string t13003] 34 (0, 0)) (by (with_reducible repeat (first | refine blk_drewN ?_ _ | refine blk_drew ?_ | refine blk_alloc ?_ _)); exact BK13001.out)) : gb13001 ≠ gb13015)); have n8_ := Aside0.mk ((by rw [hg]; exact Nat.ne_of_gt (blk_lt (g := gb13001) (o := .cells #[.string t13002, .string t13003] 34 (0, 0)) (by (with_reducible repeat (first | refine blk_drewN ?_ _ | refine blk_drew ?_ | refine blk_alloc ?_ _)); exact BK13001.out)) : gb13015 ≠ gb13001)); clear HO_5; clear HO_49; clear BK13001; clear HB; have HO_5 := n0_; have HO_49 := n1_; have BK13001 := n2_; have HB := n3_; have BK13015 := n4_; have GW13015 := n5_; have GE13015 := n6_; have NB13001_13015 := n7_; have NB13015_13001 := n8_; clear n0_ n1_ n2_ n3_ n4_ n5_ n6_ n7_ n8_; clear hb hbox hg; have hnb58 := NB13015_13001.out; have hnc58 := NB13001_13015.out; have hcz59_0 : w57.cell? ⟨gb13015, 0, none⟩ = some (.int .u8 0) := (blk_cell BK13015.out 0).trans rfl; have hcz59_1 : w57.cell? ⟨gb13015, 1, none⟩ = some (.int .u8 0) := (blk_cell BK13015.out 1).trans rfl; have hfz59_0 := blk_frozen BK13015.out 0; have hfz59_1 := blk_frozen BK13015.out 1) | (go_at_call 33; (with_reducible refine (impl_isVariable.calls ((rd_T60 y13011 x51_3).f0) true _ A39.out).mono ?_); rintro e w' ⟨rfl, ⟨nd, rfl⟩⟩; (try first | exact ⟨rfl, _, World.drewN_drewN _ _ _⟩ | exact ⟨rfl, _, Eq.trans (World.drewN_drewN _ _ _) (congrArg (World.drewN _) (Nat.add_assoc _ _ _))⟩)) | ((with_reducible refine gate_builtin (b := .append) (xs := #[.tmp 59, .tmp 63]) rfl ?_); at_builtin; refine Kd.R_append k58 (w0 := w) w.heap.size rfl (.tmp 59) (.tmp 63) 32 58 (.agg #[(.int .u8 0), (.string ⟨#[]⟩)]) 24 rfl Try.underlying32 info58 rfl (by decide) (by omega) u5 x5_3 (⟨(rd_T60 y13011 x51_3).f0, (⟨#[]⟩ : ByteArray)⟩ : S58) [.int .u8 ((rd_T60 y13011 x51_3).f0), .string (⟨#[]⟩ : ByteArray)] (fun _ => True) (fun _ => False) rfl (by first | (go_simp; done) | (go_simp; rfl)) ?aP (fun _ hk => hk.elim) ?aF ?aO ?aB ?aS ?aL ?_; (case aP => exact k58_mkM _ _ _ (⟨(rd_T60 y13011 x51_3).f0, (⟨#[]⟩ : ByteArray)⟩ : S58)); (case aB => exact (by repeat (first | (with_reducible first | exact HB.out | apply below_alloc | apply pw_below_drewN | apply below_drew1 | refine below_set ?_ GE13001.out | refine below_set ?_ GE13015.out) | exact HB.out))); (case aF => exact (fun _ _ => trivial)); (case aO => exact (by (with_reducible repeat (first | apply Kd.R_alloc | apply Kd.R_drewN | apply Kd.R_drew)); exact Kd.R_mono (Kd.R_far (p := ⟨gb13015, 1, none⟩) (Kd.R_far (p := ⟨gb13015, 0, none⟩) (Kd.R_types HO_5.out BK13015.out (by decide)) (fun _ hk => hk.2) (.int .u8 ((rd_T60 y13011 x51_3).f0))) (fun _ hk => hk.2) (.int .u8 ((rd_T60 y13011 x51_3).f1))) (fun _ hk => trivial))); (case aS => exact (below_size (by repeat (first | (with_reducible first | exact HB.out | apply below_alloc | apply pw_below_drewN | apply below_drew1 | refine below_set ?_ GE13001.out | refine below_set ?_ GE13015.out) | exact HB.out)))); (case aL => have := LMc41.out; omega); intro v13018 w60 ho hb hg hat; rw [← Ny13017.out] at ho; have n0_ := Aside0.mk (Kd.R_over' (by (with_reducible repeat (first | apply Kd.R_alloc | apply Kd.R_drewN | apply Kd.R_drew)); exact (Kd.R_mono (Kd.R_far (p := ⟨gb13015, 1, none⟩) (Kd.R_far (p := ⟨gb13015, 0, none⟩) (Kd.R_mono HO_49.out (fun k_ hk => (⟨hk, hk.2⟩ : _ ∧ k_ ≠ gb13015))) (fun _ hk => hk.2) (.int .u8 ((rd_T60 y13011 x51_3).f0))) (fun _ hk => hk.2) (.int .u8 ((rd_T60 y13011 x51_3).f1))) (fun _ h_ => h_.1))) (Kd.R_typed (by (with_reducible repeat (first | apply Kd.R_alloc | apply Kd.R_drewN | apply Kd.R_drew)); exact (Kd.R_mono (Kd.R_far (p := ⟨gb13015, 1, none⟩) (Kd.R_far (p := ⟨gb13015, 0, none⟩) (Kd.R_types HO_5.out BK13015.out (by decide)) (fun _ hk => hk.2) (.int .u8 ((rd_T60 y13011 x51_3).f0))) (fun _ hk => hk.2) (.int .u8 ((rd_T60 y13011 x51_3).f1))) (fun _ h_ => h_.1)))) (by decide) hg); have n1_ := Aside0.mk (blk_grown (g := gb13001) (o := .cells #[.string t13002, .string t13003] 34 (0, 0)) (by (with_reducible repeat (first | refine blk_drewN ?_ _ | refine blk_drew ?_ | refine blk_alloc ?_ _)); refine blk_far ?_ NB13001_13015.out _; (with_reducible repeat (first | refine blk_drewN ?_ _ | refine blk_drew ?_ | refine blk_alloc ?_ _)); refine blk_far ?_ NB13001_13015.out _; (with_reducible repeat (first | refine blk_drewN ?_ _ | refine blk_drew ?_ | refine blk_alloc ?_ _)); exact BK13001.out) hg (Kd.R_ne HO_5.out BK13001.out (by decide))); have n2_ := Aside0.mk (blk_grown (g := gb13015) (o := .cells #[.int .u8 ((rd_T60 y13011 x51_3).f0), .int .u8 ((rd_T60 y13011 x51_3).f1)] 60 (0, 0)) (by (with_reducible repeat (first | refine blk_drewN ?_ _ | refine blk_drew ?_ | refine blk_alloc ?_ _)); refine blk_put (cs := #[.int .u8 ((rd_T60 y13011 x51_3).f0), .int .u8 0]) ?_ 1 _ rfl; (with_reducible repeat (first | refine blk_drewN ?_ _ | refine blk_drew ?_ | refine blk_alloc ?_ _)); refine blk_put (cs := #[.int .u8 0, .int .u8 0]) ?_ 0 _ rfl; (with_reducible repeat (first | refine blk_drewN ?_ _ | refine blk_drew ?_ | refine blk_alloc ?_ _)); exact BK13015.out) hg (Kd.R_ne HO_5.out BK13015.out (by decide))); have n3_ := Aside0.mk (hb); have n4_ := Aside0.mk (ho); clear HO_49; clear BK13001; clear BK13015; clear HB; clear HO_5; have HO_49 := n0_; have BK13001 := n1_; have BK13015 := n2_; have HB := n3_; have HO13019 := n4_; clear n0_ n1_ n2_ n3_ n4_; clear ho hb hg hat; have hcz61_0 : w60.cell? ⟨gb13015, 0, none⟩ = some (.int .u8 ((rd_T60 y13011 x51_3).f0)) := (blk_cell BK13015.out 0).trans rfl; have hcz61_1 : w60.cell? ⟨gb13015, 1, none⟩ = some (.int .u8 ((rd_T60 y13011 x51_3).f1)) := (blk_cell BK13015.out 1).trans rfl; have hfz61_0 := blk_frozen BK13015.out 0; have hfz61_1 := blk_frozen BK13015.out 1) | (go_at_call 33; (with_reducible refine (impl_isVariable.calls ((rd_T60 y13011 x51_3).f1) false _ A42.out).mono ?_); rintro e w' ⟨rfl, ⟨nd, rfl⟩⟩; (try first | exact ⟨rfl, _, World.drewN_drewN _ _ _⟩ | exact ⟨rfl, _, Eq.trans (World.drewN_drewN _ _ _) (congrArg (World.drewN _) (Nat.add_assoc _ _ _))⟩)) | (go_at_call 34; (with_reducible refine (impl_LetterIndex.calls ((rd_T60 y13011 x51_3).f1) t13027 _ A54.out).mono ?_); rintro e w' ⟨rfl, ⟨nd, rfl⟩⟩; (try first | exact ⟨rfl, _, World.drewN_drewN _ _ _⟩ | exact ⟨rfl, _, Eq.trans (World.drewN_drewN _ _ _) (congrArg (World.drewN _) (Nat.add_assoc _ _ _))⟩)) | ((with_reducible refine gate_dst (N := 81) rfl ?_); refine Kd.R_lit (Kd.int .u8) _ 5 ?hg (N := 81) ?hd (xs := ([(rd_T60 y13011 x51_3).f1, (rd_T60 y13011 x51_3).f0] : List Int)) (inner := [.int .u8 ((rd_T60 y13011 x51_3).f1), .int .u8 ((rd_T60 y13011 x51_3).f0)]) (ok := fun _ => True) (okp := fun _ => True) ?hr ?hp (fun _ hk => hk) trivial (Below.refl _ _) (Nat.le_refl _) (by simp) ?_; (case hd => rfl); (case hg => rfl); (case hr => first | (go_simp; done) | (go_simp; rfl)); (case hp => exact (Reps.one (show Kd.M (Kd.int .u8) _ _ _ ((rd_T60 y13011 x51_3).f1) [.int .u8 ((rd_T60 y13011 x51_3).f1)] from rfl) (Reps.one (show Kd.M (Kd.int .u8) _ _ _ ((rd_T60 y13011 x51_3).f0) [.int .u8 ((rd_T60 y13011 x51_3).f0)] from rfl) (Reps.none _ _)))); intro v13029 w62 ho63 hb hg_ hnew_; clear hg_ hnew_; (first | rw [← Ny13028.out] at ho63 | (simp only [Int.reduceToNat] at ho63; rw [← Ny13028.out] at ho63)); have n0_ := Aside0.mk (Kd.R_below (by (with_reducible repeat (first | apply Kd.R_alloc | apply Kd.R_drewN | apply Kd.R_drew)); exact HO_49.out) hb); have n1_ := Aside0.mk (Kd.R_below (by (with_reducible repeat (first | apply Kd.R_alloc | apply Kd.R_drewN | apply Kd.R_drew)); exact HO13019.out) hb); have n2_ := Aside0.mk (Kd.R_lower ho63 (below_size (by repeat (first | (with_reducible first | exact HB.out | apply below_alloc | apply pw_below_drewN | apply below_drew1 | refine below_set ?_ GE13001.out | refine below_set ?_ GE13015.out) | exact HB.out)))); have n3_ := Aside0.mk (blk_below (g := gb13001) (o := .cells #[.string t13002, .string t13003] 34 (0, 0)) (by (with_reducible repeat (first | refine blk_drewN ?_ _ | refine blk_drew ?_ | refine blk_alloc ?_ _)); exact BK13001.out) hb); have n4_ := Aside0.mk (blk_below (g := gb13015) (o := .cells #[.int .u8 ((rd_T60 y13011 x51_3).f0), .int .u8 ((rd_T60 y13011 x51_3).f1)] 60 (0, 0)) (by (with_reducible repeat (first | refine blk_drewN ?_ _ | refine blk_drew ?_ | refine blk_alloc ?_ _)); exact BK13015.out) hb); have n5_ := Aside0.mk (below_step (by repeat (first | (with_reducible first | exact HB.out | apply below_alloc | apply pw_below_drewN | apply below_drew1 | refine below_set ?_ GE13001.out | refine below_set ?_ GE13015.out) | exact HB.out)) hb); clear HO_49; clear HO13019; clear BK13001; clear BK13015; clear HB; have HO_49 := n0_; have HO13019 := n1_; have HO13030 := n2_; have BK13001 := n3_; have BK13015 := n4_; have HB := n5_; clear n0_ n1_ n2_ n3_ n4_ n5_; clear hb ho63; have hcv64 := own_string (P := Try.prog) Try.underlying64 Try.underlying5 Try.underlying9 (Kd.own_of_R HO13030.out)) | ((with_reducible refine gate_builtin (b := .append) (xs := #[.tmp 74, .tmp 84]) rfl ?_); at_builtin; refine Kd.R_append k58 (w0 := w) w.heap.size rfl (.tmp 74) (.tmp 84) 32 58 (.agg #[(.int .u8 0), (.string ⟨#[]⟩)]) 24 rfl Try.underlying32 info58 rfl (by decide) (by omega) v13018 y13017 (⟨(rd_T60 y13011 x51_3).f0, strOfNums y13028⟩ : S58) [.int .u8 ((rd_T60 y13011 x51_3).f0), .string (strOfNums y13028)] (fun _ => True) (fun _ => False) rfl rfl ?aP (fun _ hk => hk.elim) ?aF ?aO ?aB ?aS ?aL ?_; (case aP => exact k58_mkM _ _ _ (⟨(rd_T60 y13011 x51_3).f0, strOfNums y13028⟩ : S58)); (case aB => exact (by repeat (first | (with_reducible first | exact HB.out | apply below_alloc | apply pw_below_drewN | apply below_drew1 | refine below_set ?_ GE13001.out | refine below_set ?_ GE13015.out) | exact HB.out))); (case aF => exact (fun _ _ => trivial)); (case aO => exact (by (with_reducible repeat (first | apply Kd.R_alloc | apply Kd.R_drewN | apply Kd.R_drew)); exact HO13019.out)); (case aS => exact (below_size (by repeat (first | (with_reducible first | exact HB.out | apply below_alloc | apply pw_below_drewN | apply below_drew1 | refine below_set ?_ GE13001.out | refine below_set ?_ GE13015.out) | exact HB.out)))); (case aL => have := LMc56.out; omega); intro v13032 w65 ho hb hg hat; rw [← Ny13031.out] at ho; have n0_ := Aside0.mk (Kd.R_over' (by (with_reducible repeat (first | apply Kd.R_alloc | apply Kd.R_drewN | apply Kd.R_drew)); exact HO_49.out) (Kd.R_typed (by (with_reducible repeat (first | apply Kd.R_alloc | apply Kd.R_drewN | apply Kd.R_drew)); exact HO13019.out)) (by decide) hg); have n1_ := Aside0.mk (blk_grown (g := gb13001) (o := .cells #[.string t13002, .string t13003] 34 (0, 0)) (by (with_reducible repeat (first | refine blk_drewN ?_ _ | refine blk_drew ?_ | refine blk_alloc ?_ _)); exact BK13001.out) hg (Kd.R_ne HO13019.out BK13001.out (by decide))); have n2_ := Aside0.mk (blk_grown (g := gb13015) (o := .cells #[.int .u8 ((rd_T60 y13011 x51_3).f0), .int .u8 ((rd_T60 y13011 x51_3).f1)] 60 (0, 0)) (by (with_reducible repeat (first | refine blk_drewN ?_ _ | refine blk_drew ?_ | refine blk_alloc ?_ _)); exact BK13015.out) hg (Kd.R_ne HO13019.out BK13015.out (by decide))); have n3_ := Aside0.mk (Kd.R_over' (by (with_reducible repeat (first | apply Kd.R_alloc | apply Kd.R_drewN | apply Kd.R_drew)); exact HO13030.out) (Kd.R_typed (by (with_reducible repeat (first | apply Kd.R_alloc | apply Kd.R_drewN | apply Kd.R_drew)); exact HO13019.out)) (by decide) hg); have n4_ := Aside0.mk (hb); have n5_ := Aside0.mk (ho); clear HO_49; clear BK13001; clear BK13015; clear HO13030; clear HB; clear HO13019; have HO_49 := n0_; have BK13001 := n1_; have BK13015 := n2_; have HO13030 := n3_; have HB := n4_; have HO13033 := n5_; clear n0_ n1_ n2_ n3_ n4_ n5_; clear ho hb hg hat))
                                      repeat (go_quiet (first | ((with_reducible refine gate_dst (N := 7) rfl ?_); refine box_event ?hg (N := 7) ?hd (cs := #[.int .u8 0, .int .u8 0]) (t := 60) ?hr ?_; (case hd => rfl); (case hg => rfl); (case hr => first | (go_simp; done) | (go_simp; rfl)); intro gb13015 hg w57 hbox hb; have n0_ := Aside0.mk (Kd.R_below (by (with_reducible repeat (first | apply Kd.R_alloc | apply Kd.R_drewN | apply Kd.R_drew)); exact HO_5.out) hb); have n1_ := Aside0.mk (Kd.R_below (Kd.R_elderB (by (with_reducible repeat (first | apply Kd.R_alloc | apply Kd.R_drewN | apply Kd.R_drew)); exact HO_49.out) gb13015 (Nat.le_of_eq hg.symm)) hb); have n2_ := Aside0.mk (blk_below (g := gb13001) (o := .cells #[.string t13002, .string t13003] 34 (0, 0)) (by (with_reducible repeat (first | refine blk_drewN ?_ _ | refine blk_drew ?_ | refine blk_alloc ?_ _)); exact BK13001.out) hb); have n3_ := Aside0.mk (below_step (by repeat (first | (with_reducible first | exact HB.out | apply below_alloc | apply pw_below_drewN | apply below_drew1 | refine below_set ?_ GE13001.out) | exact HB.out)) hb); have n4_ := Aside0.mk (hbox); have n5_ := Aside0.mk ((by rw [hg]; exact (below_size (by repeat (first | (with_reducible first | exact HB.out | apply below_alloc | apply pw_below_drewN | apply below_drew1 | refine below_set ?_ GE13001.out) | exact HB.out))) : w.heap.size ≤ gb13015)); have n6_ := Aside0.mk ((by rw [hg]; exact (below_size (by repeat (first | (with_reducible first | exact HB.out | apply below_alloc | apply pw_below_drewN | apply below_drew1 | refine below_set ?_ GE13001.out) | exact HB.out))) : w.heap.size ≤ gb13015)); have n7_ := Aside0.mk ((by rw [hg]; exact Nat.ne_of_lt (blk_lt (g := gb13001) (o := .cells #[.string t13002, .string t13003] 34 (0, 0)) (by (with_reducible repeat (first | refine blk_drewN ?_ _ | refine blk_drew ?_ | refine blk_alloc ?_ _)); exact BK13001.out)) : gb13001 ≠ gb13015)); have n8_ := Aside0.mk ((by rw [hg]; exact Nat.ne_of_gt (blk_lt (g := gb13001) (o := .cells #[.string t13002, .string t13003] 34 (0, 0)) (by (with_reducible repeat (first | refine blk_drewN ?_ _ | refine blk_drew ?_ | refine blk_alloc ?_ _)); exact BK13001.out)) : gb13015 ≠ gb13001)); clear HO_5; clear HO_49; clear BK13001; clear HB; have HO_5 := n0_; have HO_49 := n1_; have BK13001 := n2_; have HB := n3_; have BK13015 := n4_; have GW13015 := n5_; have GE13015 := n6_; have NB13001_13015 := n7_; have NB13015_13001 := n8_; clear n0_ n1_ n2_ n3_ n4_ n5_ n6_ n7_ n8_; clear hb hbox hg; have hnb58 := NB13015_13001.out; have hnc58 := NB13001_13015.out; have hcz59_0 : w57.cell? ⟨gb13015, 0, none⟩ = some (.int .u8 0) := (blk_cell BK13015.out 0).trans rfl; have hcz59_1 : w57.cell? ⟨gb13015, 1, none⟩ = some (.int .u8 0) := (blk_cell BK13015.out 1).trans rfl; have hfz59_0 := blk_frozen BK13015.out 0; have hfz59_1 := blk_frozen BK13015.out 1) | (go_at_call 33; (with_reducible refine (impl_isVariable.calls ((rd_T60 y13011 x51_3).f0) true _ A39.out).mono ?_); rintro e w' ⟨rfl, ⟨nd, rfl⟩⟩; (try first | exact ⟨rfl, _, World.drewN_drewN _ _ _⟩ | exact ⟨rfl, _, Eq.trans (World.drewN_drewN _ _ _) (congrArg (World.drewN _) (Nat.add_assoc _ _ _))⟩)) | ((with_reducible refine gate_builtin (b := .append) (xs := #[.tmp 59, .tmp 63]) rfl ?_); at_builtin; refine Kd.R_append k58 (w0 := w) w.heap.size rfl (.tmp 59) (.tmp 63) 32 58 (.agg #[(.int .u8 0), (.string ⟨#[]⟩)]) 24 rfl Try.underlying32 info58 rfl (by decide) (by omega) u5 x5_3 (⟨(rd_T60 y13011 x51_3).f0, (⟨#[]⟩ : ByteArray)⟩ : S58) [.int .u8 ((rd_T60 y13011 x51_3).f0), .string (⟨#[]⟩ : ByteArray)] (fun _ => True) (fun _ => False) rfl (by first | (go_simp; done) | (go_simp; rfl)) ?aP (fun _ hk => hk.elim) ?aF ?aO ?aB ?aS ?aL ?_; (case aP => exact k58_mkM _ _ _ (⟨(rd_T60 y13011 x51_3).f0, (⟨#[]⟩ : ByteArray)⟩ : S58)); (case aB => exact (by repeat (first | (with_reducible first | exact HB.out | apply below_alloc | apply pw_below_drewN | apply below_drew1 | refine below_set ?_ GE13001.out | refine below_set ?_ GE13015.out) | exact HB.out))); (case aF => exact (fun _ _ => trivial)); (case aO => exact (by (with_reducible repeat (first | apply Kd.R_alloc | apply Kd.R_drewN | apply Kd.R_drew)); exact Kd.R_mono (Kd.R_far (p := ⟨gb13015, 1, none⟩) (Kd.R_far (p := ⟨gb13015, 0, none⟩) (Kd.R_types HO_5.out BK13015.out (by decide)) (fun _ hk => hk.2) (.int .u8 ((rd_T60 y13011 x51_3).f0))) (fun _ hk => hk.2) (.int .u8 ((rd_T60 y13011 x51_3).f1))) (fun _ hk => trivial))); (case aS => exact (below_size (by repeat (first | (with_reducible first | exact HB.out | apply below_alloc | apply pw_below_drewN | apply below_drew1 | refine below_set ?_ GE13001.out | refine below_set ?_ GE13015.out) | exact HB.out)))); (case aL => have := LMc41.out; omega); intro v13018 w60 ho hb hg hat; rw [← Ny13017.out] at ho; have n0_ := Aside0.mk (Kd.R_over' (by (with_reducible repeat (first | apply Kd.R_alloc | apply Kd.R_drewN | apply Kd.R_drew)); exact (Kd.R_mono (Kd.R_far (p := ⟨gb13015, 1, none⟩) (Kd.R_far (p := ⟨gb13015, 0, none⟩) (Kd.R_mono HO_49.out (fun k_ hk => (⟨hk, hk.2⟩ : _ ∧ k_ ≠ gb13015))) (fun _ hk => hk.2) (.int .u8 ((rd_T60 y13011 x51_3).f0))) (fun _ hk => hk.2) (.int .u8 ((rd_T60 y13011 x51_3).f1))) (fun _ h_ => h_.1))) (Kd.R_typed (by (with_reducible repeat (first | apply Kd.R_alloc | apply Kd.R_drewN | apply Kd.R_drew)); exact (Kd.R_mono (Kd.R_far (p := ⟨gb13015, 1, none⟩) (Kd.R_far (p := ⟨gb13015, 0, none⟩) (Kd.R_types HO_5.out BK13015.out (by decide)) (fun _ hk => hk.2) (.int .u8 ((rd_T60 y13011 x51_3).f0))) (fun _ hk => hk.2) (.int .u8 ((rd_T60 y13011 x51_3).f1))) (fun _ h_ => h_.1)))) (by decide) hg); have n1_ := Aside0.mk (blk_grown (g := gb13001) (o := .cells #[.string t13002, .string t13003] 34 (0, 0)) (by (with_reducible repeat (first | refine blk_drewN ?_ _ | refine blk_drew ?_ | refine blk_alloc ?_ _)); refine blk_far ?_ NB13001_13015.out _; (with_reducible repeat (first | refine blk_drewN ?_ _ | refine blk_drew ?_ | refine blk_alloc ?_ _)); refine blk_far ?_ NB13001_13015.out _; (with_reducible repeat (first | refine blk_drewN ?_ _ | refine blk_drew ?_ | refine blk_alloc ?_ _)); exact BK13001.out) hg (Kd.R_ne HO_5.out BK13001.out (by decide))); have n2_ := Aside0.mk (blk_grown (g := gb13015) (o := .cells #[.int .u8 ((rd_T60 y13011 x51_3).f0), .int .u8 ((rd_T60 y13011 x51_3).f1)] 60 (0, 0)) (by (with_reducible repeat (first | refine blk_drewN ?_ _ | refine blk_drew ?_ | refine blk_alloc ?_ _)); refine blk_put (cs := #[.int .u8 ((rd_T60 y13011 x51_3).f0), .int .u8 0]) ?_ 1 _ rfl; (with_reducible repeat (first | refine blk_drewN ?_ _ | refine blk_drew ?_ | refine blk_alloc ?_ _)); refine blk_put (cs := #[.int .u8 0, .int .u8 0]) ?_ 0 _ rfl; (with_reducible repeat (first | refine blk_drewN ?_ _ | refine blk_drew ?_ | refine blk_alloc ?_ _)); exact BK13015.out) hg (Kd.R_ne HO_5.out BK13015.out (by decide))); have n3_ := Aside0.mk (hb); have n4_ := Aside0.mk (ho); clear HO_49; clear BK13001; clear BK13015; clear HB; clear HO_5; have HO_49 := n0_; have BK13001 := n1_; have BK13015 := n2_; have HB := n3_; have HO13019 := n4_; clear n0_ n1_ n2_ n3_ n4_; clear ho hb hg hat; have hcz61_0 : w60.cell? ⟨gb13015, 0, none⟩ = some (.int .u8 ((rd_T60 y13011 x51_3).f0)) := (blk_cell BK13015.out 0).trans rfl; have hcz61_1 : w60.cell? ⟨gb13015, 1, none⟩ = some (.int .u8 ((rd_T60 y13011 x51_3).f1)) := (blk_cell BK13015.out 1).trans rfl; have hfz61_0 := blk_frozen BK13015.out 0; have hfz61_1 := blk_frozen BK13015.out 1) | (go_at_call 33; (with_reducible refine (impl_isVariable.calls ((rd_T60 y13011 x51_3).f1) false _ A42.out).mono ?_); rintro e w' ⟨rfl, ⟨nd, rfl⟩⟩; (try first | exact ⟨rfl, _, World.drewN_drewN _ _ _⟩ | exact ⟨rfl, _, Eq.trans (World.drewN_drewN _ _ _) (congrArg (World.drewN _) (Nat.add_assoc _ _ _))⟩)) | (go_at_call 34; (with_reducible refine (impl_LetterIndex.calls ((rd_T60 y13011 x51_3).f1) t13027 _ A54.out).mono ?_); rintro e w' ⟨rfl, ⟨nd, rfl⟩⟩; (try first | exact ⟨rfl, _, World.drewN_drewN _ _ _⟩ | exact ⟨rfl, _, Eq.trans (World.drewN_drewN _ _ _) (congrArg (World.drewN _) (Nat.add_assoc _ _ _))⟩)) | ((with_reducible refine gate_dst (N := 81) rfl ?_); refine Kd.R_lit (Kd.int .u8) _ 5 ?hg (N := 81) ?hd (xs := ([(rd_T60 y13011 x51_3).f1, (rd_T60 y13011 x51_3).f0] : List Int)) (inner := [.int .u8 ((rd_T60 y13011 x51_3).f1), .int .u8 ((rd_T60 y13011 x51_3).f0)]) (ok := fun _ => True) (okp := fun _ => True) ?hr ?hp (fun _ hk => hk) trivial (Below.refl _ _) (Nat.le_refl _) (by simp) ?_; (case hd => rfl); (case hg => rfl); (case hr => first | (go_simp; done) | (go_simp; rfl)); (case hp => exact (Reps.one (show Kd.M (Kd.int .u8) _ _ _ ((rd_T60 y13011 x51_3).f1) [.int .u8 ((rd_T60 y13011 x51_3).f1)] from rfl) (Reps.one (show Kd.M (Kd.int .u8) _ _ _ ((rd_T60 y13011 x51_3).f0) [.int .u8 ((rd_T60 y13011 x51_3).f0)] from rfl) (Reps.none _ _)))); intro v13029 w62 ho63 hb hg_ hnew_; clear hg_ hnew_; (first | rw [← Ny13028.out] at ho63 | (simp only [Int.reduceToNat] at ho63; rw [← Ny13028.out] at ho63)); have n0_ := Aside0.mk (Kd.R_below (by (with_reducible repeat (first | apply Kd.R_alloc | apply Kd.R_drewN | apply Kd.R_drew)); exact HO_49.out) hb); have n1_ := Aside0.mk (Kd.R_below (by (with_reducible repeat (first | apply Kd.R_alloc | apply Kd.R_drewN | apply Kd.R_drew)); exact HO13019.out) hb); have n2_ := Aside0.mk (Kd.R_lower ho63 (below_size (by repeat (first | (with_reducible first | exact HB.out | apply below_alloc | apply pw_below_drewN | apply below_drew1 | refine below_set ?_ GE13001.out | refine below_set ?_ GE13015.out) | exact HB.out)))); have n3_ := Aside0.mk (blk_below (g := gb13001) (o := .cells #[.string t13002, .string t13003] 34 (0, 0)) (by (with_reducible repeat (first | refine blk_drewN ?_ _ | refine blk_drew ?_ | refine blk_alloc ?_ _)); exact BK13001.out) hb); have n4_ := Aside0.mk (blk_below (g := gb13015) (o := .cells #[.int .u8 ((rd_T60 y13011 x51_3).f0), .int .u8 ((rd_T60 y13011 x51_3).f1)] 60 (0, 0)) (by (with_reducible repeat (first | refine blk_drewN ?_ _ | refine blk_drew ?_ | refine blk_alloc ?_ _)); exact BK13015.out) hb); have n5_ := Aside0.mk (below_step (by repeat (first | (with_reducible first | exact HB.out | apply below_alloc | apply pw_below_drewN | apply below_drew1 | refine below_set ?_ GE13001.out | refine below_set ?_ GE13015.out) | exact HB.out)) hb); clear HO_49; clear HO13019; clear BK13001; clear BK13015; clear HB; have HO_49 := n0_; have HO13019 := n1_; have HO13030 := n2_; have BK13001 := n3_; have BK13015 := n4_; have HB := n5_; clear n0_ n1_ n2_ n3_ n4_ n5_; clear hb ho63; have hcv64 := own_string (P := Try.prog) Try.underlying64 Try.underlying5 Try.underlying9 (Kd.own_of_R HO13030.out)) | ((with_reducible refine gate_builtin (b := .append) (xs := #[.tmp 74, .tmp 84]) rfl ?_); at_builtin; refine Kd.R_append k58 (w0 := w) w.heap.size rfl (.tmp 74) (.tmp 84) 32 58 (.agg #[(.int .u8 0), (.string ⟨#[]⟩)]) 24 rfl Try.underlying32 info58 rfl (by decide) (by omega) v13018 y13017 (⟨(rd_T60 y13011 x51_3).f0, strOfNums y13028⟩ : S58) [.int .u8 ((rd_T60 y13011 x51_3).f0), .string (strOfNums y13028)] (fun _ => True) (fun _ => False) rfl rfl ?aP (fun _ hk => hk.elim) ?aF ?aO ?aB ?aS ?aL ?_; (case aP => exact k58_mkM _ _ _ (⟨(rd_T60 y13011 x51_3).f0, strOfNums y13028⟩ : S58)); (case aB => exact (by repeat (first | (with_reducible first | exact HB.out | apply below_alloc | apply pw_below_drewN | apply below_drew1 | refine below_set ?_ GE13001.out | refine below_set ?_ GE13015.out) | exact HB.out))); (case aF => exact (fun _ _ => trivial)); (case aO => exact (by (with_reducible repeat (first | apply Kd.R_alloc | apply Kd.R_drewN | apply Kd.R_drew)); exact HO13019.out)); (case aS => exact (below_size (by repeat (first | (with_reducible first | exact HB.out | apply below_alloc | apply pw_below_drewN | apply below_drew1 | refine below_set ?_ GE13001.out | refine below_set ?_ GE13015.out) | exact HB.out)))); (case aL => have := LMc56.out; omega); intro v13032 w65 ho hb hg hat; rw [← Ny13031.out] at ho; have n0_ := Aside0.mk (Kd.R_over' (by (with_reducible repeat (first | apply Kd.R_alloc | apply Kd.R_drewN | apply Kd.R_drew)); exact HO_49.out) (Kd.R_typed (by (with_reducible repeat (first | apply Kd.R_alloc | apply Kd.R_drewN | apply Kd.R_drew)); exact HO13019.out)) (by decide) hg); have n1_ := Aside0.mk (blk_grown (g := gb13001) (o := .cells #[.string t13002, .string t13003] 34 (0, 0)) (by (with_reducible repeat (first | refine blk_drewN ?_ _ | refine blk_drew ?_ | refine blk_alloc ?_ _)); exact BK13001.out) hg (Kd.R_ne HO13019.out BK13001.out (by decide))); have n2_ := Aside0.mk (blk_grown (g := gb13015) (o := .cells #[.int .u8 ((rd_T60 y13011 x51_3).f0), .int .u8 ((rd_T60 y13011 x51_3).f1)] 60 (0, 0)) (by (with_reducible repeat (first | refine blk_drewN ?_ _ | refine blk_drew ?_ | refine blk_alloc ?_ _)); exact BK13015.out) hg (Kd.R_ne HO13019.out BK13015.out (by decide))); have n3_ := Aside0.mk (Kd.R_over' (by (with_reducible repeat (first | apply Kd.R_alloc | apply Kd.R_drewN | apply Kd.R_drew)); exact HO13030.out) (Kd.R_typed (by (with_reducible repeat (first | apply Kd.R_alloc | apply Kd.R_drewN | apply Kd.R_drew)); exact HO13019.out)) (by decide) hg); have n4_ := Aside0.mk (hb); have n5_ := Aside0.mk (ho); clear HO_49; clear BK13001; clear BK13015; clear HO13030; clear HB; clear HO13019; have HO_49 := n0_; have BK13001 := n1_; have BK13015 := n2_; have HO13030 := n3_; have HB := n4_; have HO13033 := n5_; clear n0_ n1_ n2_ n3_ n4_ n5_; clear ho hb hg hat)); try go_wp2_with (first | ((with_reducible refine gate_dst (N := 7) rfl ?_); refine box_event ?hg (N := 7) ?hd (cs := #[.int .u8 0, .int .u8 0]) (t := 60) ?hr ?_; (case hd => rfl); (case hg => rfl); (case hr => first | (go_simp; done) | (go_simp; rfl)); intro gb13015 hg w57 hbox hb; have n0_ := Aside0.mk (Kd.R_below (by (with_reducible repeat (first | apply Kd.R_alloc | apply Kd.R_drewN | apply Kd.R_drew)); exact HO_5.out) hb); have n1_ := Aside0.mk (Kd.R_below (Kd.R_elderB (by (with_reducible repeat (first | apply Kd.R_alloc | apply Kd.R_drewN | apply Kd.R_drew)); exact HO_49.out) gb13015 (Nat.le_of_eq hg.symm)) hb); have n2_ := Aside0.mk (blk_below (g := gb13001) (o := .cells #[.string t13002, .string t13003] 34 (0, 0)) (by (with_reducible repeat (first | refine blk_drewN ?_ _ | refine blk_drew ?_ | refine blk_alloc ?_ _)); exact BK13001.out) hb); have n3_ := Aside0.mk (below_step (by repeat (first | (with_reducible first | exact HB.out | apply below_alloc | apply pw_below_drewN | apply below_drew1 | refine below_set ?_ GE13001.out) | exact HB.out)) hb); have n4_ := Aside0.mk (hbox); have n5_ := Aside0.mk ((by rw [hg]; exact (below_size (by repeat (first | (with_reducible first | exact HB.out | apply below_alloc | apply pw_below_drewN | apply below_drew1 | refine below_set ?_ GE13001.out) | exact HB.out))) : w.heap.size ≤ gb13015)); have n6_ := Aside0.mk ((by rw [hg]; exact (below_size (by repeat (first | (with_reducible first | exact HB.out | apply below_alloc | apply pw_below_drewN | apply below_drew1 | refine below_set ?_ GE13001.out) | exact HB.out))) : w.heap.size ≤ gb13015)); have n7_ := Aside0.mk ((by rw [hg]; exact Nat.ne_of_lt (blk_lt (g := gb13001) (o := .cells #[.string t13002, .string t13003] 34 (0, 0)) (by (with_reducible repeat (first | refine blk_drewN ?_ _ | refine blk_drew ?_ | refine blk_alloc ?_ _)); exact BK13001.out)) : gb13001 ≠ gb13015)); have n8_ := Aside0.mk ((by rw [hg]; exact Nat.ne_of_gt (blk_lt (g := gb13001) (o := .cells #[.string t13002, .string t13003] 34 (0, 0)) (by (with_reducible repeat (first | refine blk_drewN ?_ _ | refine blk_drew ?_ | refine blk_alloc ?_ _)); exact BK13001.out)) : gb13015 ≠ gb13001)); clear HO_5; clear HO_49; clear BK13001; clear HB; have HO_5 := n0_; have HO_49 := n1_; have BK13001 := n2_; have HB := n3_; have BK13015 := n4_; have GW13015 := n5_; have GE13015 := n6_; have NB13001_13015 := n7_; have NB13015_13001 := n8_; clear n0_ n1_ n2_ n3_ n4_ n5_ n6_ n7_ n8_; clear hb hbox hg; have hnb58 := NB13015_13001.out; have hnc58 := NB13001_13015.out; have hcz59_0 : w57.cell? ⟨gb13015, 0, none⟩ = some (.int .u8 0) := (blk_cell BK13015.out 0).trans rfl; have hcz59_1 : w57.cell? ⟨gb13015, 1, none⟩ = some (.int .u8 0) := (blk_cell BK13015.out 1).trans rfl; have hfz59_0 := blk_frozen BK13015.out 0; have hfz59_1 := blk_frozen BK13015.out 1) | (go_at_call 33; (with_reducible refine (impl_isVariable.calls ((rd_T60 y13011 x51_3).f0) true _ A39.out).mono ?_); rintro e w' ⟨rfl, ⟨nd, rfl⟩⟩; (try first | exact ⟨rfl, _, World.drewN_drewN _ _ _⟩ | exact ⟨rfl, _, Eq.trans (World.drewN_drewN _ _ _) (congrArg (World.drewN _) (Nat.add_assoc _ _ _))⟩)) | ((with_reducible refine gate_builtin (b := .append) (xs := #[.tmp 59, .tmp 63]) rfl ?_); at_builtin; refine Kd.R_append k58 (w0 := w) w.heap.size rfl (.tmp 59) (.tmp 63) 32 58 (.agg #[(.int .u8 0), (.string ⟨#[]⟩)]) 24 rfl Try.underlying32 info58 rfl (by decide) (by omega) u5 x5_3 (⟨(rd_T60 y13011 x51_3).f0, (⟨#[]⟩ : ByteArray)⟩ : S58) [.int .u8 ((rd_T60 y13011 x51_3).f0), .string (⟨#[]⟩ : ByteArray)] (fun _ => True) (fun _ => False) rfl (by first | (go_simp; done) | (go_simp; rfl)) ?aP (fun _ hk => hk.elim) ?aF ?aO ?aB ?aS ?aL ?_; (case aP => exact k58_mkM _ _ _ (⟨(rd_T60 y13011 x51_3).f0, (⟨#[]⟩ : ByteArray)⟩ : S58)); (case aB => exact (by repeat (first | (with_reducible first | exact HB.out | apply below_alloc | apply pw_below_drewN | apply below_drew1 | refine below_set ?_ GE13001.out | refine below_set ?_ GE13015.out) | exact HB.out))); (case aF => exact (fun _ _ => trivial)); (case aO => exact (by (with_reducible repeat (first | apply Kd.R_alloc | apply Kd.R_drewN | apply Kd.R_drew)); exact Kd.R_mono (Kd.R_far (p := ⟨gb13015, 1, none⟩) (Kd.R_far (p := ⟨gb13015, 0, none⟩) (Kd.R_types HO_5.out BK13015.out (by decide)) (fun _ hk => hk.2) (.int .u8 ((rd_T60 y13011 x51_3).f0))) (fun _ hk => hk.2) (.int .u8 ((rd_T60 y13011 x51_3).f1))) (fun _ hk => trivial))); (case aS => exact (below_size (by repeat (first | (with_reducible first | exact HB.out | apply below_alloc | apply pw_below_drewN | apply below_drew1 | refine below_set ?_ GE13001.out | refine below_set ?_ GE13015.out) | exact HB.out)))); (case aL => have := LMc41.out; omega); intro v13018 w60 ho hb hg hat; rw [← Ny13017.out] at ho; have n0_ := Aside0.mk (Kd.R_over' (by (with_reducible repeat (first | apply Kd.R_alloc | apply Kd.R_drewN | apply Kd.R_drew)); exact (Kd.R_mono (Kd.R_far (p := ⟨gb13015, 1, none⟩) (Kd.R_far (p := ⟨gb13015, 0, none⟩) (Kd.R_mono HO_49.out (fun k_ hk => (⟨hk, hk.2⟩ : _ ∧ k_ ≠ gb13015))) (fun _ hk => hk.2) (.int .u8 ((rd_T60 y13011 x51_3).f0))) (fun _ hk => hk.2) (.int .u8 ((rd_T60 y13011 x51_3).f1))) (fun _ h_ => h_.1))) (Kd.R_typed (by (with_reducible repeat (first | apply Kd.R_alloc | apply Kd.R_drewN | apply Kd.R_drew)); exact (Kd.R_mono (Kd.R_far (p := ⟨gb13015, 1, none⟩) (Kd.R_far (p := ⟨gb13015, 0, none⟩) (Kd.R_types HO_5.out BK13015.out (by decide)) (fun _ hk => hk.2) (.int .u8 ((rd_T60 y13011 x51_3).f0))) (fun _ hk => hk.2) (.int .u8 ((rd_T60 y13011 x51_3).f1))) (fun _ h_ => h_.1)))) (by decide) hg); have n1_ := Aside0.mk (blk_grown (g := gb13001) (o := .cells #[.string t13002, .string t13003] 34 (0, 0)) (by (with_reducible repeat (first | refine blk_drewN ?_ _ | refine blk_drew ?_ | refine blk_alloc ?_ _)); refine blk_far ?_ NB13001_13015.out _; (with_reducible repeat (first | refine blk_drewN ?_ _ | refine blk_drew ?_ | refine blk_alloc ?_ _)); refine blk_far ?_ NB13001_13015.out _; (with_reducible repeat (first | refine blk_drewN ?_ _ | refine blk_drew ?_ | refine blk_alloc ?_ _)); exact BK13001.out) hg (Kd.R_ne HO_5.out BK13001.out (by decide))); have n2_ := Aside0.mk (blk_grown (g := gb13015) (o := .cells #[.int .u8 ((rd_T60 y13011 x51_3).f0), .int .u8 ((rd_T60 y13011 x51_3).f1)] 60 (0, 0)) (by (with_reducible repeat (first | refine blk_drewN ?_ _ | refine blk_drew ?_ | refine blk_alloc ?_ _)); refine blk_put (cs := #[.int .u8 ((rd_T60 y13011 x51_3).f0), .int .u8 0]) ?_ 1 _ rfl; (with_reducible repeat (first | refine blk_drewN ?_ _ | refine blk_drew ?_ | refine blk_alloc ?_ _)); refine blk_put (cs := #[.int .u8 0, .int .u8 0]) ?_ 0 _ rfl; (with_reducible repeat (first | refine blk_drewN ?_ _ | refine blk_drew ?_ | refine blk_alloc ?_ _)); exact BK13015.out) hg (Kd.R_ne HO_5.out BK13015.out (by decide))); have n3_ := Aside0.mk (hb); have n4_ := Aside0.mk (ho); clear HO_49; clear BK13001; clear BK13015; clear HB; clear HO_5; have HO_49 := n0_; have BK13001 := n1_; have BK13015 := n2_; have HB := n3_; have HO13019 := n4_; clear n0_ n1_ n2_ n3_ n4_; clear ho hb hg hat; have hcz61_0 : w60.cell? ⟨gb13015, 0, none⟩ = some (.int .u8 ((rd_T60 y13011 x51_3).f0)) := (blk_cell BK13015.out 0).trans rfl; have hcz61_1 : w60.cell? ⟨gb13015, 1, none⟩ = some (.int .u8 ((rd_T60 y13011 x51_3).f1)) := (blk_cell BK13015.out 1).trans rfl; have hfz61_0 := blk_frozen BK13015.out 0; have hfz61_1 := blk_frozen BK13015.out 1) | (go_at_call 33; (with_reducible refine (impl_isVariable.calls ((rd_T60 y13011 x51_3).f1) false _ A42.out).mono ?_); rintro e w' ⟨rfl, ⟨nd, rfl⟩⟩; (try first | exact ⟨rfl, _, World.drewN_drewN _ _ _⟩ | exact ⟨rfl, _, Eq.trans (World.drewN_drewN _ _ _) (congrArg (World.drewN _) (Nat.add_assoc _ _ _))⟩)) | (go_at_call 34; (with_reducible refine (impl_LetterIndex.calls ((rd_T60 y13011 x51_3).f1) t13027 _ A54.out).mono ?_); rintro e w' ⟨rfl, ⟨nd, rfl⟩⟩; (try first | exact ⟨rfl, _, World.drewN_drewN _ _ _⟩ | exact ⟨rfl, _, Eq.trans (World.drewN_drewN _ _ _) (congrArg (World.drewN _) (Nat.add_assoc _ _ _))⟩)) | ((with_reducible refine gate_dst (N := 81) rfl ?_); refine Kd.R_lit (Kd.int .u8) _ 5 ?hg (N := 81) ?hd (xs := ([(rd_T60 y13011 x51_3).f1, (rd_T60 y13011 x51_3).f0] : List Int)) (inner := [.int .u8 ((rd_T60 y13011 x51_3).f1), .int .u8 ((rd_T60 y13011 x51_3).f0)]) (ok := fun _ => True) (okp := fun _ => True) ?hr ?hp (fun _ hk => hk) trivial (Below.refl _ _) (Nat.le_refl _) (by simp) ?_; (case hd => rfl); (case hg => rfl); (case hr => first | (go_simp; done) | (go_simp; rfl)); (case hp => exact (Reps.one (show Kd.M (Kd.int .u8) _ _ _ ((rd_T60 y13011 x51_3).f1) [.int .u8 ((rd_T60 y13011 x51_3).f1)] from rfl) (Reps.one (show Kd.M (Kd.int .u8) _ _ _ ((rd_T60 y13011 x51_3).f0) [.int .u8 ((rd_T60 y13011 x51_3).f0)] from rfl) (Reps.none _ _)))); intro v13029 w62 ho63 hb hg_ hnew_; clear hg_ hnew_; (first | rw [← Ny13028.out] at ho63 | (simp only [Int.reduceToNat] at ho63; rw [← Ny13028.out] at ho63)); have n0_ := Aside0.mk (Kd.R_below (by (with_reducible repeat (first | apply Kd.R_alloc | apply Kd.R_drewN | apply Kd.R_drew)); exact HO_49.out) hb); have n1_ := Aside0.mk (Kd.R_below (by (with_reducible repeat (first | apply Kd.R_alloc | apply Kd.R_drewN | apply Kd.R_drew)); exact HO13019.out) hb); have n2_ := Aside0.mk (Kd.R_lower ho63 (below_size (by repeat (first | (with_reducible first | exact HB.out | apply below_alloc | apply pw_below_drewN | apply below_drew1 | refine below_set ?_ GE13001.out | refine below_set ?_ GE13015.out) | exact HB.out)))); have n3_ := Aside0.mk (blk_below (g := gb13001) (o := .cells #[.string t13002, .string t13003] 34 (0, 0)) (by (with_reducible repeat (first | refine blk_drewN ?_ _ | refine blk_drew ?_ | refine blk_alloc ?_ _)); exact BK13001.out) hb); have n4_ := Aside0.mk (blk_below (g := gb13015) (o := .cells #[.int .u8 ((rd_T60 y13011 x51_3).f0), .int .u8 ((rd_T60 y13011 x51_3).f1)] 60 (0, 0)) (by (with_reducible repeat (first | refine blk_drewN ?_ _ | refine blk_drew ?_ | refine blk_alloc ?_ _)); exact BK13015.out) hb); have n5_ := Aside0.mk (below_step (by repeat (first | (with_reducible first | exact HB.out | apply below_alloc | apply pw_below_drewN | apply below_drew1 | refine below_set ?_ GE13001.out | refine below_set ?_ GE13015.out) | exact HB.out)) hb); clear HO_49; clear HO13019; clear BK13001; clear BK13015; clear HB; have HO_49 := n0_; have HO13019 := n1_; have HO13030 := n2_; have BK13001 := n3_; have BK13015 := n4_; have HB := n5_; clear n0_ n1_ n2_ n3_ n4_ n5_; clear hb ho63; have hcv64 := own_string (P := Try.prog) Try.underlying64 Try.underlying5 Try.underlying9 (Kd.own_of_R HO13030.out)) | ((with_reducible refine gate_builtin (b := .append) (xs := #[.tmp 74, .tmp 84]) rfl ?_); at_builtin; refine Kd.R_append k58 (w0 := w) w.heap.size rfl (.tmp 74) (.tmp 84) 32 58 (.agg #[(.int .u8 0), (.string ⟨#[]⟩)]) 24 rfl Try.underlying32 info58 rfl (by decide) (by omega) v13018 y13017 (⟨(rd_T60 y13011 x51_3).f0, strOfNums y13028⟩ : S58) [.int .u8 ((rd_T60 y13011 x51_3).f0), .string (strOfNums y13028)] (fun _ => True) (fun _ => False) rfl rfl ?aP (fun _ hk => hk.elim) ?aF ?aO ?aB ?aS ?aL ?_; (case aP => exact k58_mkM _ _ _ (⟨(rd_T60 y13011 x51_3).f0, strOfNums y13028⟩ : S58)); (case aB => exact (by repeat (first | (with_reducible first | exact HB.out | apply below_alloc | apply pw_below_drewN | apply below_drew1 | refine below_set ?_ GE13001.out | refine below_set ?_ GE13015.out) | exact HB.out))); (case aF => exact (fun _ _ => trivial)); (case aO => exact (by (with_reducible repeat (first | apply Kd.R_alloc | apply Kd.R_drewN | apply Kd.R_drew)); exact HO13019.out)); (case aS => exact (below_size (by repeat (first | (with_reducible first | exact HB.out | apply below_alloc | apply pw_below_drewN | apply below_drew1 | refine below_set ?_ GE13001.out | refine below_set ?_ GE13015.out) | exact HB.out)))); (case aL => have := LMc56.out; omega); intro v13032 w65 ho hb hg hat; rw [← Ny13031.out] at ho; have n0_ := Aside0.mk (Kd.R_over' (by (with_reducible repeat (first | apply Kd.R_alloc | apply Kd.R_drewN | apply Kd.R_drew)); exact HO_49.out) (Kd.R_typed (by (with_reducible repeat (first | apply Kd.R_alloc | apply Kd.R_drewN | apply Kd.R_drew)); exact HO13019.out)) (by decide) hg); have n1_ := Aside0.mk (blk_grown (g := gb13001) (o := .cells #[.string t13002, .string t13003] 34 (0, 0)) (by (with_reducible repeat (first | refine blk_drewN ?_ _ | refine blk_drew ?_ | refine blk_alloc ?_ _)); exact BK13001.out) hg (Kd.R_ne HO13019.out BK13001.out (by decide))); have n2_ := Aside0.mk (blk_grown (g := gb13015) (o := .cells #[.int .u8 ((rd_T60 y13011 x51_3).f0), .int .u8 ((rd_T60 y13011 x51_3).f1)] 60 (0, 0)) (by (with_reducible repeat (first | refine blk_drewN ?_ _ | refine blk_drew ?_ | refine blk_alloc ?_ _)); exact BK13015.out) hg (Kd.R_ne HO13019.out BK13015.out (by decide))); have n3_ := Aside0.mk (Kd.R_over' (by (with_reducible repeat (first | apply Kd.R_alloc | apply Kd.R_drewN | apply Kd.R_drew)); exact HO13030.out) (Kd.R_typed (by (with_reducible repeat (first | apply Kd.R_alloc | apply Kd.R_drewN | apply Kd.R_drew)); exact HO13019.out)) (by decide) hg); have n4_ := Aside0.mk (hb); have n5_ := Aside0.mk (ho); clear HO_49; clear BK13001; clear BK13015; clear HO13030; clear HB; clear HO13019; have HO_49 := n0_; have BK13001 := n1_; have BK13015 := n2_; have HO13030 := n3_; have HB := n4_; have HO13033 := n5_; clear n0_ n1_ n2_ n3_ n4_ n5_; clear ho hb hg hat)))
                                      go_roundg k3
                                      case measure => have := HJ2.out; have := HJ14.out; have := HK3.out; omega
                                      case rel => exact ⟨(y13031), (wrap64 (x51_3 + 1)), (by first | rfl | (simp; done) | (simp [*]; done)), H', ⟨by have := HJ2.out; have := HJ14.out; have := HK3.out; omega⟩, ⟨by (with_reducible repeat (first | apply Kd.R_alloc | apply Kd.R_drewN | apply Kd.R_drew)); exact HO13033.out⟩, ⟨by (with_reducible repeat (first | apply Kd.R_alloc | apply Kd.R_drewN | apply Kd.R_drew)); exact Kd.R_mono HO_49.out (fun _ hk => trivial)⟩, ⟨by (with_reducible repeat (first | refine blk_drewN ?_ _ | refine blk_drew ?_ | refine blk_alloc ?_ _)); exact BK13001.out⟩, ⟨by repeat (first | (with_reducible first | exact HB.out | apply below_alloc | apply pw_below_drewN | apply below_drew1 | refine below_set ?_ GE13001.out | refine below_set ?_ GE13015.out) | exact HB.out)⟩⟩
                                    · rw [if_neg c56] at H
                                      exact absurd H (by simp)
                                  · rw [if_neg c55] at H
                                    have c55b0 : decide (0 ≤ t13027) = false := decide_eq_false c55
                                    clear c55
                                    have H' := Aside0.mk H
                                    clear H
                                    have p13014 : 0 ≤ (x51_3 : Int) := of_decide_eq_true (by first | (with_reducible assumption) | assumption)
                                    have q13014 : x51_3 < (y13011.length : Int) := of_decide_eq_true (by first | (with_reducible assumption) | assumption)
                                    obtain ⟨ad13014, e13014, hx13014_0, hx13014_1⟩ := at_T60 (Kd.R_reads' HO_49.out).2.2 x51_3 p13014 q13014
                                    cases e13014
                                    replace p13014 := eq_true p13014
                                    replace q13014 := eq_true q13014
                                    go_wp2_with (first | ((with_reducible refine gate_dst (N := 7) rfl ?_); refine box_event ?hg (N := 7) ?hd (cs := #[.int .u8 0, .int .u8 0]) (t := 60) ?hr ?_; (case hd => rfl); (case hg => rfl); (case hr => first | (go_simp; done) | (go_simp; rfl)); intro gb13015 hg w66 hbox hb; have n0_ := Aside0.mk (Kd.R_below (by (with_reducible repeat (first | apply Kd.R_alloc | apply Kd.R_drewN | apply Kd.R_drew)); exact HO_5.out) hb); have n1_ := Aside0.mk (Kd.R_below (Kd.R_elderB (by (with_reducible repeat (first | apply Kd.R_alloc | apply Kd.R_drewN | apply Kd.R_drew)); exact HO_49.out) gb13015 (Nat.le_of_eq hg.symm)) hb); have n2_ := Aside0.mk (blk_below (g := gb13001) (o := .cells #[.string t13002, .string t13003] 34 (0, 0)) (by (with_reducible repeat (first | refine blk_drewN ?_ _ | refine blk_drew ?_ | refine blk_alloc ?_ _)); exact BK13001.out) hb); have n3_ := Aside0.mk (below_step (by repeat (first | (with_reducible first | exact HB.out | apply below_alloc | apply pw_below_drewN | apply below_drew1 | refine below_set ?_ GE13001.out) | exact HB.out)) hb); have n4_ := Aside0.mk (hbox); have n5_ := Aside0.mk ((by rw [hg]; exact (below_size (by repeat (first | (with_reducible first | exact HB.out | apply below_alloc | apply pw_below_drewN | apply below_drew1 | refine below_set ?_ GE13001.out) | exact HB.out))) : w.heap.size ≤ gb13015)); have n6_ := Aside0.mk ((by rw [hg]; exact (below_size (by repeat (first | (with_reducible first | exact HB.out | apply below_alloc | apply pw_below_drewN | apply below_drew1 | refine below_set ?_ GE13001.out) | exact HB.out))) : w.heap.size ≤ gb13015)); have n7_ := Aside0.mk ((by rw [hg]; exact Nat.ne_of_lt (blk_lt (g := gb13001) (o := .cells #[.string t13002, .string t13003] 34 (0, 0)) (by (with_reducible repeat (first | refine blk_drewN ?_ _ | refine blk_drew ?_ | refine blk_alloc ?_ _)); exact BK13001.out)) : gb13001 ≠ gb13015)); have n8_ := Aside0.mk ((by rw [hg]; exact Nat.ne_of_gt (blk_lt (g := gb13001) (o := .cells #[.string t13002, .string t13003] 34 (0, 0)) (by (with_reducible repeat (first | refine blk_drewN ?_ _ | refine blk_drew ?_ | refine blk_alloc ?_ _)); exact BK13001.out)) : gb13015 ≠ gb13001)); clear HO_5; clear HO_49; clear BK13001; clear HB; have HO_5 := n0_; have HO_49 := n1_; have BK13001 := n2_; have HB := n3_; have BK13015 := n4_; have GW13015 := n5_; have GE13015 := n6_; have NB13001_13015 := n7_; have NB13015_13001 := n8_; clear n0_ n1_ n2_ n3_ n4_ n5_ n6_ n7_ n8_; clear hb hbox hg; have hnb67 := NB13015_13001.out; have hnc67 := NB13001_13015.out; have hcz68_0 : w66.cell? ⟨gb13015, 0, none⟩ = some (.int .u8 0) := (blk_cell BK13015.out 0).trans rfl; have hcz68_1 : w66.cell? ⟨gb13015, 1, none⟩ = some (.int .u8 0) := (blk_cell BK13015.out 1).trans rfl; have hfz68_0 := blk_frozen BK13015.out 0; have hfz68_1 := blk_frozen BK13015.out 1) | (go_at_call 33; (with_reducible refine (impl_isVariable.calls ((rd_T60 y13011 x51_3).f0) true _ A39.out).mono ?_); rintro e w' ⟨rfl, ⟨nd, rfl⟩⟩; (try first | exact ⟨rfl, _, World.drewN_drewN _ _ _⟩ | exact ⟨rfl, _, Eq.trans (World.drewN_drewN _ _ _) (congrArg (World.drewN _) (Nat.add_assoc _ _ _))⟩)) | ((with_reducible refine gate_builtin (b := .append) (xs := #[.tmp 59, .tmp 63]) rfl ?_); at_builtin; refine Kd.R_append k58 (w0 := w) w.heap.size rfl (.tmp 59) (.tmp 63) 32 58 (.agg #[(.int .u8 0), (.string ⟨#[]⟩)]) 24 rfl Try.underlying32 info58 rfl (by decide) (by omega) u5 x5_3 (⟨(rd_T60 y13011 x51_3).f0, (⟨#[]⟩ : ByteArray)⟩ : S58) [.int .u8 ((rd_T60 y13011 x51_3).f0), .string (⟨#[]⟩ : ByteArray)] (fun _ => True) (fun _ => False) rfl (by first | (go_simp; done) | (go_simp; rfl)) ?aP (fun _ hk => hk.elim) ?aF ?aO ?aB ?aS ?aL ?_; (case aP => exact k58_mkM _ _ _ (⟨(rd_T60 y13011 x51_3).f0, (⟨#[]⟩ : ByteArray)⟩ : S58)); (case aB => exact (by repeat (first | (with_reducible first | exact HB.out | apply below_alloc | apply pw_below_drewN | apply below_drew1 | refine below_set ?_ GE13001.out | refine below_set ?_ GE13015.out) | exact HB.out))); (case aF => exact (fun _ _ => trivial)); (case aO => exact (by (with_reducible repeat (first | apply Kd.R_alloc | apply Kd.R_drewN | apply Kd.R_drew)); exact Kd.R_mono (Kd.R_far (p := ⟨gb13015, 1, none⟩) (Kd.R_far (p := ⟨gb13015, 0, none⟩) (Kd.R_types HO_5.out BK13015.out (by decide)) (fun _ hk => hk.2) (.int .u8 ((rd_T60 y13011 x51_3).f0))) (fun _ hk => hk.2) (.int .u8 ((rd_T60 y13011 x51_3).f1))) (fun _ hk => trivial))); (case aS => exact (below_size (by repeat (first | (with_reducible first | exact HB.out | apply below_alloc | apply pw_below_drewN | apply below_drew1 | refine below_set ?_ GE13001.out | refine below_set ?_ GE13015.out) | exact HB.out)))); (case aL => have := LMc41.out; omega); intro v13018 w69 ho hb hg hat; rw [← Ny13017.out] at ho; have n0_ := Aside0.mk (Kd.R_over' (by (with_reducible repeat (first | apply Kd.R_alloc | apply Kd.R_drewN | apply Kd.R_drew)); exact (Kd.R_mono (Kd.R_far (p := ⟨gb13015, 1, none⟩) (Kd.R_far (p := ⟨gb13015, 0, none⟩) (Kd.R_mono HO_49.out (fun k_ hk => (⟨hk, hk.2⟩ : _ ∧ k_ ≠ gb13015))) (fun _ hk => hk.2) (.int .u8 ((rd_T60 y13011 x51_3).f0))) (fun _ hk => hk.2) (.int .u8 ((rd_T60 y13011 x51_3).f1))) (fun _ h_ => h_.1))) (Kd.R_typed (by (with_reducible repeat (first | apply Kd.R_alloc | apply Kd.R_drewN | apply Kd.R_drew)); exact (Kd.R_mono (Kd.R_far (p := ⟨gb13015, 1, none⟩) (Kd.R_far (p := ⟨gb13015, 0, none⟩) (Kd.R_types HO_5.out BK13015.out (by decide)) (fun _ hk => hk.2) (.int .u8 ((rd_T60 y13011 x51_3).f0))) (fun _ hk => hk.2) (.int .u8 ((rd_T60 y13011 x51_3).f1))) (fun _ h_ => h_.1)))) (by decide) hg); have n1_ := Aside0.mk (blk_grown (g := gb13001) (o := .cells #[.string t13002, .string t13003] 34 (0, 0)) (by (with_reducible repeat (first | refine blk_drewN ?_ _ | refine blk_drew ?_ | refine blk_alloc ?_ _)); refine blk_far ?_ NB13001_13015.out _; (with_reducible repeat (first | refine blk_drewN ?_ _ | refine blk_drew ?_ | refine blk_alloc ?_ _)); refine blk_far ?_ NB13001_13015.out _; (with_reducible repeat (first | refine blk_drewN ?_ _ | refine blk_drew ?_ | refine blk_alloc ?_ _)); exact BK13001.out) hg (Kd.R_ne HO_5.out BK13001.out (by decide))); have n2_ := Aside0.mk (blk_grown (g := gb13015) (o := .cells #[.int .u8 ((rd_T60 y13011 x51_3).f0), .int .u8 ((rd_T60 y13011 x51_3).f1)] 60 (0, 0)) (by (with_reducible repeat (first | refine blk_drewN ?_ _ | refine blk_drew ?_ | refine blk_alloc ?_ _)); refine blk_put (cs := #[.int .u8 ((rd_T60 y13011 x51_3).f0), .int .u8 0]) ?_ 1 _ rfl; (with_reducible repeat (first | refine blk_drewN ?_ _ | refine blk_drew ?_ | refine blk_alloc ?_ _)); refine blk_put (cs := #[.int .u8 0, .int .u8 0]) ?_ 0 _ rfl; (with_reducible repeat (first | refine blk_drewN ?_ _ | refine blk_drew ?_ | refine blk_alloc ?_ _)); exact BK13015.out) hg (Kd.R_ne HO_5.out BK13015.out (by decide))); have n3_ := Aside0.mk (hb); have n4_ := Aside0.mk (ho); clear HO_49; clear BK13001; clear BK13015; clear HB; clear HO_5; have HO_49 := n0_; have BK13001 := n1_; have BK13015 := n2_; have HB := n3_; have HO13019 := n4_; clear n0_ n1_ n2_ n3_ n4_; clear ho hb hg hat; have hcz70_0 : w69.cell? ⟨gb13015, 0, none⟩ = some (.int .u8 ((rd_T60 y13011 x51_3).f0)) := (blk_cell BK13015.out 0).trans rfl; have hcz70_1 : w69.cell? ⟨gb13015, 1, none⟩ = some (.int .u8 ((rd_T60 y13011 x51_3).f1)) := (blk_cell BK13015.out 1).trans rfl; have hfz70_0 := blk_frozen BK13015.out 0; have hfz70_1 := blk_frozen BK13015.out 1) | (go_at_call 33; (with_reducible refine (impl_isVariable.calls ((rd_T60 y13011 x51_3).f1) false _ A42.out).mono ?_); rintro e w' ⟨rfl, ⟨nd, rfl⟩⟩; (try first | exact ⟨rfl, _, World.drewN_drewN _ _ _⟩ | exact ⟨rfl, _, Eq.trans (World.drewN_drewN _ _ _) (congrArg (World.drewN _) (Nat.add_assoc _ _ _))⟩)) | (go_at_call 34; (with_reducible refine (impl_LetterIndex.calls ((rd_T60 y13011 x51_3).f1) t13027 _ A54.out).mono ?_); rintro e w' ⟨rfl, ⟨nd, rfl⟩⟩; (try first | exact ⟨rfl, _, World.drewN_drewN _ _ _⟩ | exact ⟨rfl, _, Eq.trans (World.drewN_drewN _ _ _) (congrArg (World.drewN _) (Nat.add_assoc _ _ _))⟩)))
                                    repeat (go_quiet (first | ((with_reducible refine gate_dst (N := 7) rfl ?_); refine box_event ?hg (N := 7) ?hd (cs := #[.int .u8 0, .int .u8 0]) (t := 60) ?hr ?_; (case hd => rfl); (case hg => rfl); (case hr => first | (go_simp; done) | (go_simp; rfl)); intro gb13015 hg w66 hbox hb; have n0_ := Aside0.mk (Kd.R_below (by (with_reducible repeat (first | apply Kd.R_alloc | apply Kd.R_drewN | apply Kd.R_drew)); exact HO_5.out) hb); have n1_ := Aside0.mk (Kd.R_below (Kd.R_elderB (by (with_reducible repeat (first | apply Kd.R_alloc | apply Kd.R_drewN | apply Kd.R_drew)); exact HO_49.out) gb13015 (Nat.le_of_eq hg.symm)) hb); have n2_ := Aside0.mk (blk_below (g := gb13001) (o := .cells #[.string t13002, .string t13003] 34 (0, 0)) (by (with_reducible repeat (first | refine blk_drewN ?_ _ | refine blk_drew ?_ | refine blk_alloc ?_ _)); exact BK13001.out) hb); have n3_ := Aside0.mk (below_step (by repeat (first | (with_reducible first | exact HB.out | apply below_alloc | apply pw_below_drewN | apply below_drew1 | refine below_set ?_ GE13001.out) | exact HB.out)) hb); have n4_ := Aside0.mk (hbox); have n5_ := Aside0.mk ((by rw [hg]; exact (below_size (by repeat (first | (with_reducible first | exact HB.out | apply below_alloc | apply pw_below_drewN | apply below_drew1 | refine below_set ?_ GE13001.out) | exact HB.out))) : w.heap.size ≤ gb13015)); have n6_ := Aside0.mk ((by rw [hg]; exact (below_size (by repeat (first | (with_reducible first | exact HB.out | apply below_alloc | apply pw_below_drewN | apply below_drew1 | refine below_set ?_ GE13001.out) | exact HB.out))) : w.heap.size ≤ gb13015)); have n7_ := Aside0.mk ((by rw [hg]; exact Nat.ne_of_lt (blk_lt (g := gb13001) (o := .cells #[.string t13002, .string t13003] 34 (0, 0)) (by (with_reducible repeat (first | refine blk_drewN ?_ _ | refine blk_drew ?_ | refine blk_alloc ?_ _)); exact BK13001.out)) : gb13001 ≠ gb13015)); have n8_ := Aside0.mk ((by rw [hg]; exact Nat.ne_of_gt (blk_lt (g := gb13001) (o := .cells #[.string t13002, .string t13003] 34 (0, 0)) (by (with_reducible repeat (first | refine blk_drewN ?_ _ | refine blk_drew ?_ | refine blk_alloc ?_ _)); exact BK13001.out)) : gb13015 ≠ gb13001)); clear HO_5; clear HO_49; clear BK13001; clear HB; have HO_5 := n0_; have HO_49 := n1_; have BK13001 := n2_; have HB := n3_; have BK13015 := n4_; have GW13015 := n5_; have GE13015 := n6_; have NB13001_13015 := n7_; have NB13015_13001 := n8_; clear n0_ n1_ n2_ n3_ n4_ n5_ n6_ n7_ n8_; clear hb hbox hg; have hnb67 := NB13015_13001.out; have hnc67 := NB13001_13015.out; have hcz68_0 : w66.cell? ⟨gb13015, 0, none⟩ = some (.int .u8 0) := (blk_cell BK13015.out 0).trans rfl; have hcz68_1 : w66.cell? ⟨gb13015, 1, none⟩ = some (.int .u8 0) := (blk_cell BK13015.out 1).trans rfl; have hfz68_0 := blk_frozen BK13015.out 0; have hfz68_1 := blk_frozen BK13015.out 1) | (go_at_call 33; (with_reducible refine (impl_isVariable.calls ((rd_T60 y13011 x51_3).f0) true _ A39.out).mono ?_); rintro e w' ⟨rfl, ⟨nd, rfl⟩⟩; (try first | exact ⟨rfl, _, World.drewN_drewN _ _ _⟩ | exact ⟨rfl, _, Eq.trans (World.drewN_drewN _ _ _) (congrArg (World.drewN _) (Nat.add_assoc _ _ _))⟩)) | ((with_reducible refine gate_builtin (b := .append) (xs := #[.tmp 59, .tmp 63]) rfl ?_); at_builtin; refine Kd.R_append k58 (w0 := w) w.heap.size rfl (.tmp 59) (.tmp 63) 32 58 (.agg #[(.int .u8 0), (.string ⟨#[]⟩)]) 24 rfl Try.underlying32 info58 rfl (by decide) (by omega) u5 x5_3 (⟨(rd_T60 y13011 x51_3).f0, (⟨#[]⟩ : ByteArray)⟩ : S58) [.int .u8 ((rd_T60 y13011 x51_3).f0), .string (⟨#[]⟩ : ByteArray)] (fun _ => True) (fun _ => False) rfl (by first | (go_simp; done) | (go_simp; rfl)) ?aP (fun _ hk => hk.elim) ?aF ?aO ?aB ?aS ?aL ?_; (case aP => exact k58_mkM _ _ _ (⟨(rd_T60 y13011 x51_3).f0, (⟨#[]⟩ : ByteArray)⟩ : S58)); (case aB => exact (by repeat (first | (with_reducible first | exact HB.out | apply below_alloc | apply pw_below_drewN | apply below_drew1 | refine below_set ?_ GE13001.out | refine below_set ?_ GE13015.out) | exact HB.out))); (case aF => exact (fun _ _ => trivial)); (case aO => exact (by (with_reducible repeat (first | apply Kd.R_alloc | apply Kd.R_drewN | apply Kd.R_drew)); exact Kd.R_mono (Kd.R_far (p := ⟨gb13015, 1, none⟩) (Kd.R_far (p := ⟨gb13015, 0, none⟩) (Kd.R_types HO_5.out BK13015.out (by decide)) (fun _ hk => hk.2) (.int .u8 ((rd_T60 y13011 x51_3).f0))) (fun _ hk => hk.2) (.int .u8 ((rd_T60 y13011 x51_3).f1))) (fun _ hk => trivial))); (case aS => exact (below_size (by repeat (first | (with_reducible first | exact HB.out | apply below_alloc | apply pw_below_drewN | apply below_drew1 | refine below_set ?_ GE13001.out | refine below_set ?_ GE13015.out) | exact HB.out)))); (case aL => have := LMc41.out; omega); intro v13018 w69 ho hb hg hat; rw [← Ny13017.out] at ho; have n0_ := Aside0.mk (Kd.R_over' (by (with_reducible repeat (first | apply Kd.R_alloc | apply Kd.R_drewN | apply Kd.R_drew)); exact (Kd.R_mono (Kd.R_far (p := ⟨gb13015, 1, none⟩) (Kd.R_far (p := ⟨gb13015, 0, none⟩) (Kd.R_mono HO_49.out (fun k_ hk => (⟨hk, hk.2⟩ : _ ∧ k_ ≠ gb13015))) (fun _ hk => hk.2) (.int .u8 ((rd_T60 y13011 x51_3).f0))) (fun _ hk => hk.2) (.int .u8 ((rd_T60 y13011 x51_3).f1))) (fun _ h_ => h_.1))) (Kd.R_typed (by (with_reducible repeat (first | apply Kd.R_alloc | apply Kd.R_drewN | apply Kd.R_drew)); exact (Kd.R_mono (Kd.R_far (p := ⟨gb13015, 1, none⟩) (Kd.R_far (p := ⟨gb13015, 0, none⟩) (Kd.R_types HO_5.out BK13015.out (by decide)) (fun _ hk => hk.2) (.int .u8 ((rd_T60 y13011 x51_3).f0))) (fun _ hk => hk.2) (.int .u8 ((rd_T60 y13011 x51_3).f1))) (fun _ h_ => h_.1)))) (by decide) hg); have n1_ := Aside0.mk (blk_grown (g := gb13001) (o := .cells #[.string t13002, .string t13003] 34 (0, 0)) (by (with_reducible repeat (first | refine blk_drewN ?_ _ | refine blk_drew ?_ | refine blk_alloc ?_ _)); refine blk_far ?_ NB13001_13015.out _; (with_reducible repeat (first | refine blk_drewN ?_ _ | refine blk_drew ?_ | refine blk_alloc ?_ _)); refine blk_far ?_ NB13001_13015.out _; (with_reducible repeat (first | refine blk_drewN ?_ _ | refine blk_drew ?_ | refine blk_alloc ?_ _)); exact BK13001.out) hg (Kd.R_ne HO_5.out BK13001.out (by decide))); have n2_ := Aside0.mk (blk_grown (g := gb13015) (o := .cells #[.int .u8 ((rd_T60 y13011 x51_3).f0), .int .u8 ((rd_T60 y13011 x51_3).f1)] 60 (0, 0)) (by (with_reducible repeat (first | refine blk_drewN ?_ _ | refine blk_drew ?_ | refine blk_alloc ?_ _)); refine blk_put (cs := #[.int .u8 ((rd_T60 y13011 x51_3).f0), .int .u8 0]) ?_ 1 _ rfl; (with_reducible repeat (first | refine blk_drewN ?_ _ | refine blk_drew ?_ | refine blk_alloc ?_ _)); refine blk_put (cs := #[.int .u8 0, .int .u8 0]) ?_ 0 _ rfl; (with_reducible repeat (first | refine blk_drewN ?_ _ | refine blk_drew ?_ | refine blk_alloc ?_ _)); exact BK13015.out) hg (Kd.R_ne HO_5.out BK13015.out (by decide))); have n3_ := Aside0.mk (hb); have n4_ := Aside0.mk (ho); clear HO_49; clear BK13001; clear BK13015; clear HB; clear HO_5; have HO_49 := n0_; have BK13001 := n1_; have BK13015 := n2_; have HB := n3_; have HO13019 := n4_; clear n0_ n1_ n2_ n3_ n4_; clear ho hb hg hat; have hcz70_0 : w69.cell? ⟨gb13015, 0, none⟩ = some (.int .u8 ((rd_T60 y13011 x51_3).f0)) := (blk_cell BK13015.out 0).trans rfl; have hcz70_1 : w69.cell? ⟨gb13015, 1, none⟩ = some (.int .u8 ((rd_T60 y13011 x51_3).f1)) := (blk_cell BK13015.out 1).trans rfl; have hfz70_0 := blk_frozen BK13015.out 0; have hfz70_1 := blk_frozen BK13015.out 1) | (go_at_call 33; (with_reducible refine (impl_isVariable.calls ((rd_T60 y13011 x51_3).f1) false _ A42.out).mono ?_); rintro e w' ⟨rfl, ⟨nd, rfl⟩⟩; (try first | exact ⟨rfl, _, World.drewN_drewN _ _ _⟩ | exact ⟨rfl, _, Eq.trans (World.drewN_drewN _ _ _) (congrArg (World.drewN _) (Nat.add_assoc _ _ _))⟩)) | (go_at_call 34; (with_reducible refine (impl_LetterIndex.calls ((rd_T60 y13011 x51_3).f1) t13027 _ A54.out).mono ?_); rintro e w' ⟨rfl, ⟨nd, rfl⟩⟩; (try first | exact ⟨rfl, _, World.drewN_drewN _ _ _⟩ | exact ⟨rfl, _, Eq.trans (World.drewN_drewN _ _ _) (congrArg (World.drewN _) (Nat.add_assoc _ _ _))⟩))); try go_wp2_with (first | ((with_reducible refine gate_dst (N := 7) rfl ?_); refine box_event ?hg (N := 7) ?hd (cs := #[.int .u8 0, .int .u8 0]) (t := 60) ?hr ?_; (case hd => rfl); (case hg => rfl); (case hr => first | (go_simp; done) | (go_simp; rfl)); intro gb13015 hg w66 hbox hb; have n0_ := Aside0.mk (Kd.R_below (by (with_reducible repeat (first | apply Kd.R_alloc | apply Kd.R_drewN | apply Kd.R_drew)); exact HO_5.out) hb); have n1_ := Aside0.mk (Kd.R_below (Kd.R_elderB (by (with_reducible repeat (first | apply Kd.R_alloc | apply Kd.R_drewN | apply Kd.R_drew)); exact HO_49.out) gb13015 (Nat.le_of_eq hg.symm)) hb); have n2_ := Aside0.mk (blk_below (g := gb13001) (o := .cells #[.string t13002, .string t13003] 34 (0, 0)) (by (with_reducible repeat (first | refine blk_drewN ?_ _ | refine blk_drew ?_ | refine blk_alloc ?_ _)); exact BK13001.out) hb); have n3_ := Aside0.mk (below_step (by repeat (first | (with_reducible first | exact HB.out | apply below_alloc | apply pw_below_drewN | apply below_drew1 | refine below_set ?_ GE13001.out) | exact HB.out)) hb); have n4_ := Aside0.mk (hbox); have n5_ := Aside0.mk ((by rw [hg]; exact (below_size (by repeat (first | (with_reducible first | exact HB.out | apply below_alloc | apply pw_below_drewN | apply below_drew1 | refine below_set ?_ GE13001.out) | exact HB.out))) : w.heap.size ≤ gb13015)); have n6_ := Aside0.mk ((by rw [hg]; exact (below_size (by repeat (first | (with_reducible first | exact HB.out | apply below_alloc | apply pw_below_drewN | apply below_drew1 | refine below_set ?_ GE13001.out) | exact HB.out))) : w.heap.size ≤ gb13015)); have n7_ := Aside0.mk ((by rw [hg]; exact Nat.ne_of_lt (blk_lt (g := gb13001) (o := .cells #[.string t13002, .string t13003] 34 (0, 0)) (by (with_reducible repeat (first | refine blk_drewN ?_ _ | refine blk_drew ?_ | refine blk_alloc ?_ _)); exact BK13001.out)) : gb13001 ≠ gb13015)); have n8_ := Aside0.mk ((by rw [hg]; exact Nat.ne_of_gt (blk_lt (g := gb13001) (o := .cells #[.string t13002, .string t13003] 34 (0, 0)) (by (with_reducible repeat (first | refine blk_drewN ?_ _ | refine blk_drew ?_ | refine blk_alloc ?_ _)); exact BK13001.out)) : gb13015 ≠ gb13001)); clear HO_5; clear HO_49; clear BK13001; clear HB; have HO_5 := n0_; have HO_49 := n1_; have BK13001 := n2_; have HB := n3_; have BK13015 := n4_; have GW13015 := n5_; have GE13015 := n6_; have NB13001_13015 := n7_; have NB13015_13001 := n8_; clear n0_ n1_ n2_ n3_ n4_ n5_ n6_ n7_ n8_; clear hb hbox hg; have hnb67 := NB13015_13001.out; have hnc67 := NB13001_13015.out; have hcz68_0 : w66.cell? ⟨gb13015, 0, none⟩ = some (.int .u8 0) := (blk_cell BK13015.out 0).trans rfl; have hcz68_1 : w66.cell? ⟨gb13015, 1, none⟩ = some (.int .u8 0) := (blk_cell BK13015.out 1).trans rfl; have hfz68_0 := blk_frozen BK13015.out 0; have hfz68_1 := blk_frozen BK13015.out 1) | (go_at_call 33; (with_reducible refine (impl_isVariable.calls ((rd_T60 y13011 x51_3).f0) true _ A39.out).mono ?_); rintro e w' ⟨rfl, ⟨nd, rfl⟩⟩; (try first | exact ⟨rfl, _, World.drewN_drewN _ _ _⟩ | exact ⟨rfl, _, Eq.trans (World.drewN_drewN _ _ _) (congrArg (World.drewN _) (Nat.add_assoc _ _ _))⟩)) | ((with_reducible refine gate_builtin (b := .append) (xs := #[.tmp 59, .tmp 63]) rfl ?_); at_builtin; refine Kd.R_append k58 (w0 := w) w.heap.size rfl (.tmp 59) (.tmp 63) 32 58 (.agg #[(.int .u8 0), (.string ⟨#[]⟩)]) 24 rfl Try.underlying32 info58 rfl (by decide) (by omega) u5 x5_3 (⟨(rd_T60 y13011 x51_3).f0, (⟨#[]⟩ : ByteArray)⟩ : S58) [.int .u8 ((rd_T60 y13011 x51_3).f0), .string (⟨#[]⟩ : ByteArray)] (fun _ => True) (fun _ => False) rfl (by first | (go_simp; done) | (go_simp; rfl)) ?aP (fun _ hk => hk.elim) ?aF ?aO ?aB ?aS ?aL ?_; (case aP => exact k58_mkM _ _ _ (⟨(rd_T60 y13011 x51_3).f0, (⟨#[]⟩ : ByteArray)⟩ : S58)); (case aB => exact (by repeat (first | (with_reducible first | exact HB.out | apply below_alloc | apply pw_below_drewN | apply below_drew1 | refine below_set ?_ GE13001.out | refine below_set ?_ GE13015.out) | exact HB.out))); (case aF => exact (fun _ _ => trivial)); (case aO => exact (by (with_reducible repeat (first | apply Kd.R_alloc | apply Kd.R_drewN | apply Kd.R_drew)); exact Kd.R_mono (Kd.R_far (p := ⟨gb13015, 1, none⟩) (Kd.R_far (p := ⟨gb13015, 0, none⟩) (Kd.R_types HO_5.out BK13015.out (by decide)) (fun _ hk => hk.2) (.int .u8 ((rd_T60 y13011 x51_3).f0))) (fun _ hk => hk.2) (.int .u8 ((rd_T60 y13011 x51_3).f1))) (fun _ hk => trivial))); (case aS => exact (below_size (by repeat (first | (with_reducible first | exact HB.out | apply below_alloc | apply pw_below_drewN | apply below_drew1 | refine below_set ?_ GE13001.out | refine below_set ?_ GE13015.out) | exact HB.out)))); (case aL => have := LMc41.out; omega); intro v13018 w69 ho hb hg hat; rw [← Ny13017.out] at ho; have n0_ := Aside0.mk (Kd.R_over' (by (with_reducible repeat (first | apply Kd.R_alloc | apply Kd.R_drewN | apply Kd.R_drew)); exact (Kd.R_mono (Kd.R_far (p := ⟨gb13015, 1, none⟩) (Kd.R_far (p := ⟨gb13015, 0, none⟩) (Kd.R_mono HO_49.out (fun k_ hk => (⟨hk, hk.2⟩ : _ ∧ k_ ≠ gb13015))) (fun _ hk => hk.2) (.int .u8 ((rd_T60 y13011 x51_3).f0))) (fun _ hk => hk.2) (.int .u8 ((rd_T60 y13011 x51_3).f1))) (fun _ h_ => h_.1))) (Kd.R_typed (by (with_reducible repeat (first | apply Kd.R_alloc | apply Kd.R_drewN | apply Kd.R_drew)); exact (Kd.R_mono (Kd.R_far (p := ⟨gb13015, 1, none⟩) (Kd.R_far (p := ⟨gb13015, 0, none⟩) (Kd.R_types HO_5.out BK13015.out (by decide)) (fun _ hk => hk.2) (.int .u8 ((rd_T60 y13011 x51_3).f0))) (fun _ hk => hk.2) (.int .u8 ((rd_T60 y13011 x51_3).f1))) (fun _ h_ => h_.1)))) (by decide) hg); have n1_ := Aside0.mk (blk_grown (g := gb13001) (o := .cells #[.string t13002, .string t13003] 34 (0, 0)) (by (with_reducible repeat (first | refine blk_drewN ?_ _ | refine blk_drew ?_ | refine blk_alloc ?_ _)); refine blk_far ?_ NB13001_13015.out _; (with_reducible repeat (first | refine blk_drewN ?_ _ | refine blk_drew ?_ | refine blk_alloc ?_ _)); refine blk_far ?_ NB13001_13015.out _; (with_reducible repeat (first | refine blk_drewN ?_ _ | refine blk_drew ?_ | refine blk_alloc ?_ _)); exact BK13001.out) hg (Kd.R_ne HO_5.out BK13001.out (by decide))); have n2_ := Aside0.mk (blk_grown (g := gb13015) (o := .cells #[.int .u8 ((rd_T60 y13011 x51_3).f0), .int .u8 ((rd_T60 y13011 x51_3).f1)] 60 (0, 0)) (by (with_reducible repeat (first | refine blk_drewN ?_ _ | refine blk_drew ?_ | refine blk_alloc ?_ _)); refine blk_put (cs := #[.int .u8 ((rd_T60 y13011 x51_3).f0), .int .u8 0]) ?_ 1 _ rfl; (with_reducible repeat (first | refine blk_drewN ?_ _ | refine blk_drew ?_ | refine blk_alloc ?_ _)); refine blk_put (cs := #[.int .u8 0, .int .u8 0]) ?_ 0 _ rfl; (with_reducible repeat (first | refine blk_drewN ?_ _ | refine blk_drew ?_ | refine blk_alloc ?_ _)); exact BK13015.out) hg (Kd.R_ne HO_5.out BK13015.out (by decide))); have n3_ := Aside0.mk (hb); have n4_ := Aside0.mk (ho); clear HO_49; clear BK13001; clear BK13015; clear HB; clear HO_5; have HO_49 := n0_; have BK13001 := n1_; have BK13015 := n2_; have HB := n3_; have HO13019 := n4_; clear n0_ n1_ n2_ n3_ n4_; clear ho hb hg hat; have hcz70_0 : w69.cell? ⟨gb13015, 0, none⟩ = some (.int .u8 ((rd_T60 y13011 x51_3).f0)) := (blk_cell BK13015.out 0).trans rfl; have hcz70_1 : w69.cell? ⟨gb13015, 1, none⟩ = some (.int .u8 ((rd_T60 y13011 x51_3).f1)) := (blk_cell BK13015.out 1).trans rfl; have hfz70_0 := blk_frozen BK13015.out 0; have hfz70_1 := blk_frozen BK13015.out 1) | (go_at_call 33; (with_reducible refine (impl_isVariable.calls ((rd_T60 y13011 x51_3).f1) false _ A42.out).mono ?_); rintro e w' ⟨rfl, ⟨nd, rfl⟩⟩; (try first | exact ⟨rfl, _, World.drewN_drewN _ _ _⟩ | exact ⟨rfl, _, Eq.trans (World.drewN_drewN _ _ _) (congrArg (World.drewN _) (Nat.add_assoc _ _ _))⟩)) | (go_at_call 34; (with_reducible refine (impl_LetterIndex.calls ((rd_T60 y13011 x51_3).f1) t13027 _ A54.out).mono ?_); rintro e w' ⟨rfl, ⟨nd, rfl⟩⟩; (try first | exact ⟨rfl, _, World.drewN_drewN _ _ _⟩ | exact ⟨rfl, _, Eq.trans (World.drewN_drewN _ _ _) (congrArg (World.drewN _) (Nat.add_assoc _ _ _))⟩))))
                                    go_roundg k3
                                    case measure => have := HJ2.out; have := HJ14.out; have := HK3.out; omega
                                    case rel => exact ⟨(y13017), (wrap64 (x51_3 + 1)), (by first | rfl | (simp; done) | (simp [*]; done)), H', ⟨by have := HJ2.out; have := HJ14.out; have := HK3.out; omega⟩, ⟨by (with_reducible repeat (first | apply Kd.R_alloc | apply Kd.R_drewN | apply Kd.R_drew)); exact HO13019.out⟩, ⟨by (with_reducible repeat (first | apply Kd.R_alloc | apply Kd.R_drewN | apply Kd.R_drew)); exact Kd.R_mono HO_49.out (fun _ hk => trivial)⟩, ⟨by (with_reducible repeat (first | refine blk_drewN ?_ _ | refine blk_drew ?_ | refine blk_alloc ?_ _)); exact BK13001.out⟩, ⟨by repeat (first | (with_reducible first | exact HB.out | apply below_alloc | apply pw_below_drewN | apply below_drew1 | refine below_set ?_ GE13001.out | refine below_set ?_ GE13015.out) | exact HB.out)⟩⟩
                              · rw [if_neg c41] at H
                                exact absurd H (by simp)
                            · replace c40 := Bool.eq_false_iff.mpr c40
                              subst c40
                              have H1 : (impl_MovesOf.l0 k3 x5_3 y13011 (y13011.length : Int) (wrap64 (x51_3 + 1))) = some r := by rw [if_neg (show ¬ (false = true) by decide)] at H; exact H
                              clear H
                              have H := H1
                              clear H1
                              have H' := Aside0.mk H
                              clear H
                              have p13014 : 0 ≤ (x51_3 : Int) := of_decide_eq_true (by first | (with_reducible assumption) | assumption)
                              have q13014 : x51_3 < (y13011.length : Int) := of_decide_eq_true (by first | (with_reducible assumption) | assumption)
                              obtain ⟨ad13014, e13014, hx13014_0, hx13014_1⟩ := at_T60 (Kd.R_reads' HO_49.out).2.2 x51_3 p13014 q13014
                              cases e13014
                              replace p13014 := eq_true p13014
                              replace q13014 := eq_true q13014
                              go_wp2_with (first | ((with_reducible refine gate_dst (N := 7) rfl ?_); refine box_event ?hg (N := 7) ?hd (cs := #[.int .u8 0, .int .u8 0]) (t := 60) ?hr ?_; (case hd => rfl); (case hg => rfl); (case hr => first | (go_simp; done) | (go_simp; rfl)); intro gb13015 hg w71 hbox hb; have n0_ := Aside0.mk (Kd.R_below (by (with_reducible repeat (first | apply Kd.R_alloc | apply Kd.R_drewN | apply Kd.R_drew)); exact HO_5.out) hb); have n1_ := Aside0.mk (Kd.R_below (Kd.R_elderB (by (with_reducible repeat (first | apply Kd.R_alloc | apply Kd.R_drewN | apply Kd.R_drew)); exact HO_49.out) gb13015 (Nat.le_of_eq hg.symm)) hb); have n2_ := Aside0.mk (blk_below (g := gb13001) (o := .cells #[.string t13002, .string t13003] 34 (0, 0)) (by (with_reducible repeat (first | refine blk_drewN ?_ _ | refine blk_drew ?_ | refine blk_alloc ?_ _)); exact BK13001.out) hb); have n3_ := Aside0.mk (below_step (by repeat (first | (with_reducible first | exact HB.out | apply below_alloc | apply pw_below_drewN | apply below_drew1 | refine below_set ?_ GE13001.out) | exact HB.out)) hb); have n4_ := Aside0.mk (hbox); have n5_ := Aside0.mk ((by rw [hg]; exact (below_size (by repeat (first | (with_reducible first | exact HB.out | apply below_alloc | apply pw_below_drewN | apply below_drew1 | refine below_set ?_ GE13001.out) | exact HB.out))) : w.heap.size ≤ gb13015)); have n6_ := Aside0.mk ((by rw [hg]; exact (below_size (by repeat (first | (with_reducible first | exact HB.out | apply below_alloc | apply pw_below_drewN | apply below_drew1 | refine below_set ?_ GE13001.out) | exact HB.out))) : w.heap.size ≤ gb13015)); have n7_ := Aside0.mk ((by rw [hg]; exact Nat.ne_of_lt (blk_lt (g := gb13001) (o := .cells #[.string t13002, .string t13003] 34 (0, 0)) (by (with_reducible repeat (first | refine blk_drewN ?_ _ | refine blk_drew ?_ | refine blk_alloc ?_ _)); exact BK13001.out)) : gb13001 ≠ gb13015)); have n8_ := Aside0.mk ((by rw [hg]; exact Nat.ne_of_gt (blk_lt (g := gb13001) (o := .cells #[.string t13002, .string t13003] 34 (0, 0)) (by (with_reducible repeat (first | refine blk_drewN ?_ _ | refine blk_drew ?_ | refine blk_alloc ?_ _)); exact BK13001.out)) : gb13015 ≠ gb13001)); clear HO_5; clear HO_49; clear BK13001; clear HB; have HO_5 := n0_; have HO_49 := n1_; have BK13001 := n2_; have HB := n3_; have BK13015 := n4_; have GW13015 := n5_; have GE13015 := n6_; have NB13001_13015 := n7_; have NB13015_13001 := n8_; clear n0_ n1_ n2_ n3_ n4_ n5_ n6_ n7_ n8_; clear hb hbox hg; have hnb72 := NB13015_13001.out; have hnc72 := NB13001_13015.out; have hcz73_0 : w71.cell? ⟨gb13015, 0, none⟩ = some (.int .u8 0) := (blk_cell BK13015.out 0).trans rfl; have hcz73_1 : w71.cell? ⟨gb13015, 1, none⟩ = some (.int .u8 0) := (blk_cell BK13015.out 1).trans rfl; have hfz73_0 := blk_frozen BK13015.out 0; have hfz73_1 := blk_frozen BK13015.out 1) | (go_at_call 33; (with_reducible refine (impl_isVariable.calls ((rd_T60 y13011 x51_3).f0) false _ A39.out).mono ?_); rintro e w' ⟨rfl, ⟨nd, rfl⟩⟩; (try first | exact ⟨rfl, _, World.drewN_drewN _ _ _⟩ | exact ⟨rfl, _, Eq.trans (World.drewN_drewN _ _ _) (congrArg (World.drewN _) (Nat.add_assoc _ _ _))⟩)))
                              repeat (go_quiet (first | ((with_reducible refine gate_dst (N := 7) rfl ?_); refine box_event ?hg (N := 7) ?hd (cs := #[.int .u8 0, .int .u8 0]) (t := 60) ?hr ?_; (case hd => rfl); (case hg => rfl); (case hr => first | (go_simp; done) | (go_simp; rfl)); intro gb13015 hg w71 hbox hb; have n0_ := Aside0.mk (Kd.R_below (by (with_reducible repeat (first | apply Kd.R_alloc | apply Kd.R_drewN | apply Kd.R_drew)); exact HO_5.out) hb); have n1_ := Aside0.mk (Kd.R_below (Kd.R_elderB (by (with_reducible repeat (first | apply Kd.R_alloc | apply Kd.R_drewN | apply Kd.R_drew)); exact HO_49.out) gb13015 (Nat.le_of_eq hg.symm)) hb); have n2_ := Aside0.mk (blk_below (g := gb13001) (o := .cells #[.string t13002, .string t13003] 34 (0, 0)) (by (with_reducible repeat (first | refine blk_drewN ?_ _ | refine blk_drew ?_ | refine blk_alloc ?_ _)); exact BK13001.out) hb); have n3_ := Aside0.mk (below_step (by repeat (first | (with_reducible first | exact HB.out | apply below_alloc | apply pw_below_drewN | apply below_drew1 | refine below_set ?_ GE13001.out) | exact HB.out)) hb); have n4_ := Aside0.mk (hbox); have n5_ := Aside0.mk ((by rw [hg]; exact (below_size (by repeat (first | (with_reducible first | exact HB.out | apply below_alloc | apply pw_below_drewN | apply below_drew1 | refine below_set ?_ GE13001.out) | exact HB.out))) : w.heap.size ≤ gb13015)); have n6_ := Aside0.mk ((by rw [hg]; exact (below_size (by repeat (first | (with_reducible first | exact HB.out | apply below_alloc | apply pw_below_drewN | apply below_drew1 | refine below_set ?_ GE13001.out) | exact HB.out))) : w.heap.size ≤ gb13015)); have n7_ := Aside0.mk ((by rw [hg]; exact Nat.ne_of_lt (blk_lt (g := gb13001) (o := .cells #[.string t13002, .string t13003] 34 (0, 0)) (by (with_reducible repeat (first | refine blk_drewN ?_ _ | refine blk_drew ?_ | refine blk_alloc ?_ _)); exact BK13001.out)) : gb13001 ≠ gb13015)); have n8_ := Aside0.mk ((by rw [hg]; exact Nat.ne_of_gt (blk_lt (g := gb13001) (o := .cells #[.string t13002, .string t13003] 34 (0, 0)) (by (with_reducible repeat (first | refine blk_drewN ?_ _ | refine blk_drew ?_ | refine blk_alloc ?_ _)); exact BK13001.out)) : gb13015 ≠ gb13001)); clear HO_5; clear HO_49; clear BK13001; clear HB; have HO_5 := n0_; have HO_49 := n1_; have BK13001 := n2_; have HB := n3_; have BK13015 := n4_; have GW13015 := n5_; have GE13015 := n6_; have NB13001_13015 := n7_; have NB13015_13001 := n8_; clear n0_ n1_ n2_ n3_ n4_ n5_ n6_ n7_ n8_; clear hb hbox hg; have hnb72 := NB13015_13001.out; have hnc72 := NB13001_13015.out; have hcz73_0 : w71.cell? ⟨gb13015, 0, none⟩ = some (.int .u8 0) := (blk_cell BK13015.out 0).trans rfl; have hcz73_1 : w71.cell? ⟨gb13015, 1, none⟩ = some (.int .u8 0) := (blk_cell BK13015.out 1).trans rfl; have hfz73_0 := blk_frozen BK13015.out 0; have hfz73_1 := blk_frozen BK13015.out 1) | (go_at_call 33; (with_reducible refine (impl_isVariable.calls ((rd_T60 y13011 x51_3).f0) false _ A39.out).mono ?_); rintro e w' ⟨rfl, ⟨nd, rfl⟩⟩; (try first | exact ⟨rfl, _, World.drewN_drewN _ _ _⟩ | exact ⟨rfl, _, Eq.trans (World.drewN_drewN _ _ _) (congrArg (World.drewN _) (Nat.add_assoc _ _ _))⟩))); try go_wp2_with (first | ((with_reducible refine gate_dst (N := 7) rfl ?_); refine box_event ?hg (N := 7) ?hd (cs := #[.int .u8 0, .int .u8 0]) (t := 60) ?hr ?_; (case hd => rfl); (case hg => rfl); (case hr => first | (go_simp; done) | (go_simp; rfl)); intro gb13015 hg w71 hbox hb; have n0_ := Aside0.mk (Kd.R_below (by (with_reducible repeat (first | apply Kd.R_alloc | apply Kd.R_drewN | apply Kd.R_drew)); exact HO_5.out) hb); have n1_ := Aside0.mk (Kd.R_below (Kd.R_elderB (by (with_reducible repeat (first | apply Kd.R_alloc | apply Kd.R_drewN | apply Kd.R_drew)); exact HO_49.out) gb13015 (Nat.le_of_eq hg.symm)) hb); have n2_ := Aside0.mk (blk_below (g := gb13001) (o := .cells #[.string t13002, .string t13003] 34 (0, 0)) (by (with_reducible repeat (first | refine blk_drewN ?_ _ | refine blk_drew ?_ | refine blk_alloc ?_ _)); exact BK13001.out) hb); have n3_ := Aside0.mk (below_step (by repeat (first | (with_reducible first | exact HB.out | apply below_alloc | apply pw_below_drewN | apply below_drew1 | refine below_set ?_ GE13001.out) | exact HB.out)) hb); have n4_ := Aside0.mk (hbox); have n5_ := Aside0.mk ((by rw [hg]; exact (below_size (by repeat (first | (with_reducible first | exact HB.out | apply below_alloc | apply pw_below_drewN | apply below_drew1 | refine below_set ?_ GE13001.out) | exact HB.out))) : w.heap.size ≤ gb13015)); have n6_ := Aside0.mk ((by rw [hg]; exact (below_size (by repeat (first | (with_reducible first | exact HB.out | apply below_alloc | apply pw_below_drewN | apply below_drew1 | refine below_set ?_ GE13001.out) | exact HB.out))) : w.heap.size ≤ gb13015)); have n7_ := Aside0.mk ((by rw [hg]; exact Nat.ne_of_lt (blk_lt (g := gb13001) (o := .cells #[.string t13002, .string t13003] 34 (0, 0)) (by (with_reducible repeat (first | refine blk_drewN ?_ _ | refine blk_drew ?_ | refine blk_alloc ?_ _)); exact BK13001.out)) : gb13001 ≠ gb13015)); have n8_ := Aside0.mk ((by rw [hg]; exact Nat.ne_of_gt (blk_lt (g := gb13001) (o := .cells #[.string t13002, .string t13003] 34 (0, 0)) (by (with_reducible repeat (first | refine blk_drewN ?_ _ | refine blk_drew ?_ | refine blk_alloc ?_ _)); exact BK13001.out)) : gb13015 ≠ gb13001)); clear HO_5; clear HO_49; clear BK13001; clear HB; have HO_5 := n0_; have HO_49 := n1_; have BK13001 := n2_; have HB := n3_; have BK13015 := n4_; have GW13015 := n5_; have GE13015 := n6_; have NB13001_13015 := n7_; have NB13015_13001 := n8_; clear n0_ n1_ n2_ n3_ n4_ n5_ n6_ n7_ n8_; clear hb hbox hg; have hnb72 := NB13015_13001.out; have hnc72 := NB13001_13015.out; have hcz73_0 : w71.cell? ⟨gb13015, 0, none⟩ = some (.int .u8 0) := (blk_cell BK13015.out 0).trans rfl; have hcz73_1 : w71.cell? ⟨gb13015, 1, none⟩ = some (.int .u8 0) := (blk_cell BK13015.out 1).trans rfl; have hfz73_0 := blk_frozen BK13015.out 0; have hfz73_1 := blk_frozen BK13015.out 1) | (go_at_call 33; (with_reducible refine (impl_isVariable.calls ((rd_T60 y13011 x51_3).f0) false _ A39.out).mono ?_); rintro e w' ⟨rfl, ⟨nd, rfl⟩⟩; (try first | exact ⟨rfl, _, World.drewN_drewN _ _ _⟩ | exact ⟨rfl, _, Eq.trans (World.drewN_drewN _ _ _) (congrArg (World.drewN _) (Nat.add_assoc _ _ _))⟩))))
                              go_roundg k3
                              case measure => have := HJ2.out; have := HJ14.out; have := HK3.out; omega
                              case rel => exact ⟨(x5_3), (wrap64 (x51_3 + 1)), (by first | rfl | (simp; done) | (simp [*]; done)), H', ⟨by have := HJ2.out; have := HJ14.out; have := HK3.out; omega⟩, ⟨by (with_reducible repeat (first | apply Kd.R_alloc | apply Kd.R_drewN | apply Kd.R_drew)); exact Kd.R_mono (Kd.R_far (p := ⟨gb13015, 1, none⟩) (Kd.R_far (p := ⟨gb13015, 0, none⟩) (Kd.R_types HO_5.out BK13015.out (by decide)) (fun _ hk => hk.2) (.int .u8 ((rd_T60 y13011 x51_3).f0))) (fun _ hk => hk.2) (.int .u8 ((rd_T60 y13011 x51_3).f1))) (fun _ hk => trivial)⟩, ⟨by (with_reducible repeat (first | apply Kd.R_alloc | apply Kd.R_drewN | apply Kd.R_drew)); exact Kd.R_mono (Kd.R_far (p := ⟨gb13015, 1, none⟩) (Kd.R_far (p := ⟨gb13015, 0, none⟩) (Kd.R_mono HO_49.out (fun k_ hk => (⟨hk, hk.2⟩ : _ ∧ k_ ≠ gb13015))) (fun _ hk => hk.2) (.int .u8 ((rd_T60 y13011 x51_3).f0))) (fun _ hk => hk.2) (.int .u8 ((rd_T60 y13011 x51_3).f1))) (fun _ hk => trivial)⟩, ⟨by (with_reducible repeat (first | refine blk_drewN ?_ _ | refine blk_drew ?_ | refine blk_alloc ?_ _)); refine blk_far ?_ NB13001_13015.out _; (with_reducible repeat (first | refine blk_drewN ?_ _ | refine blk_drew ?_ | refine blk_alloc ?_ _)); refine blk_far ?_ NB13001_13015.out _; (with_reducible repeat (first | refine blk_drewN ?_ _ | refine blk_drew ?_ | refine blk_alloc ?_ _)); exact BK13001.out⟩, ⟨by repeat (first | (with_reducible first | exact HB.out | apply below_alloc | apply pw_below_drewN | apply below_drew1 | refine below_set ?_ GE13001.out | refine below_set ?_ GE13015.out) | exact HB.out)⟩⟩
                          · rw [if_neg c38] at H
                            exact absurd H (by simp)
                        · rw [if_neg c37] at H
                          exact absurd H (by simp)
                      · rw [if_neg c36] at H
                        have c36b0 : decide (x51_3 < (y13011.length : Int)) = false := decide_eq_false c36
                        clear c36
                        obtain rfl := Option.some.inj H
                        go_wp2
                        repeat (go_quiet (fail); try go_wp2)
                        go_ret
                        exact ⟨_, by first | rfl | (simp [errW_none, errW_some] <;> rfl) | (simp [*, errW_none, errW_some] <;> rfl), by (with_reducible repeat (first | apply Kd.R_alloc | apply Kd.R_drewN | apply Kd.R_drew)); exact HO_5.out, by repeat (first | (with_reducible first | exact HB.out | apply below_alloc | apply pw_below_drewN | apply below_drew1 | refine below_set ?_ GE13001.out) | exact HB.out)⟩
                · rw [if_neg c28] at H
                  exact absurd H (by simp)
              · rw [if_neg c26] at H
                exact absurd H (by simp)


end Go.Proofs.Ytgllnohlocfeoaa.A


namespace Go.Proofs.Ytgllnohlocfeoaa.A
open Go.RowKit Go.Proofs.Ytgllnohlocfeoaa.Ext Go.Proofs.YtgllnohlocfeoaaW.PrintWords Go.Proofs.YtgllnohlocfeoaaW.PrintLast Go.Proofs.YtgllnohlocfeoaaW.PrintMore
attribute [local go_sem] max2_int min2_int max_two min_two max_three min_three max_four min_four   -- for this text's walks alone
set_option linter.unusedVariables false
set_option linter.unusedSimpArgs false

/-! ### laws_markText: function 36 -/
def laws_markText.l0 : Nat → Int → ByteArray → Option (ByteArray)
  | 0, _, _ => none
  | k + 1, x0, x3 => if x0 > 0 then ((some (([(wrap64 (48 + (Int.tmod x0 10))) % 256] : List Int) : List Int)).bind fun y36001 => (if (strOfNums y36001).size + x3.size ≤ 9223372036854775807 then (laws_markText.l0 k (wrap64 (Int.tdiv x0 10)) ((strOfNums y36001) ++ x3)) else (none))) else (if 1 + x3.size ≤ 9223372036854775807 then (some ((⟨#[109]⟩ : ByteArray) ++ x3)) else (none))
def laws_markText.f (k : Nat) (a0 : Int) : Option (ByteArray) := if a0 ≤ 0 then (some (⟨#[109, 48]⟩ : ByteArray)) else (laws_markText.l0 k a0 (⟨#[]⟩ : ByteArray))
theorem laws_markText.mono_l : ∀ k, (∀ y0 y1, LeO (laws_markText.l0 k y0 y1) (laws_markText.l0 (k + 1) y0 y1))
  | 0 => fun _ _ r h => by simp [laws_markText.l0] at h
  | k + 1 => by
    have ih0 := laws_markText.mono_l k
    · intro y0 y1
      unfold laws_markText.l0
      repeat' first
      | (with_reducible exact ih0 _ _)
      | (with_reducible exact LeO.refl _)
      | (with_reducible exact LeO.none _)
      | (with_reducible refine LeO.ite ?_ ?_)
      | (with_reducible refine LeO.bind ?_ (fun _ => ?_))
      | exact ih0 _ _
      | exact LeO.none _
      | refine LeO.ite ?_ ?_
      | refine LeO.bind ?_ (fun _ => ?_)
theorem laws_markText.mono : ∀ a0 k, LeO (laws_markText.f k a0) (laws_markText.f (k + 1) a0) := by
  intro a0 k
  have ih0 := laws_markText.mono_l k
  unfold laws_markText.f
  repeat' first
      | (with_reducible exact ih0 _ _)
      | (with_reducible exact LeO.refl _)
      | (with_reducible exact LeO.none _)
      | (with_reducible refine LeO.ite ?_ ?_)
      | (with_reducible refine LeO.bind ?_ (fun _ => ?_))
      | exact ih0 _ _
      | exact LeO.none _
      | refine LeO.ite ?_ ?_
      | refine LeO.bind ?_ (fun _ => ?_)
set_option maxHeartbeats 8000000 in
set_option maxRecDepth 100000 in
theorem laws_markText.calls (k : Nat) (a0 : Int) (r : ByteArray) (w : World) (h : laws_markText.f k a0 = some r) :
    Calls Try.prog 36 #[.int .i64 a0] w fun e w' => e = .returned (.string r) ∧ Below w.heap.size w w' := by
  have HB := Aside0.mk (Below.refl w.heap.size w)
  have H : (if a0 ≤ 0 then (some (⟨#[109, 48]⟩ : ByteArray)) else (laws_markText.l0 k a0 (⟨#[]⟩ : ByteArray))) = some r := h
  clear h
  by_cases c2 : a0 ≤ 0
  · rw [if_pos c2] at H
    have c2b0 : decide (a0 ≤ 0) = true := decide_eq_true c2
    clear c2
    obtain rfl := Option.some.inj H
    go_enter Try.func36, Try.ntmps36
    go_wp2
    go_ret
    exact ⟨by first | rfl | (simp [errW_none, errW_some] <;> rfl) | (simp [*, errW_none, errW_some] <;> rfl), by repeat (first | (with_reducible first | exact HB.out | apply below_alloc | apply pw_below_drewN | apply below_drew1) | exact HB.out)⟩
  · rw [if_neg c2] at H
    have c2b0 : decide (a0 ≤ 0) = false := decide_eq_false c2
    clear c2
    have H' := Aside0.mk H
    clear H
    go_enter Try.func36, Try.ntmps36
    go_wp2
    first | go_loopg [0, 3] k (fun kq v0 v3 w' => ∃ (x0_1 : Int) (x3_1 : ByteArray), v0 = .int .i64 x0_1 ∧ v3 = .string x3_1 ∧ Aside0 (laws_markText.l0 kq x0_1 x3_1 = some r) ∧ Aside0 (kq ≤ k) ∧ Aside0 (Below w.heap.size w w')) | (simp only [Act.put, List.setIfInBounds_toArray, List.set_cons_succ, List.set_cons_zero]; go_loopg [0, 3] k (fun kq v0 v3 w' => ∃ (x0_1 : Int) (x3_1 : ByteArray), v0 = .int .i64 x0_1 ∧ v3 = .string x3_1 ∧ Aside0 (laws_markText.l0 kq x0_1 x3_1 = some r) ∧ Aside0 (kq ≤ k) ∧ Aside0 (Below w.heap.size w w')))
    case atStart => exact ⟨(a0), ((⟨#[]⟩ : ByteArray)), (by first | rfl | (simp; done) | (simp [*]; done)), (by first | rfl | (simp; done) | (simp [*]; done)), H', ⟨Nat.le_refl _⟩, ⟨by repeat (first | (with_reducible first | exact HB.out | apply below_alloc | apply pw_below_drewN | apply below_drew1) | exact HB.out)⟩⟩
    case round =>
      clear H'
      try clear c2
      try clear c2b0
      try clear p2
      obtain ⟨x0_1, x3_1, rfl, rfl, HA, HK1, HB⟩ := hrel
      cases gk with
      | zero => exact absurd HA.out (by simp [laws_markText.l0])
      | succ k1 =>
        have H := HA.out
        clear HA
        simp only [laws_markText.l0] at H
        by_cases c3 : x0_1 > 0
        · rw [if_pos c3] at H
          have c3b0 : decide (0 < x0_1) = true := decide_eq_true c3
          clear c3
          obtain ⟨y36001, hy36001⟩ : ∃ y_ : List Int, y_ = (([(wrap64 (48 + (Int.tmod x0_1 10))) % 256] : List Int)) := ⟨_, rfl⟩
          replace H : (if (strOfNums y36001).size + x3_1.size ≤ 9223372036854775807 then (laws_markText.l0 k1 (wrap64 (Int.tdiv x0_1 10)) ((strOfNums y36001) ++ x3_1)) else (none)) = some r := by first | (rw [hy36001]; with_reducible exact H) | (have H2_ := (Option.bind_some _ _).symm.trans H; rw [hy36001]; with_reducible exact H2_) | (have H2_ := (Option.bind_some _ _).symm.trans H; with_reducible exact H2_) | with_reducible exact H | (rw [hy36001]; exact H) | exact H
          have Ny36001 := Aside0.mk hy36001
          clear hy36001
          by_cases c4 : (strOfNums y36001).size + x3_1.size ≤ 9223372036854775807
          · rw [if_pos c4] at H
            have c4z := c4
            try simp at c4z
            try replace c4z := eq_false (Nat.not_lt.2 c4z)
            have c4b0 := eq_true c4
            have c4b1 : decide ((strOfNums y36001).size + x3_1.size ≤ 9223372036854775807) = true := decide_eq_true c4
            try have c4b2 : (9223372036854775807 < (strOfNums y36001).size + x3_1.size) = False := eq_false (Nat.not_lt.2 c4)
            have H' := Aside0.mk H
            clear H
            go_wp2_with (first | ((with_reducible refine gate_dst (N := 12) rfl ?_); refine Kd.R_lit (Kd.int .u8) _ 5 ?hg (N := 12) ?hd (xs := ([(wrap64 (48 + (Int.tmod x0_1 10))) % 256] : List Int)) (inner := [.int .u8 ((wrap64 (48 + (Int.tmod x0_1 10))) % 256)]) (ok := fun _ => True) (okp := fun _ => True) ?hr ?hp (fun _ hk => hk) trivial (Below.refl _ _) (Nat.le_refl _) (by simp) ?_; (case hd => rfl); (case hg => rfl); (case hr => first | (go_simp; done) | (go_simp; rfl)); (case hp => exact (Reps.one (show Kd.M (Kd.int .u8) _ _ _ ((wrap64 (48 + (Int.tmod x0_1 10))) % 256) [.int .u8 ((wrap64 (48 + (Int.tmod x0_1 10))) % 256)] from rfl) (Reps.none _ _))); intro v36002 w5 ho6 hb hg_ hnew_; clear hg_ hnew_; (first | rw [← Ny36001.out] at ho6 | (simp only [Int.reduceToNat] at ho6; rw [← Ny36001.out] at ho6)); have n0_ := Aside0.mk (Kd.R_lower ho6 (below_size (by repeat (first | (with_reducible first | exact HB.out | apply below_alloc | apply pw_below_drewN | apply below_drew1) | exact HB.out)))); have n1_ := Aside0.mk (below_step (by repeat (first | (with_reducible first | exact HB.out | apply below_alloc | apply pw_below_drewN | apply below_drew1) | exact HB.out)) hb); clear HB; have HO36003 := n0_; have HB := n1_; clear n0_ n1_; clear hb ho6; have hcv7 := own_string (P := Try.prog) Try.underlying64 Try.underlying5 Try.underlying9 (Kd.own_of_R HO36003.out)))
            go_roundg k1
            case measure => have := HK1.out; omega
            case rel => exact ⟨(wrap64 (Int.tdiv x0_1 10)), ((strOfNums y36001) ++ x3_1), (by first | rfl | (simp; done) | (simp [*]; done)), (by first | rfl | (simp; done) | (simp [*]; done)), H', ⟨by have := HK1.out; omega⟩, ⟨by repeat (first | (with_reducible first | exact HB.out | apply below_alloc | apply pw_below_drewN | apply below_drew1) | exact HB.out)⟩⟩
          · rw [if_neg c4] at H
            exact absurd H (by simp)
        · rw [if_neg c3] at H
          have c3b0 : decide (0 < x0_1) = false := decide_eq_false c3
          clear c3
          by_cases c8 : 1 + x3_1.size ≤ 9223372036854775807
          · rw [if_pos c8] at H
            have c8z := c8
            try simp at c8z
            try replace c8z := eq_false (Nat.not_lt.2 c8z)
            have c8b0 := eq_true c8
            have c8b1 : decide (1 + x3_1.size ≤ 9223372036854775807) = true := decide_eq_true c8
            try have c8b2 : (9223372036854775807 < 1 + x3_1.size) = False := eq_false (Nat.not_lt.2 c8)
            obtain rfl := Option.some.inj H
            go_wp2
            go_ret
            exact ⟨by first | rfl | (simp [errW_none, errW_some] <;> rfl) | (simp [*, errW_none, errW_some] <;> rfl), by repeat (first | (with_reducible first | exact HB.out | apply below_alloc | apply pw_below_drewN | apply below_drew1) | exact HB.out)⟩
          · rw [if_neg c8] at H
            exact absurd H (by simp)


end Go.Proofs.Ytgllnohlocfeoaa.A


namespace Go.Proofs.Ytgllnohlocfeoaa.A
open Go.RowKit Go.Proofs.Ytgllnohlocfeoaa.Ext Go.Proofs.YtgllnohlocfeoaaW.PrintWords Go.Proofs.YtgllnohlocfeoaaW.PrintLast Go.Proofs.YtgllnohlocfeoaaW.PrintMore
attribute [local go_sem] max2_int min2_int max_two min_two max_three min_three max_four min_four   -- for this text's walks alone
set_option linter.unusedVariables false
set_option linter.unusedSimpArgs false

/-! ### laws_eqMove: function 35 -/
def laws_eqMove.f (a0_0 : Int) (a0_1 : ByteArray) (a1_0 : Int) (a1_1 : ByteArray) : Option (Bool) := if a0_0 = a1_0 then (if a0_1.toList = a1_1.toList then (some true) else (some false)) else (some false)
set_option maxHeartbeats 8000000 in
set_option maxRecDepth 100000 in
theorem laws_eqMove.calls (a0_0 : Int) (a0_1 : ByteArray) (a1_0 : Int) (a1_1 : ByteArray) (r : Bool) (w : World) (h : laws_eqMove.f a0_0 a0_1 a1_0 a1_1 = some r) :
    Calls Try.prog 35 #[.agg #[.int .u8 a0_0, .string a0_1], .agg #[.int .u8 a1_0, .string a1_1]] w fun e w' => e = .returned (.bool r) ∧ Below w.heap.size w w' := by
  have hu58 := Try.underlying58
  have HB := Aside0.mk (Below.refl w.heap.size w)
  have H : (if a0_0 = a1_0 then (if a0_1.toList = a1_1.toList then (some true) else (some false)) else (some false)) = some r := h
  clear h
  by_cases c3 : a0_0 = a1_0
  · rw [if_pos c3] at H
    have c3b0 : (a0_0 == a1_0) = true := beq_iff_eq.mpr c3
    have c3b1 : (a0_0 != a1_0) = false := bne_eq_false_iff_eq.mpr c3
    clear c3
    by_cases c4 : a0_1.toList = a1_1.toList
    · rw [if_pos c4] at H
      have c4b0 : (a0_1.toList == a1_1.toList) = true := beq_iff_eq.mpr c4
      have c4b1 : (a0_1.toList != a1_1.toList) = false := bne_eq_false_iff_eq.mpr c4
      clear c4
      obtain rfl := Option.some.inj H
      go_enter Try.func35, Try.ntmps35
      go_wp2_with (first | ((with_reducible refine gate_dst (N := 2) rfl ?_); refine box_event ?hg (N := 2) ?hd (cs := #[.int .u8 a0_0, .string a0_1]) (t := 58) ?hr ?_; (case hd => rfl); (case hg => rfl); (case hr => first | (go_simp; done) | (go_simp; rfl)); intro gb35001 hg w5 hbox hb; have n0_ := Aside0.mk (below_step (by repeat (first | (with_reducible first | exact HB.out | apply below_alloc | apply pw_below_drewN | apply below_drew1) | exact HB.out)) hb); have n1_ := Aside0.mk (hbox); have n2_ := Aside0.mk ((by rw [hg]; exact (below_size (by repeat (first | (with_reducible first | exact HB.out | apply below_alloc | apply pw_below_drewN | apply below_drew1) | exact HB.out))) : w.heap.size ≤ gb35001)); have n3_ := Aside0.mk ((by rw [hg]; exact (below_size (by repeat (first | (with_reducible first | exact HB.out | apply below_alloc | apply pw_below_drewN | apply below_drew1) | exact HB.out))) : w.heap.size ≤ gb35001)); clear HB; have HB := n0_; have BK35001 := n1_; have GW35001 := n2_; have GE35001 := n3_; clear n0_ n1_ n2_ n3_; clear hb hbox hg) | ((with_reducible refine gate_dst (N := 3) rfl ?_); refine box_event ?hg (N := 3) ?hd (cs := #[.int .u8 a1_0, .string a1_1]) (t := 58) ?hr ?_; (case hd => rfl); (case hg => rfl); (case hr => first | (go_simp; done) | (go_simp; rfl)); intro gb35002 hg w6 hbox hb; have n0_ := Aside0.mk (blk_below (g := gb35001) (o := .cells #[.int .u8 a0_0, .string a0_1] 58 (0, 0)) (by (with_reducible repeat (first | refine blk_drewN ?_ _ | refine blk_drew ?_ | refine blk_alloc ?_ _)); exact BK35001.out) hb); have n1_ := Aside0.mk (below_step (by repeat (first | (with_reducible first | exact HB.out | apply below_alloc | apply pw_below_drewN | apply below_drew1 | refine below_set ?_ GE35001.out) | exact HB.out)) hb); have n2_ := Aside0.mk (hbox); have n3_ := Aside0.mk ((by rw [hg]; exact (below_size (by repeat (first | (with_reducible first | exact HB.out | apply below_alloc | apply pw_below_drewN | apply below_drew1 | refine below_set ?_ GE35001.out) | exact HB.out))) : w.heap.size ≤ gb35002)); have n4_ := Aside0.mk ((by rw [hg]; exact (below_size (by repeat (first | (with_reducible first | exact HB.out | apply below_alloc | apply pw_below_drewN | apply below_drew1 | refine below_set ?_ GE35001.out) | exact HB.out))) : w.heap.size ≤ gb35002)); have n5_ := Aside0.mk ((by rw [hg]; exact Nat.ne_of_lt (blk_lt (g := gb35001) (o := .cells #[.int .u8 a0_0, .string a0_1] 58 (0, 0)) (by (with_reducible repeat (first | refine blk_drewN ?_ _ | refine blk_drew ?_ | refine blk_alloc ?_ _)); exact BK35001.out)) : gb35001 ≠ gb35002)); have n6_ := Aside0.mk ((by rw [hg]; exact Nat.ne_of_gt (blk_lt (g := gb35001) (o := .cells #[.int .u8 a0_0, .string a0_1] 58 (0, 0)) (by (with_reducible repeat (first | refine blk_drewN ?_ _ | refine blk_drew ?_ | refine blk_alloc ?_ _)); exact BK35001.out)) : gb35002 ≠ gb35001)); clear BK35001; clear HB; have BK35001 := n0_; have HB := n1_; have BK35002 := n2_; have GW35002 := n3_; have GE35002 := n4_; have NB35001_35002 := n5_; have NB35002_35001 := n6_; clear n0_ n1_ n2_ n3_ n4_ n5_ n6_; clear hb hbox hg; have hnb7 := NB35001_35002.out; have hnc7 := NB35002_35001.out; have hcz8_0 : w6.cell? ⟨gb35001, 0, none⟩ = some (.int .u8 a0_0) := (blk_cell BK35001.out 0).trans rfl; have hcz8_1 : w6.cell? ⟨gb35001, 1, none⟩ = some (.string a0_1) := (blk_cell BK35001.out 1).trans rfl; have hfz8_0 := blk_frozen BK35001.out 0; have hfz8_1 := blk_frozen BK35001.out 1; have hcz9_0 : w6.cell? ⟨gb35002, 0, none⟩ = some (.int .u8 a1_0) := (blk_cell BK35002.out 0).trans rfl; have hcz9_1 : w6.cell? ⟨gb35002, 1, none⟩ = some (.string a1_1) := (blk_cell BK35002.out 1).trans rfl; have hfz9_0 := blk_frozen BK35002.out 0; have hfz9_1 := blk_frozen BK35002.out 1))
      go_ret
      exact ⟨by first | rfl | (simp [errW_none, errW_some] <;> rfl) | (simp [*, errW_none, errW_some] <;> rfl), by repeat (first | (with_reducible first | exact HB.out | apply below_alloc | apply pw_below_drewN | apply below_drew1 | refine below_set ?_ GE35001.out | refine below_set ?_ GE35002.out) | exact HB.out)⟩
    · rw [if_neg c4] at H
      have c4b0 : (a0_1.toList == a1_1.toList) = false := beq_eq_false_iff_ne.mpr c4
      have c4b1 : (a0_1.toList != a1_1.toList) = true := bne_iff_ne.mpr c4
      obtain rfl := Option.some.inj H
      go_enter Try.func35, Try.ntmps35
      go_wp2_with (first | ((with_reducible refine gate_dst (N := 2) rfl ?_); refine box_event ?hg (N := 2) ?hd (cs := #[.int .u8 a0_0, .string a0_1]) (t := 58) ?hr ?_; (case hd => rfl); (case hg => rfl); (case hr => first | (go_simp; done) | (go_simp; rfl)); intro gb35001 hg w10 hbox hb; have n0_ := Aside0.mk (below_step (by repeat (first | (with_reducible first | exact HB.out | apply below_alloc | apply pw_below_drewN | apply below_drew1) | exact HB.out)) hb); have n1_ := Aside0.mk (hbox); have n2_ := Aside0.mk ((by rw [hg]; exact (below_size (by repeat (first | (with_reducible first | exact HB.out | apply below_alloc | apply pw_below_drewN | apply below_drew1) | exact HB.out))) : w.heap.size ≤ gb35001)); have n3_ := Aside0.mk ((by rw [hg]; exact (below_size (by repeat (first | (with_reducible first | exact HB.out | apply below_alloc | apply pw_below_drewN | apply below_drew1) | exact HB.out))) : w.heap.size ≤ gb35001)); clear HB; have HB := n0_; have BK35001 := n1_; have GW35001 := n2_; have GE35001 := n3_; clear n0_ n1_ n2_ n3_; clear hb hbox hg) | ((with_reducible refine gate_dst (N := 3) rfl ?_); refine box_event ?hg (N := 3) ?hd (cs := #[.int .u8 a1_0, .string a1_1]) (t := 58) ?hr ?_; (case hd => rfl); (case hg => rfl); (case hr => first | (go_simp; done) | (go_simp; rfl)); intro gb35002 hg w11 hbox hb; have n0_ := Aside0.mk (blk_below (g := gb35001) (o := .cells #[.int .u8 a0_0, .string a0_1] 58 (0, 0)) (by (with_reducible repeat (first | refine blk_drewN ?_ _ | refine blk_drew ?_ | refine blk_alloc ?_ _)); exact BK35001.out) hb); have n1_ := Aside0.mk (below_step (by repeat (first | (with_reducible first | exact HB.out | apply below_alloc | apply pw_below_drewN | apply below_drew1 | refine below_set ?_ GE35001.out) | exact HB.out)) hb); have n2_ := Aside0.mk (hbox); have n3_ := Aside0.mk ((by rw [hg]; exact (below_size (by repeat (first | (with_reducible first | exact HB.out | apply below_alloc | apply pw_below_drewN | apply below_drew1 | refine below_set ?_ GE35001.out) | exact HB.out))) : w.heap.size ≤ gb35002)); have n4_ := Aside0.mk ((by rw [hg]; exact (below_size (by repeat (first | (with_reducible first | exact HB.out | apply below_alloc | apply pw_below_drewN | apply below_drew1 | refine below_set ?_ GE35001.out) | exact HB.out))) : w.heap.size ≤ gb35002)); have n5_ := Aside0.mk ((by rw [hg]; exact Nat.ne_of_lt (blk_lt (g := gb35001) (o := .cells #[.int .u8 a0_0, .string a0_1] 58 (0, 0)) (by (with_reducible repeat (first | refine blk_drewN ?_ _ | refine blk_drew ?_ | refine blk_alloc ?_ _)); exact BK35001.out)) : gb35001 ≠ gb35002)); have n6_ := Aside0.mk ((by rw [hg]; exact Nat.ne_of_gt (blk_lt (g := gb35001) (o := .cells #[.int .u8 a0_0, .string a0_1] 58 (0, 0)) (by (with_reducible repeat (first | refine blk_drewN ?_ _ | refine blk_drew ?_ | refine blk_alloc ?_ _)); exact BK35001.out)) : gb35002 ≠ gb35001)); clear BK35001; clear HB; have BK35001 := n0_; have HB := n1_; have BK35002 := n2_; have GW35002 := n3_; have GE35002 := n4_; have NB35001_35002 := n5_; have NB35002_35001 := n6_; clear n0_ n1_ n2_ n3_ n4_ n5_ n6_; clear hb hbox hg; have hnb12 := NB35001_35002.out; have hnc12 := NB35002_35001.out; have hcz13_0 : w11.cell? ⟨gb35001, 0, none⟩ = some (.int .u8 a0_0) := (blk_cell BK35001.out 0).trans rfl; have hcz13_1 : w11.cell? ⟨gb35001, 1, none⟩ = some (.string a0_1) := (blk_cell BK35001.out 1).trans rfl; have hfz13_0 := blk_frozen BK35001.out 0; have hfz13_1 := blk_frozen BK35001.out 1; have hcz14_0 : w11.cell? ⟨gb35002, 0, none⟩ = some (.int .u8 a1_0) := (blk_cell BK35002.out 0).trans rfl; have hcz14_1 : w11.cell? ⟨gb35002, 1, none⟩ = some (.string a1_1) := (blk_cell BK35002.out 1).trans rfl; have hfz14_0 := blk_frozen BK35002.out 0; have hfz14_1 := blk_frozen BK35002.out 1))
      go_ret
      exact ⟨by first | rfl | (simp [errW_none, errW_some] <;> rfl) | (simp [*, errW_none, errW_some] <;> rfl), by repeat (first | (with_reducible first | exact HB.out | apply below_alloc | apply pw_below_drewN | apply below_drew1 | refine below_set ?_ GE35001.out | refine below_set ?_ GE35002.out) | exact HB.out)⟩
  · rw [if_neg c3] at H
    have c3b0 : (a0_0 == a1_0) = false := beq_eq_false_iff_ne.mpr c3
    have c3b1 : (a0_0 != a1_0) = true := bne_iff_ne.mpr c3
    obtain rfl := Option.some.inj H
    go_enter Try.func35, Try.ntmps35
    go_wp2_with (first | ((with_reducible refine gate_dst (N := 2) rfl ?_); refine box_event ?hg (N := 2) ?hd (cs := #[.int .u8 a0_0, .string a0_1]) (t := 58) ?hr ?_; (case hd => rfl); (case hg => rfl); (case hr => first | (go_simp; done) | (go_simp; rfl)); intro gb35001 hg w15 hbox hb; have n0_ := Aside0.mk (below_step (by repeat (first | (with_reducible first | exact HB.out | apply below_alloc | apply pw_below_drewN | apply below_drew1) | exact HB.out)) hb); have n1_ := Aside0.mk (hbox); have n2_ := Aside0.mk ((by rw [hg]; exact (below_size (by repeat (first | (with_reducible first | exact HB.out | apply below_alloc | apply pw_below_drewN | apply below_drew1) | exact HB.out))) : w.heap.size ≤ gb35001)); have n3_ := Aside0.mk ((by rw [hg]; exact (below_size (by repeat (first | (with_reducible first | exact HB.out | apply below_alloc | apply pw_below_drewN | apply below_drew1) | exact HB.out))) : w.heap.size ≤ gb35001)); clear HB; have HB := n0_; have BK35001 := n1_; have GW35001 := n2_; have GE35001 := n3_; clear n0_ n1_ n2_ n3_; clear hb hbox hg) | ((with_reducible refine gate_dst (N := 3) rfl ?_); refine box_event ?hg (N := 3) ?hd (cs := #[.int .u8 a1_0, .string a1_1]) (t := 58) ?hr ?_; (case hd => rfl); (case hg => rfl); (case hr => first | (go_simp; done) | (go_simp; rfl)); intro gb35002 hg w16 hbox hb; have n0_ := Aside0.mk (blk_below (g := gb35001) (o := .cells #[.int .u8 a0_0, .string a0_1] 58 (0, 0)) (by (with_reducible repeat (first | refine blk_drewN ?_ _ | refine blk_drew ?_ | refine blk_alloc ?_ _)); exact BK35001.out) hb); have n1_ := Aside0.mk (below_step (by repeat (first | (with_reducible first | exact HB.out | apply below_alloc | apply pw_below_drewN | apply below_drew1 | refine below_set ?_ GE35001.out) | exact HB.out)) hb); have n2_ := Aside0.mk (hbox); have n3_ := Aside0.mk ((by rw [hg]; exact (below_size (by repeat (first | (with_reducible first | exact HB.out | apply below_alloc | apply pw_below_drewN | apply below_drew1 | refine below_set ?_ GE35001.out) | exact HB.out))) : w.heap.size ≤ gb35002)); have n4_ := Aside0.mk ((by rw [hg]; exact (below_size (by repeat (first | (with_reducible first | exact HB.out | apply below_alloc | apply pw_below_drewN | apply below_drew1 | refine below_set ?_ GE35001.out) | exact HB.out))) : w.heap.size ≤ gb35002)); have n5_ := Aside0.mk ((by rw [hg]; exact Nat.ne_of_lt (blk_lt (g := gb35001) (o := .cells #[.int .u8 a0_0, .string a0_1] 58 (0, 0)) (by (with_reducible repeat (first | refine blk_drewN ?_ _ | refine blk_drew ?_ | refine blk_alloc ?_ _)); exact BK35001.out)) : gb35001 ≠ gb35002)); have n6_ := Aside0.mk ((by rw [hg]; exact Nat.ne_of_gt (blk_lt (g := gb35001) (o := .cells #[.int .u8 a0_0, .string a0_1] 58 (0, 0)) (by (with_reducible repeat (first | refine blk_drewN ?_ _ | refine blk_drew ?_ | refine blk_alloc ?_ _)); exact BK35001.out)) : gb35002 ≠ gb35001)); clear BK35001; clear HB; have BK35001 := n0_; have HB := n1_; have BK35002 := n2_; have GW35002 := n3_; have GE35002 := n4_; have NB35001_35002 := n5_; have NB35002_35001 := n6_; clear n0_ n1_ n2_ n3_ n4_ n5_ n6_; clear hb hbox hg; have hnb17 := NB35001_35002.out; have hnc17 := NB35002_35001.out; have hcz18_0 : w16.cell? ⟨gb35001, 0, none⟩ = some (.int .u8 a0_0) := (blk_cell BK35001.out 0).trans rfl; have hcz18_1 : w16.cell? ⟨gb35001, 1, none⟩ = some (.string a0_1) := (blk_cell BK35001.out 1).trans rfl; have hfz18_0 := blk_frozen BK35001.out 0; have hfz18_1 := blk_frozen BK35001.out 1; have hcz19_0 : w16.cell? ⟨gb35002, 0, none⟩ = some (.int .u8 a1_0) := (blk_cell BK35002.out 0).trans rfl; have hcz19_1 : w16.cell? ⟨gb35002, 1, none⟩ = some (.string a1_1) := (blk_cell BK35002.out 1).trans rfl; have hfz19_0 := blk_frozen BK35002.out 0; have hfz19_1 := blk_frozen BK35002.out 1))
    go_ret
    exact ⟨by first | rfl | (simp [errW_none, errW_some] <;> rfl) | (simp [*, errW_none, errW_some] <;> rfl), by repeat (first | (with_reducible first | exact HB.out | apply below_alloc | apply pw_below_drewN | apply below_drew1 | refine below_set ?_ GE35001.out | refine below_set ?_ GE35002.out) | exact HB.out)⟩

/-! ### laws_eqMoveS: function 14 -/
def laws_eqMoveS.l0 : Nat → List (S58) → List (S58) → Int → Option (Bool)
  | 0, _, _, _ => none
  | k + 1, x0, x1, x5 => if x5 < (x0.length : Int) then (if 0 ≤ x5 then (if x5 < (x1.length : Int) then ((laws_eqMove.f ((rd_T58 x0 x5).f0) ((rd_T58 x0 x5).f1) ((rd_T58 x1 x5).f0) ((rd_T58 x1 x5).f1)).bind fun t14003 => (if t14003 = true then (laws_eqMoveS.l0 k x0 x1 (wrap64 (x5 + 1))) else (some false))) else (none)) else (none)) else (some true)
def laws_eqMoveS.f (k : Nat) (l0 : List (S58)) (l1 : List (S58)) : Option (Bool) := if (l0.length : Int) = (l1.length : Int) then (laws_eqMoveS.l0 k l0 l1 0) else (some false)
theorem laws_eqMoveS.mono_l : ∀ k, (∀ y0 y1 y2, LeO (laws_eqMoveS.l0 k y0 y1 y2) (laws_eqMoveS.l0 (k + 1) y0 y1 y2))
  | 0 => fun _ _ _ r h => by simp [laws_eqMoveS.l0] at h
  | k + 1 => by
    have ih0 := laws_eqMoveS.mono_l k
    · intro y0 y1 y2
      unfold laws_eqMoveS.l0
      repeat' first
      | (with_reducible exact ih0 _ _ _)
      | (with_reducible exact LeO.refl _)
      | (with_reducible exact LeO.none _)
      | (with_reducible refine LeO.ite ?_ ?_)
      | (with_reducible refine LeO.bind ?_ (fun _ => ?_))
      | exact ih0 _ _ _
      | exact LeO.none _
      | refine LeO.ite ?_ ?_
      | refine LeO.bind ?_ (fun _ => ?_)
theorem laws_eqMoveS.mono : ∀ a0 a1 k, LeO (laws_eqMoveS.f k a0 a1) (laws_eqMoveS.f (k + 1) a0 a1) := by
  intro a0 a1 k
  have ih0 := laws_eqMoveS.mono_l k
  unfold laws_eqMoveS.f
  repeat' first
      | (with_reducible exact ih0 _ _ _)
      | (with_reducible exact LeO.refl _)
      | (with_reducible exact LeO.none _)
      | (with_reducible refine LeO.ite ?_ ?_)
      | (with_reducible refine LeO.bind ?_ (fun _ => ?_))
      | exact ih0 _ _ _
      | exact LeO.none _
      | refine LeO.ite ?_ ?_
      | refine LeO.bind ?_ (fun _ => ?_)
def laws_eqMoveS.T6 : Bool × List (List Nat × List Nat) := (true, [([], []), ([], []), ([0, 1], [0, 1]), ([2], [2]), ([], []), ([], []), ([4, 5], [4, 5]), ([6], [6]), ([3, 7], [3, 7]), ([8], [8])])
def laws_eqMoveS.B6 : List Nat := [0, 0, 3, 7, 0, 0, 48, 112, 255, 511]
theorem laws_eqMoveS.tab6 : rtab .any (opsOf Try.f14 6) = laws_eqMoveS.T6 := by kernel_rfl
theorem laws_eqMoveS.bits6 : waitsOk laws_eqMoveS.T6.2 laws_eqMoveS.B6 = true := by kernel_rfl
set_option maxHeartbeats 8000000 in
set_option maxRecDepth 100000 in
theorem laws_eqMoveS.calls (k : Nat) (A0 : Option Addr) (c0 : Nat) (l0 : List (S58)) (A1 : Option Addr) (c1 : Nat) (l1 : List (S58)) (r : Bool) (w : World) (hr0 : Kd.C k58 w A0 l0.length l0) (hc0 : l0.length ≤ c0) (hr1 : Kd.C k58 w A1 l1.length l1) (hc1 : l1.length ≤ c1) (h : laws_eqMoveS.f k l0 l1 = some r) :
    Calls Try.prog 14 #[.slice A0 l0.length c0, .slice A1 l1.length c1] w fun e w' => e = .returned (.bool r) ∧ Below w.heap.size w w' := by
  have hu58 := Try.underlying58
  have HR0 := Aside0.mk hr0
  have HC0 := Aside0.mk hc0
  clear hr0 hc0
  have HR1 := Aside0.mk hr1
  have HC1 := Aside0.mk hc1
  clear hr1 hc1
  have HB := Aside0.mk (Below.refl w.heap.size w)
  have H : (if (l0.length : Int) = (l1.length : Int) then (laws_eqMoveS.l0 k l0 l1 0) else (some false)) = some r := h
  clear h
  by_cases c3 : (l0.length : Int) = (l1.length : Int)
  · rw [if_pos c3] at H
    have c3b0 : ((l0.length : Int) == (l1.length : Int)) = true := beq_iff_eq.mpr c3
    have c3b1 : ((l0.length : Int) != (l1.length : Int)) = false := bne_eq_false_iff_eq.mpr c3
    have c3b2 : (l0.length == l1.length) = true := by first | simpa using c3 | (simp at c3 ⊢; omega)
    clear c3
    have H' := Aside0.mk H
    clear H
    go_enter Try.func14, Try.ntmps14
    go_wp2
    first | go_loopg [5] k (fun kq v5 w' => ∃ (x5_1 : Int), v5 = .int .i64 x5_1 ∧ Aside0 (laws_eqMoveS.l0 kq l0 l1 x5_1 = some r) ∧ Aside0 (kq ≤ k) ∧ Aside0 (Below w.heap.size w w')) | (simp only [Act.put, List.setIfInBounds_toArray, List.set_cons_succ, List.set_cons_zero]; go_loopg [5] k (fun kq v5 w' => ∃ (x5_1 : Int), v5 = .int .i64 x5_1 ∧ Aside0 (laws_eqMoveS.l0 kq l0 l1 x5_1 = some r) ∧ Aside0 (kq ≤ k) ∧ Aside0 (Below w.heap.size w w')))
    case atStart => exact ⟨(0), (by first | rfl | (simp; done) | (simp [*]; done)), H', ⟨Nat.le_refl _⟩, ⟨by repeat (first | (with_reducible first | exact HB.out | apply below_alloc | apply pw_below_drewN | apply below_drew1) | exact HB.out)⟩⟩
    case round =>
      clear H'
      try clear c1
      try clear p2
      try clear c3
      try clear c3b0
      try clear c3b1
      try clear c3b2
      obtain ⟨x5_1, rfl, HA, HK1, HB⟩ := hrel
      cases gk with
      | zero => exact absurd HA.out (by simp [laws_eqMoveS.l0])
      | succ k1 =>
        have H := HA.out
        clear HA
        simp only [laws_eqMoveS.l0] at H
        by_cases c4 : x5_1 < (l0.length : Int)
        · rw [if_pos c4] at H
          have c4b0 : decide (x5_1 < (l0.length : Int)) = true := decide_eq_true c4
          clear c4
          by_cases c5 : 0 ≤ x5_1
          · rw [if_pos c5] at H
            have c5b0 : decide (0 ≤ x5_1) = true := decide_eq_true c5
            clear c5
            by_cases c6 : x5_1 < (l1.length : Int)
            · rw [if_pos c6] at H
              have c6b0 : decide (x5_1 < (l1.length : Int)) = true := decide_eq_true c6
              clear c6
              replace H := Option.bind_eq_some_iff.mp H
              obtain ⟨t14003, A70, H⟩ := H
              replace H : (if t14003 = true then (laws_eqMoveS.l0 k1 l0 l1 (wrap64 (x5_1 + 1))) else (some false)) = some r := H
              have A7 := Aside0.mk A70
              clear A70
              by_cases c8 : t14003 = true
              · subst c8
                have H1 : (laws_eqMoveS.l0 k1 l0 l1 (wrap64 (x5_1 + 1))) = some r := by rw [if_pos rfl] at H; exact H
                clear H
                have H := H1
                clear H1
                have H' := Aside0.mk H
                clear H
                try go_wp2
                have n0_ := Aside0.mk (below_drew1 HB.out)
                clear HB
                have HB := n0_
                clear n0_
                have p14001 : 0 ≤ (x5_1 : Int) := of_decide_eq_true (by first | (with_reducible assumption) | assumption)
                have q14001 : x5_1 < (l0.length : Int) := of_decide_eq_true (by first | (with_reducible assumption) | assumption)
                obtain ⟨ad14001, e14001, hx14001_0, hx14001_1⟩ := at_T58 HR0.out x5_1 p14001 q14001
                have hw14001_1 := hx14001_1
                have hw14001_0 := hx14001_0
                cases e14001
                replace hx14001_0 := (HB.out.cell (World.block_lt_of_cell? w _ hx14001_0)).trans hx14001_0
                replace hx14001_1 := (HB.out.cell (World.block_lt_of_cell? w _ hx14001_1)).trans hx14001_1
                replace p14001 := eq_true p14001
                replace q14001 := eq_true q14001
                have p14002 : 0 ≤ (x5_1 : Int) := of_decide_eq_true (by first | (with_reducible assumption) | assumption)
                have q14002 : x5_1 < (l1.length : Int) := of_decide_eq_true (by first | (with_reducible assumption) | assumption)
                obtain ⟨ad14002, e14002, hx14002_0, hx14002_1⟩ := at_T58 HR1.out x5_1 p14002 q14002
                have hw14002_1 := hx14002_1
                have hw14002_0 := hx14002_0
                cases e14002
                replace hx14002_0 := (HB.out.cell (World.block_lt_of_cell? w _ hx14002_0)).trans hx14002_0
                replace hx14002_1 := (HB.out.cell (World.block_lt_of_cell? w _ hx14002_1)).trans hx14002_1
                replace p14002 := eq_true p14002
                replace q14002 := eq_true q14002
                refine start_ (n := 10) (S := fun w' => w'.cell? (ad14001.add ((x5_1).toNat * 2)) = some (.int .u8 ((rd_T58 l0 x5_1).f0)) ∧ w'.cell? ⟨(ad14001.add ((x5_1).toNat * 2)).block, (ad14001.add ((x5_1).toNat * 2)).off + 1, none⟩ = some (.string ((rd_T58 l0 x5_1).f1)) ∧ w'.cell? (ad14002.add ((x5_1).toNat * 2)) = some (.int .u8 ((rd_T58 l1 x5_1).f0)) ∧ w'.cell? ⟨(ad14002.add ((x5_1).toNat * 2)).block, (ad14002.add ((x5_1).toNat * 2)).off + 1, none⟩ = some (.string ((rd_T58 l1 x5_1).f1))) (ds := []) #[false, false, false, false, false, false, false, false, false, false] (by kernel_rfl) rfl rfl ⟨((HB.out.cell (World.block_lt_of_cell? w _ hw14001_0)).trans hw14001_0), ((HB.out.cell (World.block_lt_of_cell? w _ hw14001_1)).trans hw14001_1), ((HB.out.cell (World.block_lt_of_cell? w _ hw14002_0)).trans hw14002_0), ((HB.out.cell (World.block_lt_of_cell? w _ hw14002_1)).trans hw14002_1)⟩ (fun hHeld => ?_); refine with_tabW laws_eqMoveS.tab6 laws_eqMoveS.bits6 (fun HT_ HW_ => ?_)
                generalize wr.drew = w9 at HB hx14001_0 hx14001_1 hx14002_0 hx14002_1 hHeld ⊢
                refine pure_ (i := 0) (N := some 17) (v := ?_) (a' := ?_) #[true, false, false, false, false, false, false, false, false, false] rfl rfl (any_of HT_.out (by kernel_rfl)) (fun _ _ _ h => h) (Or.inl ⟨by rfl, ?_⟩) ?_ ?_
                rotate_left
                · intro w'
                  go_simp
                  first | with_reducible rfl | (rw [if_neg (by omega)]; done)
                rotate_left
                · simp only [Act.put, List.setIfInBounds_toArray, List.set_cons_zero, List.set_cons_succ, i64_w, i32_w]
                  rfl
                refine pure_ (i := 1) (N := some 18) (v := ?_) (a' := ?_) #[true, true, false, false, false, false, false, false, false, false] rfl rfl (any_of HT_.out (by kernel_rfl)) (fun _ _ _ h => h) (Or.inl ⟨by rfl, ?_⟩) ?_ ?_
                rotate_left
                · intro w'
                  go_simp
                  first | with_reducible rfl | (rw [if_neg (by omega)]; done)
                rotate_left
                · simp only [Act.put, List.setIfInBounds_toArray, List.set_cons_zero, List.set_cons_succ, i64_w, i32_w]
                  rfl
                refine pure_ (i := 2) (N := some 19) (v := ?_) (a' := ?_) #[true, true, true, false, false, false, false, false, false, false] rfl rfl (any_of HT_.out (by kernel_rfl)) (fun _ _ _ h => h) (Or.inl ⟨by rfl, ?_⟩) ?_ ?_
                rotate_left
                · intro w'
                  go_simp
                  first | with_reducible rfl | (rw [if_neg (by omega)]; done)
                rotate_left
                · simp only [Act.put, List.setIfInBounds_toArray, List.set_cons_zero, List.set_cons_succ, i64_w, i32_w]
                  rfl
                refine pure_ (i := 4) (N := some 21) (v := ?_) (a' := ?_) #[true, true, true, false, true, false, false, false, false, false] rfl rfl (any_of HT_.out (by kernel_rfl)) (fun _ _ _ h => h) (Or.inl ⟨by rfl, ?_⟩) ?_ ?_
                rotate_left
                · intro w'
                  go_simp
                  first | with_reducible rfl | (rw [if_neg (by omega)]; done)
                rotate_left
                · simp only [Act.put, List.setIfInBounds_toArray, List.set_cons_zero, List.set_cons_succ, i64_w, i32_w]
                  rfl
                refine pure_ (i := 5) (N := some 22) (v := ?_) (a' := ?_) #[true, true, true, false, true, true, false, false, false, false] rfl rfl (any_of HT_.out (by kernel_rfl)) (fun _ _ _ h => h) (Or.inl ⟨by rfl, ?_⟩) ?_ ?_
                rotate_left
                · intro w'
                  go_simp
                  first | with_reducible rfl | (rw [if_neg (by omega)]; done)
                rotate_left
                · simp only [Act.put, List.setIfInBounds_toArray, List.set_cons_zero, List.set_cons_succ, i64_w, i32_w]
                  rfl
                refine pure_ (i := 6) (N := some 23) (v := ?_) (a' := ?_) #[true, true, true, false, true, true, true, false, false, false] rfl rfl (any_of HT_.out (by kernel_rfl)) (fun _ _ _ h => h) (Or.inl ⟨by rfl, ?_⟩) ?_ ?_
                rotate_left
                · intro w'
                  go_simp
                  first | with_reducible rfl | (rw [if_neg (by omega)]; done)
                rotate_left
                · simp only [Act.put, List.setIfInBounds_toArray, List.set_cons_zero, List.set_cons_succ, i64_w, i32_w]
                  rfl
                refine take_ (i := 3) (N := some 20) (v := ?_) (a' := ?_) #[true, true, true, true, true, true, true, false, false, false] rfl rfl (take_ofW HT_.out HW_.out (by kernel_rfl)) (fun _ _ _ h => h) (Or.inl ⟨by rfl, ?_⟩) hHeld ?_ ?_
                rotate_left
                · rintro w' ⟨s0, s1, s2, s3⟩
                  go_simp
                  first | with_reducible rfl | (rw [if_neg (by omega)]; done)
                rotate_left
                · simp only [Act.put, List.setIfInBounds_toArray, List.set_cons_zero, List.set_cons_succ, i64_w, i32_w]
                  rfl
                refine take_ (i := 7) (N := some 24) (v := ?_) (a' := ?_) #[true, true, true, true, true, true, true, true, false, false] rfl rfl (take_ofW HT_.out HW_.out (by kernel_rfl)) (fun _ _ _ h => h) (Or.inl ⟨by rfl, ?_⟩) hHeld ?_ ?_
                rotate_left
                · rintro w' ⟨s0, s1, s2, s3⟩
                  go_simp
                  first | with_reducible rfl | (rw [if_neg (by omega)]; done)
                rotate_left
                · simp only [Act.put, List.setIfInBounds_toArray, List.set_cons_zero, List.set_cons_succ, i64_w, i32_w]
                  rfl
                refine one_ (i := 8) (N := some 25) #[true, true, true, true, true, true, true, true, true, false] rfl rfl (one_of HT_.out (by kernel_rfl)) (by decide) (fun K hK => ?_)
                refine goes_ Try.func35 (by kernel_rfl) rfl #[.agg #[.int .u8 ((rd_T58 l0 x5_1).f0), .string ((rd_T58 l0 x5_1).f1)], .agg #[.int .u8 ((rd_T58 l1 x5_1).f0), .string ((rd_T58 l1 x5_1).f1)]] (by rfl) rfl rfl (by (try simp only [List.map_toArray, List.map_cons, List.map_nil]); first | done | rfl | (simp only [List.length_drop, List.length_take]; rfl)) ?_
                with_reducible refine (laws_eqMove.calls ((rd_T58 l0 x5_1).f0) ((rd_T58 l0 x5_1).f1) ((rd_T58 l1 x5_1).f0) ((rd_T58 l1 x5_1).f1) true _ A7.out).mono ?_
                rintro e w10 ⟨rfl, hb⟩
                refine ⟨_, rfl, ?_⟩
                have n0_ := Aside0.mk (below_step (by repeat (first | (with_reducible first | exact HB.out | apply below_alloc | apply pw_below_drewN | apply below_drew1) | exact HB.out)) hb)
                clear HB
                have HB := n0_
                clear n0_
                (try clear hb)
                (try clear hb2)
                (try clear hk)
                (try clear hi)
                refine hK.out _ _ ⟨((HB.out.cell (World.block_lt_of_cell? w _ hw14001_0)).trans hw14001_0), ((HB.out.cell (World.block_lt_of_cell? w _ hw14001_1)).trans hw14001_1), ((HB.out.cell (World.block_lt_of_cell? w _ hw14002_0)).trans hw14002_0), ((HB.out.cell (World.block_lt_of_cell? w _ hw14002_1)).trans hw14002_1)⟩ (fun hHeld => ?_)
                clear hK K
                refine norm_ (a' := ?_) ?_ ?_
                rotate_left
                · show Act.put _ (some 25) _ = _
                  simp only [Act.put, List.setIfInBounds_toArray, List.set_cons_zero, List.set_cons_succ, i64_w, i32_w]
                  rfl
                refine pure_ (i := 9) (N := some 26) (v := ?_) (a' := ?_) #[true, true, true, true, true, true, true, true, true, true] rfl rfl (any_of HT_.out (by kernel_rfl)) (fun _ _ _ h => h) (Or.inl ⟨by rfl, ?_⟩) ?_ ?_
                rotate_left
                · intro w'
                  go_simp
                  first | with_reducible rfl | (rw [if_neg (by omega)]; done)
                rotate_left
                · simp only [Act.put, List.setIfInBounds_toArray, List.set_cons_zero, List.set_cons_succ, i64_w, i32_w]
                  rfl
                refine done_ (done_of HT_.out (by kernel_rfl)) ?_
                try go_wp2
                go_roundg k1
                case measure => have := HK1.out; omega
                case rel => exact ⟨(wrap64 (x5_1 + 1)), (by first | rfl | (simp; done) | (simp [*]; done)), H', ⟨by have := HK1.out; omega⟩, ⟨by repeat (first | (with_reducible first | exact HB.out | apply below_alloc | apply pw_below_drewN | apply below_drew1) | exact HB.out)⟩⟩
              · replace c8 := Bool.eq_false_iff.mpr c8
                subst c8
                have H1 : (some false) = some r := by rw [if_neg (show ¬ (false = true) by decide)] at H; exact H
                clear H
                have H := H1
                clear H1
                obtain rfl := Option.some.inj H
                try go_wp2
                have n0_ := Aside0.mk (below_drew1 HB.out)
                clear HB
                have HB := n0_
                clear n0_
                have p14001 : 0 ≤ (x5_1 : Int) := of_decide_eq_true (by first | (with_reducible assumption) | assumption)
                have q14001 : x5_1 < (l0.length : Int) := of_decide_eq_true (by first | (with_reducible assumption) | assumption)
                obtain ⟨ad14001, e14001, hx14001_0, hx14001_1⟩ := at_T58 HR0.out x5_1 p14001 q14001
                have hw14001_1 := hx14001_1
                have hw14001_0 := hx14001_0
                cases e14001
                replace hx14001_0 := (HB.out.cell (World.block_lt_of_cell? w _ hx14001_0)).trans hx14001_0
                replace hx14001_1 := (HB.out.cell (World.block_lt_of_cell? w _ hx14001_1)).trans hx14001_1
                replace p14001 := eq_true p14001
                replace q14001 := eq_true q14001
                have p14002 : 0 ≤ (x5_1 : Int) := of_decide_eq_true (by first | (with_reducible assumption) | assumption)
                have q14002 : x5_1 < (l1.length : Int) := of_decide_eq_true (by first | (with_reducible assumption) | assumption)
                obtain ⟨ad14002, e14002, hx14002_0, hx14002_1⟩ := at_T58 HR1.out x5_1 p14002 q14002
                have hw14002_1 := hx14002_1
                have hw14002_0 := hx14002_0
                cases e14002
                replace hx14002_0 := (HB.out.cell (World.block_lt_of_cell? w _ hx14002_0)).trans hx14002_0
                replace hx14002_1 := (HB.out.cell (World.block_lt_of_cell? w _ hx14002_1)).trans hx14002_1
                replace p14002 := eq_true p14002
                replace q14002 := eq_true q14002
                refine start_ (n := 10) (S := fun w' => w'.cell? (ad14001.add ((x5_1).toNat * 2)) = some (.int .u8 ((rd_T58 l0 x5_1).f0)) ∧ w'.cell? ⟨(ad14001.add ((x5_1).toNat * 2)).block, (ad14001.add ((x5_1).toNat * 2)).off + 1, none⟩ = some (.string ((rd_T58 l0 x5_1).f1)) ∧ w'.cell? (ad14002.add ((x5_1).toNat * 2)) = some (.int .u8 ((rd_T58 l1 x5_1).f0)) ∧ w'.cell? ⟨(ad14002.add ((x5_1).toNat * 2)).block, (ad14002.add ((x5_1).toNat * 2)).off + 1, none⟩ = some (.string ((rd_T58 l1 x5_1).f1))) (ds := []) #[false, false, false, false, false, false, false, false, false, false] (by kernel_rfl) rfl rfl ⟨((HB.out.cell (World.block_lt_of_cell? w _ hw14001_0)).trans hw14001_0), ((HB.out.cell (World.block_lt_of_cell? w _ hw14001_1)).trans hw14001_1), ((HB.out.cell (World.block_lt_of_cell? w _ hw14002_0)).trans hw14002_0), ((HB.out.cell (World.block_lt_of_cell? w _ hw14002_1)).trans hw14002_1)⟩ (fun hHeld => ?_); refine with_tabW laws_eqMoveS.tab6 laws_eqMoveS.bits6 (fun HT_ HW_ => ?_)
                generalize wr.drew = w11 at HB hx14001_0 hx14001_1 hx14002_0 hx14002_1 hHeld ⊢
                refine pure_ (i := 0) (N := some 17) (v := ?_) (a' := ?_) #[true, false, false, false, false, false, false, false, false, false] rfl rfl (any_of HT_.out (by kernel_rfl)) (fun _ _ _ h => h) (Or.inl ⟨by rfl, ?_⟩) ?_ ?_
                rotate_left
                · intro w'
                  go_simp
                  first | with_reducible rfl | (rw [if_neg (by omega)]; done)
                rotate_left
                · simp only [Act.put, List.setIfInBounds_toArray, List.set_cons_zero, List.set_cons_succ, i64_w, i32_w]
                  rfl
                refine pure_ (i := 1) (N := some 18) (v := ?_) (a' := ?_) #[true, true, false, false, false, false, false, false, false, false] rfl rfl (any_of HT_.out (by kernel_rfl)) (fun _ _ _ h => h) (Or.inl ⟨by rfl, ?_⟩) ?_ ?_
                rotate_left
                · intro w'
                  go_simp
                  first | with_reducible rfl | (rw [if_neg (by omega)]; done)
                rotate_left
                · simp only [Act.put, List.setIfInBounds_toArray, List.set_cons_zero, List.set_cons_succ, i64_w, i32_w]
                  rfl
                refine pure_ (i := 2) (N := some 19) (v := ?_) (a' := ?_) #[true, true, true, false, false, false, false, false, false, false] rfl rfl (any_of HT_.out (by kernel_rfl)) (fun _ _ _ h => h) (Or.inl ⟨by rfl, ?_⟩) ?_ ?_
                rotate_left
                · intro w'
                  go_simp
                  first | with_reducible rfl | (rw [if_neg (by omega)]; done)
                rotate_left
                · simp only [Act.put, List.setIfInBounds_toArray, List.set_cons_zero, List.set_cons_succ, i64_w, i32_w]
                  rfl
                refine pure_ (i := 4) (N := some 21) (v := ?_) (a' := ?_) #[true, true, true, false, true, false, false, false, false, false] rfl rfl (any_of HT_.out (by kernel_rfl)) (fun _ _ _ h => h) (Or.inl ⟨by rfl, ?_⟩) ?_ ?_
                rotate_left
                · intro w'
                  go_simp
                  first | with_reducible rfl | (rw [if_neg (by omega)]; done)
                rotate_left
                · simp only [Act.put, List.setIfInBounds_toArray, List.set_cons_zero, List.set_cons_succ, i64_w, i32_w]
                  rfl
                refine pure_ (i := 5) (N := some 22) (v := ?_) (a' := ?_) #[true, true, true, false, true, true, false, false, false, false] rfl rfl (any_of HT_.out (by kernel_rfl)) (fun _ _ _ h => h) (Or.inl ⟨by rfl, ?_⟩) ?_ ?_
                rotate_left
                · intro w'
                  go_simp
                  first | with_reducible rfl | (rw [if_neg (by omega)]; done)
                rotate_left
                · simp only [Act.put, List.setIfInBounds_toArray, List.set_cons_zero, List.set_cons_succ, i64_w, i32_w]
                  rfl
                refine pure_ (i := 6) (N := some 23) (v := ?_) (a' := ?_) #[true, true, true, false, true, true, true, false, false, false] rfl rfl (any_of HT_.out (by kernel_rfl)) (fun _ _ _ h => h) (Or.inl ⟨by rfl, ?_⟩) ?_ ?_
                rotate_left
                · intro w'
                  go_simp
                  first | with_reducible rfl | (rw [if_neg (by omega)]; done)
                rotate_left
                · simp only [Act.put, List.setIfInBounds_toArray, List.set_cons_zero, List.set_cons_succ, i64_w, i32_w]
                  rfl
                refine take_ (i := 3) (N := some 20) (v := ?_) (a' := ?_) #[true, true, true, true, true, true, true, false, false, false] rfl rfl (take_ofW HT_.out HW_.out (by kernel_rfl)) (fun _ _ _ h => h) (Or.inl ⟨by rfl, ?_⟩) hHeld ?_ ?_
                rotate_left
                · rintro w' ⟨s0, s1, s2, s3⟩
                  go_simp
                  first | with_reducible rfl | (rw [if_neg (by omega)]; done)
                rotate_left
                · simp only [Act.put, List.setIfInBounds_toArray, List.set_cons_zero, List.set_cons_succ, i64_w, i32_w]
                  rfl
                refine take_ (i := 7) (N := some 24) (v := ?_) (a' := ?_) #[true, true, true, true, true, true, true, true, false, false] rfl rfl (take_ofW HT_.out HW_.out (by kernel_rfl)) (fun _ _ _ h => h) (Or.inl ⟨by rfl, ?_⟩) hHeld ?_ ?_
                rotate_left
                · rintro w' ⟨s0, s1, s2, s3⟩
                  go_simp
                  first | with_reducible rfl | (rw [if_neg (by omega)]; done)
                rotate_left
                · simp only [Act.put, List.setIfInBounds_toArray, List.set_cons_zero, List.set_cons_succ, i64_w, i32_w]
                  rfl
                refine one_ (i := 8) (N := some 25) #[true, true, true, true, true, true, true, true, true, false] rfl rfl (one_of HT_.out (by kernel_rfl)) (by decide) (fun K hK => ?_)
                refine goes_ Try.func35 (by kernel_rfl) rfl #[.agg #[.int .u8 ((rd_T58 l0 x5_1).f0), .string ((rd_T58 l0 x5_1).f1)], .agg #[.int .u8 ((rd_T58 l1 x5_1).f0), .string ((rd_T58 l1 x5_1).f1)]] (by rfl) rfl rfl (by (try simp only [List.map_toArray, List.map_cons, List.map_nil]); first | done | rfl | (simp only [List.length_drop, List.length_take]; rfl)) ?_
                with_reducible refine (laws_eqMove.calls ((rd_T58 l0 x5_1).f0) ((rd_T58 l0 x5_1).f1) ((rd_T58 l1 x5_1).f0) ((rd_T58 l1 x5_1).f1) false _ A7.out).mono ?_
                rintro e w12 ⟨rfl, hb⟩
                refine ⟨_, rfl, ?_⟩
                have n0_ := Aside0.mk (below_step (by repeat (first | (with_reducible first | exact HB.out | apply below_alloc | apply pw_below_drewN | apply below_drew1) | exact HB.out)) hb)
                clear HB
                have HB := n0_
                clear n0_
                (try clear hb)
                (try clear hb2)
                (try clear hk)
                (try clear hi)
                refine hK.out _ _ ⟨((HB.out.cell (World.block_lt_of_cell? w _ hw14001_0)).trans hw14001_0), ((HB.out.cell (World.block_lt_of_cell? w _ hw14001_1)).trans hw14001_1), ((HB.out.cell (World.block_lt_of_cell? w _ hw14002_0)).trans hw14002_0), ((HB.out.cell (World.block_lt_of_cell? w _ hw14002_1)).trans hw14002_1)⟩ (fun hHeld => ?_)
                clear hK K
                refine norm_ (a' := ?_) ?_ ?_
                rotate_left
                · show Act.put _ (some 25) _ = _
                  simp only [Act.put, List.setIfInBounds_toArray, List.set_cons_zero, List.set_cons_succ, i64_w, i32_w]
                  rfl
                refine pure_ (i := 9) (N := some 26) (v := ?_) (a' := ?_) #[true, true, true, true, true, true, true, true, true, true] rfl rfl (any_of HT_.out (by kernel_rfl)) (fun _ _ _ h => h) (Or.inl ⟨by rfl, ?_⟩) ?_ ?_
                rotate_left
                · intro w'
                  go_simp
                  first | with_reducible rfl | (rw [if_neg (by omega)]; done)
                rotate_left
                · simp only [Act.put, List.setIfInBounds_toArray, List.set_cons_zero, List.set_cons_succ, i64_w, i32_w]
                  rfl
                refine done_ (done_of HT_.out (by kernel_rfl)) ?_
                try go_wp2
                go_ret
                exact ⟨by first | rfl | (simp [errW_none, errW_some] <;> rfl) | (simp [*, errW_none, errW_some] <;> rfl), by repeat (first | (with_reducible first | exact HB.out | apply below_alloc | apply pw_below_drewN | apply below_drew1) | exact HB.out)⟩
            · rw [if_neg c6] at H
              exact absurd H (by simp)
          · rw [if_neg c5] at H
            exact absurd H (by simp)
        · rw [if_neg c4] at H
          have c4b0 : decide (x5_1 < (l0.length : Int)) = false := decide_eq_false c4
          clear c4
          obtain rfl := Option.some.inj H
          go_wp2
          go_ret
          exact ⟨by first | rfl | (simp [errW_none, errW_some] <;> rfl) | (simp [*, errW_none, errW_some] <;> rfl), by repeat (first | (with_reducible first | exact HB.out | apply below_alloc | apply pw_below_drewN | apply below_drew1) | exact HB.out)⟩
  · rw [if_neg c3] at H
    have c3b0 : ((l0.length : Int) == (l1.length : Int)) = false := beq_eq_false_iff_ne.mpr c3
    have c3b1 : ((l0.length : Int) != (l1.length : Int)) = true := bne_iff_ne.mpr c3
    have c3b2 : (l0.length == l1.length) = false := by first | simpa using c3 | (simp at c3 ⊢; omega)
    obtain rfl := Option.some.inj H
    go_enter Try.func14, Try.ntmps14
    go_wp2
    go_ret
    exact ⟨by first | rfl | (simp [errW_none, errW_some] <;> rfl) | (simp [*, errW_none, errW_some] <;> rfl), by repeat (first | (with_reducible first | exact HB.out | apply below_alloc | apply pw_below_drewN | apply below_drew1) | exact HB.out)⟩

/-! ### laws_markMoveS: function 15 -/
def laws_markMoveS.l0 : Nat → List (S58) → Int → Int → Option (Int × (List (S58)))
  | 0, _, _, _ => none
  | k + 1, x0, x1, x5 => if x5 < (x0.length : Int) then (if 0 ≤ x5 then ((some (x0.set (x5 : Int).toNat (⟨(x1) % 256, (rd_T58 x0 x5).f1⟩ : S58) : List (S58))).bind fun y15001 => ((laws_markText.f k (wrap64 (x1 + 1))).bind fun t15002 => (laws_markMoveS.l0 k (y15001.set (x5 : Int).toNat (⟨(rd_T58 y15001 x5).f0, t15002⟩ : S58)) (wrap64 ((wrap64 (x1 + 1)) + 1)) (wrap64 (x5 + 1))))) else (none)) else (some (x1, x0))
def laws_markMoveS.f (k : Nat) (l0 : List (S58)) (a1 : Int) : Option (Int × (List (S58))) := laws_markMoveS.l0 k l0 a1 0
theorem laws_markMoveS.mono_l : ∀ k, (∀ y0 y1 y2, LeO (laws_markMoveS.l0 k y0 y1 y2) (laws_markMoveS.l0 (k + 1) y0 y1 y2))
  | 0 => fun _ _ _ r h => by simp [laws_markMoveS.l0] at h
  | k + 1 => by
    have ih0 := laws_markMoveS.mono_l k
    · intro y0 y1 y2
      unfold laws_markMoveS.l0
      repeat' first
      | (with_reducible exact ih0 _ _ _)
      | (with_reducible exact laws_markText.mono _ _)
      | (with_reducible exact LeO.refl _)
      | (with_reducible exact LeO.none _)
      | (with_reducible refine LeO.ite ?_ ?_)
      | (with_reducible refine LeO.bind ?_ (fun _ => ?_))
      | exact ih0 _ _ _
      | exact laws_markText.mono _ _
      | exact LeO.none _
      | refine LeO.ite ?_ ?_
      | refine LeO.bind ?_ (fun _ => ?_)
theorem laws_markMoveS.mono : ∀ a0 a1 k, LeO (laws_markMoveS.f k a0 a1) (laws_markMoveS.f (k + 1) a0 a1) := by
  intro a0 a1 k
  have ih0 := laws_markMoveS.mono_l k
  unfold laws_markMoveS.f
  repeat' first
      | (with_reducible exact ih0 _ _ _)
      | (with_reducible exact laws_markText.mono _ _)
      | (with_reducible exact LeO.refl _)
      | (with_reducible exact LeO.none _)
      | (with_reducible refine LeO.ite ?_ ?_)
      | (with_reducible refine LeO.bind ?_ (fun _ => ?_))
      | exact ih0 _ _ _
      | exact laws_markText.mono _ _
      | exact LeO.none _
      | refine LeO.ite ?_ ?_
      | refine LeO.bind ?_ (fun _ => ?_)
set_option maxHeartbeats 8000000 in
set_option maxRecDepth 100000 in
theorem laws_markMoveS.calls (k : Nat) (P0_ : Nat → Prop) (u9000_ : Value) (l0 : List (S58)) (a1 : Int) (r1 : Int) (r2 : List (S58)) (w0 w : World) (hB : Below w0.heap.size w0 w) (ho0 : Kd.R k58 58 w w0.heap.size P0_ u9000_ l0) (h : laws_markMoveS.f k l0 a1 = some (r1, r2)) :
    Calls Try.prog 15 #[u9000_, .int .i64 a1] w fun e w' => e = .returned (.int .i64 r1) ∧ Kd.R k58 58 w' w0.heap.size (fun k_ => (P0_ k_ ∨ w.heap.size ≤ k_)) u9000_ r2 ∧ Below w0.heap.size w0 w' ∧ Kept w w' (fun k_ => P0_ k_) := by
  have HO0 := Aside0.mk (show Kd.R k58 58 w w0.heap.size (fun k_ => (P0_ k_ ∨ w.heap.size ≤ k_)) u9000_ l0 from Kd.R_mono ho0 (fun k_ hk => (.inl hk)))
  have HK := Aside0.mk (Kept.refl w (fun k_ => P0_ k_))
  have HW0 := Aside0.mk hB.size
  have HB := Aside0.mk hB
  clear hB
  have H : (laws_markMoveS.l0 k l0 a1 0) = some (r1, r2) := h
  clear h
  have H' := Aside0.mk H
  clear H
  go_enter Try.func15, Try.ntmps15
  go_wp2
  first | go_loopg [1, 5] k (fun kq v1 v5 w' => ∃ (x0_1 : List (S58)) (x1_1 : Int) (x5_1 : Int), v1 = .int .i64 x1_1 ∧ v5 = .int .i64 x5_1 ∧ Aside0 (laws_markMoveS.l0 kq x0_1 x1_1 x5_1 = some (r1, r2)) ∧ Aside0 (kq ≤ k) ∧ Aside0 (Kd.R k58 58 w' w0.heap.size (fun k_ => (P0_ k_ ∨ w.heap.size ≤ k_)) u9000_ x0_1) ∧ Aside0 (Kept w w' (fun k_ => P0_ k_)) ∧ Aside0 (Below w0.heap.size w0 w')) | (simp only [Act.put, List.setIfInBounds_toArray, List.set_cons_succ, List.set_cons_zero]; go_loopg [1, 5] k (fun kq v1 v5 w' => ∃ (x0_1 : List (S58)) (x1_1 : Int) (x5_1 : Int), v1 = .int .i64 x1_1 ∧ v5 = .int .i64 x5_1 ∧ Aside0 (laws_markMoveS.l0 kq x0_1 x1_1 x5_1 = some (r1, r2)) ∧ Aside0 (kq ≤ k) ∧ Aside0 (Kd.R k58 58 w' w0.heap.size (fun k_ => (P0_ k_ ∨ w.heap.size ≤ k_)) u9000_ x0_1) ∧ Aside0 (Kept w w' (fun k_ => P0_ k_)) ∧ Aside0 (Below w0.heap.size w0 w')))
  case atStart => exact ⟨(l0), (a1), (0), (by first | rfl | (simp; done) | (simp [*]; done)), (by first | rfl | (simp; done) | (simp [*]; done)), H', ⟨Nat.le_refl _⟩, ⟨by (with_reducible repeat (first | apply Kd.R_alloc | apply Kd.R_drewN | apply Kd.R_drew)); exact HO0.out⟩, ⟨by repeat (first | (with_reducible first | exact HK.out | apply Kept.alloc | apply Kept.drewN | apply Kept.drew) | exact HK.out)⟩, ⟨by repeat (first | (with_reducible first | exact HB.out | apply below_alloc | apply pw_below_drewN | apply below_drew1) | exact HB.out)⟩⟩
  case round =>
    clear H'
    try clear c1
    try clear p2
    obtain ⟨x0_1, x1_1, x5_1, rfl, rfl, HA, HK1, HO_0, HK, HB⟩ := hrel
    cases gk with
    | zero => exact absurd HA.out (by simp [laws_markMoveS.l0])
    | succ k1 =>
      have H := HA.out
      clear HA
      simp only [laws_markMoveS.l0] at H
      by_cases c3 : x5_1 < (x0_1.length : Int)
      · rw [if_pos c3] at H
        have c3b0 : decide (x5_1 < (x0_1.length : Int)) = true := decide_eq_true c3
        clear c3
        by_cases c4 : 0 ≤ x5_1
        · rw [if_pos c4] at H
          have c4b0 : decide (0 ≤ x5_1) = true := decide_eq_true c4
          clear c4
          obtain ⟨y15001, hy15001⟩ : ∃ y_ : List (S58), y_ = (x0_1.set (x5_1 : Int).toNat (⟨(x1_1) % 256, (rd_T58 x0_1 x5_1).f1⟩ : S58)) := ⟨_, rfl⟩
          replace H : ((laws_markText.f k1 (wrap64 (x1_1 + 1))).bind fun t15002 => (laws_markMoveS.l0 k1 (y15001.set (x5_1 : Int).toNat (⟨(rd_T58 y15001 x5_1).f0, t15002⟩ : S58)) (wrap64 ((wrap64 (x1_1 + 1)) + 1)) (wrap64 (x5_1 + 1)))) = some (r1, r2) := by first | (rw [hy15001]; with_reducible exact H) | (have H2_ := (Option.bind_some _ _).symm.trans H; rw [hy15001]; with_reducible exact H2_) | (have H2_ := (Option.bind_some _ _).symm.trans H; with_reducible exact H2_) | with_reducible exact H | (rw [hy15001]; exact H) | exact H
          have Ny15001 := Aside0.mk hy15001
          clear hy15001
          replace H := Option.bind_eq_some_iff.mp H
          obtain ⟨t15002, A60, H⟩ := H
          replace H : (laws_markMoveS.l0 k1 (y15001.set (x5_1 : Int).toNat (⟨(rd_T58 y15001 x5_1).f0, t15002⟩ : S58)) (wrap64 ((wrap64 (x1_1 + 1)) + 1)) (wrap64 (x5_1 + 1))) = some (r1, r2) := H
          have A6 := Aside0.mk A60
          clear A60
          obtain ⟨y15003, hy15003⟩ : ∃ y_ : List (S58), y_ = (y15001.set (x5_1 : Int).toNat (⟨(rd_T58 y15001 x5_1).f0, t15002⟩ : S58)) := ⟨_, rfl⟩
          replace H : (laws_markMoveS.l0 k1 y15003 (wrap64 ((wrap64 (x1_1 + 1)) + 1)) (wrap64 (x5_1 + 1))) = some (r1, r2) := by first | (rw [hy15003]; with_reducible exact H) | (have H2_ := (Option.bind_some _ _).symm.trans H; rw [hy15003]; with_reducible exact H2_) | (have H2_ := (Option.bind_some _ _).symm.trans H; with_reducible exact H2_) | with_reducible exact H | (rw [hy15003]; exact H) | exact H
          have Ny15003 := Aside0.mk hy15003
          clear hy15003
          have H' := Aside0.mk H
          clear H
          obtain ⟨Ao8, co8, eo8⟩ := Kd.R_slice HO_0.out
          subst eo8
          have p5 : 0 ≤ (x5_1 : Int) := of_decide_eq_true (by first | (with_reducible assumption) | assumption)
          have q5 : (x5_1 : Int) < ((x0_1.length : Int) : Int) := of_decide_eq_true (by first | (with_reducible assumption) | assumption)
          obtain ⟨go5, co5, eo5, gb5, gl5, cl5, HG5⟩ := Kd.R_form HO_0.out (by omega)
          (first | cases eo5 | (injection eo5 with ea_ en_ ec_; (first | subst ea_ | (injection ea_ with ea_; subst ea_)); subst ec_; clear en_))
          have GB5 := Aside0.mk gb5
          have GG5 := Aside0.mk HG5
          clear gb5 gl5 HG5
          have HMgo5 := Aside0.mk (show (P0_ go5 ∨ w.heap.size ≤ go5) from (HO_0.out.1 _ rfl))
          obtain ⟨ce5, hcl5, hM5, hcc5, hfr5⟩ := Kd.R_elem HO_0.out z58 (x5_1 : Int) p5 q5
          obtain rfl := k58_openM hM5
          have hx5_0 : wr.cell? ⟨go5, (x5_1 : Int).toNat * 2, none⟩ = some (.int .u8 ((rd_T58 x0_1 x5_1).f0)) := hcc5 0 _ rfl
          have hx5_1 : wr.cell? ⟨go5, (x5_1 : Int).toNat * 2 + 1, none⟩ = some (.string ((rd_T58 x0_1 x5_1).f1)) := hcc5 1 _ rfl
          have hf5_0 : wr.frozen? ⟨go5, (x5_1 : Int).toNat * 2, none⟩ = false := hfr5 0
          have hf5_1 : wr.frozen? ⟨go5, (x5_1 : Int).toNat * 2 + 1, none⟩ = false := hfr5 1
          clear hcl5 hcc5 hfr5; (try clear hM5)
          replace p5 := eq_true p5
          replace q5 := eq_true q5
          have HX9 := Aside0.mk (show Kd.R k58 58 wr w0.heap.size (fun k_ => (P0_ k_ ∨ w.heap.size ≤ k_)) (.slice (some ⟨go5, 0, none⟩) x0_1.length co8) x0_1 from (by (with_reducible repeat (first | apply Kd.R_alloc | apply Kd.R_drewN | apply Kd.R_drew)); exact HO_0.out))
          obtain ⟨ce9, hcl9, hM9, hcc9, hfr9⟩ := Kd.R_elem HX9.out z58 (x5_1 : Int) (of_decide_eq_true (by first | (with_reducible assumption) | assumption)) (by have h_ : (x5_1 : Int) < ((x0_1.length : Int) : Int) := of_decide_eq_true (by first | (with_reducible assumption) | assumption); first | exact h_ | (have e_ := (Kd.R_reads' HO_0.out).1; omega) | simpa using h_)
          obtain rfl := k58_openM hM9
          have HP9 := Kd.R_seg HX9.out (x5_1 : Int) (of_decide_eq_true (by first | (with_reducible assumption) | assumption)) (by have h_ : (x5_1 : Int) < ((x0_1.length : Int) : Int) := of_decide_eq_true (by first | (with_reducible assumption) | assumption); first | exact h_ | (have e_ := (Kd.R_reads' HO_0.out).1; omega) | simpa using h_) (seg := [.int .u8 ((x1_1) % 256)]) (j := 0) hcl9 hcc9 (show 1 ≤ 2 from by decide) (x' := (⟨(x1_1) % 256, (rd_T58 x0_1 x5_1).f1⟩ : S58)) (k58_mkM _ _ _ (⟨(x1_1) % 256, (rd_T58 x0_1 x5_1).f1⟩ : S58) ) (fun _ hk => hk)
          have hx9_0 := hcc9 0 _ rfl
          (try simp only [show (k58).sz = 2 from rfl, Nat.mul_one, Nat.add_zero] at hx9_0)
          have hf9_0 := hfr9 0
          (try simp only [show (k58).sz = 2 from rfl, Nat.mul_one, Nat.add_zero] at hf9_0)
          clear hcl9 hcc9 hfr9; (try clear hM9)
          go_wp2_with (first | ((with_reducible refine gate_store (t := 5) (p := 17) rfl ?_); refine store_event (t := 5) (p := 17) (v := ?vo_w10) (w1 := (wr.setCell ⟨go5, (x5_1 : Int).toNat * 2, none⟩ (.int .u8 ((x1_1) % 256)))) ?hg ?ho ?hn ?hr ?_; (case ho => rfl); (case hg => rfl); (case hn => rfl); (case hr => first | (go_simp; done) | (go_simp; rfl)); intro w10 hw; have hg : wr.grownBy w10 (some go5) := (by rw [hw]; exact HP9.2); have hp_ : Kd.R k58 58 w10 w0.heap.size (fun k_ => (P0_ k_ ∨ w.heap.size ≤ k_)) (.slice (some ⟨go5, 0, none⟩) x0_1.length co8) y15001 := (by rw [hw, Ny15001.out]; exact HP9.1); clear HP9; have n0_ := Aside0.mk (hp_); have n1_ := Aside0.mk ((by rw [hw]; exact below_set (HB.out) GB5.out : Below w0.heap.size w0 w10)); have n2_ := Aside0.mk (Kept.of_grown (S := (fun k_ => P0_ k_)) hg (by repeat (first | (with_reducible first | exact HK.out | apply Kept.alloc | apply Kept.drewN | apply Kept.drew) | exact HK.out)) (fun k_ e_ => (HO_0.out.1 k_ e_))); clear HO_0; clear HB; clear HK; have HO_0 := n0_; have HB := n1_; have HK := n2_; clear n0_ n1_ n2_; clear hg hw hp_) | ((with_reducible refine gate_callee (f := 36) rfl ?_); refine goesL_ (some 23) rfl rfl Try.func36 (by kernel_rfl) rfl #[.int .i64 (wrap64 (x1_1 + 1))] rfl (by (try simp only [List.map_toArray, List.map_cons, List.map_nil]); first | done | rfl | (simp only [List.length_drop, List.length_take]; rfl)) ?_; (with_reducible refine (laws_markText.calls k1 (wrap64 (x1_1 + 1)) t15002 _ A6.out).mono ?_); rintro e w11 ⟨rfl, hb⟩; refine ⟨_, rfl, ?_⟩; have n0_ := Aside0.mk (Kd.R_below (by (with_reducible repeat (first | apply Kd.R_alloc | apply Kd.R_drewN | apply Kd.R_drew)); exact HO_0.out) hb); have n1_ := Aside0.mk (Kept.below (S := (fun k_ => P0_ k_)) (by repeat (first | (with_reducible first | exact HK.out | apply Kept.alloc | apply Kept.drewN | apply Kept.drew) | exact HK.out)) hb); have n2_ := Aside0.mk (below_step (by repeat (first | (with_reducible first | exact HB.out | apply below_alloc | apply pw_below_drewN | apply below_drew1) | exact HB.out)) hb); clear HO_0; clear HK; clear HB; have HO_0 := n0_; have HK := n1_; have HB := n2_; clear n0_ n1_ n2_; (try clear hb); (try clear hb2); (try clear hk); (try clear hi); have p7 : 0 ≤ (x5_1 : Int) := of_decide_eq_true (by first | (with_reducible assumption) | assumption); have q7 : (x5_1 : Int) < ((x0_1.length : Int) : Int) := of_decide_eq_true (by first | (with_reducible assumption) | assumption); obtain ⟨ce7, hcl7, hM7, hcc7, hfr7⟩ := Kd.R_elem HO_0.out z58 (x5_1 : Int) p7 q7; obtain rfl := k58_openM hM7; have hx7_0 : w11.cell? ⟨go5, (x5_1 : Int).toNat * 2, none⟩ = some (.int .u8 ((rd_T58 y15001 x5_1).f0)) := hcc7 0 _ rfl; have hx7_1 : w11.cell? ⟨go5, (x5_1 : Int).toNat * 2 + 1, none⟩ = some (.string ((rd_T58 y15001 x5_1).f1)) := hcc7 1 _ rfl; have hf7_0 : w11.frozen? ⟨go5, (x5_1 : Int).toNat * 2, none⟩ = false := hfr7 0; have hf7_1 : w11.frozen? ⟨go5, (x5_1 : Int).toNat * 2 + 1, none⟩ = false := hfr7 1; clear hcl7 hcc7 hfr7; (try clear hM7); replace p7 := eq_true p7; replace q7 := eq_true q7; have HX12 := Aside0.mk (show Kd.R k58 58 w11 w0.heap.size (fun k_ => (P0_ k_ ∨ w.heap.size ≤ k_)) (.slice (some ⟨go5, 0, none⟩) x0_1.length co8) y15001 from (by (with_reducible repeat (first | apply Kd.R_alloc | apply Kd.R_drewN | apply Kd.R_drew)); exact HO_0.out)); obtain ⟨ce12, hcl12, hM12, hcc12, hfr12⟩ := Kd.R_elem HX12.out z58 (x5_1 : Int) (of_decide_eq_true (by first | (with_reducible assumption) | assumption)) (by have h_ : (x5_1 : Int) < ((x0_1.length : Int) : Int) := of_decide_eq_true (by first | (with_reducible assumption) | assumption); first | exact h_ | (have e_ := (Kd.R_reads' HO_0.out).1; omega) | simpa using h_); obtain rfl := k58_openM hM12; have HP12 := Kd.R_seg HX12.out (x5_1 : Int) (of_decide_eq_true (by first | (with_reducible assumption) | assumption)) (by have h_ : (x5_1 : Int) < ((x0_1.length : Int) : Int) := of_decide_eq_true (by first | (with_reducible assumption) | assumption); first | exact h_ | (have e_ := (Kd.R_reads' HO_0.out).1; omega) | simpa using h_) (seg := [.string t15002]) (j := 1) hcl12 hcc12 (show 2 ≤ 2 from by decide) (x' := (⟨(rd_T58 y15001 x5_1).f0, t15002⟩ : S58)) (k58_mkM _ _ _ (⟨(rd_T58 y15001 x5_1).f0, t15002⟩ : S58) ) (fun _ hk => hk); have hx12_1 := hcc12 1 _ rfl; (try simp only [show (k58).sz = 2 from rfl, Nat.mul_one, Nat.add_zero] at hx12_1); have hf12_1 := hfr12 1; (try simp only [show (k58).sz = 2 from rfl, Nat.mul_one, Nat.add_zero] at hf12_1); clear hcl12 hcc12 hfr12; (try clear hM12)) | ((with_reducible refine gate_store (t := 9) (p := 25) rfl ?_); refine store_event (t := 9) (p := 25) (v := ?vo_w13) (w1 := (w11.setCell ⟨go5, (x5_1 : Int).toNat * 2 + 1, none⟩ (.string t15002))) ?hg ?ho ?hn ?hr ?_; (case ho => rfl); (case hg => rfl); (case hn => rfl); (case hr => first | (go_simp; done) | (go_simp; rfl)); intro w13 hw; have hg : w11.grownBy w13 (some go5) := (by rw [hw]; exact HP12.2); have hp_ : Kd.R k58 58 w13 w0.heap.size (fun k_ => (P0_ k_ ∨ w.heap.size ≤ k_)) (.slice (some ⟨go5, 0, none⟩) x0_1.length co8) y15003 := (by rw [hw, Ny15003.out]; exact HP12.1); clear HP12; have n0_ := Aside0.mk (hp_); have n1_ := Aside0.mk ((by rw [hw]; exact below_set (HB.out) GB5.out : Below w0.heap.size w0 w13)); have n2_ := Aside0.mk (Kept.of_grown (S := (fun k_ => P0_ k_)) hg (by repeat (first | (with_reducible first | exact HK.out | apply Kept.alloc | apply Kept.drewN | apply Kept.drew) | exact HK.out)) (fun k_ e_ => (HO_0.out.1 k_ e_))); clear HO_0; clear HB; clear HK; have HO_0 := n0_; have HB := n1_; have HK := n2_; clear n0_ n1_ n2_; clear hg hw hp_))
          go_roundg k1
          case measure => have := HK1.out; omega
          case rel => exact ⟨(y15003), (wrap64 ((wrap64 (x1_1 + 1)) + 1)), (wrap64 (x5_1 + 1)), (by first | rfl | (simp; done) | (simp [*]; done)), (by first | rfl | (simp; done) | (simp [*]; done)), H', ⟨by have := HK1.out; omega⟩, ⟨by (with_reducible repeat (first | apply Kd.R_alloc | apply Kd.R_drewN | apply Kd.R_drew)); exact HO_0.out⟩, ⟨by repeat (first | (with_reducible first | exact HK.out | apply Kept.alloc | apply Kept.drewN | apply Kept.drew) | exact HK.out)⟩, ⟨by repeat (first | (with_reducible first | exact HB.out | apply below_alloc | apply pw_below_drewN | apply below_drew1) | exact HB.out)⟩⟩
        · rw [if_neg c4] at H
          exact absurd H (by simp)
      · rw [if_neg c3] at H
        have c3b0 : decide (x5_1 < (x0_1.length : Int)) = false := decide_eq_false c3
        clear c3
        simp only [Option.some.injEq, Prod.mk.injEq] at H
        obtain ⟨rfl, rfl⟩ := H
        obtain ⟨Ao14, co14, eo14⟩ := Kd.R_slice HO_0.out
        subst eo14
        go_wp2
        go_ret
        exact ⟨by first | rfl | (simp [errW_none, errW_some] <;> rfl) | (simp [*, errW_none, errW_some] <;> rfl), by (with_reducible repeat (first | apply Kd.R_alloc | apply Kd.R_drewN | apply Kd.R_drew)); exact HO_0.out, by repeat (first | (with_reducible first | exact HB.out | apply below_alloc | apply pw_below_drewN | apply below_drew1) | exact HB.out), by repeat (first | (with_reducible first | exact HK.out | apply Kept.alloc | apply Kept.drewN | apply Kept.drew) | exact HK.out)⟩

/-! ### laws_heldMoveS: function 16 -/
def laws_heldMoveS.l0 : Nat → List (S58) → Int → Int → Option (Int)
  | 0, _, _, _ => none
  | k + 1, x0, x1, x5 => if x5 < (x0.length : Int) then (if 0 ≤ x5 then (if ((rd_T58 x0 x5).f0) = ((x1) % 256) then ((laws_markText.f k (wrap64 (x1 + 1))).bind fun t16003 => (if ((rd_T58 x0 x5).f1).toList = t16003.toList then (laws_heldMoveS.l0 k x0 (wrap64 ((wrap64 (x1 + 1)) + 1)) (wrap64 (x5 + 1))) else (some (-1)))) else (some (-1))) else (none)) else (some x1)
def laws_heldMoveS.f (k : Nat) (l0 : List (S58)) (a1 : Int) : Option (Int) := laws_heldMoveS.l0 k l0 a1 0
theorem laws_heldMoveS.mono_l : ∀ k, (∀ y0 y1 y2, LeO (laws_heldMoveS.l0 k y0 y1 y2) (laws_heldMoveS.l0 (k + 1) y0 y1 y2))
  | 0 => fun _ _ _ r h => by simp [laws_heldMoveS.l0] at h
  | k + 1 => by
    have ih0 := laws_heldMoveS.mono_l k
    · intro y0 y1 y2
      unfold laws_heldMoveS.l0
      repeat' first
      | (with_reducible exact ih0 _ _ _)
      | (with_reducible exact laws_markText.mono _ _)
      | (with_reducible exact LeO.refl _)
      | (with_reducible exact LeO.none _)
      | (with_reducible refine LeO.ite ?_ ?_)
      | (with_reducible refine LeO.bind ?_ (fun _ => ?_))
      | exact ih0 _ _ _
      | exact laws_markText.mono _ _
      | exact LeO.none _
      | refine LeO.ite ?_ ?_
      | refine LeO.bind ?_ (fun _ => ?_)
theorem laws_heldMoveS.mono : ∀ a0 a1 k, LeO (laws_heldMoveS.f k a0 a1) (laws_heldMoveS.f (k + 1) a0 a1) := by
  intro a0 a1 k
  have ih0 := laws_heldMoveS.mono_l k
  unfold laws_heldMoveS.f
  repeat' first
      | (with_reducible exact ih0 _ _ _)
      | (with_reducible exact laws_markText.mono _ _)
      | (with_reducible exact LeO.refl _)
      | (with_reducible exact LeO.none _)
      | (with_reducible refine LeO.ite ?_ ?_)
      | (with_reducible refine LeO.bind ?_ (fun _ => ?_))
      | exact ih0 _ _ _
      | exact laws_markText.mono _ _
      | exact LeO.none _
      | refine LeO.ite ?_ ?_
      | refine LeO.bind ?_ (fun _ => ?_)
def laws_heldMoveS.T7 : Bool × List (List Nat × List Nat) := (true, [([], []), ([], []), ([0, 1], [0, 1]), ([2], [2]), ([3], [3]), ([], []), ([5], [5]), ([4, 6], [4, 6])])
def laws_heldMoveS.B7 : List Nat := [0, 0, 3, 7, 15, 0, 32, 127]
theorem laws_heldMoveS.tab7 : rtab .any (opsOf Try.f16 7) = laws_heldMoveS.T7 := by kernel_rfl
theorem laws_heldMoveS.bits7 : waitsOk laws_heldMoveS.T7.2 laws_heldMoveS.B7 = true := by kernel_rfl
set_option maxHeartbeats 8000000 in
set_option maxRecDepth 100000 in
theorem laws_heldMoveS.calls (k : Nat) (A0 : Option Addr) (c0 : Nat) (l0 : List (S58)) (a1 : Int) (r : Int) (w : World) (hr0 : Kd.C k58 w A0 l0.length l0) (hc0 : l0.length ≤ c0) (h : laws_heldMoveS.f k l0 a1 = some r) :
    Calls Try.prog 16 #[.slice A0 l0.length c0, .int .i64 a1] w fun e w' => e = .returned (.int .i64 r) ∧ Below w.heap.size w w' := by
  have HR0 := Aside0.mk hr0
  have HC0 := Aside0.mk hc0
  clear hr0 hc0
  have HB := Aside0.mk (Below.refl w.heap.size w)
  have H : (laws_heldMoveS.l0 k l0 a1 0) = some r := h
  clear h
  have H' := Aside0.mk H
  clear H
  go_enter Try.func16, Try.ntmps16
  go_wp2
  first | go_loopg [1, 5] k (fun kq v1 v5 w' => ∃ (x1_1 : Int) (x5_1 : Int), v1 = .int .i64 x1_1 ∧ v5 = .int .i64 x5_1 ∧ Aside0 (laws_heldMoveS.l0 kq l0 x1_1 x5_1 = some r) ∧ Aside0 (kq ≤ k) ∧ Aside0 (Below w.heap.size w w')) | (simp only [Act.put, List.setIfInBounds_toArray, List.set_cons_succ, List.set_cons_zero]; go_loopg [1, 5] k (fun kq v1 v5 w' => ∃ (x1_1 : Int) (x5_1 : Int), v1 = .int .i64 x1_1 ∧ v5 = .int .i64 x5_1 ∧ Aside0 (laws_heldMoveS.l0 kq l0 x1_1 x5_1 = some r) ∧ Aside0 (kq ≤ k) ∧ Aside0 (Below w.heap.size w w')))
  case atStart => exact ⟨(a1), (0), (by first | rfl | (simp; done) | (simp [*]; done)), (by first | rfl | (simp; done) | (simp [*]; done)), H', ⟨Nat.le_refl _⟩, ⟨by repeat (first | (with_reducible first | exact HB.out | apply below_alloc | apply pw_below_drewN | apply below_drew1) | exact HB.out)⟩⟩
  case round =>
    clear H'
    try clear c1
    try clear p2
    obtain ⟨x1_1, x5_1, rfl, rfl, HA, HK1, HB⟩ := hrel
    cases gk with
    | zero => exact absurd HA.out (by simp [laws_heldMoveS.l0])
    | succ k1 =>
      have H := HA.out
      clear HA
      simp only [laws_heldMoveS.l0] at H
      by_cases c3 : x5_1 < (l0.length : Int)
      · rw [if_pos c3] at H
        have c3b0 : decide (x5_1 < (l0.length : Int)) = true := decide_eq_true c3
        clear c3
        by_cases c4 : 0 ≤ x5_1
        · rw [if_pos c4] at H
          have c4b0 : decide (0 ≤ x5_1) = true := decide_eq_true c4
          clear c4
          by_cases c5 : ((rd_T58 l0 x5_1).f0) = ((x1_1) % 256)
          · rw [if_pos c5] at H
            have c5b0 : (((rd_T58 l0 x5_1).f0) == ((x1_1) % 256)) = true := beq_iff_eq.mpr c5
            have c5b1 : (((rd_T58 l0 x5_1).f0) != ((x1_1) % 256)) = false := bne_eq_false_iff_eq.mpr c5
            clear c5
            replace H := Option.bind_eq_some_iff.mp H
            obtain ⟨t16003, A60, H⟩ := H
            replace H : (if ((rd_T58 l0 x5_1).f1).toList = t16003.toList then (laws_heldMoveS.l0 k1 l0 (wrap64 ((wrap64 (x1_1 + 1)) + 1)) (wrap64 (x5_1 + 1))) else (some (-1))) = some r := H
            have A6 := Aside0.mk A60
            clear A60
            by_cases c7 : ((rd_T58 l0 x5_1).f1).toList = t16003.toList
            · rw [if_pos c7] at H
              have c7b0 : (((rd_T58 l0 x5_1).f1).toList == t16003.toList) = true := beq_iff_eq.mpr c7
              have c7b1 : (((rd_T58 l0 x5_1).f1).toList != t16003.toList) = false := bne_eq_false_iff_eq.mpr c7
              clear c7
              have H' := Aside0.mk H
              clear H
              have p16001 : 0 ≤ (x5_1 : Int) := of_decide_eq_true (by first | (with_reducible assumption) | assumption)
              have q16001 : x5_1 < (l0.length : Int) := of_decide_eq_true (by first | (with_reducible assumption) | assumption)
              obtain ⟨ad16001, e16001, hx16001_0, hx16001_1⟩ := at_T58 HR0.out x5_1 p16001 q16001
              cases e16001
              replace hx16001_0 := (HB.out.cell (World.block_lt_of_cell? w _ hx16001_0)).trans hx16001_0
              replace hx16001_1 := (HB.out.cell (World.block_lt_of_cell? w _ hx16001_1)).trans hx16001_1
              replace p16001 := eq_true p16001
              replace q16001 := eq_true q16001
              try go_wp2
              have n0_ := Aside0.mk (below_drew1 HB.out)
              clear HB
              have HB := n0_
              clear n0_
              have p16002 : 0 ≤ (x5_1 : Int) := of_decide_eq_true (by first | (with_reducible assumption) | assumption)
              have q16002 : x5_1 < (l0.length : Int) := of_decide_eq_true (by first | (with_reducible assumption) | assumption)
              obtain ⟨ad16002, e16002, hx16002_0, hx16002_1⟩ := at_T58 HR0.out x5_1 p16002 q16002
              have hw16002_1 := hx16002_1
              have hw16002_0 := hx16002_0
              obtain rfl : ad16001 = ad16002 := (by injection e16002)
              replace hx16002_0 := (HB.out.cell (World.block_lt_of_cell? w _ hx16002_0)).trans hx16002_0
              replace hx16002_1 := (HB.out.cell (World.block_lt_of_cell? w _ hx16002_1)).trans hx16002_1
              replace p16002 := eq_true p16002
              replace q16002 := eq_true q16002
              refine start_ (n := 8) (S := fun w' => w'.cell? (ad16001.add ((x5_1).toNat * 2)) = some (.int .u8 ((rd_T58 l0 x5_1).f0)) ∧ w'.cell? ⟨(ad16001.add ((x5_1).toNat * 2)).block, (ad16001.add ((x5_1).toNat * 2)).off + 1, none⟩ = some (.string ((rd_T58 l0 x5_1).f1))) (ds := []) #[false, false, false, false, false, false, false, false] (by kernel_rfl) rfl rfl ⟨((HB.out.cell (World.block_lt_of_cell? w _ hw16002_0)).trans hw16002_0), ((HB.out.cell (World.block_lt_of_cell? w _ hw16002_1)).trans hw16002_1)⟩ (fun hHeld => ?_); refine with_tabW laws_heldMoveS.tab7 laws_heldMoveS.bits7 (fun HT_ HW_ => ?_)
              generalize wr.drew = w8 at HB hx16002_0 hx16002_1 hHeld ⊢
              refine pure_ (i := 0) (N := some 22) (v := ?_) (a' := ?_) #[true, false, false, false, false, false, false, false] rfl rfl (any_of HT_.out (by kernel_rfl)) (fun _ _ _ h => h) (Or.inl ⟨by rfl, ?_⟩) ?_ ?_
              rotate_left
              · intro w'
                go_simp
                first | with_reducible rfl | (rw [if_neg (by omega)]; done)
              rotate_left
              · simp only [Act.put, List.setIfInBounds_toArray, List.set_cons_zero, List.set_cons_succ, i64_w, i32_w]
                rfl
              refine pure_ (i := 1) (N := some 23) (v := ?_) (a' := ?_) #[true, true, false, false, false, false, false, false] rfl rfl (any_of HT_.out (by kernel_rfl)) (fun _ _ _ h => h) (Or.inl ⟨by rfl, ?_⟩) ?_ ?_
              rotate_left
              · intro w'
                go_simp
                first | with_reducible rfl | (rw [if_neg (by omega)]; done)
              rotate_left
              · simp only [Act.put, List.setIfInBounds_toArray, List.set_cons_zero, List.set_cons_succ, i64_w, i32_w]
                rfl
              refine pure_ (i := 2) (N := some 24) (v := ?_) (a' := ?_) #[true, true, true, false, false, false, false, false] rfl rfl (any_of HT_.out (by kernel_rfl)) (fun _ _ _ h => h) (Or.inl ⟨by rfl, ?_⟩) ?_ ?_
              rotate_left
              · intro w'
                go_simp
                first | with_reducible rfl | (rw [if_neg (by omega)]; done)
              rotate_left
              · simp only [Act.put, List.setIfInBounds_toArray, List.set_cons_zero, List.set_cons_succ, i64_w, i32_w]
                rfl
              refine pure_ (i := 3) (N := some 25) (v := ?_) (a' := ?_) #[true, true, true, true, false, false, false, false] rfl rfl (any_of HT_.out (by kernel_rfl)) (fun _ _ _ h => h) (Or.inl ⟨by rfl, ?_⟩) ?_ ?_
              rotate_left
              · intro w'
                go_simp
                first | with_reducible rfl | (rw [if_neg (by omega)]; done)
              rotate_left
              · simp only [Act.put, List.setIfInBounds_toArray, List.set_cons_zero, List.set_cons_succ, i64_w, i32_w]
                rfl
              refine pure_ (i := 5) (N := some 27) (v := ?_) (a' := ?_) #[true, true, true, true, false, true, false, false] rfl rfl (any_of HT_.out (by kernel_rfl)) (fun _ _ _ h => h) (Or.inl ⟨by rfl, ?_⟩) ?_ ?_
              rotate_left
              · intro w'
                go_simp
                first | with_reducible rfl | (rw [if_neg (by omega)]; done)
              rotate_left
              · simp only [Act.put, List.setIfInBounds_toArray, List.set_cons_zero, List.set_cons_succ, i64_w, i32_w]
                rfl
              refine take_ (i := 4) (N := some 26) (v := ?_) (a' := ?_) #[true, true, true, true, true, true, false, false] rfl rfl (take_ofW HT_.out HW_.out (by kernel_rfl)) (fun _ _ _ h => h) (Or.inl ⟨by rfl, ?_⟩) hHeld ?_ ?_
              rotate_left
              · rintro w' ⟨s0, s1⟩
                go_simp
                first | with_reducible rfl | (rw [if_neg (by omega)]; done)
              rotate_left
              · simp only [Act.put, List.setIfInBounds_toArray, List.set_cons_zero, List.set_cons_succ, i64_w, i32_w]
                rfl
              refine one_ (i := 6) (N := some 28) #[true, true, true, true, true, true, true, false] rfl rfl (one_of HT_.out (by kernel_rfl)) (by decide) (fun K hK => ?_)
              refine goes_ Try.func36 (by kernel_rfl) rfl #[.int .i64 (wrap64 (x1_1 + 1))] (by rfl) rfl rfl (by (try simp only [List.map_toArray, List.map_cons, List.map_nil]); first | done | rfl | (simp only [List.length_drop, List.length_take]; rfl)) ?_
              with_reducible refine (laws_markText.calls k1 (wrap64 (x1_1 + 1)) t16003 _ A6.out).mono ?_
              rintro e w9 ⟨rfl, hb⟩
              refine ⟨_, rfl, ?_⟩
              have n0_ := Aside0.mk (below_step (by repeat (first | (with_reducible first | exact HB.out | apply below_alloc | apply pw_below_drewN | apply below_drew1) | exact HB.out)) hb)
              clear HB
              have HB := n0_
              clear n0_
              (try clear hb)
              (try clear hb2)
              (try clear hk)
              (try clear hi)
              refine hK.out _ _ ⟨((HB.out.cell (World.block_lt_of_cell? w _ hw16002_0)).trans hw16002_0), ((HB.out.cell (World.block_lt_of_cell? w _ hw16002_1)).trans hw16002_1)⟩ (fun hHeld => ?_)
              clear hK K
              refine norm_ (a' := ?_) ?_ ?_
              rotate_left
              · show Act.put _ (some 28) _ = _
                simp only [Act.put, List.setIfInBounds_toArray, List.set_cons_zero, List.set_cons_succ, i64_w, i32_w]
                rfl
              refine pure_ (i := 7) (N := some 29) (v := ?_) (a' := ?_) #[true, true, true, true, true, true, true, true] rfl rfl (any_of HT_.out (by kernel_rfl)) (fun _ _ _ h => h) (Or.inl ⟨by rfl, ?_⟩) ?_ ?_
              rotate_left
              · intro w'
                go_simp
                first | with_reducible rfl | (rw [if_neg (by omega)]; done)
              rotate_left
              · simp only [Act.put, List.setIfInBounds_toArray, List.set_cons_zero, List.set_cons_succ, i64_w, i32_w]
                rfl
              refine done_ (done_of HT_.out (by kernel_rfl)) ?_
              try go_wp2
              go_roundg k1
              case measure => have := HK1.out; omega
              case rel => exact ⟨(wrap64 ((wrap64 (x1_1 + 1)) + 1)), (wrap64 (x5_1 + 1)), (by first | rfl | (simp; done) | (simp [*]; done)), (by first | rfl | (simp; done) | (simp [*]; done)), H', ⟨by have := HK1.out; omega⟩, ⟨by repeat (first | (with_reducible first | exact HB.out | apply below_alloc | apply pw_below_drewN | apply below_drew1) | exact HB.out)⟩⟩
            · rw [if_neg c7] at H
              have c7b0 : (((rd_T58 l0 x5_1).f1).toList == t16003.toList) = false := beq_eq_false_iff_ne.mpr c7
              have c7b1 : (((rd_T58 l0 x5_1).f1).toList != t16003.toList) = true := bne_iff_ne.mpr c7
              obtain rfl := Option.some.inj H
              have p16001 : 0 ≤ (x5_1 : Int) := of_decide_eq_true (by first | (with_reducible assumption) | assumption)
              have q16001 : x5_1 < (l0.length : Int) := of_decide_eq_true (by first | (with_reducible assumption) | assumption)
              obtain ⟨ad16001, e16001, hx16001_0, hx16001_1⟩ := at_T58 HR0.out x5_1 p16001 q16001
              cases e16001
              replace hx16001_0 := (HB.out.cell (World.block_lt_of_cell? w _ hx16001_0)).trans hx16001_0
              replace hx16001_1 := (HB.out.cell (World.block_lt_of_cell? w _ hx16001_1)).trans hx16001_1
              replace p16001 := eq_true p16001
              replace q16001 := eq_true q16001
              try go_wp2
              have n0_ := Aside0.mk (below_drew1 HB.out)
              clear HB
              have HB := n0_
              clear n0_
              have p16002 : 0 ≤ (x5_1 : Int) := of_decide_eq_true (by first | (with_reducible assumption) | assumption)
              have q16002 : x5_1 < (l0.length : Int) := of_decide_eq_true (by first | (with_reducible assumption) | assumption)
              obtain ⟨ad16002, e16002, hx16002_0, hx16002_1⟩ := at_T58 HR0.out x5_1 p16002 q16002
              have hw16002_1 := hx16002_1
              have hw16002_0 := hx16002_0
              obtain rfl : ad16001 = ad16002 := (by injection e16002)
              replace hx16002_0 := (HB.out.cell (World.block_lt_of_cell? w _ hx16002_0)).trans hx16002_0
              replace hx16002_1 := (HB.out.cell (World.block_lt_of_cell? w _ hx16002_1)).trans hx16002_1
              replace p16002 := eq_true p16002
              replace q16002 := eq_true q16002
              refine start_ (n := 8) (S := fun w' => w'.cell? (ad16001.add ((x5_1).toNat * 2)) = some (.int .u8 ((rd_T58 l0 x5_1).f0)) ∧ w'.cell? ⟨(ad16001.add ((x5_1).toNat * 2)).block, (ad16001.add ((x5_1).toNat * 2)).off + 1, none⟩ = some (.string ((rd_T58 l0 x5_1).f1))) (ds := []) #[false, false, false, false, false, false, false, false] (by kernel_rfl) rfl rfl ⟨((HB.out.cell (World.block_lt_of_cell? w _ hw16002_0)).trans hw16002_0), ((HB.out.cell (World.block_lt_of_cell? w _ hw16002_1)).trans hw16002_1)⟩ (fun hHeld => ?_); refine with_tabW laws_heldMoveS.tab7 laws_heldMoveS.bits7 (fun HT_ HW_ => ?_)
              generalize wr.drew = w10 at HB hx16002_0 hx16002_1 hHeld ⊢
              refine pure_ (i := 0) (N := some 22) (v := ?_) (a' := ?_) #[true, false, false, false, false, false, false, false] rfl rfl (any_of HT_.out (by kernel_rfl)) (fun _ _ _ h => h) (Or.inl ⟨by rfl, ?_⟩) ?_ ?_
              rotate_left
              · intro w'
                go_simp
                first | with_reducible rfl | (rw [if_neg (by omega)]; done)
              rotate_left
              · simp only [Act.put, List.setIfInBounds_toArray, List.set_cons_zero, List.set_cons_succ, i64_w, i32_w]
                rfl
              refine pure_ (i := 1) (N := some 23) (v := ?_) (a' := ?_) #[true, true, false, false, false, false, false, false] rfl rfl (any_of HT_.out (by kernel_rfl)) (fun _ _ _ h => h) (Or.inl ⟨by rfl, ?_⟩) ?_ ?_
              rotate_left
              · intro w'
                go_simp
                first | with_reducible rfl | (rw [if_neg (by omega)]; done)
              rotate_left
              · simp only [Act.put, List.setIfInBounds_toArray, List.set_cons_zero, List.set_cons_succ, i64_w, i32_w]
                rfl
              refine pure_ (i := 2) (N := some 24) (v := ?_) (a' := ?_) #[true, true, true, false, false, false, false, false] rfl rfl (any_of HT_.out (by kernel_rfl)) (fun _ _ _ h => h) (Or.inl ⟨by rfl, ?_⟩) ?_ ?_
              rotate_left
              · intro w'
                go_simp
                first | with_reducible rfl | (rw [if_neg (by omega)]; done)
              rotate_left
              · simp only [Act.put, List.setIfInBounds_toArray, List.set_cons_zero, List.set_cons_succ, i64_w, i32_w]
                rfl
              refine pure_ (i := 3) (N := some 25) (v := ?_) (a' := ?_) #[true, true, true, true, false, false, false, false] rfl rfl (any_of HT_.out (by kernel_rfl)) (fun _ _ _ h => h) (Or.inl ⟨by rfl, ?_⟩) ?_ ?_
              rotate_left
              · intro w'
                go_simp
                first | with_reducible rfl | (rw [if_neg (by omega)]; done)
              rotate_left
              · simp only [Act.put, List.setIfInBounds_toArray, List.set_cons_zero, List.set_cons_succ, i64_w, i32_w]
                rfl
              refine pure_ (i := 5) (N := some 27) (v := ?_) (a' := ?_) #[true, true, true, true, false, true, false, false] rfl rfl (any_of HT_.out (by kernel_rfl)) (fun _ _ _ h => h) (Or.inl ⟨by rfl, ?_⟩) ?_ ?_
              rotate_left
              · intro w'
                go_simp
                first | with_reducible rfl | (rw [if_neg (by omega)]; done)
              rotate_left
              · simp only [Act.put, List.setIfInBounds_toArray, List.set_cons_zero, List.set_cons_succ, i64_w, i32_w]
                rfl
              refine take_ (i := 4) (N := some 26) (v := ?_) (a' := ?_) #[true, true, true, true, true, true, false, false] rfl rfl (take_ofW HT_.out HW_.out (by kernel_rfl)) (fun _ _ _ h => h) (Or.inl ⟨by rfl, ?_⟩) hHeld ?_ ?_
              rotate_left
              · rintro w' ⟨s0, s1⟩
                go_simp
                first | with_reducible rfl | (rw [if_neg (by omega)]; done)
              rotate_left
              · simp only [Act.put, List.setIfInBounds_toArray, List.set_cons_zero, List.set_cons_succ, i64_w, i32_w]
                rfl
              refine one_ (i := 6) (N := some 28) #[true, true, true, true, true, true, true, false] rfl rfl (one_of HT_.out (by kernel_rfl)) (by decide) (fun K hK => ?_)
              refine goes_ Try.func36 (by kernel_rfl) rfl #[.int .i64 (wrap64 (x1_1 + 1))] (by rfl) rfl rfl (by (try simp only [List.map_toArray, List.map_cons, List.map_nil]); first | done | rfl | (simp only [List.length_drop, List.length_take]; rfl)) ?_
              with_reducible refine (laws_markText.calls k1 (wrap64 (x1_1 + 1)) t16003 _ A6.out).mono ?_
              rintro e w11 ⟨rfl, hb⟩
              refine ⟨_, rfl, ?_⟩
              have n0_ := Aside0.mk (below_step (by repeat (first | (with_reducible first | exact HB.out | apply below_alloc | apply pw_below_drewN | apply below_drew1) | exact HB.out)) hb)
              clear HB
              have HB := n0_
              clear n0_
              (try clear hb)
              (try clear hb2)
              (try clear hk)
              (try clear hi)
              refine hK.out _ _ ⟨((HB.out.cell (World.block_lt_of_cell? w _ hw16002_0)).trans hw16002_0), ((HB.out.cell (World.block_lt_of_cell? w _ hw16002_1)).trans hw16002_1)⟩ (fun hHeld => ?_)
              clear hK K
              refine norm_ (a' := ?_) ?_ ?_
              rotate_left
              · show Act.put _ (some 28) _ = _
                simp only [Act.put, List.setIfInBounds_toArray, List.set_cons_zero, List.set_cons_succ, i64_w, i32_w]
                rfl
              refine pure_ (i := 7) (N := some 29) (v := ?_) (a' := ?_) #[true, true, true, true, true, true, true, true] rfl rfl (any_of HT_.out (by kernel_rfl)) (fun _ _ _ h => h) (Or.inl ⟨by rfl, ?_⟩) ?_ ?_
              rotate_left
              · intro w'
                go_simp
                first | with_reducible rfl | (rw [if_neg (by omega)]; done)
              rotate_left
              · simp only [Act.put, List.setIfInBounds_toArray, List.set_cons_zero, List.set_cons_succ, i64_w, i32_w]
                rfl
              refine done_ (done_of HT_.out (by kernel_rfl)) ?_
              try go_wp2
              go_ret
              exact ⟨by first | rfl | (simp [errW_none, errW_some] <;> rfl) | (simp [*, errW_none, errW_some] <;> rfl), by repeat (first | (with_reducible first | exact HB.out | apply below_alloc | apply pw_below_drewN | apply below_drew1) | exact HB.out)⟩
          · rw [if_neg c5] at H
            have c5b0 : (((rd_T58 l0 x5_1).f0) == ((x1_1) % 256)) = false := beq_eq_false_iff_ne.mpr c5
            have c5b1 : (((rd_T58 l0 x5_1).f0) != ((x1_1) % 256)) = true := bne_iff_ne.mpr c5
            obtain rfl := Option.some.inj H
            have p16001 : 0 ≤ (x5_1 : Int) := of_decide_eq_true (by first | (with_reducible assumption) | assumption)
            have q16001 : x5_1 < (l0.length : Int) := of_decide_eq_true (by first | (with_reducible assumption) | assumption)
            obtain ⟨ad16001, e16001, hx16001_0, hx16001_1⟩ := at_T58 HR0.out x5_1 p16001 q16001
            cases e16001
            replace hx16001_0 := (HB.out.cell (World.block_lt_of_cell? w _ hx16001_0)).trans hx16001_0
            replace hx16001_1 := (HB.out.cell (World.block_lt_of_cell? w _ hx16001_1)).trans hx16001_1
            replace p16001 := eq_true p16001
            replace q16001 := eq_true q16001
            go_wp2
            go_ret
            exact ⟨by first | rfl | (simp [errW_none, errW_some] <;> rfl) | (simp [*, errW_none, errW_some] <;> rfl), by repeat (first | (with_reducible first | exact HB.out | apply below_alloc | apply pw_below_drewN | apply below_drew1) | exact HB.out)⟩
        · rw [if_neg c4] at H
          exact absurd H (by simp)
      · rw [if_neg c3] at H
        have c3b0 : decide (x5_1 < (l0.length : Int)) = false := decide_eq_false c3
        clear c3
        obtain rfl := Option.some.inj H
        go_wp2
        go_ret
        exact ⟨by first | rfl | (simp [errW_none, errW_some] <;> rfl) | (simp [*, errW_none, errW_some] <;> rfl), by repeat (first | (with_reducible first | exact HB.out | apply below_alloc | apply pw_below_drewN | apply below_drew1) | exact HB.out)⟩


end Go.Proofs.Ytgllnohlocfeoaa.A

