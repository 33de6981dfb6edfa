/- FnExactJoinEquations: what its proof needs, put together by this session's program wip/merge.py out of the texts that wip/xp.py printed and of this session's own. -/
import Derived.Test.YtpppopdmnejcfaaQFnExactJoinEquations4
set_option linter.unusedVariables false
set_option linter.unusedSimpArgs false
set_option maxHeartbeats 8000000
set_option maxRecDepth 100000
namespace Go.Proofs.Ytpppopdmnejcfaa.A
open Go.RowKit Go.Proofs.Ytpppopdmnejcfaa.Ext Go.Proofs.YtpppopdmnejcfaaW.PrintWords Go.Proofs.YtpppopdmnejcfaaW.PrintLast Go.Proofs.YtpppopdmnejcfaaW.PrintMore
attribute [local go_sem] max2_int min2_int max_two min_two max_three min_three max_four min_four
mutual
def impl_IsValidConstraint.j0 : Nat → Bool → Int → ByteArray → ByteArray → Int → ByteArray → List (S42) → List Int → Int → Option (Bool)
 | 0, _, _, _, _, _, _, _, _, _ => none
 | k + 1, x16, x23002000, x23002001, x23002002, x23002003, x23002004, x23002005, x23002006, x23002007 => if x16 = true then (some false) else (if x23002000 = 1 then (impl_IsValidConstraint.j1 k x23002000 (x23002000 == 1) x23002000 x23002001 x23002002 x23002003 x23002004 x23002005 x23002006 x23002007) else (impl_IsValidConstraint.j1 k x23002000 (x23002000 == 2) x23002000 x23002001 x23002002 x23002003 x23002004 x23002005 x23002006 x23002007))
def impl_IsValidConstraint.j1 : Nat → Int → Bool → Int → ByteArray → ByteArray → Int → ByteArray → List (S42) → List Int → Int → Option (Bool)
 | 0, _, _, _, _, _, _, _, _, _, _ => none
 | k + 1, x18, x19, x23002000, x23002001, x23002002, x23002003, x23002004, x23002005, x23002006, x23002007 => if x19 = true then ((impl_IsTerm.f k x23002001).bind fun t23002 => (if t23002 = true then ((impl_IsTerm.f k x23002002).bind fun t23003 => (if t23003 = true then ((impl_isZeroRegex.f x23002003 x23002004 x23002005).bind fun t23004 => (some t23004)) else (some false))) else (some false))) else (if x18 = 3 then (impl_IsValidConstraint.j2 k x18 (x18 == 3) x23002000 x23002001 x23002002 x23002003 x23002004 x23002005 x23002006 x23002007) else (impl_IsValidConstraint.j2 k x18 (x18 == 4) x23002000 x23002001 x23002002 x23002003 x23002004 x23002005 x23002006 x23002007))
def impl_IsValidConstraint.j2 : Nat → Int → Bool → Int → ByteArray → ByteArray → Int → ByteArray → List (S42) → List Int → Int → Option (Bool)
 | 0, _, _, _, _, _, _, _, _, _, _ => none
 | k + 1, x18, x35, x23002000, x23002001, x23002002, x23002003, x23002004, x23002005, x23002006, x23002007 => if x35 = true then ((impl_IsTerm.f k x23002001).bind fun t23005 => (if t23005 = true then (if x23002002.toList = ([] : List UInt8) then ((impl_IsValidRegex.f k x23002003 x23002004 x23002005).bind fun t23006 => (some t23006)) else (some false)) else (some false))) else (if x18 = 5 then (if x23002001.toList = ([] : List UInt8) then (if x23002002.toList = ([] : List UInt8) then ((impl_isZeroRegex.f x23002003 x23002004 x23002005).bind fun t23007 => (if t23007 = true then (if (x23002006.length : Int) = 3 then ((impl_within.f x23002007 (-99) 99).bind fun t23008 => (if t23008 = true then ((slices_ContainsFunc_int_int_97.f k x23002006).bind fun t23009 => (some (!t23009))) else (some false))) else (some false)) else (some false))) else (some false)) else (some false)) else (some false))
end
def impl_IsValidConstraint.f (k : Nat) (a0_0 : Int) (a0_1 : ByteArray) (a0_2 : ByteArray) (a0_3 : Int) (a0_4 : ByteArray) (l0_5 : List (S42)) (l0_6 : List Int) (a0_7 : Int) : Option (Bool) := if a0_0 = 5 then (impl_IsValidConstraint.j0 k false a0_0 a0_1 a0_2 a0_3 a0_4 l0_5 l0_6 a0_7) else (if (l0_6.length : Int) = 0 then (impl_IsValidConstraint.j0 k (a0_7 != 0) a0_0 a0_1 a0_2 a0_3 a0_4 l0_5 l0_6 a0_7) else (impl_IsValidConstraint.j0 k true a0_0 a0_1 a0_2 a0_3 a0_4 l0_5 l0_6 a0_7))
theorem impl_IsValidConstraint.mono_l : ∀ k, (∀ y0 y1 y2 y3 y4 y5 y6 y7 y8, LeO (impl_IsValidConstraint.j0 k y0 y1 y2 y3 y4 y5 y6 y7 y8) (impl_IsValidConstraint.j0 (k + 1) y0 y1 y2 y3 y4 y5 y6 y7 y8)) ∧ (∀ y0 y1 y2 y3 y4 y5 y6 y7 y8 y9, LeO (impl_IsValidConstraint.j1 k y0 y1 y2 y3 y4 y5 y6 y7 y8 y9) (impl_IsValidConstraint.j1 (k + 1) y0 y1 y2 y3 y4 y5 y6 y7 y8 y9)) ∧ (∀ y0 y1 y2 y3 y4 y5 y6 y7 y8 y9, LeO (impl_IsValidConstraint.j2 k y0 y1 y2 y3 y4 y5 y6 y7 y8 y9) (impl_IsValidConstraint.j2 (k + 1) y0 y1 y2 y3 y4 y5 y6 y7 y8 y9))
 | 0 => ⟨fun _ _ _ _ _ _ _ _ _ r h => by simp [impl_IsValidConstraint.j0] at h, fun _ _ _ _ _ _ _ _ _ _ r h => by simp [impl_IsValidConstraint.j1] at h, fun _ _ _ _ _ _ _ _ _ _ r h => by simp [impl_IsValidConstraint.j2] at h⟩
 | k + 1 => by
  obtain ⟨ih0, ih1, ih2⟩ := impl_IsValidConstraint.mono_l k
  refine ⟨?_, ?_, ?_⟩
  ·intro y0 y1 y2 y3 y4 y5 y6 y7 y8
   unfold impl_IsValidConstraint.j0
   repeat' first
   | (with_reducible exact ih0 _ _ _ _ _ _ _ _ _)
   | (with_reducible exact ih1 _ _ _ _ _ _ _ _ _ _)
   | (with_reducible exact ih2 _ _ _ _ _ _ _ _ _ _)
   | (with_reducible exact impl_IsTerm.mono _ _)
   | (with_reducible exact impl_IsValidRegex.mono _ _ _ _)
   | (with_reducible exact slices_ContainsFunc_int_int_97.mono _ _)
   | (with_reducible exact LeO.refl _)
   | (with_reducible exact LeO.none _)
   | (with_reducible refine LeO.ite ?_ ?_)
   | (with_reducible refine LeO.bind ?_ (fun _ => ?_))
  ·intro y0 y1 y2 y3 y4 y5 y6 y7 y8 y9
   unfold impl_IsValidConstraint.j1
   repeat' first
   | (with_reducible exact ih0 _ _ _ _ _ _ _ _ _)
   | (with_reducible exact ih1 _ _ _ _ _ _ _ _ _ _)
   | (with_reducible exact ih2 _ _ _ _ _ _ _ _ _ _)
   | (with_reducible exact impl_IsTerm.mono _ _)
   | (with_reducible exact impl_IsValidRegex.mono _ _ _ _)
   | (with_reducible exact slices_ContainsFunc_int_int_97.mono _ _)
   | (with_reducible exact LeO.refl _)
   | (with_reducible exact LeO.none _)
   | (with_reducible refine LeO.ite ?_ ?_)
   | (with_reducible refine LeO.bind ?_ (fun _ => ?_))
  ·intro y0 y1 y2 y3 y4 y5 y6 y7 y8 y9
   unfold impl_IsValidConstraint.j2
   repeat' first
   | (with_reducible exact ih0 _ _ _ _ _ _ _ _ _)
   | (with_reducible exact ih1 _ _ _ _ _ _ _ _ _ _)
   | (with_reducible exact ih2 _ _ _ _ _ _ _ _ _ _)
   | (with_reducible exact impl_IsTerm.mono _ _)
   | (with_reducible exact impl_IsValidRegex.mono _ _ _ _)
   | (with_reducible exact slices_ContainsFunc_int_int_97.mono _ _)
   | (with_reducible exact LeO.refl _)
   | (with_reducible exact LeO.none _)
   | (with_reducible refine LeO.ite ?_ ?_)
   | (with_reducible refine LeO.bind ?_ (fun _ => ?_))
theorem impl_IsValidConstraint.mono : ∀ a0 a1 a2 a3 a4 a5 a6 a7 k, LeO (impl_IsValidConstraint.f k a0 a1 a2 a3 a4 a5 a6 a7) (impl_IsValidConstraint.f (k + 1) a0 a1 a2 a3 a4 a5 a6 a7) := by
 intro a0 a1 a2 a3 a4 a5 a6 a7 k
 obtain ⟨ih0, ih1, ih2⟩ := impl_IsValidConstraint.mono_l k
 unfold impl_IsValidConstraint.f
 repeat' first
   | (with_reducible exact ih0 _ _ _ _ _ _ _ _ _)
   | (with_reducible exact ih1 _ _ _ _ _ _ _ _ _ _)
   | (with_reducible exact ih2 _ _ _ _ _ _ _ _ _ _)
   | (with_reducible exact impl_IsTerm.mono _ _)
   | (with_reducible exact impl_IsValidRegex.mono _ _ _ _)
   | (with_reducible exact slices_ContainsFunc_int_int_97.mono _ _)
   | (with_reducible exact LeO.refl _)
   | (with_reducible exact LeO.none _)
   | (with_reducible refine LeO.ite ?_ ?_)
   | (with_reducible refine LeO.bind ?_ (fun _ => ?_))
theorem impl_IsValidConstraint.calls (k : Nat) (a0_0 : Int) (a0_1 : ByteArray) (a0_2 : ByteArray) (a0_3 : Int) (a0_4 : ByteArray) (A0_5 : Option Addr) (c0_5 : Nat) (l0_5 : List (S42)) (A0_6 : Option Addr) (c0_6 : Nat) (l0_6 : List Int) (a0_7 : Int) (r : Bool) (w : World) (hr0_5 : Kd.C k42 w A0_5 l0_5.length l0_5) (hc0_5 : l0_5.length ≤ c0_5) (hr0_6 : Kd.C (Kd.int .i64) w A0_6 l0_6.length l0_6) (hc0_6 : l0_6.length ≤ c0_6) (h : impl_IsValidConstraint.f k a0_0 a0_1 a0_2 a0_3 a0_4 l0_5 l0_6 a0_7 = some r) :
  Calls Try.prog 23 #[.agg #[.int .i64 a0_0, .string a0_1, .string a0_2, .int .i64 a0_3, .string a0_4, .slice A0_5 l0_5.length c0_5, .slice A0_6 l0_6.length c0_6, .int .i64 a0_7]] w fun e w' => e = .returned (.bool r) ∧ Below w.heap.size w w' := by
 have hu44 := Try.underlying44
 have hu42 := Try.underlying42
 have HR0_5 := Aside0.mk hr0_5
 have HC0_5 := Aside0.mk hc0_5
 clear hr0_5 hc0_5
 have HR0_6 := Aside0.mk hr0_6
 have HC0_6 := Aside0.mk hc0_6
 clear hr0_6 hc0_6
 have HB := Aside0.mk (Below.refl w.heap.size w)
 have H : (if a0_0 = 5 then (impl_IsValidConstraint.j0 k false a0_0 a0_1 a0_2 a0_3 a0_4 l0_5 l0_6 a0_7) else (if (l0_6.length : Int) = 0 then (impl_IsValidConstraint.j0 k (a0_7 != 0) a0_0 a0_1 a0_2 a0_3 a0_4 l0_5 l0_6 a0_7) else (impl_IsValidConstraint.j0 k true a0_0 a0_1 a0_2 a0_3 a0_4 l0_5 l0_6 a0_7))) = some r := h
 clear h
 have HC2 := Aside0.mk H
 clear H
 go_enter Try.func23, Try.ntmps23
 go_upto_region 1 with (first | ((with_reducible refine gate_dst (N := 1) rfl ?_); (try (refine gate_guard (by rfl) ?_; dsimp only)); refine box_event ?hg (N := 1) ?hd (cs := #[.int .i64 a0_0, .string a0_1, .string a0_2, .int .i64 a0_3, .string a0_4, .slice A0_5 l0_5.length c0_5, .slice A0_6 l0_6.length c0_6, .int .i64 a0_7]) (t := 44) ?hr ?_; (case hd => rfl); (case hg => rfl); (case hr => first | (go_simp; done) | (go_simp; rfl)); intro gb23001 hg w3 hbox hb; have n0_ := Aside0.mk (below_step (by repeat (first | (with_reducible first | exact HB.out | apply below_alloc | apply pw_below_drewN | apply below_drew1) | exact HB.out)) hb); have n1_ := Aside0.mk (hbox); have n2_ := Aside0.mk ((by rw [hg]; exact (below_size (by repeat (first | (with_reducible first | exact HB.out | apply below_alloc | apply pw_below_drewN | apply below_drew1) | exact HB.out))) : w.heap.size ≤ gb23001)); have n3_ := Aside0.mk ((by rw [hg]; exact (below_size (by repeat (first | (with_reducible first | exact HB.out | apply below_alloc | apply pw_below_drewN | apply below_drew1) | exact HB.out))) : w.heap.size ≤ gb23001)); clear HB; have HB := n0_; have BK23001 := n1_; have GW23001 := n2_; have GE23001 := n3_; clear n0_ n1_ n2_ n3_; clear hb hbox hg))
 (try simp only [Act.put, List.setIfInBounds_toArray, List.set_cons_zero, List.set_cons_succ])
 go_cut [16] (fun v16 wc => ∃ (kq : Nat) (x16_1 : Bool), v16 = .bool x16_1 ∧ Aside0 (impl_IsValidConstraint.j0 kq x16_1 a0_0 a0_1 a0_2 a0_3 a0_4 l0_5 l0_6 a0_7 = some r) ∧ Aside0 (kq ≤ k) ∧ Aside0 (wc.heap[gb23001]? = some (.cells #[.int .i64 a0_0, .string a0_1, .string a0_2, .int .i64 a0_3, .string a0_4, (.slice A0_5 l0_5.length c0_5), (.slice A0_6 l0_6.length c0_6), .int .i64 a0_7] 44 (0, 0))) ∧ Aside0 (Below w.heap.size w wc))
 case first =>
  have H := HC2.out
  clear HC2
  by_cases c4 : a0_0 = 5
  ·rw [if_pos c4] at H
   have c4b0 : (a0_0 == 5) = true := beq_iff_eq.mpr c4
   have c4b1 : (a0_0 != 5) = false := bne_eq_false_iff_eq.mpr c4
   clear c4
   (first | rw [c4b0] | (simp only [i64_w, i32_w]; rw [c4b0]) | skip)
   have H' := Aside0.mk H
   clear H
   have hcz5_0 : w3.cell? ⟨gb23001, 0, none⟩ = some (.int .i64 a0_0) := (blk_cell BK23001.out 0).trans rfl
   have hcz5_1 : w3.cell? ⟨gb23001, 1, none⟩ = some (.string a0_1) := (blk_cell BK23001.out 1).trans rfl
   have hcz5_2 : w3.cell? ⟨gb23001, 2, none⟩ = some (.string a0_2) := (blk_cell BK23001.out 2).trans rfl
   have hcz5_3 : w3.cell? ⟨gb23001, 3, none⟩ = some (.int .i64 a0_3) := (blk_cell BK23001.out 3).trans rfl
   have hcz5_4 : w3.cell? ⟨gb23001, 4, none⟩ = some (.string a0_4) := (blk_cell BK23001.out 4).trans rfl
   have hcz5_5 : w3.cell? ⟨gb23001, 5, none⟩ = some (.slice A0_5 l0_5.length c0_5) := (blk_cell BK23001.out 5).trans rfl
   have hcz5_6 : w3.cell? ⟨gb23001, 6, none⟩ = some (.slice A0_6 l0_6.length c0_6) := (blk_cell BK23001.out 6).trans rfl
   have hcz5_7 : w3.cell? ⟨gb23001, 7, none⟩ = some (.int .i64 a0_7) := (blk_cell BK23001.out 7).trans rfl
   have hfz5_0 := blk_frozen BK23001.out 0
   have hfz5_1 := blk_frozen BK23001.out 1
   have hfz5_2 := blk_frozen BK23001.out 2
   have hfz5_3 := blk_frozen BK23001.out 3
   have hfz5_4 := blk_frozen BK23001.out 4
   have hfz5_5 := blk_frozen BK23001.out 5
   have hfz5_6 := blk_frozen BK23001.out 6
   have hfz5_7 := blk_frozen BK23001.out 7
   go_wp2
   go_meet
   case rel => exact ⟨_, (false), (by first | rfl | (simp; done) | (simp [*]; done)), H', ⟨by first | omega | exact Nat.le_refl _⟩, ⟨by (with_reducible repeat (first | refine blk_drewN ?_ _ | refine blk_drew ?_ | refine blk_alloc ?_ _)); exact BK23001.out⟩, ⟨by repeat (first | (with_reducible first | exact HB.out | apply below_alloc | apply pw_below_drewN | apply below_drew1 | refine below_set ?_ GE23001.out) | exact HB.out)⟩⟩
  ·rw [if_neg c4] at H
   have c4b0 : (a0_0 == 5) = false := beq_eq_false_iff_ne.mpr c4
   have c4b1 : (a0_0 != 5) = true := bne_iff_ne.mpr c4
   (first | rw [c4b0] | (simp only [i64_w, i32_w]; rw [c4b0]) | skip)
   by_cases c6 : (l0_6.length : Int) = 0
   ·rw [if_pos c6] at H
    have c6b0 : ((l0_6.length : Int) == 0) = true := beq_iff_eq.mpr c6
    have c6b1 : ((l0_6.length : Int) != 0) = false := bne_eq_false_iff_eq.mpr c6
    clear c6
    have H' := Aside0.mk H
    clear H
    have hcz7_0 : w3.cell? ⟨gb23001, 0, none⟩ = some (.int .i64 a0_0) := (blk_cell BK23001.out 0).trans rfl
    have hcz7_1 : w3.cell? ⟨gb23001, 1, none⟩ = some (.string a0_1) := (blk_cell BK23001.out 1).trans rfl
    have hcz7_2 : w3.cell? ⟨gb23001, 2, none⟩ = some (.string a0_2) := (blk_cell BK23001.out 2).trans rfl
    have hcz7_3 : w3.cell? ⟨gb23001, 3, none⟩ = some (.int .i64 a0_3) := (blk_cell BK23001.out 3).trans rfl
    have hcz7_4 : w3.cell? ⟨gb23001, 4, none⟩ = some (.string a0_4) := (blk_cell BK23001.out 4).trans rfl
    have hcz7_5 : w3.cell? ⟨gb23001, 5, none⟩ = some (.slice A0_5 l0_5.length c0_5) := (blk_cell BK23001.out 5).trans rfl
    have hcz7_6 : w3.cell? ⟨gb23001, 6, none⟩ = some (.slice A0_6 l0_6.length c0_6) := (blk_cell BK23001.out 6).trans rfl
    have hcz7_7 : w3.cell? ⟨gb23001, 7, none⟩ = some (.int .i64 a0_7) := (blk_cell BK23001.out 7).trans rfl
    have hfz7_0 := blk_frozen BK23001.out 0
    have hfz7_1 := blk_frozen BK23001.out 1
    have hfz7_2 := blk_frozen BK23001.out 2
    have hfz7_3 := blk_frozen BK23001.out 3
    have hfz7_4 := blk_frozen BK23001.out 4
    have hfz7_5 := blk_frozen BK23001.out 5
    have hfz7_6 := blk_frozen BK23001.out 6
    have hfz7_7 := blk_frozen BK23001.out 7
    go_wp2
    go_meet
    case rel => exact ⟨_, ((a0_7 != 0)), (by first | rfl | (simp; done) | (simp [*]; done)), H', ⟨by first | omega | exact Nat.le_refl _⟩, ⟨by (with_reducible repeat (first | refine blk_drewN ?_ _ | refine blk_drew ?_ | refine blk_alloc ?_ _)); exact BK23001.out⟩, ⟨by repeat (first | (with_reducible first | exact HB.out | apply below_alloc | apply pw_below_drewN | apply below_drew1 | refine below_set ?_ GE23001.out) | exact HB.out)⟩⟩
   ·rw [if_neg c6] at H
    have c6b0 : ((l0_6.length : Int) == 0) = false := beq_eq_false_iff_ne.mpr c6
    have c6b1 : ((l0_6.length : Int) != 0) = true := bne_iff_ne.mpr c6
    have c6b2 : ¬ (l0_6 = []) := fun h_ => c6 (by rw [h_]; rfl)
    have H' := Aside0.mk H
    clear H
    have hcz8_0 : w3.cell? ⟨gb23001, 0, none⟩ = some (.int .i64 a0_0) := (blk_cell BK23001.out 0).trans rfl
    have hcz8_1 : w3.cell? ⟨gb23001, 1, none⟩ = some (.string a0_1) := (blk_cell BK23001.out 1).trans rfl
    have hcz8_2 : w3.cell? ⟨gb23001, 2, none⟩ = some (.string a0_2) := (blk_cell BK23001.out 2).trans rfl
    have hcz8_3 : w3.cell? ⟨gb23001, 3, none⟩ = some (.int .i64 a0_3) := (blk_cell BK23001.out 3).trans rfl
    have hcz8_4 : w3.cell? ⟨gb23001, 4, none⟩ = some (.string a0_4) := (blk_cell BK23001.out 4).trans rfl
    have hcz8_5 : w3.cell? ⟨gb23001, 5, none⟩ = some (.slice A0_5 l0_5.length c0_5) := (blk_cell BK23001.out 5).trans rfl
    have hcz8_6 : w3.cell? ⟨gb23001, 6, none⟩ = some (.slice A0_6 l0_6.length c0_6) := (blk_cell BK23001.out 6).trans rfl
    have hcz8_7 : w3.cell? ⟨gb23001, 7, none⟩ = some (.int .i64 a0_7) := (blk_cell BK23001.out 7).trans rfl
    have hfz8_0 := blk_frozen BK23001.out 0
    have hfz8_1 := blk_frozen BK23001.out 1
    have hfz8_2 := blk_frozen BK23001.out 2
    have hfz8_3 := blk_frozen BK23001.out 3
    have hfz8_4 := blk_frozen BK23001.out 4
    have hfz8_5 := blk_frozen BK23001.out 5
    have hfz8_6 := blk_frozen BK23001.out 6
    have hfz8_7 := blk_frozen BK23001.out 7
    go_wp2
    go_meet
    case rel => exact ⟨_, (true), (by first | rfl | (simp; done) | (simp [*]; done)), H', ⟨by first | omega | exact Nat.le_refl _⟩, ⟨by (with_reducible repeat (first | refine blk_drewN ?_ _ | refine blk_drew ?_ | refine blk_alloc ?_ _)); exact BK23001.out⟩, ⟨by repeat (first | (with_reducible first | exact HB.out | apply below_alloc | apply pw_below_drewN | apply below_drew1 | refine below_set ?_ GE23001.out) | exact HB.out)⟩⟩
 case rest =>
  clear HC2
  try clear c2
  try clear p2
  try clear c4
  try clear c4b0
  try clear c4b1
  try clear c6
  try clear c6b0
  try clear c6b1
  try clear c6b2
  try clear hcz5_0
  try clear hcz5_1
  try clear hcz5_2
  try clear hcz5_3
  try clear hcz5_4
  try clear hcz5_5
  try clear hcz5_6
  try clear hcz5_7
  try clear hcz7_0
  try clear hcz7_1
  try clear hcz7_2
  try clear hcz7_3
  try clear hcz7_4
  try clear hcz7_5
  try clear hcz7_6
  try clear hcz7_7
  try clear hcz8_0
  try clear hcz8_1
  try clear hcz8_2
  try clear hcz8_3
  try clear hcz8_4
  try clear hcz8_5
  try clear hcz8_6
  try clear hcz8_7
  try clear hfz5_0
  try clear hfz5_1
  try clear hfz5_2
  try clear hfz5_3
  try clear hfz5_4
  try clear hfz5_5
  try clear hfz5_6
  try clear hfz5_7
  try clear hfz7_0
  try clear hfz7_1
  try clear hfz7_2
  try clear hfz7_3
  try clear hfz7_4
  try clear hfz7_5
  try clear hfz7_6
  try clear hfz7_7
  try clear hfz8_0
  try clear hfz8_1
  try clear hfz8_2
  try clear hfz8_3
  try clear hfz8_4
  try clear hfz8_5
  try clear hfz8_6
  try clear hfz8_7
  obtain ⟨kq, x16_1, rfl, HA, HJ1, BK23001, HB⟩ := hcut
  cases kq with
  | zero => exact absurd HA.out (by simp [impl_IsValidConstraint.j0])
  | succ kj1 =>
   have H := HA.out
   clear HA
   simp only [impl_IsValidConstraint.j0] at H
   by_cases c9 : x16_1 = true
   ·subst c9
    have H1 : (some false) = some r := by rw [if_pos rfl] at H; exact H
    clear H
    have H := H1
    clear H1
    obtain rfl := Option.some.inj H
    go_wp2
    go_ret
    exact ⟨by first | rfl | (simp [errW_none, errW_some] <;> rfl) | (simp [*, errW_none, errW_some] <;> rfl), by repeat (first | (with_reducible first | exact HB.out | apply below_alloc | apply pw_below_drewN | apply below_drew1 | refine below_set ?_ GE23001.out) | exact HB.out)⟩
   ·replace c9 := Bool.eq_false_iff.mpr c9
    subst c9
    have H1 : (if a0_0 = 1 then (impl_IsValidConstraint.j1 kj1 a0_0 (a0_0 == 1) a0_0 a0_1 a0_2 a0_3 a0_4 l0_5 l0_6 a0_7) else (impl_IsValidConstraint.j1 kj1 a0_0 (a0_0 == 2) a0_0 a0_1 a0_2 a0_3 a0_4 l0_5 l0_6 a0_7)) = some r := by rw [if_neg (show ¬ (false = true) by decide)] at H; exact H
    clear H
    have H := H1
    clear H1
    have HC10 := Aside0.mk H
    clear H
    have hcz11_0 : wc.cell? ⟨gb23001, 0, none⟩ = some (.int .i64 a0_0) := (blk_cell BK23001.out 0).trans rfl
    have hcz11_1 : wc.cell? ⟨gb23001, 1, none⟩ = some (.string a0_1) := (blk_cell BK23001.out 1).trans rfl
    have hcz11_2 : wc.cell? ⟨gb23001, 2, none⟩ = some (.string a0_2) := (blk_cell BK23001.out 2).trans rfl
    have hcz11_3 : wc.cell? ⟨gb23001, 3, none⟩ = some (.int .i64 a0_3) := (blk_cell BK23001.out 3).trans rfl
    have hcz11_4 : wc.cell? ⟨gb23001, 4, none⟩ = some (.string a0_4) := (blk_cell BK23001.out 4).trans rfl
    have hcz11_5 : wc.cell? ⟨gb23001, 5, none⟩ = some (.slice A0_5 l0_5.length c0_5) := (blk_cell BK23001.out 5).trans rfl
    have hcz11_6 : wc.cell? ⟨gb23001, 6, none⟩ = some (.slice A0_6 l0_6.length c0_6) := (blk_cell BK23001.out 6).trans rfl
    have hcz11_7 : wc.cell? ⟨gb23001, 7, none⟩ = some (.int .i64 a0_7) := (blk_cell BK23001.out 7).trans rfl
    have hfz11_0 := blk_frozen BK23001.out 0
    have hfz11_1 := blk_frozen BK23001.out 1
    have hfz11_2 := blk_frozen BK23001.out 2
    have hfz11_3 := blk_frozen BK23001.out 3
    have hfz11_4 := blk_frozen BK23001.out 4
    have hfz11_5 := blk_frozen BK23001.out 5
    have hfz11_6 := blk_frozen BK23001.out 6
    have hfz11_7 := blk_frozen BK23001.out 7
    go_upto_if 19 with (fail)
    go_cut [19] (fun v19 wc => ∃ (kq : Nat) (x19_9 : Bool), v19 = .bool x19_9 ∧ Aside0 (impl_IsValidConstraint.j1 kq a0_0 x19_9 a0_0 a0_1 a0_2 a0_3 a0_4 l0_5 l0_6 a0_7 = some r) ∧ Aside0 (kq ≤ kj1) ∧ Aside0 (wc.heap[gb23001]? = some (.cells #[.int .i64 a0_0, .string a0_1, .string a0_2, .int .i64 a0_3, .string a0_4, (.slice A0_5 l0_5.length c0_5), (.slice A0_6 l0_6.length c0_6), .int .i64 a0_7] 44 (0, 0))) ∧ Aside0 (Below w.heap.size w wc))
    case first =>
     have H := HC10.out
     clear HC10
     by_cases c12 : a0_0 = 1
     ·rw [if_pos c12] at H
      have c12b0 : (a0_0 == 1) = true := beq_iff_eq.mpr c12
      have c12b1 : (a0_0 != 1) = false := bne_eq_false_iff_eq.mpr c12
      clear c12
      (first | rw [c12b0] | (simp only [i64_w, i32_w]; rw [c12b0]) | skip)
      have H' := Aside0.mk H
      clear H
      go_wp2
      go_meet
      case rel => exact ⟨_, ((a0_0 == 1)), (by first | rfl | (simp; done) | (simp [*]; done)), H', ⟨by have := HJ1.out; first | omega | exact Nat.le_refl _⟩, ⟨by (with_reducible repeat (first | refine blk_drewN ?_ _ | refine blk_drew ?_ | refine blk_alloc ?_ _)); exact BK23001.out⟩, ⟨by repeat (first | (with_reducible first | exact HB.out | apply below_alloc | apply pw_below_drewN | apply below_drew1 | refine below_set ?_ GE23001.out) | exact HB.out)⟩⟩
     ·rw [if_neg c12] at H
      have c12b0 : (a0_0 == 1) = false := beq_eq_false_iff_ne.mpr c12
      have c12b1 : (a0_0 != 1) = true := bne_iff_ne.mpr c12
      (first | rw [c12b0] | (simp only [i64_w, i32_w]; rw [c12b0]) | skip)
      have H' := Aside0.mk H
      clear H
      go_wp2
      go_meet
      case rel => exact ⟨_, ((a0_0 == 2)), (by first | rfl | (simp; done) | (simp [*]; done)), H', ⟨by have := HJ1.out; first | omega | exact Nat.le_refl _⟩, ⟨by (with_reducible repeat (first | refine blk_drewN ?_ _ | refine blk_drew ?_ | refine blk_alloc ?_ _)); exact BK23001.out⟩, ⟨by repeat (first | (with_reducible first | exact HB.out | apply below_alloc | apply pw_below_drewN | apply below_drew1 | refine below_set ?_ GE23001.out) | exact HB.out)⟩⟩
    case rest =>
     clear HC10
     try clear c1
     try clear c2
     try clear p2
     try clear c4
     try clear c4b0
     try clear c4b1
     try clear c6
     try clear c6b0
     try clear c6b1
     try clear c6b2
     try clear c9
     try clear c12
     try clear c12b0
     try clear c12b1
     try clear hcz11_0
     try clear hcz11_1
     try clear hcz11_2
     try clear hcz11_3
     try clear hcz11_4
     try clear hcz11_5
     try clear hcz11_6
     try clear hcz11_7
     try clear hcz5_0
     try clear hcz5_1
     try clear hcz5_2
     try clear hcz5_3
     try clear hcz5_4
     try clear hcz5_5
     try clear hcz5_6
     try clear hcz5_7
     try clear hcz7_0
     try clear hcz7_1
     try clear hcz7_2
     try clear hcz7_3
     try clear hcz7_4
     try clear hcz7_5
     try clear hcz7_6
     try clear hcz7_7
     try clear hcz8_0
     try clear hcz8_1
     try clear hcz8_2
     try clear hcz8_3
     try clear hcz8_4
     try clear hcz8_5
     try clear hcz8_6
     try clear hcz8_7
     try clear hfz11_0
     try clear hfz11_1
     try clear hfz11_2
     try clear hfz11_3
     try clear hfz11_4
     try clear hfz11_5
     try clear hfz11_6
     try clear hfz11_7
     try clear hfz5_0
     try clear hfz5_1
     try clear hfz5_2
     try clear hfz5_3
     try clear hfz5_4
     try clear hfz5_5
     try clear hfz5_6
     try clear hfz5_7
     try clear hfz7_0
     try clear hfz7_1
     try clear hfz7_2
     try clear hfz7_3
     try clear hfz7_4
     try clear hfz7_5
     try clear hfz7_6
     try clear hfz7_7
     try clear hfz8_0
     try clear hfz8_1
     try clear hfz8_2
     try clear hfz8_3
     try clear hfz8_4
     try clear hfz8_5
     try clear hfz8_6
     try clear hfz8_7
     try clear p2
     obtain ⟨kq, x19_9, rfl, HA, HJ9, BK23001, HB⟩ := hcut
     cases kq with
     | zero => exact absurd HA.out (by simp [impl_IsValidConstraint.j1])
     | succ kj9 =>
      have H := HA.out
      clear HA
      simp only [impl_IsValidConstraint.j1] at H
      by_cases c13 : x19_9 = true
      ·subst c13
       have H1 : ((impl_IsTerm.f kj9 a0_1).bind fun t23002 => (if t23002 = true then ((impl_IsTerm.f kj9 a0_2).bind fun t23003 => (if t23003 = true then ((impl_isZeroRegex.f a0_3 a0_4 l0_5).bind fun t23004 => (some t23004)) else (some false))) else (some false))) = some r := by rw [if_pos rfl] at H; exact H
       clear H
       have H := H1
       clear H1
       replace H := Option.bind_eq_some_iff.mp H
       obtain ⟨t23002, A140, H⟩ := H
       replace H : (if t23002 = true then ((impl_IsTerm.f kj9 a0_2).bind fun t23003 => (if t23003 = true then ((impl_isZeroRegex.f a0_3 a0_4 l0_5).bind fun t23004 => (some t23004)) else (some false))) else (some false)) = some r := H
       have A14 := Aside0.mk A140
       clear A140
       by_cases c15 : t23002 = true
       ·subst c15
        have H1 : ((impl_IsTerm.f kj9 a0_2).bind fun t23003 => (if t23003 = true then ((impl_isZeroRegex.f a0_3 a0_4 l0_5).bind fun t23004 => (some t23004)) else (some false))) = some r := by rw [if_pos rfl] at H; exact H
        clear H
        have H := H1
        clear H1
        replace H := Option.bind_eq_some_iff.mp H
        obtain ⟨t23003, A160, H⟩ := H
        replace H : (if t23003 = true then ((impl_isZeroRegex.f a0_3 a0_4 l0_5).bind fun t23004 => (some t23004)) else (some false)) = some r := H
        have A16 := Aside0.mk A160
        clear A160
        by_cases c17 : t23003 = true
        ·subst c17
         have H1 : ((impl_isZeroRegex.f a0_3 a0_4 l0_5).bind fun t23004 => (some t23004)) = some r := by rw [if_pos rfl] at H; exact H
         clear H
         have H := H1
         clear H1
         replace H := Option.bind_eq_some_iff.mp H
         obtain ⟨t23004, A180, H⟩ := H
         replace H : (some t23004) = some r := H
         have A18 := Aside0.mk A180
         clear A180
         obtain rfl := Option.some.inj H
         have hcz19_0 : wc.cell? ⟨gb23001, 0, none⟩ = some (.int .i64 a0_0) := (blk_cell BK23001.out 0).trans rfl
         have hcz19_1 : wc.cell? ⟨gb23001, 1, none⟩ = some (.string a0_1) := (blk_cell BK23001.out 1).trans rfl
         have hcz19_2 : wc.cell? ⟨gb23001, 2, none⟩ = some (.string a0_2) := (blk_cell BK23001.out 2).trans rfl
         have hcz19_3 : wc.cell? ⟨gb23001, 3, none⟩ = some (.int .i64 a0_3) := (blk_cell BK23001.out 3).trans rfl
         have hcz19_4 : wc.cell? ⟨gb23001, 4, none⟩ = some (.string a0_4) := (blk_cell BK23001.out 4).trans rfl
         have hcz19_5 : wc.cell? ⟨gb23001, 5, none⟩ = some (.slice A0_5 l0_5.length c0_5) := (blk_cell BK23001.out 5).trans rfl
         have hcz19_6 : wc.cell? ⟨gb23001, 6, none⟩ = some (.slice A0_6 l0_6.length c0_6) := (blk_cell BK23001.out 6).trans rfl
         have hcz19_7 : wc.cell? ⟨gb23001, 7, none⟩ = some (.int .i64 a0_7) := (blk_cell BK23001.out 7).trans rfl
         have hfz19_0 := blk_frozen BK23001.out 0
         have hfz19_1 := blk_frozen BK23001.out 1
         have hfz19_2 := blk_frozen BK23001.out 2
         have hfz19_3 := blk_frozen BK23001.out 3
         have hfz19_4 := blk_frozen BK23001.out 4
         have hfz19_5 := blk_frozen BK23001.out 5
         have hfz19_6 := blk_frozen BK23001.out 6
         have hfz19_7 := blk_frozen BK23001.out 7
         go_wp2_with (first | ((with_reducible refine gate_callee (f := 49) rfl ?_); refine goesL_ (some 24) rfl rfl Try.func49 (by kernel_rfl) rfl #[.string a0_1] rfl (by (try simp only [List.map_toArray, List.map_cons, List.map_nil]); first | done | rfl | (simp only [List.length_drop, List.length_take]; rfl)) ?_; (with_reducible refine (impl_IsTerm.calls kj9 a0_1 true _ A14.out).mono ?_); rintro e w' ⟨rfl, ⟨nd, rfl⟩⟩; refine ⟨_, rfl, ?_⟩) | (go_at_call 49; (with_reducible refine (impl_IsTerm.calls kj9 a0_2 true _ A16.out).mono ?_); rintro e w' ⟨rfl, ⟨nd, rfl⟩⟩) | (go_at_call 94; (with_reducible refine (impl_isZeroRegex.calls a0_3 a0_4 _ _ l0_5 t23004 _ ?side1 ?side2 A18.out).mono ?_); (case side1 => repeat (first | exact (Kd.C_below HR0_5.out (by repeat (first | (with_reducible first | exact HB.out | apply below_alloc | apply pw_below_drewN | apply below_drew1 | refine below_set ?_ GE23001.out) | exact HB.out))) | (with_reducible refine Kd.C_alloc ?_ _) | (with_reducible refine Kd.C_drewN ?_ _) | (with_reducible refine Kd.C_drew ?_))); (case side2 => exact HC0_5.out); rintro e w20 ⟨rfl, hb⟩; have n0_ := Aside0.mk (blk_below (g := gb23001) (o := .cells #[.int .i64 a0_0, .string a0_1, .string a0_2, .int .i64 a0_3, .string a0_4, .slice A0_5 l0_5.length c0_5, .slice A0_6 l0_6.length c0_6, .int .i64 a0_7] 44 (0, 0)) (by (with_reducible repeat (first | refine blk_drewN ?_ _ | refine blk_drew ?_ | refine blk_alloc ?_ _)); exact BK23001.out) hb); have n1_ := Aside0.mk (below_step (by repeat (first | (with_reducible first | exact HB.out | apply below_alloc | apply pw_below_drewN | apply below_drew1 | refine below_set ?_ GE23001.out) | exact HB.out)) hb); clear BK23001; clear HB; have BK23001 := n0_; have HB := n1_; clear n0_ n1_; (try clear hb); (try clear hb2); (try clear hk); (try clear hi)))
         go_ret
         exact ⟨by first | rfl | (simp [errW_none, errW_some] <;> rfl) | (simp [*, errW_none, errW_some] <;> rfl), by repeat (first | (with_reducible first | exact HB.out | apply below_alloc | apply pw_below_drewN | apply below_drew1 | refine below_set ?_ GE23001.out) | exact HB.out)⟩
        ·replace c17 := Bool.eq_false_iff.mpr c17
         subst c17
         have H1 : (some false) = some r := by rw [if_neg (show ¬ (false = true) by decide)] at H; exact H
         clear H
         have H := H1
         clear H1
         obtain rfl := Option.some.inj H
         have hcz21_0 : wc.cell? ⟨gb23001, 0, none⟩ = some (.int .i64 a0_0) := (blk_cell BK23001.out 0).trans rfl
         have hcz21_1 : wc.cell? ⟨gb23001, 1, none⟩ = some (.string a0_1) := (blk_cell BK23001.out 1).trans rfl
         have hcz21_2 : wc.cell? ⟨gb23001, 2, none⟩ = some (.string a0_2) := (blk_cell BK23001.out 2).trans rfl
         have hcz21_3 : wc.cell? ⟨gb23001, 3, none⟩ = some (.int .i64 a0_3) := (blk_cell BK23001.out 3).trans rfl
         have hcz21_4 : wc.cell? ⟨gb23001, 4, none⟩ = some (.string a0_4) := (blk_cell BK23001.out 4).trans rfl
         have hcz21_5 : wc.cell? ⟨gb23001, 5, none⟩ = some (.slice A0_5 l0_5.length c0_5) := (blk_cell BK23001.out 5).trans rfl
         have hcz21_6 : wc.cell? ⟨gb23001, 6, none⟩ = some (.slice A0_6 l0_6.length c0_6) := (blk_cell BK23001.out 6).trans rfl
         have hcz21_7 : wc.cell? ⟨gb23001, 7, none⟩ = some (.int .i64 a0_7) := (blk_cell BK23001.out 7).trans rfl
         have hfz21_0 := blk_frozen BK23001.out 0
         have hfz21_1 := blk_frozen BK23001.out 1
         have hfz21_2 := blk_frozen BK23001.out 2
         have hfz21_3 := blk_frozen BK23001.out 3
         have hfz21_4 := blk_frozen BK23001.out 4
         have hfz21_5 := blk_frozen BK23001.out 5
         have hfz21_6 := blk_frozen BK23001.out 6
         have hfz21_7 := blk_frozen BK23001.out 7
         go_wp2_with (first | ((with_reducible refine gate_callee (f := 49) rfl ?_); refine goesL_ (some 24) rfl rfl Try.func49 (by kernel_rfl) rfl #[.string a0_1] rfl (by (try simp only [List.map_toArray, List.map_cons, List.map_nil]); first | done | rfl | (simp only [List.length_drop, List.length_take]; rfl)) ?_; (with_reducible refine (impl_IsTerm.calls kj9 a0_1 true _ A14.out).mono ?_); rintro e w' ⟨rfl, ⟨nd, rfl⟩⟩; refine ⟨_, rfl, ?_⟩) | (go_at_call 49; (with_reducible refine (impl_IsTerm.calls kj9 a0_2 false _ A16.out).mono ?_); rintro e w' ⟨rfl, ⟨nd, rfl⟩⟩))
         go_ret
         exact ⟨by first | rfl | (simp [errW_none, errW_some] <;> rfl) | (simp [*, errW_none, errW_some] <;> rfl), by repeat (first | (with_reducible first | exact HB.out | apply below_alloc | apply pw_below_drewN | apply below_drew1 | refine below_set ?_ GE23001.out) | exact HB.out)⟩
       ·replace c15 := Bool.eq_false_iff.mpr c15
        subst c15
        have H1 : (some false) = some r := by rw [if_neg (show ¬ (false = true) by decide)] at H; exact H
        clear H
        have H := H1
        clear H1
        obtain rfl := Option.some.inj H
        have hcz22_0 : wc.cell? ⟨gb23001, 0, none⟩ = some (.int .i64 a0_0) := (blk_cell BK23001.out 0).trans rfl
        have hcz22_1 : wc.cell? ⟨gb23001, 1, none⟩ = some (.string a0_1) := (blk_cell BK23001.out 1).trans rfl
        have hcz22_2 : wc.cell? ⟨gb23001, 2, none⟩ = some (.string a0_2) := (blk_cell BK23001.out 2).trans rfl
        have hcz22_3 : wc.cell? ⟨gb23001, 3, none⟩ = some (.int .i64 a0_3) := (blk_cell BK23001.out 3).trans rfl
        have hcz22_4 : wc.cell? ⟨gb23001, 4, none⟩ = some (.string a0_4) := (blk_cell BK23001.out 4).trans rfl
        have hcz22_5 : wc.cell? ⟨gb23001, 5, none⟩ = some (.slice A0_5 l0_5.length c0_5) := (blk_cell BK23001.out 5).trans rfl
        have hcz22_6 : wc.cell? ⟨gb23001, 6, none⟩ = some (.slice A0_6 l0_6.length c0_6) := (blk_cell BK23001.out 6).trans rfl
        have hcz22_7 : wc.cell? ⟨gb23001, 7, none⟩ = some (.int .i64 a0_7) := (blk_cell BK23001.out 7).trans rfl
        have hfz22_0 := blk_frozen BK23001.out 0
        have hfz22_1 := blk_frozen BK23001.out 1
        have hfz22_2 := blk_frozen BK23001.out 2
        have hfz22_3 := blk_frozen BK23001.out 3
        have hfz22_4 := blk_frozen BK23001.out 4
        have hfz22_5 := blk_frozen BK23001.out 5
        have hfz22_6 := blk_frozen BK23001.out 6
        have hfz22_7 := blk_frozen BK23001.out 7
        go_wp2_with (first | ((with_reducible refine gate_callee (f := 49) rfl ?_); refine goesL_ (some 24) rfl rfl Try.func49 (by kernel_rfl) rfl #[.string a0_1] rfl (by (try simp only [List.map_toArray, List.map_cons, List.map_nil]); first | done | rfl | (simp only [List.length_drop, List.length_take]; rfl)) ?_; (with_reducible refine (impl_IsTerm.calls kj9 a0_1 false _ A14.out).mono ?_); rintro e w' ⟨rfl, ⟨nd, rfl⟩⟩; refine ⟨_, rfl, ?_⟩))
        go_ret
        exact ⟨by first | rfl | (simp [errW_none, errW_some] <;> rfl) | (simp [*, errW_none, errW_some] <;> rfl), by repeat (first | (with_reducible first | exact HB.out | apply below_alloc | apply pw_below_drewN | apply below_drew1 | refine below_set ?_ GE23001.out) | exact HB.out)⟩
      ·replace c13 := Bool.eq_false_iff.mpr c13
       subst c13
       have H1 : (if a0_0 = 3 then (impl_IsValidConstraint.j2 kj9 a0_0 (a0_0 == 3) a0_0 a0_1 a0_2 a0_3 a0_4 l0_5 l0_6 a0_7) else (impl_IsValidConstraint.j2 kj9 a0_0 (a0_0 == 4) a0_0 a0_1 a0_2 a0_3 a0_4 l0_5 l0_6 a0_7)) = some r := by rw [if_neg (show ¬ (false = true) by decide)] at H; exact H
       clear H
       have H := H1
       clear H1
       have HC23 := Aside0.mk H
       clear H
       go_upto_if 35 with (fail)
       go_cut [35] (fun v35 wc => ∃ (kq : Nat) (x35_22 : Bool), v35 = .bool x35_22 ∧ Aside0 (impl_IsValidConstraint.j2 kq a0_0 x35_22 a0_0 a0_1 a0_2 a0_3 a0_4 l0_5 l0_6 a0_7 = some r) ∧ Aside0 (kq ≤ kj9) ∧ Aside0 (wc.heap[gb23001]? = some (.cells #[.int .i64 a0_0, .string a0_1, .string a0_2, .int .i64 a0_3, .string a0_4, (.slice A0_5 l0_5.length c0_5), (.slice A0_6 l0_6.length c0_6), .int .i64 a0_7] 44 (0, 0))) ∧ Aside0 (Below w.heap.size w wc))
       case first =>
        have H := HC23.out
        clear HC23
        by_cases c24 : a0_0 = 3
        ·rw [if_pos c24] at H
         have c24b0 : (a0_0 == 3) = true := beq_iff_eq.mpr c24
         have c24b1 : (a0_0 != 3) = false := bne_eq_false_iff_eq.mpr c24
         clear c24
         (first | rw [c24b0] | (simp only [i64_w, i32_w]; rw [c24b0]) | skip)
         have H' := Aside0.mk H
         clear H
         go_wp2
         go_meet
         case rel => exact ⟨_, ((a0_0 == 3)), (by first | rfl | (simp; done) | (simp [*]; done)), H', ⟨by have := HJ1.out; have := HJ9.out; first | omega | exact Nat.le_refl _⟩, ⟨by (with_reducible repeat (first | refine blk_drewN ?_ _ | refine blk_drew ?_ | refine blk_alloc ?_ _)); exact BK23001.out⟩, ⟨by repeat (first | (with_reducible first | exact HB.out | apply below_alloc | apply pw_below_drewN | apply below_drew1 | refine below_set ?_ GE23001.out) | exact HB.out)⟩⟩
        ·rw [if_neg c24] at H
         have c24b0 : (a0_0 == 3) = false := beq_eq_false_iff_ne.mpr c24
         have c24b1 : (a0_0 != 3) = true := bne_iff_ne.mpr c24
         (first | rw [c24b0] | (simp only [i64_w, i32_w]; rw [c24b0]) | skip)
         have H' := Aside0.mk H
         clear H
         go_wp2
         go_meet
         case rel => exact ⟨_, ((a0_0 == 4)), (by first | rfl | (simp; done) | (simp [*]; done)), H', ⟨by have := HJ1.out; have := HJ9.out; first | omega | exact Nat.le_refl _⟩, ⟨by (with_reducible repeat (first | refine blk_drewN ?_ _ | refine blk_drew ?_ | refine blk_alloc ?_ _)); exact BK23001.out⟩, ⟨by repeat (first | (with_reducible first | exact HB.out | apply below_alloc | apply pw_below_drewN | apply below_drew1 | refine below_set ?_ GE23001.out) | exact HB.out)⟩⟩
       case rest =>
        clear HC23
        try clear c1
        try clear c2
        try clear p2
        try clear c4
        try clear c4b0
        try clear c4b1
        try clear c6
        try clear c6b0
        try clear c6b1
        try clear c6b2
        try clear c9
        try clear c12
        try clear c12b0
        try clear c12b1
        try clear c13
        try clear c15
        try clear c17
        try clear c23
        try clear c24
        try clear c24b0
        try clear c24b1
        try clear hcz11_0
        try clear hcz11_1
        try clear hcz11_2
        try clear hcz11_3
        try clear hcz11_4
        try clear hcz11_5
        try clear hcz11_6
        try clear hcz11_7
        try clear hcz19_0
        try clear hcz19_1
        try clear hcz19_2
        try clear hcz19_3
        try clear hcz19_4
        try clear hcz19_5
        try clear hcz19_6
        try clear hcz19_7
        try clear hcz21_0
        try clear hcz21_1
        try clear hcz21_2
        try clear hcz21_3
        try clear hcz21_4
        try clear hcz21_5
        try clear hcz21_6
        try clear hcz21_7
        try clear hcz22_0
        try clear hcz22_1
        try clear hcz22_2
        try clear hcz22_3
        try clear hcz22_4
        try clear hcz22_5
        try clear hcz22_6
        try clear hcz22_7
        try clear hcz5_0
        try clear hcz5_1
        try clear hcz5_2
        try clear hcz5_3
        try clear hcz5_4
        try clear hcz5_5
        try clear hcz5_6
        try clear hcz5_7
        try clear hcz7_0
        try clear hcz7_1
        try clear hcz7_2
        try clear hcz7_3
        try clear hcz7_4
        try clear hcz7_5
        try clear hcz7_6
        try clear hcz7_7
        try clear hcz8_0
        try clear hcz8_1
        try clear hcz8_2
        try clear hcz8_3
        try clear hcz8_4
        try clear hcz8_5
        try clear hcz8_6
        try clear hcz8_7
        try clear hfz11_0
        try clear hfz11_1
        try clear hfz11_2
        try clear hfz11_3
        try clear hfz11_4
        try clear hfz11_5
        try clear hfz11_6
        try clear hfz11_7
        try clear hfz19_0
        try clear hfz19_1
        try clear hfz19_2
        try clear hfz19_3
        try clear hfz19_4
        try clear hfz19_5
        try clear hfz19_6
        try clear hfz19_7
        try clear hfz21_0
        try clear hfz21_1
        try clear hfz21_2
        try clear hfz21_3
        try clear hfz21_4
        try clear hfz21_5
        try clear hfz21_6
        try clear hfz21_7
        try clear hfz22_0
        try clear hfz22_1
        try clear hfz22_2
        try clear hfz22_3
        try clear hfz22_4
        try clear hfz22_5
        try clear hfz22_6
        try clear hfz22_7
        try clear hfz5_0
        try clear hfz5_1
        try clear hfz5_2
        try clear hfz5_3
        try clear hfz5_4
        try clear hfz5_5
        try clear hfz5_6
        try clear hfz5_7
        try clear hfz7_0
        try clear hfz7_1
        try clear hfz7_2
        try clear hfz7_3
        try clear hfz7_4
        try clear hfz7_5
        try clear hfz7_6
        try clear hfz7_7
        try clear hfz8_0
        try clear hfz8_1
        try clear hfz8_2
        try clear hfz8_3
        try clear hfz8_4
        try clear hfz8_5
        try clear hfz8_6
        try clear hfz8_7
        try clear p2
        obtain ⟨kq, x35_22, rfl, HA, HJ22, BK23001, HB⟩ := hcut
        cases kq with
        | zero => exact absurd HA.out (by simp [impl_IsValidConstraint.j2])
        | succ kj22 =>
         have H := HA.out
         clear HA
         simp only [impl_IsValidConstraint.j2] at H
         by_cases c25 : x35_22 = true
         ·subst c25
          have H1 : ((impl_IsTerm.f kj22 a0_1).bind fun t23005 => (if t23005 = true then (if a0_2.toList = ([] : List UInt8) then ((impl_IsValidRegex.f kj22 a0_3 a0_4 l0_5).bind fun t23006 => (some t23006)) else (some false)) else (some false))) = some r := by rw [if_pos rfl] at H; exact H
          clear H
          have H := H1
          clear H1
          replace H := Option.bind_eq_some_iff.mp H
          obtain ⟨t23005, A260, H⟩ := H
          replace H : (if t23005 = true then (if a0_2.toList = ([] : List UInt8) then ((impl_IsValidRegex.f kj22 a0_3 a0_4 l0_5).bind fun t23006 => (some t23006)) else (some false)) else (some false)) = some r := H
          have A26 := Aside0.mk A260
          clear A260
          by_cases c27 : t23005 = true
          ·subst c27
           have H1 : (if a0_2.toList = ([] : List UInt8) then ((impl_IsValidRegex.f kj22 a0_3 a0_4 l0_5).bind fun t23006 => (some t23006)) else (some false)) = some r := by rw [if_pos rfl] at H; exact H
           clear H
           have H := H1
           clear H1
           by_cases c28 : a0_2.toList = ([] : List UInt8)
           ·rw [if_pos c28] at H
            have c28b0 : (a0_2.toList == ([] : List UInt8)) = true := beq_iff_eq.mpr c28
            have c28b1 : (a0_2.toList != ([] : List UInt8)) = false := bne_eq_false_iff_eq.mpr c28
            clear c28
            replace H := Option.bind_eq_some_iff.mp H
            obtain ⟨t23006, A290, H⟩ := H
            replace H : (some t23006) = some r := H
            have A29 := Aside0.mk A290
            clear A290
            obtain rfl := Option.some.inj H
            have hcz30_0 : wc.cell? ⟨gb23001, 0, none⟩ = some (.int .i64 a0_0) := (blk_cell BK23001.out 0).trans rfl
            have hcz30_1 : wc.cell? ⟨gb23001, 1, none⟩ = some (.string a0_1) := (blk_cell BK23001.out 1).trans rfl
            have hcz30_2 : wc.cell? ⟨gb23001, 2, none⟩ = some (.string a0_2) := (blk_cell BK23001.out 2).trans rfl
            have hcz30_3 : wc.cell? ⟨gb23001, 3, none⟩ = some (.int .i64 a0_3) := (blk_cell BK23001.out 3).trans rfl
            have hcz30_4 : wc.cell? ⟨gb23001, 4, none⟩ = some (.string a0_4) := (blk_cell BK23001.out 4).trans rfl
            have hcz30_5 : wc.cell? ⟨gb23001, 5, none⟩ = some (.slice A0_5 l0_5.length c0_5) := (blk_cell BK23001.out 5).trans rfl
            have hcz30_6 : wc.cell? ⟨gb23001, 6, none⟩ = some (.slice A0_6 l0_6.length c0_6) := (blk_cell BK23001.out 6).trans rfl
            have hcz30_7 : wc.cell? ⟨gb23001, 7, none⟩ = some (.int .i64 a0_7) := (blk_cell BK23001.out 7).trans rfl
            have hfz30_0 := blk_frozen BK23001.out 0
            have hfz30_1 := blk_frozen BK23001.out 1
            have hfz30_2 := blk_frozen BK23001.out 2
            have hfz30_3 := blk_frozen BK23001.out 3
            have hfz30_4 := blk_frozen BK23001.out 4
            have hfz30_5 := blk_frozen BK23001.out 5
            have hfz30_6 := blk_frozen BK23001.out 6
            have hfz30_7 := blk_frozen BK23001.out 7
            go_wp2_with (first | ((with_reducible refine gate_callee (f := 49) rfl ?_); refine goesL_ (some 40) rfl rfl Try.func49 (by kernel_rfl) rfl #[.string a0_1] rfl (by (try simp only [List.map_toArray, List.map_cons, List.map_nil]); first | done | rfl | (simp only [List.length_drop, List.length_take]; rfl)) ?_; (with_reducible refine (impl_IsTerm.calls kj22 a0_1 true _ A26.out).mono ?_); rintro e w' ⟨rfl, ⟨nd, rfl⟩⟩; refine ⟨_, rfl, ?_⟩) | (go_at_call 95; (with_reducible refine (impl_IsValidRegex.calls kj22 a0_3 a0_4 _ _ l0_5 t23006 _ ?side1 ?side2 A29.out).mono ?_); (case side1 => repeat (first | exact (Kd.C_below HR0_5.out (by repeat (first | (with_reducible first | exact HB.out | apply below_alloc | apply pw_below_drewN | apply below_drew1 | refine below_set ?_ GE23001.out) | exact HB.out))) | (with_reducible refine Kd.C_alloc ?_ _) | (with_reducible refine Kd.C_drewN ?_ _) | (with_reducible refine Kd.C_drew ?_))); (case side2 => exact HC0_5.out); rintro e w31 ⟨rfl, hb⟩; have n0_ := Aside0.mk (blk_below (g := gb23001) (o := .cells #[.int .i64 a0_0, .string a0_1, .string a0_2, .int .i64 a0_3, .string a0_4, .slice A0_5 l0_5.length c0_5, .slice A0_6 l0_6.length c0_6, .int .i64 a0_7] 44 (0, 0)) (by (with_reducible repeat (first | refine blk_drewN ?_ _ | refine blk_drew ?_ | refine blk_alloc ?_ _)); exact BK23001.out) hb); have n1_ := Aside0.mk (below_step (by repeat (first | (with_reducible first | exact HB.out | apply below_alloc | apply pw_below_drewN | apply below_drew1 | refine below_set ?_ GE23001.out) | exact HB.out)) hb); clear BK23001; clear HB; have BK23001 := n0_; have HB := n1_; clear n0_ n1_; (try clear hb); (try clear hb2); (try clear hk); (try clear hi)))
            go_ret
            exact ⟨by first | rfl | (simp [errW_none, errW_some] <;> rfl) | (simp [*, errW_none, errW_some] <;> rfl), by repeat (first | (with_reducible first | exact HB.out | apply below_alloc | apply pw_below_drewN | apply below_drew1 | refine below_set ?_ GE23001.out) | exact HB.out)⟩
           ·rw [if_neg c28] at H
            have c28b0 : (a0_2.toList == ([] : List UInt8)) = false := beq_eq_false_iff_ne.mpr c28
            have c28b1 : (a0_2.toList != ([] : List UInt8)) = true := bne_iff_ne.mpr c28
            obtain rfl := Option.some.inj H
            have hcz32_0 : wc.cell? ⟨gb23001, 0, none⟩ = some (.int .i64 a0_0) := (blk_cell BK23001.out 0).trans rfl
            have hcz32_1 : wc.cell? ⟨gb23001, 1, none⟩ = some (.string a0_1) := (blk_cell BK23001.out 1).trans rfl
            have hcz32_2 : wc.cell? ⟨gb23001, 2, none⟩ = some (.string a0_2) := (blk_cell BK23001.out 2).trans rfl
            have hcz32_3 : wc.cell? ⟨gb23001, 3, none⟩ = some (.int .i64 a0_3) := (blk_cell BK23001.out 3).trans rfl
            have hcz32_4 : wc.cell? ⟨gb23001, 4, none⟩ = some (.string a0_4) := (blk_cell BK23001.out 4).trans rfl
            have hcz32_5 : wc.cell? ⟨gb23001, 5, none⟩ = some (.slice A0_5 l0_5.length c0_5) := (blk_cell BK23001.out 5).trans rfl
            have hcz32_6 : wc.cell? ⟨gb23001, 6, none⟩ = some (.slice A0_6 l0_6.length c0_6) := (blk_cell BK23001.out 6).trans rfl
            have hcz32_7 : wc.cell? ⟨gb23001, 7, none⟩ = some (.int .i64 a0_7) := (blk_cell BK23001.out 7).trans rfl
            have hfz32_0 := blk_frozen BK23001.out 0
            have hfz32_1 := blk_frozen BK23001.out 1
            have hfz32_2 := blk_frozen BK23001.out 2
            have hfz32_3 := blk_frozen BK23001.out 3
            have hfz32_4 := blk_frozen BK23001.out 4
            have hfz32_5 := blk_frozen BK23001.out 5
            have hfz32_6 := blk_frozen BK23001.out 6
            have hfz32_7 := blk_frozen BK23001.out 7
            go_wp2_with (first | ((with_reducible refine gate_callee (f := 49) rfl ?_); refine goesL_ (some 40) rfl rfl Try.func49 (by kernel_rfl) rfl #[.string a0_1] rfl (by (try simp only [List.map_toArray, List.map_cons, List.map_nil]); first | done | rfl | (simp only [List.length_drop, List.length_take]; rfl)) ?_; (with_reducible refine (impl_IsTerm.calls kj22 a0_1 true _ A26.out).mono ?_); rintro e w' ⟨rfl, ⟨nd, rfl⟩⟩; refine ⟨_, rfl, ?_⟩))
            go_ret
            exact ⟨by first | rfl | (simp [errW_none, errW_some] <;> rfl) | (simp [*, errW_none, errW_some] <;> rfl), by repeat (first | (with_reducible first | exact HB.out | apply below_alloc | apply pw_below_drewN | apply below_drew1 | refine below_set ?_ GE23001.out) | exact HB.out)⟩
          ·replace c27 := Bool.eq_false_iff.mpr c27
           subst c27
           have H1 : (some false) = some r := by rw [if_neg (show ¬ (false = true) by decide)] at H; exact H
           clear H
           have H := H1
           clear H1
           obtain rfl := Option.some.inj H
           have hcz33_0 : wc.cell? ⟨gb23001, 0, none⟩ = some (.int .i64 a0_0) := (blk_cell BK23001.out 0).trans rfl
           have hcz33_1 : wc.cell? ⟨gb23001, 1, none⟩ = some (.string a0_1) := (blk_cell BK23001.out 1).trans rfl
           have hcz33_2 : wc.cell? ⟨gb23001, 2, none⟩ = some (.string a0_2) := (blk_cell BK23001.out 2).trans rfl
           have hcz33_3 : wc.cell? ⟨gb23001, 3, none⟩ = some (.int .i64 a0_3) := (blk_cell BK23001.out 3).trans rfl
           have hcz33_4 : wc.cell? ⟨gb23001, 4, none⟩ = some (.string a0_4) := (blk_cell BK23001.out 4).trans rfl
           have hcz33_5 : wc.cell? ⟨gb23001, 5, none⟩ = some (.slice A0_5 l0_5.length c0_5) := (blk_cell BK23001.out 5).trans rfl
           have hcz33_6 : wc.cell? ⟨gb23001, 6, none⟩ = some (.slice A0_6 l0_6.length c0_6) := (blk_cell BK23001.out 6).trans rfl
           have hcz33_7 : wc.cell? ⟨gb23001, 7, none⟩ = some (.int .i64 a0_7) := (blk_cell BK23001.out 7).trans rfl
           have hfz33_0 := blk_frozen BK23001.out 0
           have hfz33_1 := blk_frozen BK23001.out 1
           have hfz33_2 := blk_frozen BK23001.out 2
           have hfz33_3 := blk_frozen BK23001.out 3
           have hfz33_4 := blk_frozen BK23001.out 4
           have hfz33_5 := blk_frozen BK23001.out 5
           have hfz33_6 := blk_frozen BK23001.out 6
           have hfz33_7 := blk_frozen BK23001.out 7
           go_wp2_with (first | ((with_reducible refine gate_callee (f := 49) rfl ?_); refine goesL_ (some 40) rfl rfl Try.func49 (by kernel_rfl) rfl #[.string a0_1] rfl (by (try simp only [List.map_toArray, List.map_cons, List.map_nil]); first | done | rfl | (simp only [List.length_drop, List.length_take]; rfl)) ?_; (with_reducible refine (impl_IsTerm.calls kj22 a0_1 false _ A26.out).mono ?_); rintro e w' ⟨rfl, ⟨nd, rfl⟩⟩; refine ⟨_, rfl, ?_⟩))
           go_ret
           exact ⟨by first | rfl | (simp [errW_none, errW_some] <;> rfl) | (simp [*, errW_none, errW_some] <;> rfl), by repeat (first | (with_reducible first | exact HB.out | apply below_alloc | apply pw_below_drewN | apply below_drew1 | refine below_set ?_ GE23001.out) | exact HB.out)⟩
         ·replace c25 := Bool.eq_false_iff.mpr c25
          subst c25
          have H1 : (if a0_0 = 5 then (if a0_1.toList = ([] : List UInt8) then (if a0_2.toList = ([] : List UInt8) then ((impl_isZeroRegex.f a0_3 a0_4 l0_5).bind fun t23007 => (if t23007 = true then (if (l0_6.length : Int) = 3 then ((impl_within.f a0_7 (-99) 99).bind fun t23008 => (if t23008 = true then ((slices_ContainsFunc_int_int_97.f kj22 l0_6).bind fun t23009 => (some (!t23009))) else (some false))) else (some false)) else (some false))) else (some false)) else (some false)) else (some false)) = some r := by rw [if_neg (show ¬ (false = true) by decide)] at H; exact H
          clear H
          have H := H1
          clear H1
          by_cases c34 : a0_0 = 5
          ·rw [if_pos c34] at H
           have c34b0 : (a0_0 == 5) = true := beq_iff_eq.mpr c34
           have c34b1 : (a0_0 != 5) = false := bne_eq_false_iff_eq.mpr c34
           clear c34
           by_cases c35 : a0_1.toList = ([] : List UInt8)
           ·rw [if_pos c35] at H
            have c35b0 : (a0_1.toList == ([] : List UInt8)) = true := beq_iff_eq.mpr c35
            have c35b1 : (a0_1.toList != ([] : List UInt8)) = false := bne_eq_false_iff_eq.mpr c35
            clear c35
            by_cases c36 : a0_2.toList = ([] : List UInt8)
            ·rw [if_pos c36] at H
             have c36b0 : (a0_2.toList == ([] : List UInt8)) = true := beq_iff_eq.mpr c36
             have c36b1 : (a0_2.toList != ([] : List UInt8)) = false := bne_eq_false_iff_eq.mpr c36
             clear c36
             replace H := Option.bind_eq_some_iff.mp H
             obtain ⟨t23007, A370, H⟩ := H
             replace H : (if t23007 = true then (if (l0_6.length : Int) = 3 then ((impl_within.f a0_7 (-99) 99).bind fun t23008 => (if t23008 = true then ((slices_ContainsFunc_int_int_97.f kj22 l0_6).bind fun t23009 => (some (!t23009))) else (some false))) else (some false)) else (some false)) = some r := H
             have A37 := Aside0.mk A370
             clear A370
             by_cases c38 : t23007 = true
             ·subst c38
              have H1 : (if (l0_6.length : Int) = 3 then ((impl_within.f a0_7 (-99) 99).bind fun t23008 => (if t23008 = true then ((slices_ContainsFunc_int_int_97.f kj22 l0_6).bind fun t23009 => (some (!t23009))) else (some false))) else (some false)) = some r := by rw [if_pos rfl] at H; exact H
              clear H
              have H := H1
              clear H1
              by_cases c39 : (l0_6.length : Int) = 3
              ·rw [if_pos c39] at H
               have c39b0 : ((l0_6.length : Int) == 3) = true := beq_iff_eq.mpr c39
               have c39b1 : ((l0_6.length : Int) != 3) = false := bne_eq_false_iff_eq.mpr c39
               clear c39
               replace H := Option.bind_eq_some_iff.mp H
               obtain ⟨t23008, A400, H⟩ := H
               replace H : (if t23008 = true then ((slices_ContainsFunc_int_int_97.f kj22 l0_6).bind fun t23009 => (some (!t23009))) else (some false)) = some r := H
               have A40 := Aside0.mk A400
               clear A400
               by_cases c41 : t23008 = true
               ·subst c41
                have H1 : ((slices_ContainsFunc_int_int_97.f kj22 l0_6).bind fun t23009 => (some (!t23009))) = some r := by rw [if_pos rfl] at H; exact H
                clear H
                have H := H1
                clear H1
                replace H := Option.bind_eq_some_iff.mp H
                obtain ⟨t23009, A420, H⟩ := H
                replace H : (some (!t23009)) = some r := H
                have A42 := Aside0.mk A420
                clear A420
                obtain rfl := Option.some.inj H
                have hcz43_0 : wc.cell? ⟨gb23001, 0, none⟩ = some (.int .i64 a0_0) := (blk_cell BK23001.out 0).trans rfl
                have hcz43_1 : wc.cell? ⟨gb23001, 1, none⟩ = some (.string a0_1) := (blk_cell BK23001.out 1).trans rfl
                have hcz43_2 : wc.cell? ⟨gb23001, 2, none⟩ = some (.string a0_2) := (blk_cell BK23001.out 2).trans rfl
                have hcz43_3 : wc.cell? ⟨gb23001, 3, none⟩ = some (.int .i64 a0_3) := (blk_cell BK23001.out 3).trans rfl
                have hcz43_4 : wc.cell? ⟨gb23001, 4, none⟩ = some (.string a0_4) := (blk_cell BK23001.out 4).trans rfl
                have hcz43_5 : wc.cell? ⟨gb23001, 5, none⟩ = some (.slice A0_5 l0_5.length c0_5) := (blk_cell BK23001.out 5).trans rfl
                have hcz43_6 : wc.cell? ⟨gb23001, 6, none⟩ = some (.slice A0_6 l0_6.length c0_6) := (blk_cell BK23001.out 6).trans rfl
                have hcz43_7 : wc.cell? ⟨gb23001, 7, none⟩ = some (.int .i64 a0_7) := (blk_cell BK23001.out 7).trans rfl
                have hfz43_0 := blk_frozen BK23001.out 0
                have hfz43_1 := blk_frozen BK23001.out 1
                have hfz43_2 := blk_frozen BK23001.out 2
                have hfz43_3 := blk_frozen BK23001.out 3
                have hfz43_4 := blk_frozen BK23001.out 4
                have hfz43_5 := blk_frozen BK23001.out 5
                have hfz43_6 := blk_frozen BK23001.out 6
                have hfz43_7 := blk_frozen BK23001.out 7
                go_wp2_with (first | (go_at_call 94; (with_reducible refine (impl_isZeroRegex.calls a0_3 a0_4 _ _ l0_5 true _ ?side1 ?side2 A37.out).mono ?_); (case side1 => repeat (first | exact (Kd.C_below HR0_5.out HB.out) | (with_reducible refine Kd.C_alloc ?_ _) | (with_reducible refine Kd.C_drewN ?_ _) | (with_reducible refine Kd.C_drew ?_))); (case side2 => exact HC0_5.out); rintro e w44 ⟨rfl, hb⟩; have n0_ := Aside0.mk (blk_below (g := gb23001) (o := .cells #[.int .i64 a0_0, .string a0_1, .string a0_2, .int .i64 a0_3, .string a0_4, .slice A0_5 l0_5.length c0_5, .slice A0_6 l0_6.length c0_6, .int .i64 a0_7] 44 (0, 0)) (by (with_reducible repeat (first | refine blk_drewN ?_ _ | refine blk_drew ?_ | refine blk_alloc ?_ _)); exact BK23001.out) hb); have n1_ := Aside0.mk (below_step (by repeat (first | (with_reducible first | exact HB.out | apply below_alloc | apply pw_below_drewN | apply below_drew1 | refine below_set ?_ GE23001.out) | exact HB.out)) hb); clear BK23001; clear HB; have BK23001 := n0_; have HB := n1_; clear n0_ n1_; (try clear hb); (try clear hb2); (try clear hk); (try clear hi); have hcz45_0 : w44.cell? ⟨gb23001, 0, none⟩ = some (.int .i64 a0_0) := (blk_cell BK23001.out 0).trans rfl; have hcz45_1 : w44.cell? ⟨gb23001, 1, none⟩ = some (.string a0_1) := (blk_cell BK23001.out 1).trans rfl; have hcz45_2 : w44.cell? ⟨gb23001, 2, none⟩ = some (.string a0_2) := (blk_cell BK23001.out 2).trans rfl; have hcz45_3 : w44.cell? ⟨gb23001, 3, none⟩ = some (.int .i64 a0_3) := (blk_cell BK23001.out 3).trans rfl; have hcz45_4 : w44.cell? ⟨gb23001, 4, none⟩ = some (.string a0_4) := (blk_cell BK23001.out 4).trans rfl; have hcz45_5 : w44.cell? ⟨gb23001, 5, none⟩ = some (.slice A0_5 l0_5.length c0_5) := (blk_cell BK23001.out 5).trans rfl; have hcz45_6 : w44.cell? ⟨gb23001, 6, none⟩ = some (.slice A0_6 l0_6.length c0_6) := (blk_cell BK23001.out 6).trans rfl; have hcz45_7 : w44.cell? ⟨gb23001, 7, none⟩ = some (.int .i64 a0_7) := (blk_cell BK23001.out 7).trans rfl; have hfz45_0 := blk_frozen BK23001.out 0; have hfz45_1 := blk_frozen BK23001.out 1; have hfz45_2 := blk_frozen BK23001.out 2; have hfz45_3 := blk_frozen BK23001.out 3; have hfz45_4 := blk_frozen BK23001.out 4; have hfz45_5 := blk_frozen BK23001.out 5; have hfz45_6 := blk_frozen BK23001.out 6; have hfz45_7 := blk_frozen BK23001.out 7) | (go_at_call 96; (with_reducible refine (impl_within.calls a0_7 (-99) 99 true _ A40.out).mono ?_); rintro e w' ⟨rfl, ⟨nd, rfl⟩⟩) | ((with_reducible refine gate_callee (f := 97) rfl ?_); refine goesL_ (some 81) rfl rfl Try.func97 (by kernel_rfl) rfl #[.slice A0_6 l0_6.length c0_6, .func (.func 98) #[] #[]] rfl (by (try simp only [List.map_toArray, List.map_cons, List.map_nil]); first | done | rfl | (simp only [List.length_drop, List.length_take]; rfl)) ?_; (with_reducible refine (slices_ContainsFunc_int_int_97.calls kj22 _ _ l0_6 t23009 _ ?side1 ?side2 A42.out).mono ?_); (case side1 => repeat (first | exact (Kd.C_below HR0_6.out (by repeat (first | (with_reducible first | exact HB.out | apply below_alloc | apply pw_below_drewN | apply below_drew1 | refine below_set ?_ GE23001.out) | exact HB.out))) | (with_reducible refine Kd.C_alloc ?_ _) | (with_reducible refine Kd.C_drewN ?_ _) | (with_reducible refine Kd.C_drew ?_))); (case side2 => exact HC0_6.out); rintro e w' ⟨rfl, ⟨nd, rfl⟩⟩; refine ⟨_, rfl, ?_⟩))
                go_ret
                exact ⟨by first | rfl | (simp [errW_none, errW_some] <;> rfl) | (simp [*, errW_none, errW_some] <;> rfl), by repeat (first | (with_reducible first | exact HB.out | apply below_alloc | apply pw_below_drewN | apply below_drew1 | refine below_set ?_ GE23001.out) | exact HB.out)⟩
               ·replace c41 := Bool.eq_false_iff.mpr c41
                subst c41
                have H1 : (some false) = some r := by rw [if_neg (show ¬ (false = true) by decide)] at H; exact H
                clear H
                have H := H1
                clear H1
                obtain rfl := Option.some.inj H
                have hcz46_0 : wc.cell? ⟨gb23001, 0, none⟩ = some (.int .i64 a0_0) := (blk_cell BK23001.out 0).trans rfl
                have hcz46_1 : wc.cell? ⟨gb23001, 1, none⟩ = some (.string a0_1) := (blk_cell BK23001.out 1).trans rfl
                have hcz46_2 : wc.cell? ⟨gb23001, 2, none⟩ = some (.string a0_2) := (blk_cell BK23001.out 2).trans rfl
                have hcz46_3 : wc.cell? ⟨gb23001, 3, none⟩ = some (.int .i64 a0_3) := (blk_cell BK23001.out 3).trans rfl
                have hcz46_4 : wc.cell? ⟨gb23001, 4, none⟩ = some (.string a0_4) := (blk_cell BK23001.out 4).trans rfl
                have hcz46_5 : wc.cell? ⟨gb23001, 5, none⟩ = some (.slice A0_5 l0_5.length c0_5) := (blk_cell BK23001.out 5).trans rfl
                have hcz46_6 : wc.cell? ⟨gb23001, 6, none⟩ = some (.slice A0_6 l0_6.length c0_6) := (blk_cell BK23001.out 6).trans rfl
                have hcz46_7 : wc.cell? ⟨gb23001, 7, none⟩ = some (.int .i64 a0_7) := (blk_cell BK23001.out 7).trans rfl
                have hfz46_0 := blk_frozen BK23001.out 0
                have hfz46_1 := blk_frozen BK23001.out 1
                have hfz46_2 := blk_frozen BK23001.out 2
                have hfz46_3 := blk_frozen BK23001.out 3
                have hfz46_4 := blk_frozen BK23001.out 4
                have hfz46_5 := blk_frozen BK23001.out 5
                have hfz46_6 := blk_frozen BK23001.out 6
                have hfz46_7 := blk_frozen BK23001.out 7
                go_wp2_with (first | (go_at_call 94; (with_reducible refine (impl_isZeroRegex.calls a0_3 a0_4 _ _ l0_5 true _ ?side1 ?side2 A37.out).mono ?_); (case side1 => repeat (first | exact (Kd.C_below HR0_5.out HB.out) | (with_reducible refine Kd.C_alloc ?_ _) | (with_reducible refine Kd.C_drewN ?_ _) | (with_reducible refine Kd.C_drew ?_))); (case side2 => exact HC0_5.out); rintro e w47 ⟨rfl, hb⟩; have n0_ := Aside0.mk (blk_below (g := gb23001) (o := .cells #[.int .i64 a0_0, .string a0_1, .string a0_2, .int .i64 a0_3, .string a0_4, .slice A0_5 l0_5.length c0_5, .slice A0_6 l0_6.length c0_6, .int .i64 a0_7] 44 (0, 0)) (by (with_reducible repeat (first | refine blk_drewN ?_ _ | refine blk_drew ?_ | refine blk_alloc ?_ _)); exact BK23001.out) hb); have n1_ := Aside0.mk (below_step (by repeat (first | (with_reducible first | exact HB.out | apply below_alloc | apply pw_below_drewN | apply below_drew1 | refine below_set ?_ GE23001.out) | exact HB.out)) hb); clear BK23001; clear HB; have BK23001 := n0_; have HB := n1_; clear n0_ n1_; (try clear hb); (try clear hb2); (try clear hk); (try clear hi); have hcz48_0 : w47.cell? ⟨gb23001, 0, none⟩ = some (.int .i64 a0_0) := (blk_cell BK23001.out 0).trans rfl; have hcz48_1 : w47.cell? ⟨gb23001, 1, none⟩ = some (.string a0_1) := (blk_cell BK23001.out 1).trans rfl; have hcz48_2 : w47.cell? ⟨gb23001, 2, none⟩ = some (.string a0_2) := (blk_cell BK23001.out 2).trans rfl; have hcz48_3 : w47.cell? ⟨gb23001, 3, none⟩ = some (.int .i64 a0_3) := (blk_cell BK23001.out 3).trans rfl; have hcz48_4 : w47.cell? ⟨gb23001, 4, none⟩ = some (.string a0_4) := (blk_cell BK23001.out 4).trans rfl; have hcz48_5 : w47.cell? ⟨gb23001, 5, none⟩ = some (.slice A0_5 l0_5.length c0_5) := (blk_cell BK23001.out 5).trans rfl; have hcz48_6 : w47.cell? ⟨gb23001, 6, none⟩ = some (.slice A0_6 l0_6.length c0_6) := (blk_cell BK23001.out 6).trans rfl; have hcz48_7 : w47.cell? ⟨gb23001, 7, none⟩ = some (.int .i64 a0_7) := (blk_cell BK23001.out 7).trans rfl; have hfz48_0 := blk_frozen BK23001.out 0; have hfz48_1 := blk_frozen BK23001.out 1; have hfz48_2 := blk_frozen BK23001.out 2; have hfz48_3 := blk_frozen BK23001.out 3; have hfz48_4 := blk_frozen BK23001.out 4; have hfz48_5 := blk_frozen BK23001.out 5; have hfz48_6 := blk_frozen BK23001.out 6; have hfz48_7 := blk_frozen BK23001.out 7) | (go_at_call 96; (with_reducible refine (impl_within.calls a0_7 (-99) 99 false _ A40.out).mono ?_); rintro e w' ⟨rfl, ⟨nd, rfl⟩⟩))
                go_ret
                exact ⟨by first | rfl | (simp [errW_none, errW_some] <;> rfl) | (simp [*, errW_none, errW_some] <;> rfl), by repeat (first | (with_reducible first | exact HB.out | apply below_alloc | apply pw_below_drewN | apply below_drew1 | refine below_set ?_ GE23001.out) | exact HB.out)⟩
              ·rw [if_neg c39] at H
               have c39b0 : ((l0_6.length : Int) == 3) = false := beq_eq_false_iff_ne.mpr c39
               have c39b1 : ((l0_6.length : Int) != 3) = true := bne_iff_ne.mpr c39
               obtain rfl := Option.some.inj H
               have hcz49_0 : wc.cell? ⟨gb23001, 0, none⟩ = some (.int .i64 a0_0) := (blk_cell BK23001.out 0).trans rfl
               have hcz49_1 : wc.cell? ⟨gb23001, 1, none⟩ = some (.string a0_1) := (blk_cell BK23001.out 1).trans rfl
               have hcz49_2 : wc.cell? ⟨gb23001, 2, none⟩ = some (.string a0_2) := (blk_cell BK23001.out 2).trans rfl
               have hcz49_3 : wc.cell? ⟨gb23001, 3, none⟩ = some (.int .i64 a0_3) := (blk_cell BK23001.out 3).trans rfl
               have hcz49_4 : wc.cell? ⟨gb23001, 4, none⟩ = some (.string a0_4) := (blk_cell BK23001.out 4).trans rfl
               have hcz49_5 : wc.cell? ⟨gb23001, 5, none⟩ = some (.slice A0_5 l0_5.length c0_5) := (blk_cell BK23001.out 5).trans rfl
               have hcz49_6 : wc.cell? ⟨gb23001, 6, none⟩ = some (.slice A0_6 l0_6.length c0_6) := (blk_cell BK23001.out 6).trans rfl
               have hcz49_7 : wc.cell? ⟨gb23001, 7, none⟩ = some (.int .i64 a0_7) := (blk_cell BK23001.out 7).trans rfl
               have hfz49_0 := blk_frozen BK23001.out 0
               have hfz49_1 := blk_frozen BK23001.out 1
               have hfz49_2 := blk_frozen BK23001.out 2
               have hfz49_3 := blk_frozen BK23001.out 3
               have hfz49_4 := blk_frozen BK23001.out 4
               have hfz49_5 := blk_frozen BK23001.out 5
               have hfz49_6 := blk_frozen BK23001.out 6
               have hfz49_7 := blk_frozen BK23001.out 7
               go_wp2_with (first | (go_at_call 94; (with_reducible refine (impl_isZeroRegex.calls a0_3 a0_4 _ _ l0_5 true _ ?side1 ?side2 A37.out).mono ?_); (case side1 => repeat (first | exact (Kd.C_below HR0_5.out HB.out) | (with_reducible refine Kd.C_alloc ?_ _) | (with_reducible refine Kd.C_drewN ?_ _) | (with_reducible refine Kd.C_drew ?_))); (case side2 => exact HC0_5.out); rintro e w50 ⟨rfl, hb⟩; have n0_ := Aside0.mk (blk_below (g := gb23001) (o := .cells #[.int .i64 a0_0, .string a0_1, .string a0_2, .int .i64 a0_3, .string a0_4, .slice A0_5 l0_5.length c0_5, .slice A0_6 l0_6.length c0_6, .int .i64 a0_7] 44 (0, 0)) (by (with_reducible repeat (first | refine blk_drewN ?_ _ | refine blk_drew ?_ | refine blk_alloc ?_ _)); exact BK23001.out) hb); have n1_ := Aside0.mk (below_step (by repeat (first | (with_reducible first | exact HB.out | apply below_alloc | apply pw_below_drewN | apply below_drew1 | refine below_set ?_ GE23001.out) | exact HB.out)) hb); clear BK23001; clear HB; have BK23001 := n0_; have HB := n1_; clear n0_ n1_; (try clear hb); (try clear hb2); (try clear hk); (try clear hi); have hcz51_0 : w50.cell? ⟨gb23001, 0, none⟩ = some (.int .i64 a0_0) := (blk_cell BK23001.out 0).trans rfl; have hcz51_1 : w50.cell? ⟨gb23001, 1, none⟩ = some (.string a0_1) := (blk_cell BK23001.out 1).trans rfl; have hcz51_2 : w50.cell? ⟨gb23001, 2, none⟩ = some (.string a0_2) := (blk_cell BK23001.out 2).trans rfl; have hcz51_3 : w50.cell? ⟨gb23001, 3, none⟩ = some (.int .i64 a0_3) := (blk_cell BK23001.out 3).trans rfl; have hcz51_4 : w50.cell? ⟨gb23001, 4, none⟩ = some (.string a0_4) := (blk_cell BK23001.out 4).trans rfl; have hcz51_5 : w50.cell? ⟨gb23001, 5, none⟩ = some (.slice A0_5 l0_5.length c0_5) := (blk_cell BK23001.out 5).trans rfl; have hcz51_6 : w50.cell? ⟨gb23001, 6, none⟩ = some (.slice A0_6 l0_6.length c0_6) := (blk_cell BK23001.out 6).trans rfl; have hcz51_7 : w50.cell? ⟨gb23001, 7, none⟩ = some (.int .i64 a0_7) := (blk_cell BK23001.out 7).trans rfl; have hfz51_0 := blk_frozen BK23001.out 0; have hfz51_1 := blk_frozen BK23001.out 1; have hfz51_2 := blk_frozen BK23001.out 2; have hfz51_3 := blk_frozen BK23001.out 3; have hfz51_4 := blk_frozen BK23001.out 4; have hfz51_5 := blk_frozen BK23001.out 5; have hfz51_6 := blk_frozen BK23001.out 6; have hfz51_7 := blk_frozen BK23001.out 7))
               go_ret
               exact ⟨by first | rfl | (simp [errW_none, errW_some] <;> rfl) | (simp [*, errW_none, errW_some] <;> rfl), by repeat (first | (with_reducible first | exact HB.out | apply below_alloc | apply pw_below_drewN | apply below_drew1 | refine below_set ?_ GE23001.out) | exact HB.out)⟩
             ·replace c38 := Bool.eq_false_iff.mpr c38
              subst c38
              have H1 : (some false) = some r := by rw [if_neg (show ¬ (false = true) by decide)] at H; exact H
              clear H
              have H := H1
              clear H1
              obtain rfl := Option.some.inj H
              have hcz52_0 : wc.cell? ⟨gb23001, 0, none⟩ = some (.int .i64 a0_0) := (blk_cell BK23001.out 0).trans rfl
              have hcz52_1 : wc.cell? ⟨gb23001, 1, none⟩ = some (.string a0_1) := (blk_cell BK23001.out 1).trans rfl
              have hcz52_2 : wc.cell? ⟨gb23001, 2, none⟩ = some (.string a0_2) := (blk_cell BK23001.out 2).trans rfl
              have hcz52_3 : wc.cell? ⟨gb23001, 3, none⟩ = some (.int .i64 a0_3) := (blk_cell BK23001.out 3).trans rfl
              have hcz52_4 : wc.cell? ⟨gb23001, 4, none⟩ = some (.string a0_4) := (blk_cell BK23001.out 4).trans rfl
              have hcz52_5 : wc.cell? ⟨gb23001, 5, none⟩ = some (.slice A0_5 l0_5.length c0_5) := (blk_cell BK23001.out 5).trans rfl
              have hcz52_6 : wc.cell? ⟨gb23001, 6, none⟩ = some (.slice A0_6 l0_6.length c0_6) := (blk_cell BK23001.out 6).trans rfl
              have hcz52_7 : wc.cell? ⟨gb23001, 7, none⟩ = some (.int .i64 a0_7) := (blk_cell BK23001.out 7).trans rfl
              have hfz52_0 := blk_frozen BK23001.out 0
              have hfz52_1 := blk_frozen BK23001.out 1
              have hfz52_2 := blk_frozen BK23001.out 2
              have hfz52_3 := blk_frozen BK23001.out 3
              have hfz52_4 := blk_frozen BK23001.out 4
              have hfz52_5 := blk_frozen BK23001.out 5
              have hfz52_6 := blk_frozen BK23001.out 6
              have hfz52_7 := blk_frozen BK23001.out 7
              go_wp2_with (first | (go_at_call 94; (with_reducible refine (impl_isZeroRegex.calls a0_3 a0_4 _ _ l0_5 false _ ?side1 ?side2 A37.out).mono ?_); (case side1 => repeat (first | exact (Kd.C_below HR0_5.out HB.out) | (with_reducible refine Kd.C_alloc ?_ _) | (with_reducible refine Kd.C_drewN ?_ _) | (with_reducible refine Kd.C_drew ?_))); (case side2 => exact HC0_5.out); rintro e w53 ⟨rfl, hb⟩; have n0_ := Aside0.mk (blk_below (g := gb23001) (o := .cells #[.int .i64 a0_0, .string a0_1, .string a0_2, .int .i64 a0_3, .string a0_4, .slice A0_5 l0_5.length c0_5, .slice A0_6 l0_6.length c0_6, .int .i64 a0_7] 44 (0, 0)) (by (with_reducible repeat (first | refine blk_drewN ?_ _ | refine blk_drew ?_ | refine blk_alloc ?_ _)); exact BK23001.out) hb); have n1_ := Aside0.mk (below_step (by repeat (first | (with_reducible first | exact HB.out | apply below_alloc | apply pw_below_drewN | apply below_drew1 | refine below_set ?_ GE23001.out) | exact HB.out)) hb); clear BK23001; clear HB; have BK23001 := n0_; have HB := n1_; clear n0_ n1_; (try clear hb); (try clear hb2); (try clear hk); (try clear hi)))
              go_ret
              exact ⟨by first | rfl | (simp [errW_none, errW_some] <;> rfl) | (simp [*, errW_none, errW_some] <;> rfl), by repeat (first | (with_reducible first | exact HB.out | apply below_alloc | apply pw_below_drewN | apply below_drew1 | refine below_set ?_ GE23001.out) | exact HB.out)⟩
            ·rw [if_neg c36] at H
             have c36b0 : (a0_2.toList == ([] : List UInt8)) = false := beq_eq_false_iff_ne.mpr c36
             have c36b1 : (a0_2.toList != ([] : List UInt8)) = true := bne_iff_ne.mpr c36
             obtain rfl := Option.some.inj H
             have hcz54_0 : wc.cell? ⟨gb23001, 0, none⟩ = some (.int .i64 a0_0) := (blk_cell BK23001.out 0).trans rfl
             have hcz54_1 : wc.cell? ⟨gb23001, 1, none⟩ = some (.string a0_1) := (blk_cell BK23001.out 1).trans rfl
             have hcz54_2 : wc.cell? ⟨gb23001, 2, none⟩ = some (.string a0_2) := (blk_cell BK23001.out 2).trans rfl
             have hcz54_3 : wc.cell? ⟨gb23001, 3, none⟩ = some (.int .i64 a0_3) := (blk_cell BK23001.out 3).trans rfl
             have hcz54_4 : wc.cell? ⟨gb23001, 4, none⟩ = some (.string a0_4) := (blk_cell BK23001.out 4).trans rfl
             have hcz54_5 : wc.cell? ⟨gb23001, 5, none⟩ = some (.slice A0_5 l0_5.length c0_5) := (blk_cell BK23001.out 5).trans rfl
             have hcz54_6 : wc.cell? ⟨gb23001, 6, none⟩ = some (.slice A0_6 l0_6.length c0_6) := (blk_cell BK23001.out 6).trans rfl
             have hcz54_7 : wc.cell? ⟨gb23001, 7, none⟩ = some (.int .i64 a0_7) := (blk_cell BK23001.out 7).trans rfl
             have hfz54_0 := blk_frozen BK23001.out 0
             have hfz54_1 := blk_frozen BK23001.out 1
             have hfz54_2 := blk_frozen BK23001.out 2
             have hfz54_3 := blk_frozen BK23001.out 3
             have hfz54_4 := blk_frozen BK23001.out 4
             have hfz54_5 := blk_frozen BK23001.out 5
             have hfz54_6 := blk_frozen BK23001.out 6
             have hfz54_7 := blk_frozen BK23001.out 7
             go_wp2
             go_ret
             exact ⟨by first | rfl | (simp [errW_none, errW_some] <;> rfl) | (simp [*, errW_none, errW_some] <;> rfl), by repeat (first | (with_reducible first | exact HB.out | apply below_alloc | apply pw_below_drewN | apply below_drew1 | refine below_set ?_ GE23001.out) | exact HB.out)⟩
           ·rw [if_neg c35] at H
            have c35b0 : (a0_1.toList == ([] : List UInt8)) = false := beq_eq_false_iff_ne.mpr c35
            have c35b1 : (a0_1.toList != ([] : List UInt8)) = true := bne_iff_ne.mpr c35
            obtain rfl := Option.some.inj H
            have hcz55_0 : wc.cell? ⟨gb23001, 0, none⟩ = some (.int .i64 a0_0) := (blk_cell BK23001.out 0).trans rfl
            have hcz55_1 : wc.cell? ⟨gb23001, 1, none⟩ = some (.string a0_1) := (blk_cell BK23001.out 1).trans rfl
            have hcz55_2 : wc.cell? ⟨gb23001, 2, none⟩ = some (.string a0_2) := (blk_cell BK23001.out 2).trans rfl
            have hcz55_3 : wc.cell? ⟨gb23001, 3, none⟩ = some (.int .i64 a0_3) := (blk_cell BK23001.out 3).trans rfl
            have hcz55_4 : wc.cell? ⟨gb23001, 4, none⟩ = some (.string a0_4) := (blk_cell BK23001.out 4).trans rfl
            have hcz55_5 : wc.cell? ⟨gb23001, 5, none⟩ = some (.slice A0_5 l0_5.length c0_5) := (blk_cell BK23001.out 5).trans rfl
            have hcz55_6 : wc.cell? ⟨gb23001, 6, none⟩ = some (.slice A0_6 l0_6.length c0_6) := (blk_cell BK23001.out 6).trans rfl
            have hcz55_7 : wc.cell? ⟨gb23001, 7, none⟩ = some (.int .i64 a0_7) := (blk_cell BK23001.out 7).trans rfl
            have hfz55_0 := blk_frozen BK23001.out 0
            have hfz55_1 := blk_frozen BK23001.out 1
            have hfz55_2 := blk_frozen BK23001.out 2
            have hfz55_3 := blk_frozen BK23001.out 3
            have hfz55_4 := blk_frozen BK23001.out 4
            have hfz55_5 := blk_frozen BK23001.out 5
            have hfz55_6 := blk_frozen BK23001.out 6
            have hfz55_7 := blk_frozen BK23001.out 7
            go_wp2
            go_ret
            exact ⟨by first | rfl | (simp [errW_none, errW_some] <;> rfl) | (simp [*, errW_none, errW_some] <;> rfl), by repeat (first | (with_reducible first | exact HB.out | apply below_alloc | apply pw_below_drewN | apply below_drew1 | refine below_set ?_ GE23001.out) | exact HB.out)⟩
          ·rw [if_neg c34] at H
           have c34b0 : (a0_0 == 5) = false := beq_eq_false_iff_ne.mpr c34
           have c34b1 : (a0_0 != 5) = true := bne_iff_ne.mpr c34
           obtain rfl := Option.some.inj H
           go_wp2
           go_ret
           exact ⟨by first | rfl | (simp [errW_none, errW_some] <;> rfl) | (simp [*, errW_none, errW_some] <;> rfl), by repeat (first | (with_reducible first | exact HB.out | apply below_alloc | apply pw_below_drewN | apply below_drew1 | refine below_set ?_ GE23001.out) | exact HB.out)⟩
end Go.Proofs.Ytpppopdmnejcfaa.A
namespace Go.Proofs.Ytpppopdmnejcfaa.A
open Go.RowKit Go.Proofs.Ytpppopdmnejcfaa.Ext Go.Proofs.YtpppopdmnejcfaaW.PrintWords Go.Proofs.YtpppopdmnejcfaaW.PrintLast Go.Proofs.YtpppopdmnejcfaaW.PrintMore
attribute [local go_sem] max2_int min2_int max_two min_two max_three min_three max_four min_four
def impl_IsValidProblem_1.f (k : Nat) (a0_0 : Int) (a0_1 : ByteArray) (a0_2 : ByteArray) (a0_3 : Int) (a0_4 : ByteArray) (l0_5 : List (S42)) (l0_6 : List Int) (a0_7 : Int) : Option (Bool) := (impl_IsValidConstraint.f k a0_0 a0_1 a0_2 a0_3 a0_4 l0_5 l0_6 a0_7).bind fun t149002 => (some (!t149002))
theorem impl_IsValidProblem_1.mono : ∀ a0 a1 a2 a3 a4 a5 a6 a7 k, LeO (impl_IsValidProblem_1.f k a0 a1 a2 a3 a4 a5 a6 a7) (impl_IsValidProblem_1.f (k + 1) a0 a1 a2 a3 a4 a5 a6 a7) := by
 intro a0 a1 a2 a3 a4 a5 a6 a7 k
 unfold impl_IsValidProblem_1.f
 repeat' first
   | (with_reducible exact impl_IsValidConstraint.mono _ _ _ _ _ _ _ _ _)
   | (with_reducible exact LeO.refl _)
   | (with_reducible exact LeO.none _)
   | (with_reducible refine LeO.ite ?_ ?_)
   | (with_reducible refine LeO.bind ?_ (fun _ => ?_))
theorem impl_IsValidProblem_1.calls (k : Nat) (a0_0 : Int) (a0_1 : ByteArray) (a0_2 : ByteArray) (a0_3 : Int) (a0_4 : ByteArray) (A0_5 : Option Addr) (c0_5 : Nat) (l0_5 : List (S42)) (A0_6 : Option Addr) (c0_6 : Nat) (l0_6 : List Int) (a0_7 : Int) (r : Bool) (w : World) (hr0_5 : Kd.C k42 w A0_5 l0_5.length l0_5) (hc0_5 : l0_5.length ≤ c0_5) (hr0_6 : Kd.C (Kd.int .i64) w A0_6 l0_6.length l0_6) (hc0_6 : l0_6.length ≤ c0_6) (h : impl_IsValidProblem_1.f k a0_0 a0_1 a0_2 a0_3 a0_4 l0_5 l0_6 a0_7 = some r) :
  Calls Try.prog 149 #[.agg #[.int .i64 a0_0, .string a0_1, .string a0_2, .int .i64 a0_3, .string a0_4, .slice A0_5 l0_5.length c0_5, .slice A0_6 l0_6.length c0_6, .int .i64 a0_7]] w fun e w' => e = .returned (.bool r) ∧ Below w.heap.size w w' := by
 have hu44 := Try.underlying44
 have HR0_5 := Aside0.mk hr0_5
 have HC0_5 := Aside0.mk hc0_5
 clear hr0_5 hc0_5
 have HR0_6 := Aside0.mk hr0_6
 have HC0_6 := Aside0.mk hc0_6
 clear hr0_6 hc0_6
 have HB := Aside0.mk (Below.refl w.heap.size w)
 have H : ((impl_IsValidConstraint.f k a0_0 a0_1 a0_2 a0_3 a0_4 l0_5 l0_6 a0_7).bind fun t149002 => (some (!t149002))) = some r := h
 clear h
 replace H := Option.bind_eq_some_iff.mp H
 obtain ⟨t149002, A20, H⟩ := H
 replace H : (some (!t149002)) = some r := H
 have A2 := Aside0.mk A20
 clear A20
 obtain rfl := Option.some.inj H
 go_enter Try.func149, Try.ntmps149
 go_wp2_with (first | ((with_reducible refine gate_dst (N := 1) rfl ?_); refine box_event ?hg (N := 1) ?hd (cs := #[.int .i64 a0_0, .string a0_1, .string a0_2, .int .i64 a0_3, .string a0_4, .slice A0_5 l0_5.length c0_5, .slice A0_6 l0_6.length c0_6, .int .i64 a0_7]) (t := 44) ?hr ?_; (case hd => rfl); (case hg => rfl); (case hr => first | (go_simp; done) | (go_simp; rfl)); intro gb149001 hg w3 hbox hb; have n0_ := Aside0.mk (below_step (by repeat (first | (with_reducible first | exact HB.out | apply below_alloc | apply pw_below_drewN | apply below_drew1) | exact HB.out)) hb); have n1_ := Aside0.mk (hbox); have n2_ := Aside0.mk ((by rw [hg]; exact (below_size (by repeat (first | (with_reducible first | exact HB.out | apply below_alloc | apply pw_below_drewN | apply below_drew1) | exact HB.out))) : w.heap.size ≤ gb149001)); have n3_ := Aside0.mk ((by rw [hg]; exact (below_size (by repeat (first | (with_reducible first | exact HB.out | apply below_alloc | apply pw_below_drewN | apply below_drew1) | exact HB.out))) : w.heap.size ≤ gb149001)); clear HB; have HB := n0_; have BK149001 := n1_; have GW149001 := n2_; have GE149001 := n3_; clear n0_ n1_ n2_ n3_; clear hb hbox hg; have hcz4_0 : w3.cell? ⟨gb149001, 0, none⟩ = some (.int .i64 a0_0) := (blk_cell BK149001.out 0).trans rfl; have hcz4_1 : w3.cell? ⟨gb149001, 1, none⟩ = some (.string a0_1) := (blk_cell BK149001.out 1).trans rfl; have hcz4_2 : w3.cell? ⟨gb149001, 2, none⟩ = some (.string a0_2) := (blk_cell BK149001.out 2).trans rfl; have hcz4_3 : w3.cell? ⟨gb149001, 3, none⟩ = some (.int .i64 a0_3) := (blk_cell BK149001.out 3).trans rfl; have hcz4_4 : w3.cell? ⟨gb149001, 4, none⟩ = some (.string a0_4) := (blk_cell BK149001.out 4).trans rfl; have hcz4_5 : w3.cell? ⟨gb149001, 5, none⟩ = some (.slice A0_5 l0_5.length c0_5) := (blk_cell BK149001.out 5).trans rfl; have hcz4_6 : w3.cell? ⟨gb149001, 6, none⟩ = some (.slice A0_6 l0_6.length c0_6) := (blk_cell BK149001.out 6).trans rfl; have hcz4_7 : w3.cell? ⟨gb149001, 7, none⟩ = some (.int .i64 a0_7) := (blk_cell BK149001.out 7).trans rfl; have hfz4_0 := blk_frozen BK149001.out 0; have hfz4_1 := blk_frozen BK149001.out 1; have hfz4_2 := blk_frozen BK149001.out 2; have hfz4_3 := blk_frozen BK149001.out 3; have hfz4_4 := blk_frozen BK149001.out 4; have hfz4_5 := blk_frozen BK149001.out 5; have hfz4_6 := blk_frozen BK149001.out 6; have hfz4_7 := blk_frozen BK149001.out 7) | ((with_reducible refine gate_callee (f := 23) rfl ?_); refine goesL_ (some 4) rfl rfl Try.func23 (by kernel_rfl) rfl #[.agg #[.int .i64 a0_0, .string a0_1, .string a0_2, .int .i64 a0_3, .string a0_4, .slice A0_5 l0_5.length c0_5, .slice A0_6 l0_6.length c0_6, .int .i64 a0_7]] rfl (by (try simp only [List.map_toArray, List.map_cons, List.map_nil]); first | done | rfl | (simp only [List.length_drop, List.length_take]; rfl)) ?_; (with_reducible refine (impl_IsValidConstraint.calls k a0_0 a0_1 a0_2 a0_3 a0_4 _ _ l0_5 _ _ l0_6 a0_7 t149002 _ ?side1 ?side2 ?side3 ?side4 A2.out).mono ?_); (case side1 => repeat (first | exact (Kd.C_below HR0_5.out HB.out) | (with_reducible refine Kd.C_alloc ?_ _) | (with_reducible refine Kd.C_drewN ?_ _) | (with_reducible refine Kd.C_drew ?_))); (case side2 => exact HC0_5.out); (case side3 => repeat (first | exact (Kd.C_below HR0_6.out HB.out) | (with_reducible refine Kd.C_alloc ?_ _) | (with_reducible refine Kd.C_drewN ?_ _) | (with_reducible refine Kd.C_drew ?_))); (case side4 => exact HC0_6.out); rintro e w5 ⟨rfl, hb⟩; refine ⟨_, rfl, ?_⟩; have n0_ := Aside0.mk (blk_below (g := gb149001) (o := .cells #[.int .i64 a0_0, .string a0_1, .string a0_2, .int .i64 a0_3, .string a0_4, .slice A0_5 l0_5.length c0_5, .slice A0_6 l0_6.length c0_6, .int .i64 a0_7] 44 (0, 0)) (by (with_reducible repeat (first | refine blk_drewN ?_ _ | refine blk_drew ?_ | refine blk_alloc ?_ _)); exact BK149001.out) hb); have n1_ := Aside0.mk (below_step (by repeat (first | (with_reducible first | exact HB.out | apply below_alloc | apply pw_below_drewN | apply below_drew1 | refine below_set ?_ GE149001.out) | exact HB.out)) hb); clear BK149001; clear HB; have BK149001 := n0_; have HB := n1_; clear n0_ n1_; (try clear hb); (try clear hb2); (try clear hk); (try clear hi)))
 go_ret
 exact ⟨by first | rfl | (simp [errW_none, errW_some] <;> rfl) | (simp [*, errW_none, errW_some] <;> rfl), by repeat (first | (with_reducible first | exact HB.out | apply below_alloc | apply pw_below_drewN | apply below_drew1 | refine below_set ?_ GE149001.out) | exact HB.out)⟩
end Go.Proofs.Ytpppopdmnejcfaa.A
namespace Go.Proofs.Ytpppopdmnejcfaa.A
open Go.RowKit Go.Proofs.Ytpppopdmnejcfaa.Ext Go.Proofs.YtpppopdmnejcfaaW.PrintWords Go.Proofs.YtpppopdmnejcfaaW.PrintLast Go.Proofs.YtpppopdmnejcfaaW.PrintMore
attribute [local go_sem] max2_int min2_int max_two min_two max_three min_three max_four min_four
def impl_Constraint_182.l0 : Nat → List (S44) → Int → Int → Option (Int)
 | 0, _, _, _ => none
 | k + 1, x0, x7, x8 => if x8 < x7 then (if 0 ≤ x8 then (if x8 < (x0.length : Int) then ((impl_IsValidProblem_1.f k ((rd_T44 x0 x8).f0) ((rd_T44 x0 x8).f1) ((rd_T44 x0 x8).f2) ((rd_T44 x0 x8).f3.f0) ((rd_T44 x0 x8).f3.f1) ((rd_T44 x0 x8).f3.f2) ((rd_T44 x0 x8).f4) ((rd_T44 x0 x8).f5)).bind fun t182002 => (if t182002 = true then (some x8) else (impl_Constraint_182.l0 k x0 x7 (wrap64 (x8 + 1))))) else (none)) else (none)) else (some (-1))
def impl_Constraint_182.f (k : Nat) (l0 : List (S44)) : Option (Int) := impl_Constraint_182.l0 k l0 (l0.length : Int) 0
theorem impl_Constraint_182.mono_l : ∀ k, (∀ y0 y1 y2, LeO (impl_Constraint_182.l0 k y0 y1 y2) (impl_Constraint_182.l0 (k + 1) y0 y1 y2))
 | 0 => fun _ _ _ r h => by simp [impl_Constraint_182.l0] at h
 | k + 1 => by
  have ih0 := impl_Constraint_182.mono_l k
  ·intro y0 y1 y2
   unfold impl_Constraint_182.l0
   repeat' first
   | (with_reducible exact ih0 _ _ _)
   | (with_reducible exact impl_IsValidProblem_1.mono _ _ _ _ _ _ _ _ _)
   | (with_reducible exact LeO.refl _)
   | (with_reducible exact LeO.none _)
   | (with_reducible refine LeO.ite ?_ ?_)
   | (with_reducible refine LeO.bind ?_ (fun _ => ?_))
theorem impl_Constraint_182.mono : ∀ a0 k, LeO (impl_Constraint_182.f k a0) (impl_Constraint_182.f (k + 1) a0) := by
 intro a0 k
 have ih0 := impl_Constraint_182.mono_l k
 unfold impl_Constraint_182.f
 repeat' first
   | (with_reducible exact ih0 _ _ _)
   | (with_reducible exact impl_IsValidProblem_1.mono _ _ _ _ _ _ _ _ _)
   | (with_reducible exact LeO.refl _)
   | (with_reducible exact LeO.none _)
   | (with_reducible refine LeO.ite ?_ ?_)
   | (with_reducible refine LeO.bind ?_ (fun _ => ?_))
theorem impl_Constraint_182.calls (k : Nat) (A0 : Option Addr) (c0 : Nat) (l0 : List (S44)) (r : Int) (w : World) (hr0 : Kd.C k44 w A0 l0.length l0) (hc0 : l0.length ≤ c0) (h : impl_Constraint_182.f k l0 = some r) :
  Calls Try.prog 182 #[.slice A0 l0.length c0, .func (.func 149) #[] #[]] w fun e w' => e = .returned (.int .i64 r) ∧ Below w.heap.size w w' := by
 have hu44 := Try.underlying44
 have HR0 := Aside0.mk hr0
 have HC0 := Aside0.mk hc0
 clear hr0 hc0
 have HB := Aside0.mk (Below.refl w.heap.size w)
 have H : (impl_Constraint_182.l0 k l0 (l0.length : Int) 0) = some r := h
 clear h
 have H' := Aside0.mk H
 clear H
 go_enter Try.func182, Try.ntmps182
 go_wp2
 first | go_loopg [8] k (fun kq v8 w' => ∃ (x8_1 : Int), v8 = .int .i64 x8_1 ∧ Aside0 (impl_Constraint_182.l0 kq l0 (l0.length : Int) x8_1 = some r) ∧ Aside0 (kq ≤ k) ∧ Aside0 (Below w.heap.size w w')) | (simp only [Act.put, List.setIfInBounds_toArray, List.set_cons_succ, List.set_cons_zero]; go_loopg [8] k (fun kq v8 w' => ∃ (x8_1 : Int), v8 = .int .i64 x8_1 ∧ Aside0 (impl_Constraint_182.l0 kq l0 (l0.length : Int) x8_1 = some r) ∧ Aside0 (kq ≤ k) ∧ Aside0 (Below w.heap.size w w')))
 case atStart => exact ⟨(0), (by first | rfl | (simp; done) | (simp [*]; done)), H', ⟨Nat.le_refl _⟩, ⟨by repeat (first | (with_reducible first | exact HB.out | apply below_alloc | apply pw_below_drewN | apply below_drew1) | exact HB.out)⟩⟩
 case round =>
  clear H'
  try clear c1
  obtain ⟨x8_1, rfl, HA, HK1, HB⟩ := hrel
  cases gk with
  | zero => exact absurd HA.out (by simp [impl_Constraint_182.l0])
  | succ k1 =>
   have H := HA.out
   clear HA
   simp only [impl_Constraint_182.l0] at H
   by_cases c2 : x8_1 < (l0.length : Int)
   ·rw [if_pos c2] at H
    have c2b0 : decide (x8_1 < (l0.length : Int)) = true := decide_eq_true c2
    clear c2
    by_cases c3 : 0 ≤ x8_1
    ·rw [if_pos c3] at H
     have c3b0 : decide (0 ≤ x8_1) = true := decide_eq_true c3
     clear c3
     by_cases c4 : x8_1 < (l0.length : Int)
     ·rw [if_pos c4] at H
      have c4b0 : decide (x8_1 < (l0.length : Int)) = true := decide_eq_true c4
      clear c4
      replace H := Option.bind_eq_some_iff.mp H
      obtain ⟨t182002, A50, H⟩ := H
      replace H : (if t182002 = true then (some x8_1) else (impl_Constraint_182.l0 k1 l0 (l0.length : Int) (wrap64 (x8_1 + 1)))) = some r := H
      have A5 := Aside0.mk A50
      clear A50
      by_cases c6 : t182002 = true
      ·subst c6
       have H1 : (some x8_1) = some r := by rw [if_pos rfl] at H; exact H
       clear H
       have H := H1
       clear H1
       obtain rfl := Option.some.inj H
       have p182001 : 0 ≤ (x8_1 : Int) := of_decide_eq_true (by first | (with_reducible assumption) | assumption)
       have q182001 : x8_1 < (l0.length : Int) := of_decide_eq_true (by first | (with_reducible assumption) | assumption)
       obtain ⟨ad182001, A182001_5, c182001_5, A182001_6, c182001_6, e182001, hx182001_0, hx182001_1, hx182001_2, hx182001_3, hx182001_4, hx182001_5, hx182001_6, hx182001_7, hl182001_5, hi182001_5, hl182001_6, hi182001_6⟩ := at_T44 HR0.out x8_1 p182001 q182001
       cases e182001
       replace hx182001_0 := (HB.out.cell (World.block_lt_of_cell? w _ hx182001_0)).trans hx182001_0
       replace hx182001_1 := (HB.out.cell (World.block_lt_of_cell? w _ hx182001_1)).trans hx182001_1
       replace hx182001_2 := (HB.out.cell (World.block_lt_of_cell? w _ hx182001_2)).trans hx182001_2
       replace hx182001_3 := (HB.out.cell (World.block_lt_of_cell? w _ hx182001_3)).trans hx182001_3
       replace hx182001_4 := (HB.out.cell (World.block_lt_of_cell? w _ hx182001_4)).trans hx182001_4
       replace hx182001_5 := (HB.out.cell (World.block_lt_of_cell? w _ hx182001_5)).trans hx182001_5
       replace hx182001_6 := (HB.out.cell (World.block_lt_of_cell? w _ hx182001_6)).trans hx182001_6
       replace hx182001_7 := (HB.out.cell (World.block_lt_of_cell? w _ hx182001_7)).trans hx182001_7
       have HR182001_5 := Aside0.mk hi182001_5
       have HC182001_5 := Aside0.mk hl182001_5
       clear hi182001_5 hl182001_5
       have HR182001_6 := Aside0.mk hi182001_6
       have HC182001_6 := Aside0.mk hl182001_6
       clear hi182001_6 hl182001_6
       replace p182001 := eq_true p182001
       replace q182001 := eq_true q182001
       go_wp2_with (first | ((with_reducible refine gate_dst (N := 16) rfl ?_); refine goesF_ (some 16) rfl rfl Try.func149 (by kernel_rfl) rfl #[.agg #[.int .i64 ((rd_T44 l0 x8_1).f0), .string ((rd_T44 l0 x8_1).f1), .string ((rd_T44 l0 x8_1).f2), .int .i64 ((rd_T44 l0 x8_1).f3.f0), .string ((rd_T44 l0 x8_1).f3.f1), .slice A182001_5 ((rd_T44 l0 x8_1).f3.f2).length c182001_5, .slice A182001_6 ((rd_T44 l0 x8_1).f4).length c182001_6, .int .i64 ((rd_T44 l0 x8_1).f5)]] rfl (by first | rfl | (go_simp; done)) (by (try simp only [List.map_toArray, List.map_cons, List.map_nil]); first | done | rfl | (simp only [List.length_drop, List.length_take]; rfl)) ?_; (with_reducible refine (impl_IsValidProblem_1.calls k1 ((rd_T44 l0 x8_1).f0) ((rd_T44 l0 x8_1).f1) ((rd_T44 l0 x8_1).f2) ((rd_T44 l0 x8_1).f3.f0) ((rd_T44 l0 x8_1).f3.f1) _ _ ((rd_T44 l0 x8_1).f3.f2) _ _ ((rd_T44 l0 x8_1).f4) ((rd_T44 l0 x8_1).f5) true _ ?side1 ?side2 ?side3 ?side4 A5.out).mono ?_); (case side1 => repeat (first | exact (Kd.C_below HR182001_5.out HB.out) | (with_reducible refine Kd.C_alloc ?_ _) | (with_reducible refine Kd.C_drewN ?_ _) | (with_reducible refine Kd.C_drew ?_))); (case side2 => exact HC182001_5.out); (case side3 => repeat (first | exact (Kd.C_below HR182001_6.out HB.out) | (with_reducible refine Kd.C_alloc ?_ _) | (with_reducible refine Kd.C_drewN ?_ _) | (with_reducible refine Kd.C_drew ?_))); (case side4 => exact HC182001_6.out); rintro e w7 ⟨rfl, hb⟩; refine ⟨_, rfl, ?_⟩; have n0_ := Aside0.mk (below_step (by repeat (first | (with_reducible first | exact HB.out | apply below_alloc | apply pw_below_drewN | apply below_drew1) | exact HB.out)) hb); clear HB; have HB := n0_; clear n0_; (try clear hb); (try clear hb2); (try clear hk); (try clear hi)))
       go_ret
       exact ⟨by first | rfl | (simp [errW_none, errW_some] <;> rfl) | (simp [*, errW_none, errW_some] <;> rfl), by repeat (first | (with_reducible first | exact HB.out | apply below_alloc | apply pw_below_drewN | apply below_drew1) | exact HB.out)⟩
      ·replace c6 := Bool.eq_false_iff.mpr c6
       subst c6
       have H1 : (impl_Constraint_182.l0 k1 l0 (l0.length : Int) (wrap64 (x8_1 + 1))) = some r := by rw [if_neg (show ¬ (false = true) by decide)] at H; exact H
       clear H
       have H := H1
       clear H1
       have H' := Aside0.mk H
       clear H
       have p182001 : 0 ≤ (x8_1 : Int) := of_decide_eq_true (by first | (with_reducible assumption) | assumption)
       have q182001 : x8_1 < (l0.length : Int) := of_decide_eq_true (by first | (with_reducible assumption) | assumption)
       obtain ⟨ad182001, A182001_5, c182001_5, A182001_6, c182001_6, e182001, hx182001_0, hx182001_1, hx182001_2, hx182001_3, hx182001_4, hx182001_5, hx182001_6, hx182001_7, hl182001_5, hi182001_5, hl182001_6, hi182001_6⟩ := at_T44 HR0.out x8_1 p182001 q182001
       cases e182001
       replace hx182001_0 := (HB.out.cell (World.block_lt_of_cell? w _ hx182001_0)).trans hx182001_0
       replace hx182001_1 := (HB.out.cell (World.block_lt_of_cell? w _ hx182001_1)).trans hx182001_1
       replace hx182001_2 := (HB.out.cell (World.block_lt_of_cell? w _ hx182001_2)).trans hx182001_2
       replace hx182001_3 := (HB.out.cell (World.block_lt_of_cell? w _ hx182001_3)).trans hx182001_3
       replace hx182001_4 := (HB.out.cell (World.block_lt_of_cell? w _ hx182001_4)).trans hx182001_4
       replace hx182001_5 := (HB.out.cell (World.block_lt_of_cell? w _ hx182001_5)).trans hx182001_5
       replace hx182001_6 := (HB.out.cell (World.block_lt_of_cell? w _ hx182001_6)).trans hx182001_6
       replace hx182001_7 := (HB.out.cell (World.block_lt_of_cell? w _ hx182001_7)).trans hx182001_7
       have HR182001_5 := Aside0.mk hi182001_5
       have HC182001_5 := Aside0.mk hl182001_5
       clear hi182001_5 hl182001_5
       have HR182001_6 := Aside0.mk hi182001_6
       have HC182001_6 := Aside0.mk hl182001_6
       clear hi182001_6 hl182001_6
       replace p182001 := eq_true p182001
       replace q182001 := eq_true q182001
       go_wp2_with (first | ((with_reducible refine gate_dst (N := 16) rfl ?_); refine goesF_ (some 16) rfl rfl Try.func149 (by kernel_rfl) rfl #[.agg #[.int .i64 ((rd_T44 l0 x8_1).f0), .string ((rd_T44 l0 x8_1).f1), .string ((rd_T44 l0 x8_1).f2), .int .i64 ((rd_T44 l0 x8_1).f3.f0), .string ((rd_T44 l0 x8_1).f3.f1), .slice A182001_5 ((rd_T44 l0 x8_1).f3.f2).length c182001_5, .slice A182001_6 ((rd_T44 l0 x8_1).f4).length c182001_6, .int .i64 ((rd_T44 l0 x8_1).f5)]] rfl (by first | rfl | (go_simp; done)) (by (try simp only [List.map_toArray, List.map_cons, List.map_nil]); first | done | rfl | (simp only [List.length_drop, List.length_take]; rfl)) ?_; (with_reducible refine (impl_IsValidProblem_1.calls k1 ((rd_T44 l0 x8_1).f0) ((rd_T44 l0 x8_1).f1) ((rd_T44 l0 x8_1).f2) ((rd_T44 l0 x8_1).f3.f0) ((rd_T44 l0 x8_1).f3.f1) _ _ ((rd_T44 l0 x8_1).f3.f2) _ _ ((rd_T44 l0 x8_1).f4) ((rd_T44 l0 x8_1).f5) false _ ?side1 ?side2 ?side3 ?side4 A5.out).mono ?_); (case side1 => repeat (first | exact (Kd.C_below HR182001_5.out HB.out) | (with_reducible refine Kd.C_alloc ?_ _) | (with_reducible refine Kd.C_drewN ?_ _) | (with_reducible refine Kd.C_drew ?_))); (case side2 => exact HC182001_5.out); (case side3 => repeat (first | exact (Kd.C_below HR182001_6.out HB.out) | (with_reducible refine Kd.C_alloc ?_ _) | (with_reducible refine Kd.C_drewN ?_ _) | (with_reducible refine Kd.C_drew ?_))); (case side4 => exact HC182001_6.out); rintro e w8 ⟨rfl, hb⟩; refine ⟨_, rfl, ?_⟩; have n0_ := Aside0.mk (below_step (by repeat (first | (with_reducible first | exact HB.out | apply below_alloc | apply pw_below_drewN | apply below_drew1) | exact HB.out)) hb); clear HB; have HB := n0_; clear n0_; (try clear hb); (try clear hb2); (try clear hk); (try clear hi)))
       go_roundg k1
       case measure => have := HK1.out; omega
       case rel => exact ⟨(wrap64 (x8_1 + 1)), (by first | rfl | (simp; done) | (simp [*]; done)), H', ⟨by have := HK1.out; omega⟩, ⟨by repeat (first | (with_reducible first | exact HB.out | apply below_alloc | apply pw_below_drewN | apply below_drew1) | exact HB.out)⟩⟩
     ·rw [if_neg c4] at H
      exact absurd H (by simp)
    ·rw [if_neg c3] at H
     exact absurd H (by simp)
   ·rw [if_neg c2] at H
    have c2b0 : decide (x8_1 < (l0.length : Int)) = false := decide_eq_false c2
    clear c2
    obtain rfl := Option.some.inj H
    go_wp2
    go_ret
    exact ⟨by first | rfl | (simp [errW_none, errW_some] <;> rfl) | (simp [*, errW_none, errW_some] <;> rfl), by repeat (first | (with_reducible first | exact HB.out | apply below_alloc | apply pw_below_drewN | apply below_drew1) | exact HB.out)⟩
end Go.Proofs.Ytpppopdmnejcfaa.A
namespace Go.Proofs.Ytpppopdmnejcfaa.A
open Go.RowKit Go.Proofs.Ytpppopdmnejcfaa.Ext Go.Proofs.YtpppopdmnejcfaaW.PrintWords Go.Proofs.YtpppopdmnejcfaaW.PrintLast Go.Proofs.YtpppopdmnejcfaaW.PrintMore
attribute [local go_sem] max2_int min2_int max_two min_two max_three min_three max_four min_four
def impl_Constraint_148.f (k : Nat) (l0 : List (S44)) : Option (Bool) := (impl_Constraint_182.f k l0).bind fun t148001 => (some (decide (t148001 ≥ 0)))
theorem impl_Constraint_148.mono : ∀ a0 k, LeO (impl_Constraint_148.f k a0) (impl_Constraint_148.f (k + 1) a0) := by
 intro a0 k
 unfold impl_Constraint_148.f
 repeat' first
   | (with_reducible exact impl_Constraint_182.mono _ _)
   | (with_reducible exact LeO.refl _)
   | (with_reducible exact LeO.none _)
   | (with_reducible refine LeO.ite ?_ ?_)
   | (with_reducible refine LeO.bind ?_ (fun _ => ?_))
theorem impl_Constraint_148.calls (k : Nat) (A0 : Option Addr) (c0 : Nat) (l0 : List (S44)) (r : Bool) (w : World) (hr0 : Kd.C k44 w A0 l0.length l0) (hc0 : l0.length ≤ c0) (h : impl_Constraint_148.f k l0 = some r) :
  Calls Try.prog 148 #[.slice A0 l0.length c0, .func (.func 149) #[] #[]] w fun e w' => e = .returned (.bool r) ∧ Below w.heap.size w w' := by
 have HR0 := Aside0.mk hr0
 have HC0 := Aside0.mk hc0
 clear hr0 hc0
 have HB := Aside0.mk (Below.refl w.heap.size w)
 have H : ((impl_Constraint_182.f k l0).bind fun t148001 => (some (decide (t148001 ≥ 0)))) = some r := h
 clear h
 replace H := Option.bind_eq_some_iff.mp H
 obtain ⟨t148001, A20, H⟩ := H
 replace H : (some (decide (t148001 ≥ 0))) = some r := H
 have A2 := Aside0.mk A20
 clear A20
 obtain rfl := Option.some.inj H
 go_enter Try.func148, Try.ntmps148
 go_wp2_with (first | ((with_reducible refine gate_callee (f := 182) rfl ?_); refine goesL_ (some 7) rfl rfl Try.func182 (by kernel_rfl) rfl #[.slice A0 l0.length c0, .func (.func 149) #[] #[]] rfl (by (try simp only [List.map_toArray, List.map_cons, List.map_nil]); first | done | rfl | (simp only [List.length_drop, List.length_take]; rfl)) ?_; (with_reducible refine (impl_Constraint_182.calls k _ _ l0 t148001 _ ?side1 ?side2 A2.out).mono ?_); (case side1 => repeat (first | exact HR0.out | (with_reducible refine Kd.C_alloc ?_ _) | (with_reducible refine Kd.C_drewN ?_ _) | (with_reducible refine Kd.C_drew ?_))); (case side2 => exact HC0.out); rintro e w3 ⟨rfl, hb⟩; refine ⟨_, rfl, ?_⟩; have n0_ := Aside0.mk (below_step (by repeat (first | (with_reducible first | exact HB.out | apply below_alloc | apply pw_below_drewN | apply below_drew1) | exact HB.out)) hb); clear HB; have HB := n0_; clear n0_; (try clear hb); (try clear hb2); (try clear hk); (try clear hi)))
 go_ret
 exact ⟨by first | rfl | (simp [errW_none, errW_some] <;> rfl) | (simp [*, errW_none, errW_some] <;> rfl), by repeat (first | (with_reducible first | exact HB.out | apply below_alloc | apply pw_below_drewN | apply below_drew1) | exact HB.out)⟩
end Go.Proofs.Ytpppopdmnejcfaa.A
namespace Go.Proofs.Ytpppopdmnejcfaa.A
open Go.RowKit Go.Proofs.Ytpppopdmnejcfaa.Ext Go.Proofs.YtpppopdmnejcfaaW.PrintWords Go.Proofs.YtpppopdmnejcfaaW.PrintLast Go.Proofs.YtpppopdmnejcfaaW.PrintMore
attribute [local go_sem] max2_int min2_int max_two min_two max_three min_three max_four min_four
def impl_IsValidProblem.f (k : Nat) (l0_0 : List (S44)) : Option (Bool) := if (l0_0.length : Int) ≤ 6 then ((impl_Constraint_148.f k l0_0).bind fun t64002 => (some (!t64002))) else (some false)
theorem impl_IsValidProblem.mono : ∀ a0 k, LeO (impl_IsValidProblem.f k a0) (impl_IsValidProblem.f (k + 1) a0) := by
 intro a0 k
 unfold impl_IsValidProblem.f
 repeat' first
   | (with_reducible exact impl_Constraint_148.mono _ _)
   | (with_reducible exact LeO.refl _)
   | (with_reducible exact LeO.none _)
   | (with_reducible refine LeO.ite ?_ ?_)
   | (with_reducible refine LeO.bind ?_ (fun _ => ?_))
theorem impl_IsValidProblem.calls (k : Nat) (A0_0 : Option Addr) (c0_0 : Nat) (l0_0 : List (S44)) (r : Bool) (w : World) (hr0_0 : Kd.C k44 w A0_0 l0_0.length l0_0) (hc0_0 : l0_0.length ≤ c0_0) (h : impl_IsValidProblem.f k l0_0 = some r) :
  Calls Try.prog 64 #[.agg #[.slice A0_0 l0_0.length c0_0]] w fun e w' => e = .returned (.bool r) ∧ Below w.heap.size w w' := by
 have hu29 := Try.underlying29
 have HR0_0 := Aside0.mk hr0_0
 have HC0_0 := Aside0.mk hc0_0
 clear hr0_0 hc0_0
 have HB := Aside0.mk (Below.refl w.heap.size w)
 have H : (if (l0_0.length : Int) ≤ 6 then ((impl_Constraint_148.f k l0_0).bind fun t64002 => (some (!t64002))) else (some false)) = some r := h
 clear h
 by_cases c2 : (l0_0.length : Int) ≤ 6
 ·rw [if_pos c2] at H
  have c2b0 : decide ((l0_0.length : Int) ≤ 6) = true := decide_eq_true c2
  have c2b1 : decide (l0_0.length ≤ 6) = true := decide_eq_true (by omega)
  clear c2
  replace H := Option.bind_eq_some_iff.mp H
  obtain ⟨t64002, A30, H⟩ := H
  replace H : (some (!t64002)) = some r := H
  have A3 := Aside0.mk A30
  clear A30
  obtain rfl := Option.some.inj H
  go_enter Try.func64, Try.ntmps64
  go_wp2_with (first | ((with_reducible refine gate_dst (N := 1) rfl ?_); refine box_event ?hg (N := 1) ?hd (cs := #[.slice A0_0 l0_0.length c0_0]) (t := 29) ?hr ?_; (case hd => rfl); (case hg => rfl); (case hr => first | (go_simp; done) | (go_simp; rfl)); intro gb64001 hg w4 hbox hb; have n0_ := Aside0.mk (below_step (by repeat (first | (with_reducible first | exact HB.out | apply below_alloc | apply pw_below_drewN | apply below_drew1) | exact HB.out)) hb); have n1_ := Aside0.mk (hbox); have n2_ := Aside0.mk ((by rw [hg]; exact (below_size (by repeat (first | (with_reducible first | exact HB.out | apply below_alloc | apply pw_below_drewN | apply below_drew1) | exact HB.out))) : w.heap.size ≤ gb64001)); have n3_ := Aside0.mk ((by rw [hg]; exact (below_size (by repeat (first | (with_reducible first | exact HB.out | apply below_alloc | apply pw_below_drewN | apply below_drew1) | exact HB.out))) : w.heap.size ≤ gb64001)); clear HB; have HB := n0_; have BK64001 := n1_; have GW64001 := n2_; have GE64001 := n3_; clear n0_ n1_ n2_ n3_; clear hb hbox hg; have hcz5_0 : w4.cell? ⟨gb64001, 0, none⟩ = some (.slice A0_0 l0_0.length c0_0) := (blk_cell BK64001.out 0).trans rfl; have hfz5_0 := blk_frozen BK64001.out 0) | (go_at_call 148; (with_reducible refine (impl_Constraint_148.calls k _ _ l0_0 t64002 _ ?side1 ?side2 A3.out).mono ?_); (case side1 => repeat (first | exact (Kd.C_below HR0_0.out HB.out) | (with_reducible refine Kd.C_alloc ?_ _) | (with_reducible refine Kd.C_drewN ?_ _) | (with_reducible refine Kd.C_drew ?_))); (case side2 => exact HC0_0.out); rintro e w6 ⟨rfl, hb⟩; have n0_ := Aside0.mk (blk_below (g := gb64001) (o := .cells #[.slice A0_0 l0_0.length c0_0] 29 (0, 0)) (by (with_reducible repeat (first | refine blk_drewN ?_ _ | refine blk_drew ?_ | refine blk_alloc ?_ _)); exact BK64001.out) hb); have n1_ := Aside0.mk (below_step (by repeat (first | (with_reducible first | exact HB.out | apply below_alloc | apply pw_below_drewN | apply below_drew1 | refine below_set ?_ GE64001.out) | exact HB.out)) hb); clear BK64001; clear HB; have BK64001 := n0_; have HB := n1_; clear n0_ n1_; (try clear hb); (try clear hb2); (try clear hk); (try clear hi)))
  go_ret
  exact ⟨by first | rfl | (simp [errW_none, errW_some] <;> rfl) | (simp [*, errW_none, errW_some] <;> rfl), by repeat (first | (with_reducible first | exact HB.out | apply below_alloc | apply pw_below_drewN | apply below_drew1 | refine below_set ?_ GE64001.out) | exact HB.out)⟩
 ·rw [if_neg c2] at H
  have c2b0 : decide ((l0_0.length : Int) ≤ 6) = false := decide_eq_false c2
  have c2b1 : decide (l0_0.length ≤ 6) = false := decide_eq_false (by omega)
  clear c2
  obtain rfl := Option.some.inj H
  go_enter Try.func64, Try.ntmps64
  go_wp2_with (first | ((with_reducible refine gate_dst (N := 1) rfl ?_); refine box_event ?hg (N := 1) ?hd (cs := #[.slice A0_0 l0_0.length c0_0]) (t := 29) ?hr ?_; (case hd => rfl); (case hg => rfl); (case hr => first | (go_simp; done) | (go_simp; rfl)); intro gb64001 hg w7 hbox hb; have n0_ := Aside0.mk (below_step (by repeat (first | (with_reducible first | exact HB.out | apply below_alloc | apply pw_below_drewN | apply below_drew1) | exact HB.out)) hb); have n1_ := Aside0.mk (hbox); have n2_ := Aside0.mk ((by rw [hg]; exact (below_size (by repeat (first | (with_reducible first | exact HB.out | apply below_alloc | apply pw_below_drewN | apply below_drew1) | exact HB.out))) : w.heap.size ≤ gb64001)); have n3_ := Aside0.mk ((by rw [hg]; exact (below_size (by repeat (first | (with_reducible first | exact HB.out | apply below_alloc | apply pw_below_drewN | apply below_drew1) | exact HB.out))) : w.heap.size ≤ gb64001)); clear HB; have HB := n0_; have BK64001 := n1_; have GW64001 := n2_; have GE64001 := n3_; clear n0_ n1_ n2_ n3_; clear hb hbox hg; have hcz8_0 : w7.cell? ⟨gb64001, 0, none⟩ = some (.slice A0_0 l0_0.length c0_0) := (blk_cell BK64001.out 0).trans rfl; have hfz8_0 := blk_frozen BK64001.out 0))
  go_ret
  exact ⟨by first | rfl | (simp [errW_none, errW_some] <;> rfl) | (simp [*, errW_none, errW_some] <;> rfl), by repeat (first | (with_reducible first | exact HB.out | apply below_alloc | apply pw_below_drewN | apply below_drew1 | refine below_set ?_ GE64001.out) | exact HB.out)⟩
end Go.Proofs.Ytpppopdmnejcfaa.A
namespace Go.Proofs.Ytpppopdmnejcfaa.A
open Go.RowKit Go.Proofs.Ytpppopdmnejcfaa.Ext Go.Proofs.YtpppopdmnejcfaaW.PrintWords Go.Proofs.YtpppopdmnejcfaaW.PrintLast Go.Proofs.YtpppopdmnejcfaaW.PrintMore
attribute [local go_sem] max2_int min2_int max_two min_two max_three min_three max_four min_four
def impl_isSide.l0 : Nat → ByteArray → Int → Option (Bool)
 | 0, _, _ => none
 | k + 1, x0, x3 => if x3 < (x0.size : Int) then (if 0 ≤ x3 then (if (bt x0 x3) = 35 then (impl_isSide.l0 k x0 (wrap64 (x3 + 1))) else ((impl_LetterIndex.f (bt x0 x3)).bind fun t184001 => (if t184001 < 0 then ((impl_isVariable.f (bt x0 x3)).bind fun t184002 => (if t184002 = true then (impl_isSide.l0 k x0 (wrap64 (x3 + 1))) else (some false))) else (impl_isSide.l0 k x0 (wrap64 (x3 + 1)))))) else (none)) else (some true)
def impl_isSide.f (k : Nat) (a0 : ByteArray) : Option (Bool) := impl_isSide.l0 k a0 0
theorem impl_isSide.mono_l : ∀ k, (∀ y0 y1, LeO (impl_isSide.l0 k y0 y1) (impl_isSide.l0 (k + 1) y0 y1))
 | 0 => fun _ _ r h => by simp [impl_isSide.l0] at h
 | k + 1 => by
  have ih0 := impl_isSide.mono_l k
  ·intro y0 y1
   unfold impl_isSide.l0
   repeat' first
   | (with_reducible exact ih0 _ _)
   | (with_reducible exact LeO.refl _)
   | (with_reducible exact LeO.none _)
   | (with_reducible refine LeO.ite ?_ ?_)
   | (with_reducible refine LeO.bind ?_ (fun _ => ?_))
theorem impl_isSide.mono : ∀ a0 k, LeO (impl_isSide.f k a0) (impl_isSide.f (k + 1) a0) := by
 intro a0 k
 have ih0 := impl_isSide.mono_l k
 unfold impl_isSide.f
 repeat' first
   | (with_reducible exact ih0 _ _)
   | (with_reducible exact LeO.refl _)
   | (with_reducible exact LeO.none _)
   | (with_reducible refine LeO.ite ?_ ?_)
   | (with_reducible refine LeO.bind ?_ (fun _ => ?_))
theorem impl_isSide.calls (k : Nat) (a0 : ByteArray) (r : Bool) (w : World) (h : impl_isSide.f k a0 = some r) :
  Calls Try.prog 184 #[.string a0] w fun e w' => e = .returned (.bool r) ∧ Drawn0 w w' := by
 have H : (impl_isSide.l0 k a0 0) = some r := h
 clear h
 have H' := Aside0.mk H
 clear H
 go_enter Try.func184, Try.ntmps184
 go_wp2
 first | go_loopg [3] k (fun kq v3 w' => ∃ (x3_1 : Int), v3 = .int .i64 x3_1 ∧ Aside0 (impl_isSide.l0 kq a0 x3_1 = some r) ∧ Aside0 (kq ≤ k) ∧ Drawn0 w w') | (simp only [Act.put, List.setIfInBounds_toArray, List.set_cons_succ, List.set_cons_zero]; go_loopg [3] k (fun kq v3 w' => ∃ (x3_1 : Int), v3 = .int .i64 x3_1 ∧ Aside0 (impl_isSide.l0 kq a0 x3_1 = some r) ∧ Aside0 (kq ≤ k) ∧ Drawn0 w w'))
 case atStart => exact ⟨(0), (by first | rfl | (simp; done) | (simp [*]; done)), H', ⟨Nat.le_refl _⟩, by repeat (first | exact Drawn0.refl _ | apply Drawn0.step)⟩
 case round =>
  clear H'
  try clear c1
  obtain ⟨x3_1, rfl, HA, HK1, ⟨m1, rfl⟩⟩ := hrel
  cases gk with
  | zero => exact absurd HA.out (by simp [impl_isSide.l0])
  | succ k1 =>
   have H := HA.out
   clear HA
   simp only [impl_isSide.l0] at H
   by_cases c2 : x3_1 < (a0.size : Int)
   ·rw [if_pos c2] at H
    have c2b0 : decide (x3_1 < (a0.size : Int)) = true := decide_eq_true c2
    clear c2
    by_cases c3 : 0 ≤ x3_1
    ·rw [if_pos c3] at H
     have c3b0 : decide (0 ≤ x3_1) = true := decide_eq_true c3
     clear c3
     by_cases c5 : (bt a0 x3_1) = 35
     ·rw [if_pos c5] at H
      have c5b0 : ((bt a0 x3_1) == 35) = true := beq_iff_eq.mpr c5
      have c5b1 : ((bt a0 x3_1) != 35) = false := bne_eq_false_iff_eq.mpr c5
      clear c5
      have H' := Aside0.mk H
      clear H
      have p4 : 0 ≤ (x3_1 : Int) := of_decide_eq_true (by first | (with_reducible assumption) | assumption)
      have q4 : x3_1 < (a0.size : Int) := of_decide_eq_true (by first | (with_reducible assumption) | assumption)
      have hx4 := bt_at a0 x3_1
      replace p4 := eq_true p4
      replace q4 := eq_true q4
      go_wp2
      go_roundg k1
      case measure => have := HK1.out; omega
      case rel => exact ⟨(wrap64 (x3_1 + 1)), (by first | rfl | (simp; done) | (simp [*]; done)), H', ⟨by have := HK1.out; omega⟩, by repeat (first | exact Drawn0.refl _ | apply Drawn0.step)⟩
     ·rw [if_neg c5] at H
      have c5b0 : ((bt a0 x3_1) == 35) = false := beq_eq_false_iff_ne.mpr c5
      have c5b1 : ((bt a0 x3_1) != 35) = true := bne_iff_ne.mpr c5
      replace H := Option.bind_eq_some_iff.mp H
      obtain ⟨t184001, A70, H⟩ := H
      replace H : (if t184001 < 0 then ((impl_isVariable.f (bt a0 x3_1)).bind fun t184002 => (if t184002 = true then (impl_isSide.l0 k1 a0 (wrap64 (x3_1 + 1))) else (some false))) else (impl_isSide.l0 k1 a0 (wrap64 (x3_1 + 1)))) = some r := H
      have A7 := Aside0.mk A70
      clear A70
      by_cases c8 : t184001 < 0
      ·rw [if_pos c8] at H
       have c8b0 : decide (t184001 < 0) = true := decide_eq_true c8
       clear c8
       replace H := Option.bind_eq_some_iff.mp H
       obtain ⟨t184002, A100, H⟩ := H
       replace H : (if t184002 = true then (impl_isSide.l0 k1 a0 (wrap64 (x3_1 + 1))) else (some false)) = some r := H
       have A10 := Aside0.mk A100
       clear A100
       by_cases c11 : t184002 = true
       ·subst c11
        have H1 : (impl_isSide.l0 k1 a0 (wrap64 (x3_1 + 1))) = some r := by rw [if_pos rfl] at H; exact H
        clear H
        have H := H1
        clear H1
        have H' := Aside0.mk H
        clear H
        have p4 : 0 ≤ (x3_1 : Int) := of_decide_eq_true (by first | (with_reducible assumption) | assumption)
        have q4 : x3_1 < (a0.size : Int) := of_decide_eq_true (by first | (with_reducible assumption) | assumption)
        have hx4 := bt_at a0 x3_1
        replace p4 := eq_true p4
        replace q4 := eq_true q4
        have p6 : 0 ≤ (x3_1 : Int) := of_decide_eq_true (by first | (with_reducible assumption) | assumption)
        have q6 : x3_1 < (a0.size : Int) := of_decide_eq_true (by first | (with_reducible assumption) | assumption)
        have hx6 := bt_at a0 x3_1
        replace p6 := eq_true p6
        replace q6 := eq_true q6
        go_wp2_with (first | (go_at_call 140; (with_reducible refine (impl_LetterIndex.calls (bt a0 x3_1) t184001 _ A7.out).mono ?_); rintro e w' ⟨rfl, ⟨nd, rfl⟩⟩; have p9 : 0 ≤ (x3_1 : Int) := of_decide_eq_true (by first | (with_reducible assumption) | assumption); have q9 : x3_1 < (a0.size : Int) := of_decide_eq_true (by first | (with_reducible assumption) | assumption); have hx9 := bt_at a0 x3_1; replace p9 := eq_true p9; replace q9 := eq_true q9) | (go_at_call 136; (with_reducible refine (impl_isVariable.calls (bt a0 x3_1) true _ A10.out).mono ?_); rintro e w' ⟨rfl, ⟨nd, rfl⟩⟩))
        go_roundg k1
        case measure => have := HK1.out; omega
        case rel => exact ⟨(wrap64 (x3_1 + 1)), (by first | rfl | (simp; done) | (simp [*]; done)), H', ⟨by have := HK1.out; omega⟩, by repeat (first | exact Drawn0.refl _ | apply Drawn0.step)⟩
       ·replace c11 := Bool.eq_false_iff.mpr c11
        subst c11
        have H1 : (some false) = some r := by rw [if_neg (show ¬ (false = true) by decide)] at H; exact H
        clear H
        have H := H1
        clear H1
        obtain rfl := Option.some.inj H
        have p4 : 0 ≤ (x3_1 : Int) := of_decide_eq_true (by first | (with_reducible assumption) | assumption)
        have q4 : x3_1 < (a0.size : Int) := of_decide_eq_true (by first | (with_reducible assumption) | assumption)
        have hx4 := bt_at a0 x3_1
        replace p4 := eq_true p4
        replace q4 := eq_true q4
        have p6 : 0 ≤ (x3_1 : Int) := of_decide_eq_true (by first | (with_reducible assumption) | assumption)
        have q6 : x3_1 < (a0.size : Int) := of_decide_eq_true (by first | (with_reducible assumption) | assumption)
        have hx6 := bt_at a0 x3_1
        replace p6 := eq_true p6
        replace q6 := eq_true q6
        go_wp2_with (first | (go_at_call 140; (with_reducible refine (impl_LetterIndex.calls (bt a0 x3_1) t184001 _ A7.out).mono ?_); rintro e w' ⟨rfl, ⟨nd, rfl⟩⟩; have p9 : 0 ≤ (x3_1 : Int) := of_decide_eq_true (by first | (with_reducible assumption) | assumption); have q9 : x3_1 < (a0.size : Int) := of_decide_eq_true (by first | (with_reducible assumption) | assumption); have hx9 := bt_at a0 x3_1; replace p9 := eq_true p9; replace q9 := eq_true q9) | (go_at_call 136; (with_reducible refine (impl_isVariable.calls (bt a0 x3_1) false _ A10.out).mono ?_); rintro e w' ⟨rfl, ⟨nd, rfl⟩⟩))
        go_ret
        exact ⟨by first | rfl | (simp; done) | (simp [*]; done), by repeat (first | exact Drawn0.refl _ | apply Drawn0.step)⟩
      ·rw [if_neg c8] at H
       have c8b0 : decide (t184001 < 0) = false := decide_eq_false c8
       clear c8
       have H' := Aside0.mk H
       clear H
       have p4 : 0 ≤ (x3_1 : Int) := of_decide_eq_true (by first | (with_reducible assumption) | assumption)
       have q4 : x3_1 < (a0.size : Int) := of_decide_eq_true (by first | (with_reducible assumption) | assumption)
       have hx4 := bt_at a0 x3_1
       replace p4 := eq_true p4
       replace q4 := eq_true q4
       have p6 : 0 ≤ (x3_1 : Int) := of_decide_eq_true (by first | (with_reducible assumption) | assumption)
       have q6 : x3_1 < (a0.size : Int) := of_decide_eq_true (by first | (with_reducible assumption) | assumption)
       have hx6 := bt_at a0 x3_1
       replace p6 := eq_true p6
       replace q6 := eq_true q6
       go_wp2_with (first | (go_at_call 140; (with_reducible refine (impl_LetterIndex.calls (bt a0 x3_1) t184001 _ A7.out).mono ?_); rintro e w' ⟨rfl, ⟨nd, rfl⟩⟩))
       go_roundg k1
       case measure => have := HK1.out; omega
       case rel => exact ⟨(wrap64 (x3_1 + 1)), (by first | rfl | (simp; done) | (simp [*]; done)), H', ⟨by have := HK1.out; omega⟩, by repeat (first | exact Drawn0.refl _ | apply Drawn0.step)⟩
    ·rw [if_neg c3] at H
     exact absurd H (by simp)
   ·rw [if_neg c2] at H
    have c2b0 : decide (x3_1 < (a0.size : Int)) = false := decide_eq_false c2
    clear c2
    obtain rfl := Option.some.inj H
    go_wp2
    go_ret
    exact ⟨by first | rfl | (simp; done) | (simp [*]; done), by repeat (first | exact Drawn0.refl _ | apply Drawn0.step)⟩
def impl_IsEquation.f (k : Nat) (a0_0 : ByteArray) (a0_1 : ByteArray) : Option (Bool) := (impl_isSide.f k a0_0).bind fun t151002 => (if t151002 = true then ((impl_isSide.f k a0_1).bind fun t151003 => (if t151003 = true then (if (a0_0.size : Int) ≤ 24 then (some (decide ((a0_1.size : Int) ≤ 24))) else (some false)) else (some false))) else (some false))
theorem impl_IsEquation.mono : ∀ a0 a1 k, LeO (impl_IsEquation.f k a0 a1) (impl_IsEquation.f (k + 1) a0 a1) := by
 intro a0 a1 k
 unfold impl_IsEquation.f
 repeat' first
   | (with_reducible exact impl_isSide.mono _ _)
   | (with_reducible exact LeO.refl _)
   | (with_reducible exact LeO.none _)
   | (with_reducible refine LeO.ite ?_ ?_)
   | (with_reducible refine LeO.bind ?_ (fun _ => ?_))
theorem impl_IsEquation.calls (k : Nat) (a0_0 : ByteArray) (a0_1 : ByteArray) (r : Bool) (w : World) (h : impl_IsEquation.f k a0_0 a0_1 = some r) :
  Calls Try.prog 151 #[.agg #[.string a0_0, .string a0_1]] w fun e w' => e = .returned (.bool r) ∧ Below w.heap.size w w' := by
 have hu58 := Try.underlying58
 have HB := Aside0.mk (Below.refl w.heap.size w)
 have H : ((impl_isSide.f k a0_0).bind fun t151002 => (if t151002 = true then ((impl_isSide.f k a0_1).bind fun t151003 => (if t151003 = true then (if (a0_0.size : Int) ≤ 24 then (some (decide ((a0_1.size : Int) ≤ 24))) else (some false)) else (some false))) else (some false))) = some r := h
 clear h
 replace H := Option.bind_eq_some_iff.mp H
 obtain ⟨t151002, A20, H⟩ := H
 replace H : (if t151002 = true then ((impl_isSide.f k a0_1).bind fun t151003 => (if t151003 = true then (if (a0_0.size : Int) ≤ 24 then (some (decide ((a0_1.size : Int) ≤ 24))) else (some false)) else (some false))) else (some false)) = some r := H
 have A2 := Aside0.mk A20
 clear A20
 by_cases c3 : t151002 = true
 ·subst c3
  have H1 : ((impl_isSide.f k a0_1).bind fun t151003 => (if t151003 = true then (if (a0_0.size : Int) ≤ 24 then (some (decide ((a0_1.size : Int) ≤ 24))) else (some false)) else (some false))) = some r := by rw [if_pos rfl] at H; exact H
  clear H
  have H := H1
  clear H1
  replace H := Option.bind_eq_some_iff.mp H
  obtain ⟨t151003, A40, H⟩ := H
  replace H : (if t151003 = true then (if (a0_0.size : Int) ≤ 24 then (some (decide ((a0_1.size : Int) ≤ 24))) else (some false)) else (some false)) = some r := H
  have A4 := Aside0.mk A40
  clear A40
  by_cases c5 : t151003 = true
  ·subst c5
   have H1 : (if (a0_0.size : Int) ≤ 24 then (some (decide ((a0_1.size : Int) ≤ 24))) else (some false)) = some r := by rw [if_pos rfl] at H; exact H
   clear H
   have H := H1
   clear H1
   by_cases c6 : (a0_0.size : Int) ≤ 24
   ·rw [if_pos c6] at H
    have c6b0 : decide ((a0_0.size : Int) ≤ 24) = true := decide_eq_true c6
    have c6b1 : decide (a0_0.size ≤ 24) = true := decide_eq_true (by omega)
    clear c6
    obtain rfl := Option.some.inj H
    go_enter Try.func151, Try.ntmps151
    go_wp2_with (first | ((with_reducible refine gate_dst (N := 1) rfl ?_); (try (refine gate_guard (by rfl) ?_; dsimp only)); refine box_event ?hg (N := 1) ?hd (cs := #[.string a0_0, .string a0_1]) (t := 58) ?hr ?_; (case hd => rfl); (case hg => rfl); (case hr => first | (go_simp; done) | (go_simp; rfl)); intro gb151001 hg w7 hbox hb; have n0_ := Aside0.mk (below_step (by repeat (first | (with_reducible first | exact HB.out | apply below_alloc | apply pw_below_drewN | apply below_drew1) | exact HB.out)) hb); have n1_ := Aside0.mk (hbox); have n2_ := Aside0.mk ((by rw [hg]; exact (below_size (by repeat (first | (with_reducible first | exact HB.out | apply below_alloc | apply pw_below_drewN | apply below_drew1) | exact HB.out))) : w.heap.size ≤ gb151001)); have n3_ := Aside0.mk ((by rw [hg]; exact (below_size (by repeat (first | (with_reducible first | exact HB.out | apply below_alloc | apply pw_below_drewN | apply below_drew1) | exact HB.out))) : w.heap.size ≤ gb151001)); clear HB; have HB := n0_; have BK151001 := n1_; have GW151001 := n2_; have GE151001 := n3_; clear n0_ n1_ n2_ n3_; clear hb hbox hg; have hcz8_0 : w7.cell? ⟨gb151001, 0, none⟩ = some (.string a0_0) := (blk_cell BK151001.out 0).trans rfl; have hcz8_1 : w7.cell? ⟨gb151001, 1, none⟩ = some (.string a0_1) := (blk_cell BK151001.out 1).trans rfl; have hfz8_0 := blk_frozen BK151001.out 0; have hfz8_1 := blk_frozen BK151001.out 1) | ((with_reducible refine gate_callee (f := 184) rfl ?_); refine goesL_ (some 5) rfl rfl Try.func184 (by kernel_rfl) rfl #[.string a0_0] rfl (by (try simp only [List.map_toArray, List.map_cons, List.map_nil]); first | done | rfl | (simp only [List.length_drop, List.length_take]; rfl)) ?_; (with_reducible refine (impl_isSide.calls k a0_0 true _ A2.out).mono ?_); rintro e w' ⟨rfl, ⟨nd, rfl⟩⟩; refine ⟨_, rfl, ?_⟩) | (go_at_call 184; (with_reducible refine (impl_isSide.calls k a0_1 true _ A4.out).mono ?_); rintro e w' ⟨rfl, ⟨nd, rfl⟩⟩))
    go_ret
    exact ⟨by first | rfl | (simp [errW_none, errW_some] <;> rfl) | (simp [*, errW_none, errW_some] <;> rfl), by repeat (first | (with_reducible first | exact HB.out | apply below_alloc | apply pw_below_drewN | apply below_drew1 | refine below_set ?_ GE151001.out) | exact HB.out)⟩
   ·rw [if_neg c6] at H
    have c6b0 : decide ((a0_0.size : Int) ≤ 24) = false := decide_eq_false c6
    have c6b1 : decide (a0_0.size ≤ 24) = false := decide_eq_false (by omega)
    clear c6
    obtain rfl := Option.some.inj H
    go_enter Try.func151, Try.ntmps151
    go_wp2_with (first | ((with_reducible refine gate_dst (N := 1) rfl ?_); (try (refine gate_guard (by rfl) ?_; dsimp only)); refine box_event ?hg (N := 1) ?hd (cs := #[.string a0_0, .string a0_1]) (t := 58) ?hr ?_; (case hd => rfl); (case hg => rfl); (case hr => first | (go_simp; done) | (go_simp; rfl)); intro gb151001 hg w9 hbox hb; have n0_ := Aside0.mk (below_step (by repeat (first | (with_reducible first | exact HB.out | apply below_alloc | apply pw_below_drewN | apply below_drew1) | exact HB.out)) hb); have n1_ := Aside0.mk (hbox); have n2_ := Aside0.mk ((by rw [hg]; exact (below_size (by repeat (first | (with_reducible first | exact HB.out | apply below_alloc | apply pw_below_drewN | apply below_drew1) | exact HB.out))) : w.heap.size ≤ gb151001)); have n3_ := Aside0.mk ((by rw [hg]; exact (below_size (by repeat (first | (with_reducible first | exact HB.out | apply below_alloc | apply pw_below_drewN | apply below_drew1) | exact HB.out))) : w.heap.size ≤ gb151001)); clear HB; have HB := n0_; have BK151001 := n1_; have GW151001 := n2_; have GE151001 := n3_; clear n0_ n1_ n2_ n3_; clear hb hbox hg; have hcz10_0 : w9.cell? ⟨gb151001, 0, none⟩ = some (.string a0_0) := (blk_cell BK151001.out 0).trans rfl; have hcz10_1 : w9.cell? ⟨gb151001, 1, none⟩ = some (.string a0_1) := (blk_cell BK151001.out 1).trans rfl; have hfz10_0 := blk_frozen BK151001.out 0; have hfz10_1 := blk_frozen BK151001.out 1) | ((with_reducible refine gate_callee (f := 184) rfl ?_); refine goesL_ (some 5) rfl rfl Try.func184 (by kernel_rfl) rfl #[.string a0_0] rfl (by (try simp only [List.map_toArray, List.map_cons, List.map_nil]); first | done | rfl | (simp only [List.length_drop, List.length_take]; rfl)) ?_; (with_reducible refine (impl_isSide.calls k a0_0 true _ A2.out).mono ?_); rintro e w' ⟨rfl, ⟨nd, rfl⟩⟩; refine ⟨_, rfl, ?_⟩) | (go_at_call 184; (with_reducible refine (impl_isSide.calls k a0_1 true _ A4.out).mono ?_); rintro e w' ⟨rfl, ⟨nd, rfl⟩⟩))
    go_ret
    exact ⟨by first | rfl | (simp [errW_none, errW_some] <;> rfl) | (simp [*, errW_none, errW_some] <;> rfl), by repeat (first | (with_reducible first | exact HB.out | apply below_alloc | apply pw_below_drewN | apply below_drew1 | refine below_set ?_ GE151001.out) | exact HB.out)⟩
  ·replace c5 := Bool.eq_false_iff.mpr c5
   subst c5
   have H1 : (some false) = some r := by rw [if_neg (show ¬ (false = true) by decide)] at H; exact H
   clear H
   have H := H1
   clear H1
   obtain rfl := Option.some.inj H
   go_enter Try.func151, Try.ntmps151
   go_wp2_with (first | ((with_reducible refine gate_dst (N := 1) rfl ?_); (try (refine gate_guard (by rfl) ?_; dsimp only)); refine box_event ?hg (N := 1) ?hd (cs := #[.string a0_0, .string a0_1]) (t := 58) ?hr ?_; (case hd => rfl); (case hg => rfl); (case hr => first | (go_simp; done) | (go_simp; rfl)); intro gb151001 hg w11 hbox hb; have n0_ := Aside0.mk (below_step (by repeat (first | (with_reducible first | exact HB.out | apply below_alloc | apply pw_below_drewN | apply below_drew1) | exact HB.out)) hb); have n1_ := Aside0.mk (hbox); have n2_ := Aside0.mk ((by rw [hg]; exact (below_size (by repeat (first | (with_reducible first | exact HB.out | apply below_alloc | apply pw_below_drewN | apply below_drew1) | exact HB.out))) : w.heap.size ≤ gb151001)); have n3_ := Aside0.mk ((by rw [hg]; exact (below_size (by repeat (first | (with_reducible first | exact HB.out | apply below_alloc | apply pw_below_drewN | apply below_drew1) | exact HB.out))) : w.heap.size ≤ gb151001)); clear HB; have HB := n0_; have BK151001 := n1_; have GW151001 := n2_; have GE151001 := n3_; clear n0_ n1_ n2_ n3_; clear hb hbox hg; have hcz12_0 : w11.cell? ⟨gb151001, 0, none⟩ = some (.string a0_0) := (blk_cell BK151001.out 0).trans rfl; have hcz12_1 : w11.cell? ⟨gb151001, 1, none⟩ = some (.string a0_1) := (blk_cell BK151001.out 1).trans rfl; have hfz12_0 := blk_frozen BK151001.out 0; have hfz12_1 := blk_frozen BK151001.out 1) | ((with_reducible refine gate_callee (f := 184) rfl ?_); refine goesL_ (some 5) rfl rfl Try.func184 (by kernel_rfl) rfl #[.string a0_0] rfl (by (try simp only [List.map_toArray, List.map_cons, List.map_nil]); first | done | rfl | (simp only [List.length_drop, List.length_take]; rfl)) ?_; (with_reducible refine (impl_isSide.calls k a0_0 true _ A2.out).mono ?_); rintro e w' ⟨rfl, ⟨nd, rfl⟩⟩; refine ⟨_, rfl, ?_⟩) | (go_at_call 184; (with_reducible refine (impl_isSide.calls k a0_1 false _ A4.out).mono ?_); rintro e w' ⟨rfl, ⟨nd, rfl⟩⟩))
   go_ret
   exact ⟨by first | rfl | (simp [errW_none, errW_some] <;> rfl) | (simp [*, errW_none, errW_some] <;> rfl), by repeat (first | (with_reducible first | exact HB.out | apply below_alloc | apply pw_below_drewN | apply below_drew1 | refine below_set ?_ GE151001.out) | exact HB.out)⟩
 ·replace c3 := Bool.eq_false_iff.mpr c3
  subst c3
  have H1 : (some false) = some r := by rw [if_neg (show ¬ (false = true) by decide)] at H; exact H
  clear H
  have H := H1
  clear H1
  obtain rfl := Option.some.inj H
  go_enter Try.func151, Try.ntmps151
  go_wp2_with (first | ((with_reducible refine gate_dst (N := 1) rfl ?_); (try (refine gate_guard (by rfl) ?_; dsimp only)); refine box_event ?hg (N := 1) ?hd (cs := #[.string a0_0, .string a0_1]) (t := 58) ?hr ?_; (case hd => rfl); (case hg => rfl); (case hr => first | (go_simp; done) | (go_simp; rfl)); intro gb151001 hg w13 hbox hb; have n0_ := Aside0.mk (below_step (by repeat (first | (with_reducible first | exact HB.out | apply below_alloc | apply pw_below_drewN | apply below_drew1) | exact HB.out)) hb); have n1_ := Aside0.mk (hbox); have n2_ := Aside0.mk ((by rw [hg]; exact (below_size (by repeat (first | (with_reducible first | exact HB.out | apply below_alloc | apply pw_below_drewN | apply below_drew1) | exact HB.out))) : w.heap.size ≤ gb151001)); have n3_ := Aside0.mk ((by rw [hg]; exact (below_size (by repeat (first | (with_reducible first | exact HB.out | apply below_alloc | apply pw_below_drewN | apply below_drew1) | exact HB.out))) : w.heap.size ≤ gb151001)); clear HB; have HB := n0_; have BK151001 := n1_; have GW151001 := n2_; have GE151001 := n3_; clear n0_ n1_ n2_ n3_; clear hb hbox hg; have hcz14_0 : w13.cell? ⟨gb151001, 0, none⟩ = some (.string a0_0) := (blk_cell BK151001.out 0).trans rfl; have hcz14_1 : w13.cell? ⟨gb151001, 1, none⟩ = some (.string a0_1) := (blk_cell BK151001.out 1).trans rfl; have hfz14_0 := blk_frozen BK151001.out 0; have hfz14_1 := blk_frozen BK151001.out 1) | ((with_reducible refine gate_callee (f := 184) rfl ?_); refine goesL_ (some 5) rfl rfl Try.func184 (by kernel_rfl) rfl #[.string a0_0] rfl (by (try simp only [List.map_toArray, List.map_cons, List.map_nil]); first | done | rfl | (simp only [List.length_drop, List.length_take]; rfl)) ?_; (with_reducible refine (impl_isSide.calls k a0_0 false _ A2.out).mono ?_); rintro e w' ⟨rfl, ⟨nd, rfl⟩⟩; refine ⟨_, rfl, ?_⟩))
  go_ret
  exact ⟨by first | rfl | (simp [errW_none, errW_some] <;> rfl) | (simp [*, errW_none, errW_some] <;> rfl), by repeat (first | (with_reducible first | exact HB.out | apply below_alloc | apply pw_below_drewN | apply below_drew1 | refine below_set ?_ GE151001.out) | exact HB.out)⟩
end Go.Proofs.Ytpppopdmnejcfaa.A
namespace Go.Proofs.Ytpppopdmnejcfaa.A
open Go.RowKit Go.Proofs.Ytpppopdmnejcfaa.Ext Go.Proofs.YtpppopdmnejcfaaW.PrintWords Go.Proofs.YtpppopdmnejcfaaW.PrintLast Go.Proofs.YtpppopdmnejcfaaW.PrintMore
attribute [local go_sem] max2_int min2_int max_two min_two max_three min_three max_four min_four
def impl_JoinEquations.l0 : Nat → List ByteArray → List ByteArray → List (S44) → Int → Int → Option (ByteArray × ByteArray × Bool)
 | 0, _, _, _, _, _ => none
 | k + 1, x4, x5, x16, x17, x18 => if x18 < x17 then (if 0 ≤ x18 then (if x18 < (x16.length : Int) then (if ((rd_T44 x16 x18).f0) = 1 then (if x4.length < 8796093022208 then (if x5.length < 8796093022208 then (impl_JoinEquations.l0 k (x4 ++ [(rd_T44 x16 x18).f1]) (x5 ++ [(rd_T44 x16 x18).f2]) x16 x17 (wrap64 (x18 + 1))) else (none)) else (none)) else (impl_JoinEquations.l0 k x4 x5 x16 x17 (wrap64 (x18 + 1)))) else (none)) else (none)) else ((impl_Join.f k x4 (⟨#[35]⟩ : ByteArray)).bind fun t70018 => ((impl_Join.f k x5 (⟨#[35]⟩ : ByteArray)).bind fun t70019 => ((impl_IsEquation.f k t70018 t70019).bind fun t70021 => (if t70021 = true then (some (t70018, t70019, true)) else (some ((⟨#[]⟩ : ByteArray), (⟨#[]⟩ : ByteArray), false))))))
def impl_JoinEquations.f (k : Nat) (l0_0 : List (S44)) : Option (ByteArray × ByteArray × Bool) := (impl_IsValidProblem.f k l0_0).bind fun t70003 => (if t70003 = true then (impl_JoinEquations.l0 k (([] : List ByteArray)) (([] : List ByteArray)) l0_0 (l0_0.length : Int) 0) else (some ((⟨#[]⟩ : ByteArray), (⟨#[]⟩ : ByteArray), false)))
theorem impl_JoinEquations.mono_l : ∀ k, (∀ y0 y1 y2 y3 y4, LeO (impl_JoinEquations.l0 k y0 y1 y2 y3 y4) (impl_JoinEquations.l0 (k + 1) y0 y1 y2 y3 y4))
 | 0 => fun _ _ _ _ _ r h => by simp [impl_JoinEquations.l0] at h
 | k + 1 => by
  have ih0 := impl_JoinEquations.mono_l k
  ·intro y0 y1 y2 y3 y4
   unfold impl_JoinEquations.l0
   repeat' first
   | (with_reducible exact ih0 _ _ _ _ _)
   | (with_reducible exact impl_IsEquation.mono _ _ _)
   | (with_reducible exact impl_IsValidProblem.mono _ _)
   | (with_reducible exact impl_Join.mono _ _ _)
   | (with_reducible exact LeO.refl _)
   | (with_reducible exact LeO.none _)
   | (with_reducible refine LeO.ite ?_ ?_)
   | (with_reducible refine LeO.bind ?_ (fun _ => ?_))
theorem impl_JoinEquations.mono : ∀ a0 k, LeO (impl_JoinEquations.f k a0) (impl_JoinEquations.f (k + 1) a0) := by
 intro a0 k
 have ih0 := impl_JoinEquations.mono_l k
 unfold impl_JoinEquations.f
 repeat' first
   | (with_reducible exact ih0 _ _ _ _ _)
   | (with_reducible exact impl_IsEquation.mono _ _ _)
   | (with_reducible exact impl_IsValidProblem.mono _ _)
   | (with_reducible exact impl_Join.mono _ _ _)
   | (with_reducible exact LeO.refl _)
   | (with_reducible exact LeO.none _)
   | (with_reducible refine LeO.ite ?_ ?_)
   | (with_reducible refine LeO.bind ?_ (fun _ => ?_))
theorem impl_JoinEquations.calls (k : Nat) (A0_0 : Option Addr) (c0_0 : Nat) (l0_0 : List (S44)) (r1 : ByteArray) (r2 : ByteArray) (r3 : Bool) (w : World) (hr0_0 : Kd.C k44 w A0_0 l0_0.length l0_0) (hc0_0 : l0_0.length ≤ c0_0) (h : impl_JoinEquations.f k l0_0 = some (r1, r2, r3)) :
  Calls Try.prog 70 #[.agg #[.slice A0_0 l0_0.length c0_0]] w fun e w' => e = .returned (.tuple #[.agg #[.string r1, .string r2], .bool r3]) ∧ Below w.heap.size w w' := by
 have hu29 := Try.underlying29
 have hu58 := Try.underlying58
 have hu44 := Try.underlying44
 have HR0_0 := Aside0.mk hr0_0
 have HC0_0 := Aside0.mk hc0_0
 clear hr0_0 hc0_0
 have HB := Aside0.mk (Below.refl w.heap.size w)
 have H : ((impl_IsValidProblem.f k l0_0).bind fun t70003 => (if t70003 = true then (impl_JoinEquations.l0 k (([] : List ByteArray)) (([] : List ByteArray)) l0_0 (l0_0.length : Int) 0) else (some ((⟨#[]⟩ : ByteArray), (⟨#[]⟩ : ByteArray), false)))) = some (r1, r2, r3) := h
 clear h
 replace H := Option.bind_eq_some_iff.mp H
 obtain ⟨t70003, A20, H⟩ := H
 replace H : (if t70003 = true then (impl_JoinEquations.l0 k (([] : List ByteArray)) (([] : List ByteArray)) l0_0 (l0_0.length : Int) 0) else (some ((⟨#[]⟩ : ByteArray), (⟨#[]⟩ : ByteArray), false))) = some (r1, r2, r3) := H
 have A2 := Aside0.mk A20
 clear A20
 by_cases c3 : t70003 = true
 ·subst c3
  have H1 : (impl_JoinEquations.l0 k (([] : List ByteArray)) (([] : List ByteArray)) l0_0 (l0_0.length : Int) 0) = some (r1, r2, r3) := by rw [if_pos rfl] at H; exact H
  clear H
  have H := H1
  clear H1
  obtain ⟨y70004, hy70004⟩ : ∃ y_ : List ByteArray, y_ = (([] : List ByteArray)) := ⟨_, rfl⟩
  replace H : (impl_JoinEquations.l0 k y70004 (([] : List ByteArray)) l0_0 (l0_0.length : Int) 0) = some (r1, r2, r3) := by first | (rw [hy70004]; with_reducible exact H) | (have H2_ := (Option.bind_some _ _).symm.trans H; rw [hy70004]; with_reducible exact H2_) | (have H2_ := (Option.bind_some _ _).symm.trans H; with_reducible exact H2_) | with_reducible exact H | (rw [hy70004]; exact H) | exact H
  have Ny70004 := Aside0.mk hy70004
  clear hy70004
  obtain ⟨y70007, hy70007⟩ : ∃ y_ : List ByteArray, y_ = (([] : List ByteArray)) := ⟨_, rfl⟩
  replace H : (impl_JoinEquations.l0 k y70004 y70007 l0_0 (l0_0.length : Int) 0) = some (r1, r2, r3) := by first | (rw [hy70007]; with_reducible exact H) | (have H2_ := (Option.bind_some _ _).symm.trans H; rw [hy70007]; with_reducible exact H2_) | (have H2_ := (Option.bind_some _ _).symm.trans H; with_reducible exact H2_) | with_reducible exact H | (rw [hy70007]; exact H) | exact H
  have Ny70007 := Aside0.mk hy70007
  clear hy70007
  have H' := Aside0.mk H
  clear H
  go_enter Try.func70, Try.ntmps70
  go_wp2_with (first | ((with_reducible refine gate_dst (N := 1) rfl ?_); refine box_event ?hg (N := 1) ?hd (cs := #[.slice A0_0 l0_0.length c0_0]) (t := 29) ?hr ?_; (case hd => rfl); (case hg => rfl); (case hr => first | (go_simp; done) | (go_simp; rfl)); intro gb70001 hg w4 hbox hb; have n0_ := Aside0.mk (below_step (by repeat (first | (with_reducible first | exact HB.out | apply below_alloc | apply pw_below_drewN | apply below_drew1) | exact HB.out)) hb); have n1_ := Aside0.mk (hbox); have n2_ := Aside0.mk ((by rw [hg]; exact (below_size (by repeat (first | (with_reducible first | exact HB.out | apply below_alloc | apply pw_below_drewN | apply below_drew1) | exact HB.out))) : w.heap.size ≤ gb70001)); have n3_ := Aside0.mk ((by rw [hg]; exact (below_size (by repeat (first | (with_reducible first | exact HB.out | apply below_alloc | apply pw_below_drewN | apply below_drew1) | exact HB.out))) : w.heap.size ≤ gb70001)); clear HB; have HB := n0_; have BK70001 := n1_; have GW70001 := n2_; have GE70001 := n3_; clear n0_ n1_ n2_ n3_; clear hb hbox hg) | ((with_reducible refine gate_dst (N := 2) rfl ?_); refine box_event ?hg (N := 2) ?hd (cs := #[.string (⟨#[]⟩ : ByteArray), .string (⟨#[]⟩ : ByteArray)]) (t := 58) ?hr ?_; (case hd => rfl); (case hg => rfl); (case hr => first | (go_simp; done) | (go_simp; rfl)); intro gb70002 hg w5 hbox hb; have n0_ := Aside0.mk (blk_below (g := gb70001) (o := .cells #[.slice A0_0 l0_0.length c0_0] 29 (0, 0)) (by (with_reducible repeat (first | refine blk_drewN ?_ _ | refine blk_drew ?_ | refine blk_alloc ?_ _)); exact BK70001.out) hb); have n1_ := Aside0.mk (below_step (by repeat (first | (with_reducible first | exact HB.out | apply below_alloc | apply pw_below_drewN | apply below_drew1 | refine below_set ?_ GE70001.out) | exact HB.out)) hb); have n2_ := Aside0.mk (hbox); have n3_ := Aside0.mk ((by rw [hg]; exact (below_size (by repeat (first | (with_reducible first | exact HB.out | apply below_alloc | apply pw_below_drewN | apply below_drew1 | refine below_set ?_ GE70001.out) | exact HB.out))) : w.heap.size ≤ gb70002)); have n4_ := Aside0.mk ((by rw [hg]; exact (below_size (by repeat (first | (with_reducible first | exact HB.out | apply below_alloc | apply pw_below_drewN | apply below_drew1 | refine below_set ?_ GE70001.out) | exact HB.out))) : w.heap.size ≤ gb70002)); have n5_ := Aside0.mk ((by rw [hg]; exact Nat.ne_of_lt (blk_lt (g := gb70001) (o := .cells #[.slice A0_0 l0_0.length c0_0] 29 (0, 0)) (by (with_reducible repeat (first | refine blk_drewN ?_ _ | refine blk_drew ?_ | refine blk_alloc ?_ _)); exact BK70001.out)) : gb70001 ≠ gb70002)); have n6_ := Aside0.mk ((by rw [hg]; exact Nat.ne_of_gt (blk_lt (g := gb70001) (o := .cells #[.slice A0_0 l0_0.length c0_0] 29 (0, 0)) (by (with_reducible repeat (first | refine blk_drewN ?_ _ | refine blk_drew ?_ | refine blk_alloc ?_ _)); exact BK70001.out)) : gb70002 ≠ gb70001)); clear BK70001; clear HB; have BK70001 := n0_; have HB := n1_; have BK70002 := n2_; have GW70002 := n3_; have GE70002 := n4_; have NB70001_70002 := n5_; have NB70002_70001 := n6_; clear n0_ n1_ n2_ n3_ n4_ n5_ n6_; clear hb hbox hg; have hnb6 := NB70001_70002.out; have hnc6 := NB70002_70001.out; have hcz7_0 : w5.cell? ⟨gb70001, 0, none⟩ = some (.slice A0_0 l0_0.length c0_0) := (blk_cell BK70001.out 0).trans rfl; have hfz7_0 := blk_frozen BK70001.out 0) | ((with_reducible refine gate_callee (f := 64) rfl ?_); refine goesL_ (some 10) rfl rfl Try.func64 (by kernel_rfl) rfl #[.agg #[.slice A0_0 l0_0.length c0_0]] rfl (by (try simp only [List.map_toArray, List.map_cons, List.map_nil]); first | done | rfl | (simp only [List.length_drop, List.length_take]; rfl)) ?_; (with_reducible refine (impl_IsValidProblem.calls k _ _ l0_0 true _ ?side1 ?side2 A2.out).mono ?_); (case side1 => repeat (first | exact (Kd.C_below HR0_0.out HB.out) | (with_reducible refine Kd.C_alloc ?_ _) | (with_reducible refine Kd.C_drewN ?_ _) | (with_reducible refine Kd.C_drew ?_))); (case side2 => exact HC0_0.out); rintro e w8 ⟨rfl, hb⟩; refine ⟨_, rfl, ?_⟩; have n0_ := Aside0.mk (blk_below (g := gb70001) (o := .cells #[.slice A0_0 l0_0.length c0_0] 29 (0, 0)) (by (with_reducible repeat (first | refine blk_drewN ?_ _ | refine blk_drew ?_ | refine blk_alloc ?_ _)); exact BK70001.out) hb); have n1_ := Aside0.mk (blk_below (g := gb70002) (o := .cells #[.string (⟨#[]⟩ : ByteArray), .string (⟨#[]⟩ : ByteArray)] 58 (0, 0)) (by (with_reducible repeat (first | refine blk_drewN ?_ _ | refine blk_drew ?_ | refine blk_alloc ?_ _)); exact BK70002.out) hb); have n2_ := Aside0.mk (below_step (by repeat (first | (with_reducible first | exact HB.out | apply below_alloc | apply pw_below_drewN | apply below_drew1 | refine below_set ?_ GE70001.out | refine below_set ?_ GE70002.out) | exact HB.out)) hb); clear BK70001; clear BK70002; clear HB; have BK70001 := n0_; have BK70002 := n1_; have HB := n2_; clear n0_ n1_ n2_; (try clear hb); (try clear hb2); (try clear hk); (try clear hi)) | ((with_reducible refine gate_dst (N := 13) rfl ?_); refine Kd.R_lit Kd.string _ 9 ?hg (N := 13) ?hd (xs := ([] : List ByteArray)) (inner := []) (ok := fun _ => True) (okp := fun _ => True) ?hr ?hp (fun _ hk => hk) trivial (Below.refl _ _) (Nat.le_refl _) (by simp) ?_; (case hd => rfl); (case hg => rfl); (case hr => first | (go_simp; done) | (go_simp; rfl)); (case hp => exact (Reps.none _ _)); intro v70005 w9 ho10 hb hg_ hnew_; clear hg_ hnew_; (first | rw [← Ny70004.out] at ho10 | (simp only [Int.reduceToNat] at ho10; rw [← Ny70004.out] at ho10)); have n0_ := Aside0.mk (Kd.R_lower ho10 (below_size (by repeat (first | (with_reducible first | exact HB.out | apply below_alloc | apply pw_below_drewN | apply below_drew1 | refine below_set ?_ GE70001.out | refine below_set ?_ GE70002.out) | exact HB.out)))); have n1_ := Aside0.mk (blk_below (g := gb70001) (o := .cells #[.slice A0_0 l0_0.length c0_0] 29 (0, 0)) (by (with_reducible repeat (first | refine blk_drewN ?_ _ | refine blk_drew ?_ | refine blk_alloc ?_ _)); exact BK70001.out) hb); have n2_ := Aside0.mk (blk_below (g := gb70002) (o := .cells #[.string (⟨#[]⟩ : ByteArray), .string (⟨#[]⟩ : ByteArray)] 58 (0, 0)) (by (with_reducible repeat (first | refine blk_drewN ?_ _ | refine blk_drew ?_ | refine blk_alloc ?_ _)); exact BK70002.out) hb); have n3_ := Aside0.mk (below_step (by repeat (first | (with_reducible first | exact HB.out | apply below_alloc | apply pw_below_drewN | apply below_drew1 | refine below_set ?_ GE70001.out | refine below_set ?_ GE70002.out) | exact HB.out)) hb); clear BK70001; clear BK70002; clear HB; have HO70006 := n0_; have BK70001 := n1_; have BK70002 := n2_; have HB := n3_; clear n0_ n1_ n2_ n3_; clear hb ho10) | ((with_reducible refine gate_dst (N := 14) rfl ?_); refine Kd.R_lit Kd.string _ 9 ?hg (N := 14) ?hd (xs := ([] : List ByteArray)) (inner := []) (ok := fun _ => True) (okp := fun _ => True) ?hr ?hp (fun _ hk => hk) trivial (Below.refl _ _) (Nat.le_refl _) (by simp) ?_; (case hd => rfl); (case hg => rfl); (case hr => first | (go_simp; done) | (go_simp; rfl)); (case hp => exact (Reps.none _ _)); intro v70008 w11 ho12 hb hg_ hnew_; clear hg_ hnew_; (first | rw [← Ny70007.out] at ho12 | (simp only [Int.reduceToNat] at ho12; rw [← Ny70007.out] at ho12)); have n0_ := Aside0.mk (Kd.R_elder' (by (with_reducible repeat (first | apply Kd.R_alloc | apply Kd.R_drewN | apply Kd.R_drew)); exact HO70006.out) (Kd.R_base ho12) hb); have n1_ := Aside0.mk (Kd.R_lower (Kd.R_new' ho12 (Kd.R_lt (by (with_reducible repeat (first | apply Kd.R_alloc | apply Kd.R_drewN | apply Kd.R_drew)); exact HO70006.out))) (below_size (by repeat (first | (with_reducible first | exact HB.out | apply below_alloc | apply pw_below_drewN | apply below_drew1 | refine below_set ?_ GE70001.out | refine below_set ?_ GE70002.out) | exact HB.out)))); have n2_ := Aside0.mk (blk_below (g := gb70001) (o := .cells #[.slice A0_0 l0_0.length c0_0] 29 (0, 0)) (by (with_reducible repeat (first | refine blk_drewN ?_ _ | refine blk_drew ?_ | refine blk_alloc ?_ _)); exact BK70001.out) hb); have n3_ := Aside0.mk (blk_below (g := gb70002) (o := .cells #[.string (⟨#[]⟩ : ByteArray), .string (⟨#[]⟩ : ByteArray)] 58 (0, 0)) (by (with_reducible repeat (first | refine blk_drewN ?_ _ | refine blk_drew ?_ | refine blk_alloc ?_ _)); exact BK70002.out) hb); have n4_ := Aside0.mk (below_step (by repeat (first | (with_reducible first | exact HB.out | apply below_alloc | apply pw_below_drewN | apply below_drew1 | refine below_set ?_ GE70001.out | refine below_set ?_ GE70002.out) | exact HB.out)) hb); clear HO70006; clear BK70001; clear BK70002; clear HB; have HO70006 := n0_; have HO70009 := n1_; have BK70001 := n2_; have BK70002 := n3_; have HB := n4_; clear n0_ n1_ n2_ n3_ n4_; clear hb ho12; have hcz13_0 : w11.cell? ⟨gb70001, 0, none⟩ = some (.slice A0_0 l0_0.length c0_0) := (blk_cell BK70001.out 0).trans rfl; have hfz13_0 := blk_frozen BK70001.out 0))
  first | go_loopg [4, 5, 18] k (fun kq v4 v5 v18 w' => ∃ (x4_1 : List ByteArray) (x5_1 : List ByteArray) (x18_1 : Int), v18 = .int .i64 x18_1 ∧ Aside0 (impl_JoinEquations.l0 kq x4_1 x5_1 l0_0 (l0_0.length : Int) x18_1 = some (r1, r2, r3)) ∧ Aside0 (kq ≤ k) ∧ Aside0 (Kd.R Kd.string 9 w' w.heap.size (fun k_ => some k_ ≠ (v5 : Value).ownBlock) v4 x4_1) ∧ Aside0 (Kd.R Kd.string 9 w' w.heap.size (fun k_ => some k_ ≠ (v4 : Value).ownBlock) v5 x5_1) ∧ Aside0 (w'.heap[gb70001]? = some (.cells #[(.slice A0_0 l0_0.length c0_0)] 29 (0, 0))) ∧ Aside0 (w'.heap[gb70002]? = some (.cells #[.string (⟨#[]⟩ : ByteArray), .string (⟨#[]⟩ : ByteArray)] 58 (0, 0))) ∧ Aside0 (Below w.heap.size w w')) | (simp only [Act.put, List.setIfInBounds_toArray, List.set_cons_succ, List.set_cons_zero]; go_loopg [4, 5, 18] k (fun kq v4 v5 v18 w' => ∃ (x4_1 : List ByteArray) (x5_1 : List ByteArray) (x18_1 : Int), v18 = .int .i64 x18_1 ∧ Aside0 (impl_JoinEquations.l0 kq x4_1 x5_1 l0_0 (l0_0.length : Int) x18_1 = some (r1, r2, r3)) ∧ Aside0 (kq ≤ k) ∧ Aside0 (Kd.R Kd.string 9 w' w.heap.size (fun k_ => some k_ ≠ (v5 : Value).ownBlock) v4 x4_1) ∧ Aside0 (Kd.R Kd.string 9 w' w.heap.size (fun k_ => some k_ ≠ (v4 : Value).ownBlock) v5 x5_1) ∧ Aside0 (w'.heap[gb70001]? = some (.cells #[(.slice A0_0 l0_0.length c0_0)] 29 (0, 0))) ∧ Aside0 (w'.heap[gb70002]? = some (.cells #[.string (⟨#[]⟩ : ByteArray), .string (⟨#[]⟩ : ByteArray)] 58 (0, 0))) ∧ Aside0 (Below w.heap.size w w')))
  case atStart => exact ⟨(y70004), (y70007), (0), (by first | rfl | (simp; done) | (simp [*]; done)), H', ⟨Nat.le_refl _⟩, ⟨by (with_reducible repeat (first | apply Kd.R_alloc | apply Kd.R_drewN | apply Kd.R_drew)); exact Kd.R_mono HO70006.out (fun _ hk => hk.2)⟩, ⟨by (with_reducible repeat (first | apply Kd.R_alloc | apply Kd.R_drewN | apply Kd.R_drew)); exact Kd.R_mono HO70009.out (fun _ hk => hk.2)⟩, ⟨by (with_reducible repeat (first | refine blk_drewN ?_ _ | refine blk_drew ?_ | refine blk_alloc ?_ _)); exact BK70001.out⟩, ⟨by (with_reducible repeat (first | refine blk_drewN ?_ _ | refine blk_drew ?_ | refine blk_alloc ?_ _)); exact BK70002.out⟩, ⟨by repeat (first | (with_reducible first | exact HB.out | apply below_alloc | apply pw_below_drewN | apply below_drew1 | refine below_set ?_ GE70001.out | refine below_set ?_ GE70002.out) | exact HB.out)⟩⟩
  case round =>
   clear H'
   try clear p2
   try clear c3
   try clear c6
   try clear c7
   try clear hcz13_0
   try clear hcz7_0
   try clear hfz13_0
   try clear hfz7_0
   obtain ⟨x4_1, x5_1, x18_1, rfl, HA, HK1, HO_4, HO_5, BK70001, BK70002, HB⟩ := hrel
   cases gk with
   | zero => exact absurd HA.out (by simp [impl_JoinEquations.l0])
   | succ k1 =>
    have H := HA.out
    clear HA
    simp only [impl_JoinEquations.l0] at H
    by_cases c14 : x18_1 < (l0_0.length : Int)
    ·rw [if_pos c14] at H
     have c14b0 : decide (x18_1 < (l0_0.length : Int)) = true := decide_eq_true c14
     clear c14
     by_cases c15 : 0 ≤ x18_1
     ·rw [if_pos c15] at H
      have c15b0 : decide (0 ≤ x18_1) = true := decide_eq_true c15
      clear c15
      by_cases c16 : x18_1 < (l0_0.length : Int)
      ·rw [if_pos c16] at H
       have c16b0 : decide (x18_1 < (l0_0.length : Int)) = true := decide_eq_true c16
       clear c16
       by_cases c17 : ((rd_T44 l0_0 x18_1).f0) = 1
       ·rw [if_pos c17] at H
        have c17b0 : (((rd_T44 l0_0 x18_1).f0) == 1) = true := beq_iff_eq.mpr c17
        have c17b1 : (((rd_T44 l0_0 x18_1).f0) != 1) = false := bne_eq_false_iff_eq.mpr c17
        clear c17
        by_cases c18 : x4_1.length < 8796093022208
        ·rw [if_pos c18] at H
         have LMc18 := Aside0.mk c18
         clear c18
         obtain ⟨y70012, hy70012⟩ : ∃ y_ : List ByteArray, y_ = (x4_1 ++ [(rd_T44 l0_0 x18_1).f1]) := ⟨_, rfl⟩
         replace H : (if x5_1.length < 8796093022208 then (impl_JoinEquations.l0 k1 y70012 (x5_1 ++ [(rd_T44 l0_0 x18_1).f2]) l0_0 (l0_0.length : Int) (wrap64 (x18_1 + 1))) else (none)) = some (r1, r2, r3) := by first | (rw [hy70012]; with_reducible exact H) | (have H2_ := (Option.bind_some _ _).symm.trans H; rw [hy70012]; with_reducible exact H2_) | (have H2_ := (Option.bind_some _ _).symm.trans H; with_reducible exact H2_) | with_reducible exact H | (rw [hy70012]; exact H) | exact H
         have Ny70012 := Aside0.mk hy70012
         clear hy70012
         by_cases c19 : x5_1.length < 8796093022208
         ·rw [if_pos c19] at H
          have LMc19 := Aside0.mk c19
          clear c19
          obtain ⟨y70015, hy70015⟩ : ∃ y_ : List ByteArray, y_ = (x5_1 ++ [(rd_T44 l0_0 x18_1).f2]) := ⟨_, rfl⟩
          replace H : (impl_JoinEquations.l0 k1 y70012 y70015 l0_0 (l0_0.length : Int) (wrap64 (x18_1 + 1))) = some (r1, r2, r3) := by first | (rw [hy70015]; with_reducible exact H) | (have H2_ := (Option.bind_some _ _).symm.trans H; rw [hy70015]; with_reducible exact H2_) | (have H2_ := (Option.bind_some _ _).symm.trans H; with_reducible exact H2_) | with_reducible exact H | (rw [hy70015]; exact H) | exact H
          have Ny70015 := Aside0.mk hy70015
          clear hy70015
          have H' := Aside0.mk H
          clear H
          have p70010 : 0 ≤ (x18_1 : Int) := of_decide_eq_true (by first | (with_reducible assumption) | assumption)
          have q70010 : x18_1 < (l0_0.length : Int) := of_decide_eq_true (by first | (with_reducible assumption) | assumption)
          obtain ⟨ad70010, A70010_5, c70010_5, A70010_6, c70010_6, e70010, hx70010_0, hx70010_1, hx70010_2, hx70010_3, hx70010_4, hx70010_5, hx70010_6, hx70010_7, hl70010_5, hi70010_5, hl70010_6, hi70010_6⟩ := at_T44 HR0_0.out x18_1 p70010 q70010
          cases e70010
          replace hx70010_0 := (HB.out.cell (World.block_lt_of_cell? w _ hx70010_0)).trans hx70010_0
          replace hx70010_1 := (HB.out.cell (World.block_lt_of_cell? w _ hx70010_1)).trans hx70010_1
          replace hx70010_2 := (HB.out.cell (World.block_lt_of_cell? w _ hx70010_2)).trans hx70010_2
          replace hx70010_3 := (HB.out.cell (World.block_lt_of_cell? w _ hx70010_3)).trans hx70010_3
          replace hx70010_4 := (HB.out.cell (World.block_lt_of_cell? w _ hx70010_4)).trans hx70010_4
          replace hx70010_5 := (HB.out.cell (World.block_lt_of_cell? w _ hx70010_5)).trans hx70010_5
          replace hx70010_6 := (HB.out.cell (World.block_lt_of_cell? w _ hx70010_6)).trans hx70010_6
          replace hx70010_7 := (HB.out.cell (World.block_lt_of_cell? w _ hx70010_7)).trans hx70010_7
          have HR70010_5 := Aside0.mk hi70010_5
          have HC70010_5 := Aside0.mk hl70010_5
          clear hi70010_5 hl70010_5
          have HR70010_6 := Aside0.mk hi70010_6
          have HC70010_6 := Aside0.mk hl70010_6
          clear hi70010_6 hl70010_6
          replace p70010 := eq_true p70010
          replace q70010 := eq_true q70010
          go_wp2_with (first | ((with_reducible refine gate_dst (N := 7) rfl ?_); refine box_event ?hg (N := 7) ?hd (cs := #[.int .i64 0, .string (⟨#[]⟩ : ByteArray), .string (⟨#[]⟩ : ByteArray), .int .i64 0, .string (⟨#[]⟩ : ByteArray), .slice none 0 0, .slice none 0 0, .int .i64 0]) (t := 44) ?hr ?_; (case hd => rfl); (case hg => rfl); (case hr => first | (go_simp; done) | (go_simp; rfl)); intro gb70011 hg w20 hbox hb; have n0_ := Aside0.mk (Kd.R_below (by (with_reducible repeat (first | apply Kd.R_alloc | apply Kd.R_drewN | apply Kd.R_drew)); exact HO_4.out) hb); have n1_ := Aside0.mk (Kd.R_below (by (with_reducible repeat (first | apply Kd.R_alloc | apply Kd.R_drewN | apply Kd.R_drew)); exact HO_5.out) hb); have n2_ := Aside0.mk (blk_below (g := gb70001) (o := .cells #[.slice (some ad70010) l0_0.length c0_0] 29 (0, 0)) (by (with_reducible repeat (first | refine blk_drewN ?_ _ | refine blk_drew ?_ | refine blk_alloc ?_ _)); exact BK70001.out) hb); have n3_ := Aside0.mk (blk_below (g := gb70002) (o := .cells #[.string (⟨#[]⟩ : ByteArray), .string (⟨#[]⟩ : ByteArray)] 58 (0, 0)) (by (with_reducible repeat (first | refine blk_drewN ?_ _ | refine blk_drew ?_ | refine blk_alloc ?_ _)); exact BK70002.out) hb); have n4_ := Aside0.mk (below_step (by repeat (first | (with_reducible first | exact HB.out | apply below_alloc | apply pw_below_drewN | apply below_drew1 | refine below_set ?_ GE70001.out | refine below_set ?_ GE70002.out) | exact HB.out)) hb); have n5_ := Aside0.mk (hbox); have n6_ := Aside0.mk ((by rw [hg]; exact (below_size (by repeat (first | (with_reducible first | exact HB.out | apply below_alloc | apply pw_below_drewN | apply below_drew1 | refine below_set ?_ GE70001.out | refine below_set ?_ GE70002.out) | exact HB.out))) : w.heap.size ≤ gb70011)); have n7_ := Aside0.mk ((by rw [hg]; exact (below_size (by repeat (first | (with_reducible first | exact HB.out | apply below_alloc | apply pw_below_drewN | apply below_drew1 | refine below_set ?_ GE70001.out | refine below_set ?_ GE70002.out) | exact HB.out))) : w.heap.size ≤ gb70011)); have n8_ := Aside0.mk ((by rw [hg]; exact Nat.ne_of_lt (blk_lt (g := gb70001) (o := .cells #[.slice (some ad70010) l0_0.length c0_0] 29 (0, 0)) (by (with_reducible repeat (first | refine blk_drewN ?_ _ | refine blk_drew ?_ | refine blk_alloc ?_ _)); exact BK70001.out)) : gb70001 ≠ gb70011)); have n9_ := Aside0.mk ((by rw [hg]; exact Nat.ne_of_gt (blk_lt (g := gb70001) (o := .cells #[.slice (some ad70010) l0_0.length c0_0] 29 (0, 0)) (by (with_reducible repeat (first | refine blk_drewN ?_ _ | refine blk_drew ?_ | refine blk_alloc ?_ _)); exact BK70001.out)) : gb70011 ≠ gb70001)); have n10_ := Aside0.mk ((by rw [hg]; exact Nat.ne_of_lt (blk_lt (g := gb70002) (o := .cells #[.string (⟨#[]⟩ : ByteArray), .string (⟨#[]⟩ : ByteArray)] 58 (0, 0)) (by (with_reducible repeat (first | refine blk_drewN ?_ _ | refine blk_drew ?_ | refine blk_alloc ?_ _)); exact BK70002.out)) : gb70002 ≠ gb70011)); have n11_ := Aside0.mk ((by rw [hg]; exact Nat.ne_of_gt (blk_lt (g := gb70002) (o := .cells #[.string (⟨#[]⟩ : ByteArray), .string (⟨#[]⟩ : ByteArray)] 58 (0, 0)) (by (with_reducible repeat (first | refine blk_drewN ?_ _ | refine blk_drew ?_ | refine blk_alloc ?_ _)); exact BK70002.out)) : gb70011 ≠ gb70002)); clear HO_4; clear HO_5; clear BK70001; clear BK70002; clear HB; have HO_4 := n0_; have HO_5 := n1_; have BK70001 := n2_; have BK70002 := n3_; have HB := n4_; have BK70011 := n5_; have GW70011 := n6_; have GE70011 := n7_; have NB70001_70011 := n8_; have NB70011_70001 := n9_; have NB70002_70011 := n10_; have NB70011_70002 := n11_; clear n0_ n1_ n2_ n3_ n4_ n5_ n6_ n7_ n8_ n9_ n10_ n11_; clear hb hbox hg; have hnb21 := NB70011_70001.out; have hnc21 := NB70001_70011.out; have hnb22 := NB70011_70002.out; have hnc22 := NB70002_70011.out; have hcz23_0 : w20.cell? ⟨gb70011, 0, none⟩ = some (.int .i64 0) := (blk_cell BK70011.out 0).trans rfl; have hcz23_1 : w20.cell? ⟨gb70011, 1, none⟩ = some (.string (⟨#[]⟩ : ByteArray)) := (blk_cell BK70011.out 1).trans rfl; have hcz23_2 : w20.cell? ⟨gb70011, 2, none⟩ = some (.string (⟨#[]⟩ : ByteArray)) := (blk_cell BK70011.out 2).trans rfl; have hcz23_3 : w20.cell? ⟨gb70011, 3, none⟩ = some (.int .i64 0) := (blk_cell BK70011.out 3).trans rfl; have hcz23_4 : w20.cell? ⟨gb70011, 4, none⟩ = some (.string (⟨#[]⟩ : ByteArray)) := (blk_cell BK70011.out 4).trans rfl; have hcz23_5 : w20.cell? ⟨gb70011, 5, none⟩ = some (.slice none 0 0) := (blk_cell BK70011.out 5).trans rfl; have hcz23_6 : w20.cell? ⟨gb70011, 6, none⟩ = some (.slice none 0 0) := (blk_cell BK70011.out 6).trans rfl; have hcz23_7 : w20.cell? ⟨gb70011, 7, none⟩ = some (.int .i64 0) := (blk_cell BK70011.out 7).trans rfl; have hfz23_0 := blk_frozen BK70011.out 0; have hfz23_1 := blk_frozen BK70011.out 1; have hfz23_2 := blk_frozen BK70011.out 2; have hfz23_3 := blk_frozen BK70011.out 3; have hfz23_4 := blk_frozen BK70011.out 4; have hfz23_5 := blk_frozen BK70011.out 5; have hfz23_6 := blk_frozen BK70011.out 6; have hfz23_7 := blk_frozen BK70011.out 7) | ((with_reducible refine gate_builtin (b := .append) (xs := #[.tmp 25, .tmp 28]) rfl ?_); at_builtin; refine Kd.R_append Kd.string (w0 := w) w.heap.size rfl (.tmp 25) (.tmp 28) 165 9 (.string ⟨#[]⟩) 16 rfl Try.underlying165 info9 rfl (by decide) (by omega) u4 x4_1 ((rd_T44 l0_0 x18_1).f1) [.string ((rd_T44 l0_0 x18_1).f1)] (fun k_ => some k_ ≠ (u5 : Value).ownBlock) (fun _ => False) rfl (by first | (go_simp; done) | (go_simp; rfl)) ?aP (fun _ hk => hk.elim) ?aF ?aO ?aB ?aS ?aL ?_; (case aP => exact rfl); (case aB => exact (by repeat (first | (with_reducible first | exact HB.out | apply below_alloc | apply pw_below_drewN | apply below_drew1 | refine below_set ?_ GE70001.out | refine below_set ?_ GE70002.out | refine below_set ?_ GE70011.out) | exact HB.out))); (case aF => exact (fun k_ hk => Kd.fresh' (Kd.R_lt (by (with_reducible repeat (first | apply Kd.R_alloc | apply Kd.R_drewN | apply Kd.R_drew)); exact (Kd.R_mono (Kd.R_far (p := ⟨gb70011, 7, none⟩) (Kd.R_far (p := ⟨gb70011, 6, none⟩) (Kd.R_far (p := ⟨gb70011, 5, none⟩) (Kd.R_far (p := ⟨gb70011, 4, none⟩) (Kd.R_far (p := ⟨gb70011, 3, none⟩) (Kd.R_far (p := ⟨gb70011, 2, none⟩) (Kd.R_far (p := ⟨gb70011, 1, none⟩) (Kd.R_far (p := ⟨gb70011, 0, none⟩) (Kd.R_types HO_5.out BK70011.out (by decide)) (fun _ hk => hk.2) (.int .i64 ((rd_T44 l0_0 x18_1).f0))) (fun _ hk => hk.2) (.string ((rd_T44 l0_0 x18_1).f1))) (fun _ hk => hk.2) (.string ((rd_T44 l0_0 x18_1).f2))) (fun _ hk => hk.2) (.int .i64 ((rd_T44 l0_0 x18_1).f3.f0))) (fun _ hk => hk.2) (.string ((rd_T44 l0_0 x18_1).f3.f1))) (fun _ hk => hk.2) (.slice A70010_5 ((rd_T44 l0_0 x18_1).f3.f2).length c70010_5)) (fun _ hk => hk.2) (.slice A70010_6 ((rd_T44 l0_0 x18_1).f4).length c70010_6)) (fun _ hk => hk.2) (.int .i64 ((rd_T44 l0_0 x18_1).f5))) (fun _ h_ => h_.1)))) k_ hk)); (case aO => exact (by (with_reducible repeat (first | apply Kd.R_alloc | apply Kd.R_drewN | apply Kd.R_drew)); exact Kd.R_mono (Kd.R_far (p := ⟨gb70011, 7, none⟩) (Kd.R_far (p := ⟨gb70011, 6, none⟩) (Kd.R_far (p := ⟨gb70011, 5, none⟩) (Kd.R_far (p := ⟨gb70011, 4, none⟩) (Kd.R_far (p := ⟨gb70011, 3, none⟩) (Kd.R_far (p := ⟨gb70011, 2, none⟩) (Kd.R_far (p := ⟨gb70011, 1, none⟩) (Kd.R_far (p := ⟨gb70011, 0, none⟩) (Kd.R_types HO_4.out BK70011.out (by decide)) (fun _ hk => hk.2) (.int .i64 ((rd_T44 l0_0 x18_1).f0))) (fun _ hk => hk.2) (.string ((rd_T44 l0_0 x18_1).f1))) (fun _ hk => hk.2) (.string ((rd_T44 l0_0 x18_1).f2))) (fun _ hk => hk.2) (.int .i64 ((rd_T44 l0_0 x18_1).f3.f0))) (fun _ hk => hk.2) (.string ((rd_T44 l0_0 x18_1).f3.f1))) (fun _ hk => hk.2) (.slice A70010_5 ((rd_T44 l0_0 x18_1).f3.f2).length c70010_5)) (fun _ hk => hk.2) (.slice A70010_6 ((rd_T44 l0_0 x18_1).f4).length c70010_6)) (fun _ hk => hk.2) (.int .i64 ((rd_T44 l0_0 x18_1).f5))) (fun _ hk => hk.1))); (case aS => exact (below_size (by repeat (first | (with_reducible first | exact HB.out | apply below_alloc | apply pw_below_drewN | apply below_drew1 | refine below_set ?_ GE70001.out | refine below_set ?_ GE70002.out | refine below_set ?_ GE70011.out) | exact HB.out)))); (case aL => have := LMc18.out; omega); intro v70013 w24 ho hb hg hat; rw [← Ny70012.out] at ho; have n0_ := Aside0.mk (Kd.R_after (ok := (fun _ => True)) (by (with_reducible repeat (first | apply Kd.R_alloc | apply Kd.R_drewN | apply Kd.R_drew)); exact Kd.R_mono (Kd.R_far (p := ⟨gb70011, 7, none⟩) (Kd.R_far (p := ⟨gb70011, 6, none⟩) (Kd.R_far (p := ⟨gb70011, 5, none⟩) (Kd.R_far (p := ⟨gb70011, 4, none⟩) (Kd.R_far (p := ⟨gb70011, 3, none⟩) (Kd.R_far (p := ⟨gb70011, 2, none⟩) (Kd.R_far (p := ⟨gb70011, 1, none⟩) (Kd.R_far (p := ⟨gb70011, 0, none⟩) (Kd.R_types HO_5.out BK70011.out (by decide)) (fun _ hk => hk.2) (.int .i64 ((rd_T44 l0_0 x18_1).f0))) (fun _ hk => hk.2) (.string ((rd_T44 l0_0 x18_1).f1))) (fun _ hk => hk.2) (.string ((rd_T44 l0_0 x18_1).f2))) (fun _ hk => hk.2) (.int .i64 ((rd_T44 l0_0 x18_1).f3.f0))) (fun _ hk => hk.2) (.string ((rd_T44 l0_0 x18_1).f3.f1))) (fun _ hk => hk.2) (.slice A70010_5 ((rd_T44 l0_0 x18_1).f3.f2).length c70010_5)) (fun _ hk => hk.2) (.slice A70010_6 ((rd_T44 l0_0 x18_1).f4).length c70010_6)) (fun _ hk => hk.2) (.int .i64 ((rd_T44 l0_0 x18_1).f5))) (fun _ hk => ⟨trivial, hk.1⟩)) hg hat); have n1_ := Aside0.mk (blk_grown (g := gb70001) (o := .cells #[.slice (some ad70010) l0_0.length c0_0] 29 (0, 0)) (by (with_reducible repeat (first | refine blk_drewN ?_ _ | refine blk_drew ?_ | refine blk_alloc ?_ _)); refine blk_far ?_ NB70001_70011.out _; (with_reducible repeat (first | refine blk_drewN ?_ _ | refine blk_drew ?_ | refine blk_alloc ?_ _)); refine blk_far ?_ NB70001_70011.out _; (with_reducible repeat (first | refine blk_drewN ?_ _ | refine blk_drew ?_ | refine blk_alloc ?_ _)); refine blk_far ?_ NB70001_70011.out _; (with_reducible repeat (first | refine blk_drewN ?_ _ | refine blk_drew ?_ | refine blk_alloc ?_ _)); refine blk_far ?_ NB70001_70011.out _; (with_reducible repeat (first | refine blk_drewN ?_ _ | refine blk_drew ?_ | refine blk_alloc ?_ _)); refine blk_far ?_ NB70001_70011.out _; (with_reducible repeat (first | refine blk_drewN ?_ _ | refine blk_drew ?_ | refine blk_alloc ?_ _)); refine blk_far ?_ NB70001_70011.out _; (with_reducible repeat (first | refine blk_drewN ?_ _ | refine blk_drew ?_ | refine blk_alloc ?_ _)); refine blk_far ?_ NB70001_70011.out _; (with_reducible repeat (first | refine blk_drewN ?_ _ | refine blk_drew ?_ | refine blk_alloc ?_ _)); refine blk_far ?_ NB70001_70011.out _; (with_reducible repeat (first | refine blk_drewN ?_ _ | refine blk_drew ?_ | refine blk_alloc ?_ _)); exact BK70001.out) hg (Kd.R_ne HO_4.out BK70001.out (by decide))); have n2_ := Aside0.mk (blk_grown (g := gb70002) (o := .cells #[.string (⟨#[]⟩ : ByteArray), .string (⟨#[]⟩ : ByteArray)] 58 (0, 0)) (by (with_reducible repeat (first | refine blk_drewN ?_ _ | refine blk_drew ?_ | refine blk_alloc ?_ _)); refine blk_far ?_ NB70002_70011.out _; (with_reducible repeat (first | refine blk_drewN ?_ _ | refine blk_drew ?_ | refine blk_alloc ?_ _)); refine blk_far ?_ NB70002_70011.out _; (with_reducible repeat (first | refine blk_drewN ?_ _ | refine blk_drew ?_ | refine blk_alloc ?_ _)); refine blk_far ?_ NB70002_70011.out _; (with_reducible repeat (first | refine blk_drewN ?_ _ | refine blk_drew ?_ | refine blk_alloc ?_ _)); refine blk_far ?_ NB70002_70011.out _; (with_reducible repeat (first | refine blk_drewN ?_ _ | refine blk_drew ?_ | refine blk_alloc ?_ _)); refine blk_far ?_ NB70002_70011.out _; (with_reducible repeat (first | refine blk_drewN ?_ _ | refine blk_drew ?_ | refine blk_alloc ?_ _)); refine blk_far ?_ NB70002_70011.out _; (with_reducible repeat (first | refine blk_drewN ?_ _ | refine blk_drew ?_ | refine blk_alloc ?_ _)); refine blk_far ?_ NB70002_70011.out _; (with_reducible repeat (first | refine blk_drewN ?_ _ | refine blk_drew ?_ | refine blk_alloc ?_ _)); refine blk_far ?_ NB70002_70011.out _; (with_reducible repeat (first | refine blk_drewN ?_ _ | refine blk_drew ?_ | refine blk_alloc ?_ _)); exact BK70002.out) hg (Kd.R_ne HO_4.out BK70002.out (by decide))); have n3_ := Aside0.mk (blk_grown (g := gb70011) (o := .cells #[.int .i64 ((rd_T44 l0_0 x18_1).f0), .string ((rd_T44 l0_0 x18_1).f1), .string ((rd_T44 l0_0 x18_1).f2), .int .i64 ((rd_T44 l0_0 x18_1).f3.f0), .string ((rd_T44 l0_0 x18_1).f3.f1), .slice A70010_5 ((rd_T44 l0_0 x18_1).f3.f2).length c70010_5, .slice A70010_6 ((rd_T44 l0_0 x18_1).f4).length c70010_6, .int .i64 ((rd_T44 l0_0 x18_1).f5)] 44 (0, 0)) (by (with_reducible repeat (first | refine blk_drewN ?_ _ | refine blk_drew ?_ | refine blk_alloc ?_ _)); refine blk_put (cs := #[.int .i64 ((rd_T44 l0_0 x18_1).f0), .string ((rd_T44 l0_0 x18_1).f1), .string ((rd_T44 l0_0 x18_1).f2), .int .i64 ((rd_T44 l0_0 x18_1).f3.f0), .string ((rd_T44 l0_0 x18_1).f3.f1), .slice A70010_5 ((rd_T44 l0_0 x18_1).f3.f2).length c70010_5, .slice A70010_6 ((rd_T44 l0_0 x18_1).f4).length c70010_6, .int .i64 0]) ?_ 7 _ rfl; (with_reducible repeat (first | refine blk_drewN ?_ _ | refine blk_drew ?_ | refine blk_alloc ?_ _)); refine blk_put (cs := #[.int .i64 ((rd_T44 l0_0 x18_1).f0), .string ((rd_T44 l0_0 x18_1).f1), .string ((rd_T44 l0_0 x18_1).f2), .int .i64 ((rd_T44 l0_0 x18_1).f3.f0), .string ((rd_T44 l0_0 x18_1).f3.f1), .slice A70010_5 ((rd_T44 l0_0 x18_1).f3.f2).length c70010_5, .slice none 0 0, .int .i64 0]) ?_ 6 _ rfl; (with_reducible repeat (first | refine blk_drewN ?_ _ | refine blk_drew ?_ | refine blk_alloc ?_ _)); refine blk_put (cs := #[.int .i64 ((rd_T44 l0_0 x18_1).f0), .string ((rd_T44 l0_0 x18_1).f1), .string ((rd_T44 l0_0 x18_1).f2), .int .i64 ((rd_T44 l0_0 x18_1).f3.f0), .string ((rd_T44 l0_0 x18_1).f3.f1), .slice none 0 0, .slice none 0 0, .int .i64 0]) ?_ 5 _ rfl; (with_reducible repeat (first | refine blk_drewN ?_ _ | refine blk_drew ?_ | refine blk_alloc ?_ _)); refine blk_put (cs := #[.int .i64 ((rd_T44 l0_0 x18_1).f0), .string ((rd_T44 l0_0 x18_1).f1), .string ((rd_T44 l0_0 x18_1).f2), .int .i64 ((rd_T44 l0_0 x18_1).f3.f0), .string (⟨#[]⟩ : ByteArray), .slice none 0 0, .slice none 0 0, .int .i64 0]) ?_ 4 _ rfl; (with_reducible repeat (first | refine blk_drewN ?_ _ | refine blk_drew ?_ | refine blk_alloc ?_ _)); refine blk_put (cs := #[.int .i64 ((rd_T44 l0_0 x18_1).f0), .string ((rd_T44 l0_0 x18_1).f1), .string ((rd_T44 l0_0 x18_1).f2), .int .i64 0, .string (⟨#[]⟩ : ByteArray), .slice none 0 0, .slice none 0 0, .int .i64 0]) ?_ 3 _ rfl; (with_reducible repeat (first | refine blk_drewN ?_ _ | refine blk_drew ?_ | refine blk_alloc ?_ _)); refine blk_put (cs := #[.int .i64 ((rd_T44 l0_0 x18_1).f0), .string ((rd_T44 l0_0 x18_1).f1), .string (⟨#[]⟩ : ByteArray), .int .i64 0, .string (⟨#[]⟩ : ByteArray), .slice none 0 0, .slice none 0 0, .int .i64 0]) ?_ 2 _ rfl; (with_reducible repeat (first | refine blk_drewN ?_ _ | refine blk_drew ?_ | refine blk_alloc ?_ _)); refine blk_put (cs := #[.int .i64 ((rd_T44 l0_0 x18_1).f0), .string (⟨#[]⟩ : ByteArray), .string (⟨#[]⟩ : ByteArray), .int .i64 0, .string (⟨#[]⟩ : ByteArray), .slice none 0 0, .slice none 0 0, .int .i64 0]) ?_ 1 _ rfl; (with_reducible repeat (first | refine blk_drewN ?_ _ | refine blk_drew ?_ | refine blk_alloc ?_ _)); refine blk_put (cs := #[.int .i64 0, .string (⟨#[]⟩ : ByteArray), .string (⟨#[]⟩ : ByteArray), .int .i64 0, .string (⟨#[]⟩ : ByteArray), .slice none 0 0, .slice none 0 0, .int .i64 0]) ?_ 0 _ rfl; (with_reducible repeat (first | refine blk_drewN ?_ _ | refine blk_drew ?_ | refine blk_alloc ?_ _)); exact BK70011.out) hg (Kd.R_ne HO_4.out BK70011.out (by decide))); have n4_ := Aside0.mk (hb); have n5_ := Aside0.mk (ho); clear HO_5; clear BK70001; clear BK70002; clear BK70011; clear HB; clear HO_4; have HO_5 := n0_; have BK70001 := n1_; have BK70002 := n2_; have BK70011 := n3_; have HB := n4_; have HO70014 := n5_; clear n0_ n1_ n2_ n3_ n4_ n5_; clear ho hb hg hat; have hcz25_0 : w24.cell? ⟨gb70011, 0, none⟩ = some (.int .i64 ((rd_T44 l0_0 x18_1).f0)) := (blk_cell BK70011.out 0).trans rfl; have hcz25_1 : w24.cell? ⟨gb70011, 1, none⟩ = some (.string ((rd_T44 l0_0 x18_1).f1)) := (blk_cell BK70011.out 1).trans rfl; have hcz25_2 : w24.cell? ⟨gb70011, 2, none⟩ = some (.string ((rd_T44 l0_0 x18_1).f2)) := (blk_cell BK70011.out 2).trans rfl; have hcz25_3 : w24.cell? ⟨gb70011, 3, none⟩ = some (.int .i64 ((rd_T44 l0_0 x18_1).f3.f0)) := (blk_cell BK70011.out 3).trans rfl; have hcz25_4 : w24.cell? ⟨gb70011, 4, none⟩ = some (.string ((rd_T44 l0_0 x18_1).f3.f1)) := (blk_cell BK70011.out 4).trans rfl; have hcz25_5 : w24.cell? ⟨gb70011, 5, none⟩ = some (.slice A70010_5 ((rd_T44 l0_0 x18_1).f3.f2).length c70010_5) := (blk_cell BK70011.out 5).trans rfl; have hcz25_6 : w24.cell? ⟨gb70011, 6, none⟩ = some (.slice A70010_6 ((rd_T44 l0_0 x18_1).f4).length c70010_6) := (blk_cell BK70011.out 6).trans rfl; have hcz25_7 : w24.cell? ⟨gb70011, 7, none⟩ = some (.int .i64 ((rd_T44 l0_0 x18_1).f5)) := (blk_cell BK70011.out 7).trans rfl; have hfz25_0 := blk_frozen BK70011.out 0; have hfz25_1 := blk_frozen BK70011.out 1; have hfz25_2 := blk_frozen BK70011.out 2; have hfz25_3 := blk_frozen BK70011.out 3; have hfz25_4 := blk_frozen BK70011.out 4; have hfz25_5 := blk_frozen BK70011.out 5; have hfz25_6 := blk_frozen BK70011.out 6; have hfz25_7 := blk_frozen BK70011.out 7) | ((with_reducible refine gate_builtin (b := .append) (xs := #[.tmp 30, .tmp 33]) rfl ?_); at_builtin; refine Kd.R_append Kd.string (w0 := w) w.heap.size rfl (.tmp 30) (.tmp 33) 165 9 (.string ⟨#[]⟩) 16 rfl Try.underlying165 info9 rfl (by decide) (by omega) u5 x5_1 ((rd_T44 l0_0 x18_1).f2) [.string ((rd_T44 l0_0 x18_1).f2)] (fun k_ => some k_ ≠ (v70013 : Value).ownBlock) (fun _ => False) rfl rfl ?aP (fun _ hk => hk.elim) ?aF ?aO ?aB ?aS ?aL ?_; (case aP => exact rfl); (case aB => exact (by repeat (first | (with_reducible first | exact HB.out | apply below_alloc | apply pw_below_drewN | apply below_drew1 | refine below_set ?_ GE70001.out | refine below_set ?_ GE70002.out | refine below_set ?_ GE70011.out) | exact HB.out))); (case aF => exact (fun k_ hk => Kd.fresh' (Kd.R_lt (by (with_reducible repeat (first | apply Kd.R_alloc | apply Kd.R_drewN | apply Kd.R_drew)); exact HO70014.out)) k_ hk)); (case aO => exact (by (with_reducible repeat (first | apply Kd.R_alloc | apply Kd.R_drewN | apply Kd.R_drew)); exact Kd.R_mono HO_5.out (fun _ hk => hk.2))); (case aS => exact (below_size (by repeat (first | (with_reducible first | exact HB.out | apply below_alloc | apply pw_below_drewN | apply below_drew1 | refine below_set ?_ GE70001.out | refine below_set ?_ GE70002.out | refine below_set ?_ GE70011.out) | exact HB.out)))); (case aL => have := LMc19.out; omega); intro v70016 w26 ho hb hg hat; rw [← Ny70015.out] at ho; have n0_ := Aside0.mk (blk_grown (g := gb70001) (o := .cells #[.slice (some ad70010) l0_0.length c0_0] 29 (0, 0)) (by (with_reducible repeat (first | refine blk_drewN ?_ _ | refine blk_drew ?_ | refine blk_alloc ?_ _)); exact BK70001.out) hg (Kd.R_ne HO_5.out BK70001.out (by decide))); have n1_ := Aside0.mk (blk_grown (g := gb70002) (o := .cells #[.string (⟨#[]⟩ : ByteArray), .string (⟨#[]⟩ : ByteArray)] 58 (0, 0)) (by (with_reducible repeat (first | refine blk_drewN ?_ _ | refine blk_drew ?_ | refine blk_alloc ?_ _)); exact BK70002.out) hg (Kd.R_ne HO_5.out BK70002.out (by decide))); have n2_ := Aside0.mk (blk_grown (g := gb70011) (o := .cells #[.int .i64 ((rd_T44 l0_0 x18_1).f0), .string ((rd_T44 l0_0 x18_1).f1), .string ((rd_T44 l0_0 x18_1).f2), .int .i64 ((rd_T44 l0_0 x18_1).f3.f0), .string ((rd_T44 l0_0 x18_1).f3.f1), .slice A70010_5 ((rd_T44 l0_0 x18_1).f3.f2).length c70010_5, .slice A70010_6 ((rd_T44 l0_0 x18_1).f4).length c70010_6, .int .i64 ((rd_T44 l0_0 x18_1).f5)] 44 (0, 0)) (by (with_reducible repeat (first | refine blk_drewN ?_ _ | refine blk_drew ?_ | refine blk_alloc ?_ _)); exact BK70011.out) hg (Kd.R_ne HO_5.out BK70011.out (by decide))); have n3_ := Aside0.mk (Kd.R_after (ok := (fun _ => True)) (by (with_reducible repeat (first | apply Kd.R_alloc | apply Kd.R_drewN | apply Kd.R_drew)); exact Kd.R_mono HO70014.out (fun _ hk => ⟨trivial, hk⟩)) hg hat); have n4_ := Aside0.mk (hb); have n5_ := Aside0.mk (ho); clear BK70001; clear BK70002; clear BK70011; clear HO70014; clear HB; clear HO_5; have BK70001 := n0_; have BK70002 := n1_; have BK70011 := n2_; have HO70014 := n3_; have HB := n4_; have HO70017 := n5_; clear n0_ n1_ n2_ n3_ n4_ n5_; clear ho hb hg hat))
          go_roundg k1
          case measure => have := HK1.out; omega
          case rel => exact ⟨(y70012), (y70015), (wrap64 (x18_1 + 1)), (by first | rfl | (simp; done) | (simp [*]; done)), H', ⟨by have := HK1.out; omega⟩, ⟨by (with_reducible repeat (first | apply Kd.R_alloc | apply Kd.R_drewN | apply Kd.R_drew)); exact Kd.R_mono HO70014.out (fun _ hk => hk.2)⟩, ⟨by (with_reducible repeat (first | apply Kd.R_alloc | apply Kd.R_drewN | apply Kd.R_drew)); exact HO70017.out⟩, ⟨by (with_reducible repeat (first | refine blk_drewN ?_ _ | refine blk_drew ?_ | refine blk_alloc ?_ _)); exact BK70001.out⟩, ⟨by (with_reducible repeat (first | refine blk_drewN ?_ _ | refine blk_drew ?_ | refine blk_alloc ?_ _)); exact BK70002.out⟩, ⟨by repeat (first | (with_reducible first | exact HB.out | apply below_alloc | apply pw_below_drewN | apply below_drew1 | refine below_set ?_ GE70001.out | refine below_set ?_ GE70002.out | refine below_set ?_ GE70011.out) | exact HB.out)⟩⟩
         ·rw [if_neg c19] at H
          exact absurd H (by simp)
        ·rw [if_neg c18] at H
         exact absurd H (by simp)
       ·rw [if_neg c17] at H
        have c17b0 : (((rd_T44 l0_0 x18_1).f0) == 1) = false := beq_eq_false_iff_ne.mpr c17
        have c17b1 : (((rd_T44 l0_0 x18_1).f0) != 1) = true := bne_iff_ne.mpr c17
        have H' := Aside0.mk H
        clear H
        have p70010 : 0 ≤ (x18_1 : Int) := of_decide_eq_true (by first | (with_reducible assumption) | assumption)
        have q70010 : x18_1 < (l0_0.length : Int) := of_decide_eq_true (by first | (with_reducible assumption) | assumption)
        obtain ⟨ad70010, A70010_5, c70010_5, A70010_6, c70010_6, e70010, hx70010_0, hx70010_1, hx70010_2, hx70010_3, hx70010_4, hx70010_5, hx70010_6, hx70010_7, hl70010_5, hi70010_5, hl70010_6, hi70010_6⟩ := at_T44 HR0_0.out x18_1 p70010 q70010
        cases e70010
        replace hx70010_0 := (HB.out.cell (World.block_lt_of_cell? w _ hx70010_0)).trans hx70010_0
        replace hx70010_1 := (HB.out.cell (World.block_lt_of_cell? w _ hx70010_1)).trans hx70010_1
        replace hx70010_2 := (HB.out.cell (World.block_lt_of_cell? w _ hx70010_2)).trans hx70010_2
        replace hx70010_3 := (HB.out.cell (World.block_lt_of_cell? w _ hx70010_3)).trans hx70010_3
        replace hx70010_4 := (HB.out.cell (World.block_lt_of_cell? w _ hx70010_4)).trans hx70010_4
        replace hx70010_5 := (HB.out.cell (World.block_lt_of_cell? w _ hx70010_5)).trans hx70010_5
        replace hx70010_6 := (HB.out.cell (World.block_lt_of_cell? w _ hx70010_6)).trans hx70010_6
        replace hx70010_7 := (HB.out.cell (World.block_lt_of_cell? w _ hx70010_7)).trans hx70010_7
        have HR70010_5 := Aside0.mk hi70010_5
        have HC70010_5 := Aside0.mk hl70010_5
        clear hi70010_5 hl70010_5
        have HR70010_6 := Aside0.mk hi70010_6
        have HC70010_6 := Aside0.mk hl70010_6
        clear hi70010_6 hl70010_6
        replace p70010 := eq_true p70010
        replace q70010 := eq_true q70010
        go_wp2_with (first | ((with_reducible refine gate_dst (N := 7) rfl ?_); refine box_event ?hg (N := 7) ?hd (cs := #[.int .i64 0, .string (⟨#[]⟩ : ByteArray), .string (⟨#[]⟩ : ByteArray), .int .i64 0, .string (⟨#[]⟩ : ByteArray), .slice none 0 0, .slice none 0 0, .int .i64 0]) (t := 44) ?hr ?_; (case hd => rfl); (case hg => rfl); (case hr => first | (go_simp; done) | (go_simp; rfl)); intro gb70011 hg w27 hbox hb; have n0_ := Aside0.mk (Kd.R_below (by (with_reducible repeat (first | apply Kd.R_alloc | apply Kd.R_drewN | apply Kd.R_drew)); exact HO_4.out) hb); have n1_ := Aside0.mk (Kd.R_below (by (with_reducible repeat (first | apply Kd.R_alloc | apply Kd.R_drewN | apply Kd.R_drew)); exact HO_5.out) hb); have n2_ := Aside0.mk (blk_below (g := gb70001) (o := .cells #[.slice (some ad70010) l0_0.length c0_0] 29 (0, 0)) (by (with_reducible repeat (first | refine blk_drewN ?_ _ | refine blk_drew ?_ | refine blk_alloc ?_ _)); exact BK70001.out) hb); have n3_ := Aside0.mk (blk_below (g := gb70002) (o := .cells #[.string (⟨#[]⟩ : ByteArray), .string (⟨#[]⟩ : ByteArray)] 58 (0, 0)) (by (with_reducible repeat (first | refine blk_drewN ?_ _ | refine blk_drew ?_ | refine blk_alloc ?_ _)); exact BK70002.out) hb); have n4_ := Aside0.mk (below_step (by repeat (first | (with_reducible first | exact HB.out | apply below_alloc | apply pw_below_drewN | apply below_drew1 | refine below_set ?_ GE70001.out | refine below_set ?_ GE70002.out) | exact HB.out)) hb); have n5_ := Aside0.mk (hbox); have n6_ := Aside0.mk ((by rw [hg]; exact (below_size (by repeat (first | (with_reducible first | exact HB.out | apply below_alloc | apply pw_below_drewN | apply below_drew1 | refine below_set ?_ GE70001.out | refine below_set ?_ GE70002.out) | exact HB.out))) : w.heap.size ≤ gb70011)); have n7_ := Aside0.mk ((by rw [hg]; exact (below_size (by repeat (first | (with_reducible first | exact HB.out | apply below_alloc | apply pw_below_drewN | apply below_drew1 | refine below_set ?_ GE70001.out | refine below_set ?_ GE70002.out) | exact HB.out))) : w.heap.size ≤ gb70011)); have n8_ := Aside0.mk ((by rw [hg]; exact Nat.ne_of_lt (blk_lt (g := gb70001) (o := .cells #[.slice (some ad70010) l0_0.length c0_0] 29 (0, 0)) (by (with_reducible repeat (first | refine blk_drewN ?_ _ | refine blk_drew ?_ | refine blk_alloc ?_ _)); exact BK70001.out)) : gb70001 ≠ gb70011)); have n9_ := Aside0.mk ((by rw [hg]; exact Nat.ne_of_gt (blk_lt (g := gb70001) (o := .cells #[.slice (some ad70010) l0_0.length c0_0] 29 (0, 0)) (by (with_reducible repeat (first | refine blk_drewN ?_ _ | refine blk_drew ?_ | refine blk_alloc ?_ _)); exact BK70001.out)) : gb70011 ≠ gb70001)); have n10_ := Aside0.mk ((by rw [hg]; exact Nat.ne_of_lt (blk_lt (g := gb70002) (o := .cells #[.string (⟨#[]⟩ : ByteArray), .string (⟨#[]⟩ : ByteArray)] 58 (0, 0)) (by (with_reducible repeat (first | refine blk_drewN ?_ _ | refine blk_drew ?_ | refine blk_alloc ?_ _)); exact BK70002.out)) : gb70002 ≠ gb70011)); have n11_ := Aside0.mk ((by rw [hg]; exact Nat.ne_of_gt (blk_lt (g := gb70002) (o := .cells #[.string (⟨#[]⟩ : ByteArray), .string (⟨#[]⟩ : ByteArray)] 58 (0, 0)) (by (with_reducible repeat (first | refine blk_drewN ?_ _ | refine blk_drew ?_ | refine blk_alloc ?_ _)); exact BK70002.out)) : gb70011 ≠ gb70002)); clear HO_4; clear HO_5; clear BK70001; clear BK70002; clear HB; have HO_4 := n0_; have HO_5 := n1_; have BK70001 := n2_; have BK70002 := n3_; have HB := n4_; have BK70011 := n5_; have GW70011 := n6_; have GE70011 := n7_; have NB70001_70011 := n8_; have NB70011_70001 := n9_; have NB70002_70011 := n10_; have NB70011_70002 := n11_; clear n0_ n1_ n2_ n3_ n4_ n5_ n6_ n7_ n8_ n9_ n10_ n11_; clear hb hbox hg; have hnb28 := NB70011_70001.out; have hnc28 := NB70001_70011.out; have hnb29 := NB70011_70002.out; have hnc29 := NB70002_70011.out; have hcz30_0 : w27.cell? ⟨gb70011, 0, none⟩ = some (.int .i64 0) := (blk_cell BK70011.out 0).trans rfl; have hcz30_1 : w27.cell? ⟨gb70011, 1, none⟩ = some (.string (⟨#[]⟩ : ByteArray)) := (blk_cell BK70011.out 1).trans rfl; have hcz30_2 : w27.cell? ⟨gb70011, 2, none⟩ = some (.string (⟨#[]⟩ : ByteArray)) := (blk_cell BK70011.out 2).trans rfl; have hcz30_3 : w27.cell? ⟨gb70011, 3, none⟩ = some (.int .i64 0) := (blk_cell BK70011.out 3).trans rfl; have hcz30_4 : w27.cell? ⟨gb70011, 4, none⟩ = some (.string (⟨#[]⟩ : ByteArray)) := (blk_cell BK70011.out 4).trans rfl; have hcz30_5 : w27.cell? ⟨gb70011, 5, none⟩ = some (.slice none 0 0) := (blk_cell BK70011.out 5).trans rfl; have hcz30_6 : w27.cell? ⟨gb70011, 6, none⟩ = some (.slice none 0 0) := (blk_cell BK70011.out 6).trans rfl; have hcz30_7 : w27.cell? ⟨gb70011, 7, none⟩ = some (.int .i64 0) := (blk_cell BK70011.out 7).trans rfl; have hfz30_0 := blk_frozen BK70011.out 0; have hfz30_1 := blk_frozen BK70011.out 1; have hfz30_2 := blk_frozen BK70011.out 2; have hfz30_3 := blk_frozen BK70011.out 3; have hfz30_4 := blk_frozen BK70011.out 4; have hfz30_5 := blk_frozen BK70011.out 5; have hfz30_6 := blk_frozen BK70011.out 6; have hfz30_7 := blk_frozen BK70011.out 7))
        go_roundg k1
        case measure => have := HK1.out; omega
        case rel => exact ⟨(x4_1), (x5_1), (wrap64 (x18_1 + 1)), (by first | rfl | (simp; done) | (simp [*]; done)), H', ⟨by have := HK1.out; omega⟩, ⟨by (with_reducible repeat (first | apply Kd.R_alloc | apply Kd.R_drewN | apply Kd.R_drew)); exact Kd.R_mono (Kd.R_far (p := ⟨gb70011, 7, none⟩) (Kd.R_far (p := ⟨gb70011, 6, none⟩) (Kd.R_far (p := ⟨gb70011, 5, none⟩) (Kd.R_far (p := ⟨gb70011, 4, none⟩) (Kd.R_far (p := ⟨gb70011, 3, none⟩) (Kd.R_far (p := ⟨gb70011, 2, none⟩) (Kd.R_far (p := ⟨gb70011, 1, none⟩) (Kd.R_far (p := ⟨gb70011, 0, none⟩) (Kd.R_types HO_4.out BK70011.out (by decide)) (fun _ hk => hk.2) (.int .i64 ((rd_T44 l0_0 x18_1).f0))) (fun _ hk => hk.2) (.string ((rd_T44 l0_0 x18_1).f1))) (fun _ hk => hk.2) (.string ((rd_T44 l0_0 x18_1).f2))) (fun _ hk => hk.2) (.int .i64 ((rd_T44 l0_0 x18_1).f3.f0))) (fun _ hk => hk.2) (.string ((rd_T44 l0_0 x18_1).f3.f1))) (fun _ hk => hk.2) (.slice A70010_5 ((rd_T44 l0_0 x18_1).f3.f2).length c70010_5)) (fun _ hk => hk.2) (.slice A70010_6 ((rd_T44 l0_0 x18_1).f4).length c70010_6)) (fun _ hk => hk.2) (.int .i64 ((rd_T44 l0_0 x18_1).f5))) (fun _ hk => hk.1)⟩, ⟨by (with_reducible repeat (first | apply Kd.R_alloc | apply Kd.R_drewN | apply Kd.R_drew)); exact Kd.R_mono (Kd.R_far (p := ⟨gb70011, 7, none⟩) (Kd.R_far (p := ⟨gb70011, 6, none⟩) (Kd.R_far (p := ⟨gb70011, 5, none⟩) (Kd.R_far (p := ⟨gb70011, 4, none⟩) (Kd.R_far (p := ⟨gb70011, 3, none⟩) (Kd.R_far (p := ⟨gb70011, 2, none⟩) (Kd.R_far (p := ⟨gb70011, 1, none⟩) (Kd.R_far (p := ⟨gb70011, 0, none⟩) (Kd.R_types HO_5.out BK70011.out (by decide)) (fun _ hk => hk.2) (.int .i64 ((rd_T44 l0_0 x18_1).f0))) (fun _ hk => hk.2) (.string ((rd_T44 l0_0 x18_1).f1))) (fun _ hk => hk.2) (.string ((rd_T44 l0_0 x18_1).f2))) (fun _ hk => hk.2) (.int .i64 ((rd_T44 l0_0 x18_1).f3.f0))) (fun _ hk => hk.2) (.string ((rd_T44 l0_0 x18_1).f3.f1))) (fun _ hk => hk.2) (.slice A70010_5 ((rd_T44 l0_0 x18_1).f3.f2).length c70010_5)) (fun _ hk => hk.2) (.slice A70010_6 ((rd_T44 l0_0 x18_1).f4).length c70010_6)) (fun _ hk => hk.2) (.int .i64 ((rd_T44 l0_0 x18_1).f5))) (fun _ hk => hk.1)⟩, ⟨by (with_reducible repeat (first | refine blk_drewN ?_ _ | refine blk_drew ?_ | refine blk_alloc ?_ _)); refine blk_far ?_ NB70001_70011.out _; (with_reducible repeat (first | refine blk_drewN ?_ _ | refine blk_drew ?_ | refine blk_alloc ?_ _)); refine blk_far ?_ NB70001_70011.out _; (with_reducible repeat (first | refine blk_drewN ?_ _ | refine blk_drew ?_ | refine blk_alloc ?_ _)); refine blk_far ?_ NB70001_70011.out _; (with_reducible repeat (first | refine blk_drewN ?_ _ | refine blk_drew ?_ | refine blk_alloc ?_ _)); refine blk_far ?_ NB70001_70011.out _; (with_reducible repeat (first | refine blk_drewN ?_ _ | refine blk_drew ?_ | refine blk_alloc ?_ _)); refine blk_far ?_ NB70001_70011.out _; (with_reducible repeat (first | refine blk_drewN ?_ _ | refine blk_drew ?_ | refine blk_alloc ?_ _)); refine blk_far ?_ NB70001_70011.out _; (with_reducible repeat (first | refine blk_drewN ?_ _ | refine blk_drew ?_ | refine blk_alloc ?_ _)); refine blk_far ?_ NB70001_70011.out _; (with_reducible repeat (first | refine blk_drewN ?_ _ | refine blk_drew ?_ | refine blk_alloc ?_ _)); refine blk_far ?_ NB70001_70011.out _; (with_reducible repeat (first | refine blk_drewN ?_ _ | refine blk_drew ?_ | refine blk_alloc ?_ _)); exact BK70001.out⟩, ⟨by (with_reducible repeat (first | refine blk_drewN ?_ _ | refine blk_drew ?_ | refine blk_alloc ?_ _)); refine blk_far ?_ NB70002_70011.out _; (with_reducible repeat (first | refine blk_drewN ?_ _ | refine blk_drew ?_ | refine blk_alloc ?_ _)); refine blk_far ?_ NB70002_70011.out _; (with_reducible repeat (first | refine blk_drewN ?_ _ | refine blk_drew ?_ | refine blk_alloc ?_ _)); refine blk_far ?_ NB70002_70011.out _; (with_reducible repeat (first | refine blk_drewN ?_ _ | refine blk_drew ?_ | refine blk_alloc ?_ _)); refine blk_far ?_ NB70002_70011.out _; (with_reducible repeat (first | refine blk_drewN ?_ _ | refine blk_drew ?_ | refine blk_alloc ?_ _)); refine blk_far ?_ NB70002_70011.out _; (with_reducible repeat (first | refine blk_drewN ?_ _ | refine blk_drew ?_ | refine blk_alloc ?_ _)); refine blk_far ?_ NB70002_70011.out _; (with_reducible repeat (first | refine blk_drewN ?_ _ | refine blk_drew ?_ | refine blk_alloc ?_ _)); refine blk_far ?_ NB70002_70011.out _; (with_reducible repeat (first | refine blk_drewN ?_ _ | refine blk_drew ?_ | refine blk_alloc ?_ _)); refine blk_far ?_ NB70002_70011.out _; (with_reducible repeat (first | refine blk_drewN ?_ _ | refine blk_drew ?_ | refine blk_alloc ?_ _)); exact BK70002.out⟩, ⟨by repeat (first | (with_reducible first | exact HB.out | apply below_alloc | apply pw_below_drewN | apply below_drew1 | refine below_set ?_ GE70001.out | refine below_set ?_ GE70002.out | refine below_set ?_ GE70011.out) | exact HB.out)⟩⟩
      ·rw [if_neg c16] at H
       exact absurd H (by simp)
     ·rw [if_neg c15] at H
      exact absurd H (by simp)
    ·rw [if_neg c14] at H
     have c14b0 : decide (x18_1 < (l0_0.length : Int)) = false := decide_eq_false c14
     clear c14
     replace H := Option.bind_eq_some_iff.mp H
     obtain ⟨t70018, A310, H⟩ := H
     replace H : ((impl_Join.f k1 x5_1 (⟨#[35]⟩ : ByteArray)).bind fun t70019 => ((impl_IsEquation.f k1 t70018 t70019).bind fun t70021 => (if t70021 = true then (some (t70018, t70019, true)) else (some ((⟨#[]⟩ : ByteArray), (⟨#[]⟩ : ByteArray), false))))) = some (r1, r2, r3) := H
     have A31 := Aside0.mk A310
     clear A310
     replace H := Option.bind_eq_some_iff.mp H
     obtain ⟨t70019, A320, H⟩ := H
     replace H : ((impl_IsEquation.f k1 t70018 t70019).bind fun t70021 => (if t70021 = true then (some (t70018, t70019, true)) else (some ((⟨#[]⟩ : ByteArray), (⟨#[]⟩ : ByteArray), false)))) = some (r1, r2, r3) := H
     have A32 := Aside0.mk A320
     clear A320
     replace H := Option.bind_eq_some_iff.mp H
     obtain ⟨t70021, A330, H⟩ := H
     replace H : (if t70021 = true then (some (t70018, t70019, true)) else (some ((⟨#[]⟩ : ByteArray), (⟨#[]⟩ : ByteArray), false))) = some (r1, r2, r3) := H
     have A33 := Aside0.mk A330
     clear A330
     by_cases c34 : t70021 = true
     ·subst c34
      have H1 : (some (t70018, t70019, true)) = some (r1, r2, r3) := by rw [if_pos rfl] at H; exact H
      clear H
      have H := H1
      clear H1
      simp only [Option.some.injEq, Prod.mk.injEq] at H
      obtain ⟨rfl, rfl, rfl⟩ := H
      obtain ⟨Ao35, co35, eo35⟩ := Kd.R_slice HO_4.out
      subst eo35
      go_wp2_with (first | ((with_reducible refine gate_callee (f := 146) rfl ?_); refine goesL_ (some 37) rfl rfl Try.func146 (by kernel_rfl) rfl #[.slice Ao35 x4_1.length co35, .string (⟨#[35]⟩ : ByteArray)] rfl (by (try simp only [List.map_toArray, List.map_cons, List.map_nil]); first | done | rfl | (simp only [List.length_drop, List.length_take]; rfl)) ?_; (with_reducible refine (impl_Join.calls k1 _ _ x4_1 (⟨#[35]⟩ : ByteArray) t70018 _ ?side1 ?side2 A31.out).mono ?_); (case side1 => repeat (first | exact (Kd.R_reads' HO_4.out).2.2 | (with_reducible refine Kd.C_alloc ?_ _) | (with_reducible refine Kd.C_drewN ?_ _) | (with_reducible refine Kd.C_drew ?_))); (case side2 => exact (Kd.R_reads' HO_4.out).2.1); rintro e w36 ⟨rfl, hb⟩; refine ⟨_, rfl, ?_⟩; have n0_ := Aside0.mk (Kd.R_below (by (with_reducible repeat (first | apply Kd.R_alloc | apply Kd.R_drewN | apply Kd.R_drew)); exact HO_4.out) hb); have n1_ := Aside0.mk (Kd.R_below (by (with_reducible repeat (first | apply Kd.R_alloc | apply Kd.R_drewN | apply Kd.R_drew)); exact HO_5.out) hb); have n2_ := Aside0.mk (blk_below (g := gb70001) (o := .cells #[.slice A0_0 l0_0.length c0_0] 29 (0, 0)) (by (with_reducible repeat (first | refine blk_drewN ?_ _ | refine blk_drew ?_ | refine blk_alloc ?_ _)); exact BK70001.out) hb); have n3_ := Aside0.mk (blk_below (g := gb70002) (o := .cells #[.string (⟨#[]⟩ : ByteArray), .string (⟨#[]⟩ : ByteArray)] 58 (0, 0)) (by (with_reducible repeat (first | refine blk_drewN ?_ _ | refine blk_drew ?_ | refine blk_alloc ?_ _)); exact BK70002.out) hb); have n4_ := Aside0.mk (below_step (by repeat (first | (with_reducible first | exact HB.out | apply below_alloc | apply pw_below_drewN | apply below_drew1 | refine below_set ?_ GE70001.out | refine below_set ?_ GE70002.out) | exact HB.out)) hb); clear HO_4; clear HO_5; clear BK70001; clear BK70002; clear HB; have HO_4 := n0_; have HO_5 := n1_; have BK70001 := n2_; have BK70002 := n3_; have HB := n4_; clear n0_ n1_ n2_ n3_ n4_; (try clear hb); (try clear hb2); (try clear hk); (try clear hi); obtain ⟨Ao37, co37, eo37⟩ := Kd.R_slice HO_5.out; subst eo37) | ((with_reducible refine gate_callee (f := 146) rfl ?_); refine goesL_ (some 39) rfl rfl Try.func146 (by kernel_rfl) rfl #[.slice Ao37 x5_1.length co37, .string (⟨#[35]⟩ : ByteArray)] rfl (by (try simp only [List.map_toArray, List.map_cons, List.map_nil]); first | done | rfl | (simp only [List.length_drop, List.length_take]; rfl)) ?_; (with_reducible refine (impl_Join.calls k1 _ _ x5_1 (⟨#[35]⟩ : ByteArray) t70019 _ ?side1 ?side2 A32.out).mono ?_); (case side1 => repeat (first | exact (Kd.R_reads' HO_5.out).2.2 | (with_reducible refine Kd.C_alloc ?_ _) | (with_reducible refine Kd.C_drewN ?_ _) | (with_reducible refine Kd.C_drew ?_))); (case side2 => exact (Kd.R_reads' HO_5.out).2.1); rintro e w38 ⟨rfl, hb⟩; refine ⟨_, rfl, ?_⟩; have n0_ := Aside0.mk (Kd.R_below (by (with_reducible repeat (first | apply Kd.R_alloc | apply Kd.R_drewN | apply Kd.R_drew)); exact HO_4.out) hb); have n1_ := Aside0.mk (Kd.R_below (by (with_reducible repeat (first | apply Kd.R_alloc | apply Kd.R_drewN | apply Kd.R_drew)); exact HO_5.out) hb); have n2_ := Aside0.mk (blk_below (g := gb70001) (o := .cells #[.slice A0_0 l0_0.length c0_0] 29 (0, 0)) (by (with_reducible repeat (first | refine blk_drewN ?_ _ | refine blk_drew ?_ | refine blk_alloc ?_ _)); exact BK70001.out) hb); have n3_ := Aside0.mk (blk_below (g := gb70002) (o := .cells #[.string (⟨#[]⟩ : ByteArray), .string (⟨#[]⟩ : ByteArray)] 58 (0, 0)) (by (with_reducible repeat (first | refine blk_drewN ?_ _ | refine blk_drew ?_ | refine blk_alloc ?_ _)); exact BK70002.out) hb); have n4_ := Aside0.mk (below_step (by repeat (first | (with_reducible first | exact HB.out | apply below_alloc | apply pw_below_drewN | apply below_drew1 | refine below_set ?_ GE70001.out | refine below_set ?_ GE70002.out) | exact HB.out)) hb); clear HO_4; clear HO_5; clear BK70001; clear BK70002; clear HB; have HO_4 := n0_; have HO_5 := n1_; have BK70001 := n2_; have BK70002 := n3_; have HB := n4_; clear n0_ n1_ n2_ n3_ n4_; (try clear hb); (try clear hb2); (try clear hk); (try clear hi)) | ((with_reducible refine gate_dst (N := 8) rfl ?_); refine box_event ?hg (N := 8) ?hd (cs := #[.string (⟨#[]⟩ : ByteArray), .string (⟨#[]⟩ : ByteArray)]) (t := 58) ?hr ?_; (case hd => rfl); (case hg => rfl); (case hr => first | (go_simp; done) | (go_simp; rfl)); intro gb70020 hg w39 hbox hb; have n0_ := Aside0.mk (Kd.R_below (by (with_reducible repeat (first | apply Kd.R_alloc | apply Kd.R_drewN | apply Kd.R_drew)); exact HO_4.out) hb); have n1_ := Aside0.mk (Kd.R_below (by (with_reducible repeat (first | apply Kd.R_alloc | apply Kd.R_drewN | apply Kd.R_drew)); exact HO_5.out) hb); have n2_ := Aside0.mk (blk_below (g := gb70001) (o := .cells #[.slice A0_0 l0_0.length c0_0] 29 (0, 0)) (by (with_reducible repeat (first | refine blk_drewN ?_ _ | refine blk_drew ?_ | refine blk_alloc ?_ _)); exact BK70001.out) hb); have n3_ := Aside0.mk (blk_below (g := gb70002) (o := .cells #[.string (⟨#[]⟩ : ByteArray), .string (⟨#[]⟩ : ByteArray)] 58 (0, 0)) (by (with_reducible repeat (first | refine blk_drewN ?_ _ | refine blk_drew ?_ | refine blk_alloc ?_ _)); exact BK70002.out) hb); have n4_ := Aside0.mk (below_step (by repeat (first | (with_reducible first | exact HB.out | apply below_alloc | apply pw_below_drewN | apply below_drew1 | refine below_set ?_ GE70001.out | refine below_set ?_ GE70002.out) | exact HB.out)) hb); have n5_ := Aside0.mk (hbox); have n6_ := Aside0.mk ((by rw [hg]; exact (below_size (by repeat (first | (with_reducible first | exact HB.out | apply below_alloc | apply pw_below_drewN | apply below_drew1 | refine below_set ?_ GE70001.out | refine below_set ?_ GE70002.out) | exact HB.out))) : w.heap.size ≤ gb70020)); have n7_ := Aside0.mk ((by rw [hg]; exact (below_size (by repeat (first | (with_reducible first | exact HB.out | apply below_alloc | apply pw_below_drewN | apply below_drew1 | refine below_set ?_ GE70001.out | refine below_set ?_ GE70002.out) | exact HB.out))) : w.heap.size ≤ gb70020)); have n8_ := Aside0.mk ((by rw [hg]; exact Nat.ne_of_lt (blk_lt (g := gb70001) (o := .cells #[.slice A0_0 l0_0.length c0_0] 29 (0, 0)) (by (with_reducible repeat (first | refine blk_drewN ?_ _ | refine blk_drew ?_ | refine blk_alloc ?_ _)); exact BK70001.out)) : gb70001 ≠ gb70020)); have n9_ := Aside0.mk ((by rw [hg]; exact Nat.ne_of_gt (blk_lt (g := gb70001) (o := .cells #[.slice A0_0 l0_0.length c0_0] 29 (0, 0)) (by (with_reducible repeat (first | refine blk_drewN ?_ _ | refine blk_drew ?_ | refine blk_alloc ?_ _)); exact BK70001.out)) : gb70020 ≠ gb70001)); have n10_ := Aside0.mk ((by rw [hg]; exact Nat.ne_of_lt (blk_lt (g := gb70002) (o := .cells #[.string (⟨#[]⟩ : ByteArray), .string (⟨#[]⟩ : ByteArray)] 58 (0, 0)) (by (with_reducible repeat (first | refine blk_drewN ?_ _ | refine blk_drew ?_ | refine blk_alloc ?_ _)); exact BK70002.out)) : gb70002 ≠ gb70020)); have n11_ := Aside0.mk ((by rw [hg]; exact Nat.ne_of_gt (blk_lt (g := gb70002) (o := .cells #[.string (⟨#[]⟩ : ByteArray), .string (⟨#[]⟩ : ByteArray)] 58 (0, 0)) (by (with_reducible repeat (first | refine blk_drewN ?_ _ | refine blk_drew ?_ | refine blk_alloc ?_ _)); exact BK70002.out)) : gb70020 ≠ gb70002)); clear HO_4; clear HO_5; clear BK70001; clear BK70002; clear HB; have HO_4 := n0_; have HO_5 := n1_; have BK70001 := n2_; have BK70002 := n3_; have HB := n4_; have BK70020 := n5_; have GW70020 := n6_; have GE70020 := n7_; have NB70001_70020 := n8_; have NB70020_70001 := n9_; have NB70002_70020 := n10_; have NB70020_70002 := n11_; clear n0_ n1_ n2_ n3_ n4_ n5_ n6_ n7_ n8_ n9_ n10_ n11_; clear hb hbox hg; have hnb40 := NB70020_70001.out; have hnc40 := NB70001_70020.out; have hnb41 := NB70020_70002.out; have hnc41 := NB70002_70020.out; have hcz42_0 : w39.cell? ⟨gb70020, 0, none⟩ = some (.string (⟨#[]⟩ : ByteArray)) := (blk_cell BK70020.out 0).trans rfl; have hcz42_1 : w39.cell? ⟨gb70020, 1, none⟩ = some (.string (⟨#[]⟩ : ByteArray)) := (blk_cell BK70020.out 1).trans rfl; have hfz42_0 := blk_frozen BK70020.out 0; have hfz42_1 := blk_frozen BK70020.out 1) | ((with_reducible refine gate_callee (f := 151) rfl ?_); refine goesL_ (some 42) rfl rfl Try.func151 (by kernel_rfl) rfl #[.agg #[.string t70018, .string t70019]] rfl (by (try simp only [List.map_toArray, List.map_cons, List.map_nil]); first | done | rfl | (simp only [List.length_drop, List.length_take]; rfl)) ?_; (with_reducible refine (impl_IsEquation.calls k1 t70018 t70019 true _ A33.out).mono ?_); rintro e w43 ⟨rfl, hb⟩; refine ⟨_, rfl, ?_⟩; have n0_ := Aside0.mk (Kd.R_below (by (with_reducible repeat (first | apply Kd.R_alloc | apply Kd.R_drewN | apply Kd.R_drew)); exact (Kd.R_mono (Kd.R_far (p := ⟨gb70020, 1, none⟩) (Kd.R_far (p := ⟨gb70020, 0, none⟩) (Kd.R_types HO_4.out BK70020.out (by decide)) (fun _ hk => hk.2) (.string t70018)) (fun _ hk => hk.2) (.string t70019)) (fun _ h_ => h_.1))) hb); have n1_ := Aside0.mk (Kd.R_below (by (with_reducible repeat (first | apply Kd.R_alloc | apply Kd.R_drewN | apply Kd.R_drew)); exact (Kd.R_mono (Kd.R_far (p := ⟨gb70020, 1, none⟩) (Kd.R_far (p := ⟨gb70020, 0, none⟩) (Kd.R_types HO_5.out BK70020.out (by decide)) (fun _ hk => hk.2) (.string t70018)) (fun _ hk => hk.2) (.string t70019)) (fun _ h_ => h_.1))) hb); have n2_ := Aside0.mk (blk_below (g := gb70001) (o := .cells #[.slice A0_0 l0_0.length c0_0] 29 (0, 0)) (by (with_reducible repeat (first | refine blk_drewN ?_ _ | refine blk_drew ?_ | refine blk_alloc ?_ _)); refine blk_far ?_ NB70001_70020.out _; (with_reducible repeat (first | refine blk_drewN ?_ _ | refine blk_drew ?_ | refine blk_alloc ?_ _)); refine blk_far ?_ NB70001_70020.out _; (with_reducible repeat (first | refine blk_drewN ?_ _ | refine blk_drew ?_ | refine blk_alloc ?_ _)); exact BK70001.out) hb); have n3_ := Aside0.mk (blk_below (g := gb70002) (o := .cells #[.string (⟨#[]⟩ : ByteArray), .string (⟨#[]⟩ : ByteArray)] 58 (0, 0)) (by (with_reducible repeat (first | refine blk_drewN ?_ _ | refine blk_drew ?_ | refine blk_alloc ?_ _)); refine blk_far ?_ NB70002_70020.out _; (with_reducible repeat (first | refine blk_drewN ?_ _ | refine blk_drew ?_ | refine blk_alloc ?_ _)); refine blk_far ?_ NB70002_70020.out _; (with_reducible repeat (first | refine blk_drewN ?_ _ | refine blk_drew ?_ | refine blk_alloc ?_ _)); exact BK70002.out) hb); have n4_ := Aside0.mk (blk_below (g := gb70020) (o := .cells #[.string t70018, .string t70019] 58 (0, 0)) (by (with_reducible repeat (first | refine blk_drewN ?_ _ | refine blk_drew ?_ | refine blk_alloc ?_ _)); refine blk_put (cs := #[.string t70018, .string (⟨#[]⟩ : ByteArray)]) ?_ 1 _ rfl; (with_reducible repeat (first | refine blk_drewN ?_ _ | refine blk_drew ?_ | refine blk_alloc ?_ _)); refine blk_put (cs := #[.string (⟨#[]⟩ : ByteArray), .string (⟨#[]⟩ : ByteArray)]) ?_ 0 _ rfl; (with_reducible repeat (first | refine blk_drewN ?_ _ | refine blk_drew ?_ | refine blk_alloc ?_ _)); exact BK70020.out) hb); have n5_ := Aside0.mk (below_step (by repeat (first | (with_reducible first | exact HB.out | apply below_alloc | apply pw_below_drewN | apply below_drew1 | refine below_set ?_ GE70001.out | refine below_set ?_ GE70002.out | refine below_set ?_ GE70020.out) | exact HB.out)) hb); clear HO_4; clear HO_5; clear BK70001; clear BK70002; clear BK70020; clear HB; have HO_4 := n0_; have HO_5 := n1_; have BK70001 := n2_; have BK70002 := n3_; have BK70020 := n4_; have HB := n5_; clear n0_ n1_ n2_ n3_ n4_ n5_; (try clear hb); (try clear hb2); (try clear hk); (try clear hi); have hcz44_0 : w43.cell? ⟨gb70020, 0, none⟩ = some (.string t70018) := (blk_cell BK70020.out 0).trans rfl; have hcz44_1 : w43.cell? ⟨gb70020, 1, none⟩ = some (.string t70019) := (blk_cell BK70020.out 1).trans rfl; have hfz44_0 := blk_frozen BK70020.out 0; have hfz44_1 := blk_frozen BK70020.out 1; have hnb45 := NB70002_70001.out; have hnc45 := NB70001_70002.out; have hcz46_0 : w43.cell? ⟨gb70002, 0, none⟩ = some (.string (⟨#[]⟩ : ByteArray)) := (blk_cell BK70002.out 0).trans rfl; have hcz46_1 : w43.cell? ⟨gb70002, 1, none⟩ = some (.string (⟨#[]⟩ : ByteArray)) := (blk_cell BK70002.out 1).trans rfl; have hfz46_0 := blk_frozen BK70002.out 0; have hfz46_1 := blk_frozen BK70002.out 1))
      refine bodyPost_ret (results_ct rfl _ _ gb70002 58 #[.string t70018, .string t70019] (0, 0) _ rfl (by (with_reducible repeat (first | refine blk_drewN ?_ _ | refine blk_drew ?_ | refine blk_alloc ?_ _)); refine blk_put (cs := #[.string t70018, .string (⟨#[]⟩ : ByteArray)]) ?_ 1 _ rfl; (with_reducible repeat (first | refine blk_drewN ?_ _ | refine blk_drew ?_ | refine blk_alloc ?_ _)); refine blk_put (cs := #[.string (⟨#[]⟩ : ByteArray), .string (⟨#[]⟩ : ByteArray)]) ?_ 0 _ rfl; (with_reducible repeat (first | refine blk_drewN ?_ _ | refine blk_drew ?_ | refine blk_alloc ?_ _)); exact BK70002.out) Try.underlying58 rfl (by kernel_rfl)) rfl ?_
      exact ⟨by first | rfl | (simp [errW_none, errW_some] <;> rfl) | (simp [*, errW_none, errW_some] <;> rfl), by repeat (first | (with_reducible first | exact HB.out | apply below_alloc | apply pw_below_drewN | apply below_drew1 | refine below_set ?_ GE70001.out | refine below_set ?_ GE70002.out | refine below_set ?_ GE70020.out) | exact HB.out)⟩
     ·replace c34 := Bool.eq_false_iff.mpr c34
      subst c34
      have H1 : (some ((⟨#[]⟩ : ByteArray), (⟨#[]⟩ : ByteArray), false)) = some (r1, r2, r3) := by rw [if_neg (show ¬ (false = true) by decide)] at H; exact H
      clear H
      have H := H1
      clear H1
      simp only [Option.some.injEq, Prod.mk.injEq] at H
      obtain ⟨rfl, rfl, rfl⟩ := H
      obtain ⟨Ao47, co47, eo47⟩ := Kd.R_slice HO_4.out
      subst eo47
      go_wp2_with (first | ((with_reducible refine gate_callee (f := 146) rfl ?_); refine goesL_ (some 37) rfl rfl Try.func146 (by kernel_rfl) rfl #[.slice Ao47 x4_1.length co47, .string (⟨#[35]⟩ : ByteArray)] rfl (by (try simp only [List.map_toArray, List.map_cons, List.map_nil]); first | done | rfl | (simp only [List.length_drop, List.length_take]; rfl)) ?_; (with_reducible refine (impl_Join.calls k1 _ _ x4_1 (⟨#[35]⟩ : ByteArray) t70018 _ ?side1 ?side2 A31.out).mono ?_); (case side1 => repeat (first | exact (Kd.R_reads' HO_4.out).2.2 | (with_reducible refine Kd.C_alloc ?_ _) | (with_reducible refine Kd.C_drewN ?_ _) | (with_reducible refine Kd.C_drew ?_))); (case side2 => exact (Kd.R_reads' HO_4.out).2.1); rintro e w48 ⟨rfl, hb⟩; refine ⟨_, rfl, ?_⟩; have n0_ := Aside0.mk (Kd.R_below (by (with_reducible repeat (first | apply Kd.R_alloc | apply Kd.R_drewN | apply Kd.R_drew)); exact HO_4.out) hb); have n1_ := Aside0.mk (Kd.R_below (by (with_reducible repeat (first | apply Kd.R_alloc | apply Kd.R_drewN | apply Kd.R_drew)); exact HO_5.out) hb); have n2_ := Aside0.mk (blk_below (g := gb70001) (o := .cells #[.slice A0_0 l0_0.length c0_0] 29 (0, 0)) (by (with_reducible repeat (first | refine blk_drewN ?_ _ | refine blk_drew ?_ | refine blk_alloc ?_ _)); exact BK70001.out) hb); have n3_ := Aside0.mk (blk_below (g := gb70002) (o := .cells #[.string (⟨#[]⟩ : ByteArray), .string (⟨#[]⟩ : ByteArray)] 58 (0, 0)) (by (with_reducible repeat (first | refine blk_drewN ?_ _ | refine blk_drew ?_ | refine blk_alloc ?_ _)); exact BK70002.out) hb); have n4_ := Aside0.mk (below_step (by repeat (first | (with_reducible first | exact HB.out | apply below_alloc | apply pw_below_drewN | apply below_drew1 | refine below_set ?_ GE70001.out | refine below_set ?_ GE70002.out) | exact HB.out)) hb); clear HO_4; clear HO_5; clear BK70001; clear BK70002; clear HB; have HO_4 := n0_; have HO_5 := n1_; have BK70001 := n2_; have BK70002 := n3_; have HB := n4_; clear n0_ n1_ n2_ n3_ n4_; (try clear hb); (try clear hb2); (try clear hk); (try clear hi); obtain ⟨Ao49, co49, eo49⟩ := Kd.R_slice HO_5.out; subst eo49) | ((with_reducible refine gate_callee (f := 146) rfl ?_); refine goesL_ (some 39) rfl rfl Try.func146 (by kernel_rfl) rfl #[.slice Ao49 x5_1.length co49, .string (⟨#[35]⟩ : ByteArray)] rfl (by (try simp only [List.map_toArray, List.map_cons, List.map_nil]); first | done | rfl | (simp only [List.length_drop, List.length_take]; rfl)) ?_; (with_reducible refine (impl_Join.calls k1 _ _ x5_1 (⟨#[35]⟩ : ByteArray) t70019 _ ?side1 ?side2 A32.out).mono ?_); (case side1 => repeat (first | exact (Kd.R_reads' HO_5.out).2.2 | (with_reducible refine Kd.C_alloc ?_ _) | (with_reducible refine Kd.C_drewN ?_ _) | (with_reducible refine Kd.C_drew ?_))); (case side2 => exact (Kd.R_reads' HO_5.out).2.1); rintro e w50 ⟨rfl, hb⟩; refine ⟨_, rfl, ?_⟩; have n0_ := Aside0.mk (Kd.R_below (by (with_reducible repeat (first | apply Kd.R_alloc | apply Kd.R_drewN | apply Kd.R_drew)); exact HO_4.out) hb); have n1_ := Aside0.mk (Kd.R_below (by (with_reducible repeat (first | apply Kd.R_alloc | apply Kd.R_drewN | apply Kd.R_drew)); exact HO_5.out) hb); have n2_ := Aside0.mk (blk_below (g := gb70001) (o := .cells #[.slice A0_0 l0_0.length c0_0] 29 (0, 0)) (by (with_reducible repeat (first | refine blk_drewN ?_ _ | refine blk_drew ?_ | refine blk_alloc ?_ _)); exact BK70001.out) hb); have n3_ := Aside0.mk (blk_below (g := gb70002) (o := .cells #[.string (⟨#[]⟩ : ByteArray), .string (⟨#[]⟩ : ByteArray)] 58 (0, 0)) (by (with_reducible repeat (first | refine blk_drewN ?_ _ | refine blk_drew ?_ | refine blk_alloc ?_ _)); exact BK70002.out) hb); have n4_ := Aside0.mk (below_step (by repeat (first | (with_reducible first | exact HB.out | apply below_alloc | apply pw_below_drewN | apply below_drew1 | refine below_set ?_ GE70001.out | refine below_set ?_ GE70002.out) | exact HB.out)) hb); clear HO_4; clear HO_5; clear BK70001; clear BK70002; clear HB; have HO_4 := n0_; have HO_5 := n1_; have BK70001 := n2_; have BK70002 := n3_; have HB := n4_; clear n0_ n1_ n2_ n3_ n4_; (try clear hb); (try clear hb2); (try clear hk); (try clear hi)) | ((with_reducible refine gate_dst (N := 8) rfl ?_); refine box_event ?hg (N := 8) ?hd (cs := #[.string (⟨#[]⟩ : ByteArray), .string (⟨#[]⟩ : ByteArray)]) (t := 58) ?hr ?_; (case hd => rfl); (case hg => rfl); (case hr => first | (go_simp; done) | (go_simp; rfl)); intro gb70020 hg w51 hbox hb; have n0_ := Aside0.mk (Kd.R_below (by (with_reducible repeat (first | apply Kd.R_alloc | apply Kd.R_drewN | apply Kd.R_drew)); exact HO_4.out) hb); have n1_ := Aside0.mk (Kd.R_below (by (with_reducible repeat (first | apply Kd.R_alloc | apply Kd.R_drewN | apply Kd.R_drew)); exact HO_5.out) hb); have n2_ := Aside0.mk (blk_below (g := gb70001) (o := .cells #[.slice A0_0 l0_0.length c0_0] 29 (0, 0)) (by (with_reducible repeat (first | refine blk_drewN ?_ _ | refine blk_drew ?_ | refine blk_alloc ?_ _)); exact BK70001.out) hb); have n3_ := Aside0.mk (blk_below (g := gb70002) (o := .cells #[.string (⟨#[]⟩ : ByteArray), .string (⟨#[]⟩ : ByteArray)] 58 (0, 0)) (by (with_reducible repeat (first | refine blk_drewN ?_ _ | refine blk_drew ?_ | refine blk_alloc ?_ _)); exact BK70002.out) hb); have n4_ := Aside0.mk (below_step (by repeat (first | (with_reducible first | exact HB.out | apply below_alloc | apply pw_below_drewN | apply below_drew1 | refine below_set ?_ GE70001.out | refine below_set ?_ GE70002.out) | exact HB.out)) hb); have n5_ := Aside0.mk (hbox); have n6_ := Aside0.mk ((by rw [hg]; exact (below_size (by repeat (first | (with_reducible first | exact HB.out | apply below_alloc | apply pw_below_drewN | apply below_drew1 | refine below_set ?_ GE70001.out | refine below_set ?_ GE70002.out) | exact HB.out))) : w.heap.size ≤ gb70020)); have n7_ := Aside0.mk ((by rw [hg]; exact (below_size (by repeat (first | (with_reducible first | exact HB.out | apply below_alloc | apply pw_below_drewN | apply below_drew1 | refine below_set ?_ GE70001.out | refine below_set ?_ GE70002.out) | exact HB.out))) : w.heap.size ≤ gb70020)); have n8_ := Aside0.mk ((by rw [hg]; exact Nat.ne_of_lt (blk_lt (g := gb70001) (o := .cells #[.slice A0_0 l0_0.length c0_0] 29 (0, 0)) (by (with_reducible repeat (first | refine blk_drewN ?_ _ | refine blk_drew ?_ | refine blk_alloc ?_ _)); exact BK70001.out)) : gb70001 ≠ gb70020)); have n9_ := Aside0.mk ((by rw [hg]; exact Nat.ne_of_gt (blk_lt (g := gb70001) (o := .cells #[.slice A0_0 l0_0.length c0_0] 29 (0, 0)) (by (with_reducible repeat (first | refine blk_drewN ?_ _ | refine blk_drew ?_ | refine blk_alloc ?_ _)); exact BK70001.out)) : gb70020 ≠ gb70001)); have n10_ := Aside0.mk ((by rw [hg]; exact Nat.ne_of_lt (blk_lt (g := gb70002) (o := .cells #[.string (⟨#[]⟩ : ByteArray), .string (⟨#[]⟩ : ByteArray)] 58 (0, 0)) (by (with_reducible repeat (first | refine blk_drewN ?_ _ | refine blk_drew ?_ | refine blk_alloc ?_ _)); exact BK70002.out)) : gb70002 ≠ gb70020)); have n11_ := Aside0.mk ((by rw [hg]; exact Nat.ne_of_gt (blk_lt (g := gb70002) (o := .cells #[.string (⟨#[]⟩ : ByteArray), .string (⟨#[]⟩ : ByteArray)] 58 (0, 0)) (by (with_reducible repeat (first | refine blk_drewN ?_ _ | refine blk_drew ?_ | refine blk_alloc ?_ _)); exact BK70002.out)) : gb70020 ≠ gb70002)); clear HO_4; clear HO_5; clear BK70001; clear BK70002; clear HB; have HO_4 := n0_; have HO_5 := n1_; have BK70001 := n2_; have BK70002 := n3_; have HB := n4_; have BK70020 := n5_; have GW70020 := n6_; have GE70020 := n7_; have NB70001_70020 := n8_; have NB70020_70001 := n9_; have NB70002_70020 := n10_; have NB70020_70002 := n11_; clear n0_ n1_ n2_ n3_ n4_ n5_ n6_ n7_ n8_ n9_ n10_ n11_; clear hb hbox hg; have hnb52 := NB70020_70001.out; have hnc52 := NB70001_70020.out; have hnb53 := NB70020_70002.out; have hnc53 := NB70002_70020.out; have hcz54_0 : w51.cell? ⟨gb70020, 0, none⟩ = some (.string (⟨#[]⟩ : ByteArray)) := (blk_cell BK70020.out 0).trans rfl; have hcz54_1 : w51.cell? ⟨gb70020, 1, none⟩ = some (.string (⟨#[]⟩ : ByteArray)) := (blk_cell BK70020.out 1).trans rfl; have hfz54_0 := blk_frozen BK70020.out 0; have hfz54_1 := blk_frozen BK70020.out 1) | ((with_reducible refine gate_callee (f := 151) rfl ?_); refine goesL_ (some 42) rfl rfl Try.func151 (by kernel_rfl) rfl #[.agg #[.string t70018, .string t70019]] rfl (by (try simp only [List.map_toArray, List.map_cons, List.map_nil]); first | done | rfl | (simp only [List.length_drop, List.length_take]; rfl)) ?_; (with_reducible refine (impl_IsEquation.calls k1 t70018 t70019 false _ A33.out).mono ?_); rintro e w55 ⟨rfl, hb⟩; refine ⟨_, rfl, ?_⟩; have n0_ := Aside0.mk (Kd.R_below (by (with_reducible repeat (first | apply Kd.R_alloc | apply Kd.R_drewN | apply Kd.R_drew)); exact (Kd.R_mono (Kd.R_far (p := ⟨gb70020, 1, none⟩) (Kd.R_far (p := ⟨gb70020, 0, none⟩) (Kd.R_types HO_4.out BK70020.out (by decide)) (fun _ hk => hk.2) (.string t70018)) (fun _ hk => hk.2) (.string t70019)) (fun _ h_ => h_.1))) hb); have n1_ := Aside0.mk (Kd.R_below (by (with_reducible repeat (first | apply Kd.R_alloc | apply Kd.R_drewN | apply Kd.R_drew)); exact (Kd.R_mono (Kd.R_far (p := ⟨gb70020, 1, none⟩) (Kd.R_far (p := ⟨gb70020, 0, none⟩) (Kd.R_types HO_5.out BK70020.out (by decide)) (fun _ hk => hk.2) (.string t70018)) (fun _ hk => hk.2) (.string t70019)) (fun _ h_ => h_.1))) hb); have n2_ := Aside0.mk (blk_below (g := gb70001) (o := .cells #[.slice A0_0 l0_0.length c0_0] 29 (0, 0)) (by (with_reducible repeat (first | refine blk_drewN ?_ _ | refine blk_drew ?_ | refine blk_alloc ?_ _)); refine blk_far ?_ NB70001_70020.out _; (with_reducible repeat (first | refine blk_drewN ?_ _ | refine blk_drew ?_ | refine blk_alloc ?_ _)); refine blk_far ?_ NB70001_70020.out _; (with_reducible repeat (first | refine blk_drewN ?_ _ | refine blk_drew ?_ | refine blk_alloc ?_ _)); exact BK70001.out) hb); have n3_ := Aside0.mk (blk_below (g := gb70002) (o := .cells #[.string (⟨#[]⟩ : ByteArray), .string (⟨#[]⟩ : ByteArray)] 58 (0, 0)) (by (with_reducible repeat (first | refine blk_drewN ?_ _ | refine blk_drew ?_ | refine blk_alloc ?_ _)); refine blk_far ?_ NB70002_70020.out _; (with_reducible repeat (first | refine blk_drewN ?_ _ | refine blk_drew ?_ | refine blk_alloc ?_ _)); refine blk_far ?_ NB70002_70020.out _; (with_reducible repeat (first | refine blk_drewN ?_ _ | refine blk_drew ?_ | refine blk_alloc ?_ _)); exact BK70002.out) hb); have n4_ := Aside0.mk (blk_below (g := gb70020) (o := .cells #[.string t70018, .string t70019] 58 (0, 0)) (by (with_reducible repeat (first | refine blk_drewN ?_ _ | refine blk_drew ?_ | refine blk_alloc ?_ _)); refine blk_put (cs := #[.string t70018, .string (⟨#[]⟩ : ByteArray)]) ?_ 1 _ rfl; (with_reducible repeat (first | refine blk_drewN ?_ _ | refine blk_drew ?_ | refine blk_alloc ?_ _)); refine blk_put (cs := #[.string (⟨#[]⟩ : ByteArray), .string (⟨#[]⟩ : ByteArray)]) ?_ 0 _ rfl; (with_reducible repeat (first | refine blk_drewN ?_ _ | refine blk_drew ?_ | refine blk_alloc ?_ _)); exact BK70020.out) hb); have n5_ := Aside0.mk (below_step (by repeat (first | (with_reducible first | exact HB.out | apply below_alloc | apply pw_below_drewN | apply below_drew1 | refine below_set ?_ GE70001.out | refine below_set ?_ GE70002.out | refine below_set ?_ GE70020.out) | exact HB.out)) hb); clear HO_4; clear HO_5; clear BK70001; clear BK70002; clear BK70020; clear HB; have HO_4 := n0_; have HO_5 := n1_; have BK70001 := n2_; have BK70002 := n3_; have BK70020 := n4_; have HB := n5_; clear n0_ n1_ n2_ n3_ n4_ n5_; (try clear hb); (try clear hb2); (try clear hk); (try clear hi); have hnb56 := NB70002_70001.out; have hnc56 := NB70001_70002.out; have hcz57_0 : w55.cell? ⟨gb70002, 0, none⟩ = some (.string (⟨#[]⟩ : ByteArray)) := (blk_cell BK70002.out 0).trans rfl; have hcz57_1 : w55.cell? ⟨gb70002, 1, none⟩ = some (.string (⟨#[]⟩ : ByteArray)) := (blk_cell BK70002.out 1).trans rfl; have hfz57_0 := blk_frozen BK70002.out 0; have hfz57_1 := blk_frozen BK70002.out 1))
      refine bodyPost_ret (results_ct rfl _ _ gb70002 58 #[.string (⟨#[]⟩ : ByteArray), .string (⟨#[]⟩ : ByteArray)] (0, 0) _ rfl (by (with_reducible repeat (first | refine blk_drewN ?_ _ | refine blk_drew ?_ | refine blk_alloc ?_ _)); refine blk_put (cs := #[.string (⟨#[]⟩ : ByteArray), .string (⟨#[]⟩ : ByteArray)]) ?_ 1 _ rfl; (with_reducible repeat (first | refine blk_drewN ?_ _ | refine blk_drew ?_ | refine blk_alloc ?_ _)); refine blk_put (cs := #[.string (⟨#[]⟩ : ByteArray), .string (⟨#[]⟩ : ByteArray)]) ?_ 0 _ rfl; (with_reducible repeat (first | refine blk_drewN ?_ _ | refine blk_drew ?_ | refine blk_alloc ?_ _)); exact BK70002.out) Try.underlying58 rfl (by kernel_rfl)) rfl ?_
      exact ⟨by first | rfl | (simp [errW_none, errW_some] <;> rfl) | (simp [*, errW_none, errW_some] <;> rfl), by repeat (first | (with_reducible first | exact HB.out | apply below_alloc | apply pw_below_drewN | apply below_drew1 | refine below_set ?_ GE70001.out | refine below_set ?_ GE70002.out | refine below_set ?_ GE70020.out) | exact HB.out)⟩
 ·replace c3 := Bool.eq_false_iff.mpr c3
  subst c3
  have H1 : (some ((⟨#[]⟩ : ByteArray), (⟨#[]⟩ : ByteArray), false)) = some (r1, r2, r3) := by rw [if_neg (show ¬ (false = true) by decide)] at H; exact H
  clear H
  have H := H1
  clear H1
  simp only [Option.some.injEq, Prod.mk.injEq] at H
  obtain ⟨rfl, rfl, rfl⟩ := H
  go_enter Try.func70, Try.ntmps70
  go_wp2_with (first | ((with_reducible refine gate_dst (N := 1) rfl ?_); refine box_event ?hg (N := 1) ?hd (cs := #[.slice A0_0 l0_0.length c0_0]) (t := 29) ?hr ?_; (case hd => rfl); (case hg => rfl); (case hr => first | (go_simp; done) | (go_simp; rfl)); intro gb70001 hg w58 hbox hb; have n0_ := Aside0.mk (below_step (by repeat (first | (with_reducible first | exact HB.out | apply below_alloc | apply pw_below_drewN | apply below_drew1) | exact HB.out)) hb); have n1_ := Aside0.mk (hbox); have n2_ := Aside0.mk ((by rw [hg]; exact (below_size (by repeat (first | (with_reducible first | exact HB.out | apply below_alloc | apply pw_below_drewN | apply below_drew1) | exact HB.out))) : w.heap.size ≤ gb70001)); have n3_ := Aside0.mk ((by rw [hg]; exact (below_size (by repeat (first | (with_reducible first | exact HB.out | apply below_alloc | apply pw_below_drewN | apply below_drew1) | exact HB.out))) : w.heap.size ≤ gb70001)); clear HB; have HB := n0_; have BK70001 := n1_; have GW70001 := n2_; have GE70001 := n3_; clear n0_ n1_ n2_ n3_; clear hb hbox hg) | ((with_reducible refine gate_dst (N := 2) rfl ?_); refine box_event ?hg (N := 2) ?hd (cs := #[.string (⟨#[]⟩ : ByteArray), .string (⟨#[]⟩ : ByteArray)]) (t := 58) ?hr ?_; (case hd => rfl); (case hg => rfl); (case hr => first | (go_simp; done) | (go_simp; rfl)); intro gb70002 hg w59 hbox hb; have n0_ := Aside0.mk (blk_below (g := gb70001) (o := .cells #[.slice A0_0 l0_0.length c0_0] 29 (0, 0)) (by (with_reducible repeat (first | refine blk_drewN ?_ _ | refine blk_drew ?_ | refine blk_alloc ?_ _)); exact BK70001.out) hb); have n1_ := Aside0.mk (below_step (by repeat (first | (with_reducible first | exact HB.out | apply below_alloc | apply pw_below_drewN | apply below_drew1 | refine below_set ?_ GE70001.out) | exact HB.out)) hb); have n2_ := Aside0.mk (hbox); have n3_ := Aside0.mk ((by rw [hg]; exact (below_size (by repeat (first | (with_reducible first | exact HB.out | apply below_alloc | apply pw_below_drewN | apply below_drew1 | refine below_set ?_ GE70001.out) | exact HB.out))) : w.heap.size ≤ gb70002)); have n4_ := Aside0.mk ((by rw [hg]; exact (below_size (by repeat (first | (with_reducible first | exact HB.out | apply below_alloc | apply pw_below_drewN | apply below_drew1 | refine below_set ?_ GE70001.out) | exact HB.out))) : w.heap.size ≤ gb70002)); have n5_ := Aside0.mk ((by rw [hg]; exact Nat.ne_of_lt (blk_lt (g := gb70001) (o := .cells #[.slice A0_0 l0_0.length c0_0] 29 (0, 0)) (by (with_reducible repeat (first | refine blk_drewN ?_ _ | refine blk_drew ?_ | refine blk_alloc ?_ _)); exact BK70001.out)) : gb70001 ≠ gb70002)); have n6_ := Aside0.mk ((by rw [hg]; exact Nat.ne_of_gt (blk_lt (g := gb70001) (o := .cells #[.slice A0_0 l0_0.length c0_0] 29 (0, 0)) (by (with_reducible repeat (first | refine blk_drewN ?_ _ | refine blk_drew ?_ | refine blk_alloc ?_ _)); exact BK70001.out)) : gb70002 ≠ gb70001)); clear BK70001; clear HB; have BK70001 := n0_; have HB := n1_; have BK70002 := n2_; have GW70002 := n3_; have GE70002 := n4_; have NB70001_70002 := n5_; have NB70002_70001 := n6_; clear n0_ n1_ n2_ n3_ n4_ n5_ n6_; clear hb hbox hg; have hnb60 := NB70001_70002.out; have hnc60 := NB70002_70001.out; have hcz61_0 : w59.cell? ⟨gb70001, 0, none⟩ = some (.slice A0_0 l0_0.length c0_0) := (blk_cell BK70001.out 0).trans rfl; have hfz61_0 := blk_frozen BK70001.out 0) | ((with_reducible refine gate_callee (f := 64) rfl ?_); refine goesL_ (some 10) rfl rfl Try.func64 (by kernel_rfl) rfl #[.agg #[.slice A0_0 l0_0.length c0_0]] rfl (by (try simp only [List.map_toArray, List.map_cons, List.map_nil]); first | done | rfl | (simp only [List.length_drop, List.length_take]; rfl)) ?_; (with_reducible refine (impl_IsValidProblem.calls k _ _ l0_0 false _ ?side1 ?side2 A2.out).mono ?_); (case side1 => repeat (first | exact (Kd.C_below HR0_0.out HB.out) | (with_reducible refine Kd.C_alloc ?_ _) | (with_reducible refine Kd.C_drewN ?_ _) | (with_reducible refine Kd.C_drew ?_))); (case side2 => exact HC0_0.out); rintro e w62 ⟨rfl, hb⟩; refine ⟨_, rfl, ?_⟩; have n0_ := Aside0.mk (blk_below (g := gb70001) (o := .cells #[.slice A0_0 l0_0.length c0_0] 29 (0, 0)) (by (with_reducible repeat (first | refine blk_drewN ?_ _ | refine blk_drew ?_ | refine blk_alloc ?_ _)); exact BK70001.out) hb); have n1_ := Aside0.mk (blk_below (g := gb70002) (o := .cells #[.string (⟨#[]⟩ : ByteArray), .string (⟨#[]⟩ : ByteArray)] 58 (0, 0)) (by (with_reducible repeat (first | refine blk_drewN ?_ _ | refine blk_drew ?_ | refine blk_alloc ?_ _)); exact BK70002.out) hb); have n2_ := Aside0.mk (below_step (by repeat (first | (with_reducible first | exact HB.out | apply below_alloc | apply pw_below_drewN | apply below_drew1 | refine below_set ?_ GE70001.out | refine below_set ?_ GE70002.out) | exact HB.out)) hb); clear BK70001; clear BK70002; clear HB; have BK70001 := n0_; have BK70002 := n1_; have HB := n2_; clear n0_ n1_ n2_; (try clear hb); (try clear hb2); (try clear hk); (try clear hi); have hcz63_0 : w62.cell? ⟨gb70002, 0, none⟩ = some (.string (⟨#[]⟩ : ByteArray)) := (blk_cell BK70002.out 0).trans rfl; have hcz63_1 : w62.cell? ⟨gb70002, 1, none⟩ = some (.string (⟨#[]⟩ : ByteArray)) := (blk_cell BK70002.out 1).trans rfl; have hfz63_0 := blk_frozen BK70002.out 0; have hfz63_1 := blk_frozen BK70002.out 1))
  refine bodyPost_ret (results_ct rfl _ _ gb70002 58 #[.string (⟨#[]⟩ : ByteArray), .string (⟨#[]⟩ : ByteArray)] (0, 0) _ rfl (by (with_reducible repeat (first | refine blk_drewN ?_ _ | refine blk_drew ?_ | refine blk_alloc ?_ _)); refine blk_put (cs := #[.string (⟨#[]⟩ : ByteArray), .string (⟨#[]⟩ : ByteArray)]) ?_ 1 _ rfl; (with_reducible repeat (first | refine blk_drewN ?_ _ | refine blk_drew ?_ | refine blk_alloc ?_ _)); refine blk_put (cs := #[.string (⟨#[]⟩ : ByteArray), .string (⟨#[]⟩ : ByteArray)]) ?_ 0 _ rfl; (with_reducible repeat (first | refine blk_drewN ?_ _ | refine blk_drew ?_ | refine blk_alloc ?_ _)); exact BK70002.out) Try.underlying58 rfl (by kernel_rfl)) rfl ?_
  exact ⟨by first | rfl | (simp [errW_none, errW_some] <;> rfl) | (simp [*, errW_none, errW_some] <;> rfl), by repeat (first | (with_reducible first | exact HB.out | apply below_alloc | apply pw_below_drewN | apply below_drew1 | refine below_set ?_ GE70001.out | refine below_set ?_ GE70002.out) | exact HB.out)⟩
end Go.Proofs.Ytpppopdmnejcfaa.A
