/- FnExactVarsOfConstraint: what its proof needs, put together by this session's program wip/merge.py out of the texts that wip/xp.py printed and of this session's own. -/
import Derived.Test.YtpppopdmnejcfaaQFnExactVarsOfConstraint3
import Derived.ChangeArms
import Derived.ChangeReads
import Derived.DataReads
import Derived.DataElems
import Derived.Lib.Strings
import Derived.Lib.Bytealg
import Derived.Test.YtpppopdmnejcfaaRows
import Derived.WalkKit
import Derived.ProofKit
import Derived.OpenShut
import Derived.ShutString
import Derived.ChangeOld
import Derived.Below
import Derived.SizedLaws
import Derived.Lib.SmallJoins
namespace Go.Proofs.Ytpppopdmnejcfaa.A
open Go.RowKit Go.Proofs.Ytpppopdmnejcfaa.Ext Go.Proofs.YtpppopdmnejcfaaW.PrintWords Go.Proofs.YtpppopdmnejcfaaW.PrintLast Go.Proofs.YtpppopdmnejcfaaW.PrintMore
attribute [local go_sem] max2_int min2_int max_two min_two max_three min_three max_four min_four   -- for this text's walks alone
set_option linter.unusedVariables false
set_option linter.unusedSimpArgs false

/-! ### impl_IsValidConstraint: function 23 -/
mutual
def impl_IsValidConstraint.j0 : Nat → Bool → Int → ByteArray → ByteArray → Int → ByteArray → List (S42) → List Int → Int → Option (Bool)
  | 0, _, _, _, _, _, _, _, _, _ => none
  | k + 1, x16, x23002000, x23002001, x23002002, x23002003, x23002004, x23002005, x23002006, x23002007 => if x16 = true then (some false) else (if x23002000 = 1 then (impl_IsValidConstraint.j1 k x23002000 (x23002000 == 1) x23002000 x23002001 x23002002 x23002003 x23002004 x23002005 x23002006 x23002007) else (impl_IsValidConstraint.j1 k x23002000 (x23002000 == 2) x23002000 x23002001 x23002002 x23002003 x23002004 x23002005 x23002006 x23002007))
def impl_IsValidConstraint.j1 : Nat → Int → Bool → Int → ByteArray → ByteArray → Int → ByteArray → List (S42) → List Int → Int → Option (Bool)
  | 0, _, _, _, _, _, _, _, _, _, _ => none
  | k + 1, x18, x19, x23002000, x23002001, x23002002, x23002003, x23002004, x23002005, x23002006, x23002007 => if x19 = true then ((impl_IsTerm.f k x23002001).bind fun t23002 => (if t23002 = true then ((impl_IsTerm.f k x23002002).bind fun t23003 => (if t23003 = true then ((impl_isZeroRegex.f x23002003 x23002004 x23002005).bind fun t23004 => (some t23004)) else (some false))) else (some false))) else (if x18 = 3 then (impl_IsValidConstraint.j2 k x18 (x18 == 3) x23002000 x23002001 x23002002 x23002003 x23002004 x23002005 x23002006 x23002007) else (impl_IsValidConstraint.j2 k x18 (x18 == 4) x23002000 x23002001 x23002002 x23002003 x23002004 x23002005 x23002006 x23002007))
def impl_IsValidConstraint.j2 : Nat → Int → Bool → Int → ByteArray → ByteArray → Int → ByteArray → List (S42) → List Int → Int → Option (Bool)
  | 0, _, _, _, _, _, _, _, _, _, _ => none
  | k + 1, x18, x35, x23002000, x23002001, x23002002, x23002003, x23002004, x23002005, x23002006, x23002007 => if x35 = true then ((impl_IsTerm.f k x23002001).bind fun t23005 => (if t23005 = true then (if x23002002.toList = ([] : List UInt8) then ((impl_IsValidRegex.f k x23002003 x23002004 x23002005).bind fun t23006 => (some t23006)) else (some false)) else (some false))) else (if x18 = 5 then (if x23002001.toList = ([] : List UInt8) then (if x23002002.toList = ([] : List UInt8) then ((impl_isZeroRegex.f x23002003 x23002004 x23002005).bind fun t23007 => (if t23007 = true then (if (x23002006.length : Int) = 3 then ((impl_within.f x23002007 (-99) 99).bind fun t23008 => (if t23008 = true then ((slices_ContainsFunc_int_int_97.f k x23002006).bind fun t23009 => (some (!t23009))) else (some false))) else (some false)) else (some false))) else (some false)) else (some false)) else (some false))
end
def impl_IsValidConstraint.f (k : Nat) (a0_0 : Int) (a0_1 : ByteArray) (a0_2 : ByteArray) (a0_3 : Int) (a0_4 : ByteArray) (l0_5 : List (S42)) (l0_6 : List Int) (a0_7 : Int) : Option (Bool) := if a0_0 = 5 then (impl_IsValidConstraint.j0 k false a0_0 a0_1 a0_2 a0_3 a0_4 l0_5 l0_6 a0_7) else (if (l0_6.length : Int) = 0 then (impl_IsValidConstraint.j0 k (a0_7 != 0) a0_0 a0_1 a0_2 a0_3 a0_4 l0_5 l0_6 a0_7) else (impl_IsValidConstraint.j0 k true a0_0 a0_1 a0_2 a0_3 a0_4 l0_5 l0_6 a0_7))
theorem impl_IsValidConstraint.mono_l : ∀ k, (∀ y0 y1 y2 y3 y4 y5 y6 y7 y8, LeO (impl_IsValidConstraint.j0 k y0 y1 y2 y3 y4 y5 y6 y7 y8) (impl_IsValidConstraint.j0 (k + 1) y0 y1 y2 y3 y4 y5 y6 y7 y8)) ∧ (∀ y0 y1 y2 y3 y4 y5 y6 y7 y8 y9, LeO (impl_IsValidConstraint.j1 k y0 y1 y2 y3 y4 y5 y6 y7 y8 y9) (impl_IsValidConstraint.j1 (k + 1) y0 y1 y2 y3 y4 y5 y6 y7 y8 y9)) ∧ (∀ y0 y1 y2 y3 y4 y5 y6 y7 y8 y9, LeO (impl_IsValidConstraint.j2 k y0 y1 y2 y3 y4 y5 y6 y7 y8 y9) (impl_IsValidConstraint.j2 (k + 1) y0 y1 y2 y3 y4 y5 y6 y7 y8 y9))
  | 0 => ⟨fun _ _ _ _ _ _ _ _ _ r h => by simp [impl_IsValidConstraint.j0] at h, fun _ _ _ _ _ _ _ _ _ _ r h => by simp [impl_IsValidConstraint.j1] at h, fun _ _ _ _ _ _ _ _ _ _ r h => by simp [impl_IsValidConstraint.j2] at h⟩
  | k + 1 => by
    obtain ⟨ih0, ih1, ih2⟩ := impl_IsValidConstraint.mono_l k
    refine ⟨?_, ?_, ?_⟩
    · intro y0 y1 y2 y3 y4 y5 y6 y7 y8
      unfold impl_IsValidConstraint.j0
      repeat' first
      | (with_reducible exact ih0 _ _ _ _ _ _ _ _ _)
      | (with_reducible exact ih1 _ _ _ _ _ _ _ _ _ _)
      | (with_reducible exact ih2 _ _ _ _ _ _ _ _ _ _)
      | (with_reducible exact impl_IsTerm.mono _ _)
      | (with_reducible exact impl_IsValidRegex.mono _ _ _ _)
      | (with_reducible exact slices_ContainsFunc_int_int_97.mono _ _)
      | (with_reducible exact LeO.refl _)
      | (with_reducible exact LeO.none _)
      | (with_reducible refine LeO.ite ?_ ?_)
      | (with_reducible refine LeO.bind ?_ (fun _ => ?_))
      | exact ih0 _ _ _ _ _ _ _ _ _
      | exact ih1 _ _ _ _ _ _ _ _ _ _
      | exact ih2 _ _ _ _ _ _ _ _ _ _
      | exact impl_IsTerm.mono _ _
      | exact impl_IsValidRegex.mono _ _ _ _
      | exact slices_ContainsFunc_int_int_97.mono _ _
      | exact LeO.none _
      | refine LeO.ite ?_ ?_
      | refine LeO.bind ?_ (fun _ => ?_)
    · intro y0 y1 y2 y3 y4 y5 y6 y7 y8 y9
      unfold impl_IsValidConstraint.j1
      repeat' first
      | (with_reducible exact ih0 _ _ _ _ _ _ _ _ _)
      | (with_reducible exact ih1 _ _ _ _ _ _ _ _ _ _)
      | (with_reducible exact ih2 _ _ _ _ _ _ _ _ _ _)
      | (with_reducible exact impl_IsTerm.mono _ _)
      | (with_reducible exact impl_IsValidRegex.mono _ _ _ _)
      | (with_reducible exact slices_ContainsFunc_int_int_97.mono _ _)
      | (with_reducible exact LeO.refl _)
      | (with_reducible exact LeO.none _)
      | (with_reducible refine LeO.ite ?_ ?_)
      | (with_reducible refine LeO.bind ?_ (fun _ => ?_))
      | exact ih0 _ _ _ _ _ _ _ _ _
      | exact ih1 _ _ _ _ _ _ _ _ _ _
      | exact ih2 _ _ _ _ _ _ _ _ _ _
      | exact impl_IsTerm.mono _ _
      | exact impl_IsValidRegex.mono _ _ _ _
      | exact slices_ContainsFunc_int_int_97.mono _ _
      | exact LeO.none _
      | refine LeO.ite ?_ ?_
      | refine LeO.bind ?_ (fun _ => ?_)
    · intro y0 y1 y2 y3 y4 y5 y6 y7 y8 y9
      unfold impl_IsValidConstraint.j2
      repeat' first
      | (with_reducible exact ih0 _ _ _ _ _ _ _ _ _)
      | (with_reducible exact ih1 _ _ _ _ _ _ _ _ _ _)
      | (with_reducible exact ih2 _ _ _ _ _ _ _ _ _ _)
      | (with_reducible exact impl_IsTerm.mono _ _)
      | (with_reducible exact impl_IsValidRegex.mono _ _ _ _)
      | (with_reducible exact slices_ContainsFunc_int_int_97.mono _ _)
      | (with_reducible exact LeO.refl _)
      | (with_reducible exact LeO.none _)
      | (with_reducible refine LeO.ite ?_ ?_)
      | (with_reducible refine LeO.bind ?_ (fun _ => ?_))
      | exact ih0 _ _ _ _ _ _ _ _ _
      | exact ih1 _ _ _ _ _ _ _ _ _ _
      | exact ih2 _ _ _ _ _ _ _ _ _ _
      | exact impl_IsTerm.mono _ _
      | exact impl_IsValidRegex.mono _ _ _ _
      | exact slices_ContainsFunc_int_int_97.mono _ _
      | exact LeO.none _
      | refine LeO.ite ?_ ?_
      | refine LeO.bind ?_ (fun _ => ?_)
theorem impl_IsValidConstraint.mono : ∀ a0 a1 a2 a3 a4 a5 a6 a7 k, LeO (impl_IsValidConstraint.f k a0 a1 a2 a3 a4 a5 a6 a7) (impl_IsValidConstraint.f (k + 1) a0 a1 a2 a3 a4 a5 a6 a7) := by
  intro a0 a1 a2 a3 a4 a5 a6 a7 k
  obtain ⟨ih0, ih1, ih2⟩ := impl_IsValidConstraint.mono_l k
  unfold impl_IsValidConstraint.f
  repeat' first
      | (with_reducible exact ih0 _ _ _ _ _ _ _ _ _)
      | (with_reducible exact ih1 _ _ _ _ _ _ _ _ _ _)
      | (with_reducible exact ih2 _ _ _ _ _ _ _ _ _ _)
      | (with_reducible exact impl_IsTerm.mono _ _)
      | (with_reducible exact impl_IsValidRegex.mono _ _ _ _)
      | (with_reducible exact slices_ContainsFunc_int_int_97.mono _ _)
      | (with_reducible exact LeO.refl _)
      | (with_reducible exact LeO.none _)
      | (with_reducible refine LeO.ite ?_ ?_)
      | (with_reducible refine LeO.bind ?_ (fun _ => ?_))
      | exact ih0 _ _ _ _ _ _ _ _ _
      | exact ih1 _ _ _ _ _ _ _ _ _ _
      | exact ih2 _ _ _ _ _ _ _ _ _ _
      | exact impl_IsTerm.mono _ _
      | exact impl_IsValidRegex.mono _ _ _ _
      | exact slices_ContainsFunc_int_int_97.mono _ _
      | exact LeO.none _
      | refine LeO.ite ?_ ?_
      | refine LeO.bind ?_ (fun _ => ?_)
set_option maxHeartbeats 8000000 in
set_option maxRecDepth 100000 in
theorem impl_IsValidConstraint.calls (k : Nat) (a0_0 : Int) (a0_1 : ByteArray) (a0_2 : ByteArray) (a0_3 : Int) (a0_4 : ByteArray) (A0_5 : Option Addr) (c0_5 : Nat) (l0_5 : List (S42)) (A0_6 : Option Addr) (c0_6 : Nat) (l0_6 : List Int) (a0_7 : Int) (r : Bool) (w : World) (hr0_5 : Kd.C k42 w A0_5 l0_5.length l0_5) (hc0_5 : l0_5.length ≤ c0_5) (hr0_6 : Kd.C (Kd.int .i64) w A0_6 l0_6.length l0_6) (hc0_6 : l0_6.length ≤ c0_6) (h : impl_IsValidConstraint.f k a0_0 a0_1 a0_2 a0_3 a0_4 l0_5 l0_6 a0_7 = some r) :
    Calls Try.prog 23 #[.agg #[.int .i64 a0_0, .string a0_1, .string a0_2, .int .i64 a0_3, .string a0_4, .slice A0_5 l0_5.length c0_5, .slice A0_6 l0_6.length c0_6, .int .i64 a0_7]] w fun e w' => e = .returned (.bool r) ∧ Below w.heap.size w w' := by
  have hu44 := Try.underlying44
  have hu42 := Try.underlying42
  have HR0_5 := Aside0.mk hr0_5
  have HC0_5 := Aside0.mk hc0_5
  clear hr0_5 hc0_5
  have HR0_6 := Aside0.mk hr0_6
  have HC0_6 := Aside0.mk hc0_6
  clear hr0_6 hc0_6
  have HB := Aside0.mk (Below.refl w.heap.size w)
  have H : (if a0_0 = 5 then (impl_IsValidConstraint.j0 k false a0_0 a0_1 a0_2 a0_3 a0_4 l0_5 l0_6 a0_7) else (if (l0_6.length : Int) = 0 then (impl_IsValidConstraint.j0 k (a0_7 != 0) a0_0 a0_1 a0_2 a0_3 a0_4 l0_5 l0_6 a0_7) else (impl_IsValidConstraint.j0 k true a0_0 a0_1 a0_2 a0_3 a0_4 l0_5 l0_6 a0_7))) = some r := h
  clear h
  have HC2 := Aside0.mk H
  clear H
  go_enter Try.func23, Try.ntmps23
  go_upto_region 1 with (first | ((with_reducible refine gate_dst (N := 1) rfl ?_); (try (refine gate_guard (by rfl) ?_; dsimp only)); refine box_event ?hg (N := 1) ?hd (cs := #[.int .i64 a0_0, .string a0_1, .string a0_2, .int .i64 a0_3, .string a0_4, .slice A0_5 l0_5.length c0_5, .slice A0_6 l0_6.length c0_6, .int .i64 a0_7]) (t := 44) ?hr ?_; (case hd => rfl); (case hg => rfl); (case hr => first | (go_simp; done) | (go_simp; rfl)); intro gb23001 hg w3 hbox hb; have n0_ := Aside0.mk (below_step (by repeat (first | (with_reducible first | exact HB.out | apply below_alloc | apply pw_below_drewN | apply below_drew1) | exact HB.out)) hb); have n1_ := Aside0.mk (hbox); have n2_ := Aside0.mk ((by rw [hg]; exact (below_size (by repeat (first | (with_reducible first | exact HB.out | apply below_alloc | apply pw_below_drewN | apply below_drew1) | exact HB.out))) : w.heap.size ≤ gb23001)); have n3_ := Aside0.mk ((by rw [hg]; exact (below_size (by repeat (first | (with_reducible first | exact HB.out | apply below_alloc | apply pw_below_drewN | apply below_drew1) | exact HB.out))) : w.heap.size ≤ gb23001)); clear HB; have HB := n0_; have BK23001 := n1_; have GW23001 := n2_; have GE23001 := n3_; clear n0_ n1_ n2_ n3_; clear hb hbox hg))
  (try simp only [Act.put, List.setIfInBounds_toArray, List.set_cons_zero, List.set_cons_succ])
  go_cut [16] (fun v16 wc => ∃ (kq : Nat) (x16_1 : Bool), v16 = .bool x16_1 ∧ Aside0 (impl_IsValidConstraint.j0 kq x16_1 a0_0 a0_1 a0_2 a0_3 a0_4 l0_5 l0_6 a0_7 = some r) ∧ Aside0 (kq ≤ k) ∧ Aside0 (wc.heap[gb23001]? = some (.cells #[.int .i64 a0_0, .string a0_1, .string a0_2, .int .i64 a0_3, .string a0_4, (.slice A0_5 l0_5.length c0_5), (.slice A0_6 l0_6.length c0_6), .int .i64 a0_7] 44 (0, 0))) ∧ Aside0 (Below w.heap.size w wc))
  case first =>
    have H := HC2.out
    clear HC2
    by_cases c4 : a0_0 = 5
    · rw [if_pos c4] at H
      have c4b0 : (a0_0 == 5) = true := beq_iff_eq.mpr c4
      have c4b1 : (a0_0 != 5) = false := bne_eq_false_iff_eq.mpr c4
      clear c4
      (first | rw [c4b0] | (simp only [i64_w, i32_w]; rw [c4b0]) | skip)
      have H' := Aside0.mk H
      clear H
      have hcz5_0 : w3.cell? ⟨gb23001, 0, none⟩ = some (.int .i64 a0_0) := (blk_cell BK23001.out 0).trans rfl
      have hcz5_1 : w3.cell? ⟨gb23001, 1, none⟩ = some (.string a0_1) := (blk_cell BK23001.out 1).trans rfl
      have hcz5_2 : w3.cell? ⟨gb23001, 2, none⟩ = some (.string a0_2) := (blk_cell BK23001.out 2).trans rfl
      have hcz5_3 : w3.cell? ⟨gb23001, 3, none⟩ = some (.int .i64 a0_3) := (blk_cell BK23001.out 3).trans rfl
      have hcz5_4 : w3.cell? ⟨gb23001, 4, none⟩ = some (.string a0_4) := (blk_cell BK23001.out 4).trans rfl
      have hcz5_5 : w3.cell? ⟨gb23001, 5, none⟩ = some (.slice A0_5 l0_5.length c0_5) := (blk_cell BK23001.out 5).trans rfl
      have hcz5_6 : w3.cell? ⟨gb23001, 6, none⟩ = some (.slice A0_6 l0_6.length c0_6) := (blk_cell BK23001.out 6).trans rfl
      have hcz5_7 : w3.cell? ⟨gb23001, 7, none⟩ = some (.int .i64 a0_7) := (blk_cell BK23001.out 7).trans rfl
      have hfz5_0 := blk_frozen BK23001.out 0
      have hfz5_1 := blk_frozen BK23001.out 1
      have hfz5_2 := blk_frozen BK23001.out 2
      have hfz5_3 := blk_frozen BK23001.out 3
      have hfz5_4 := blk_frozen BK23001.out 4
      have hfz5_5 := blk_frozen BK23001.out 5
      have hfz5_6 := blk_frozen BK23001.out 6
      have hfz5_7 := blk_frozen BK23001.out 7
      go_wp2
      go_meet
      case rel => exact ⟨_, (false), (by first | rfl | (simp; done) | (simp [*]; done)), H', ⟨by first | omega | exact Nat.le_refl _⟩, ⟨by (with_reducible repeat (first | refine blk_drewN ?_ _ | refine blk_drew ?_ | refine blk_alloc ?_ _)); exact BK23001.out⟩, ⟨by repeat (first | (with_reducible first | exact HB.out | apply below_alloc | apply pw_below_drewN | apply below_drew1 | refine below_set ?_ GE23001.out) | exact HB.out)⟩⟩
    · rw [if_neg c4] at H
      have c4b0 : (a0_0 == 5) = false := beq_eq_false_iff_ne.mpr c4
      have c4b1 : (a0_0 != 5) = true := bne_iff_ne.mpr c4
      (first | rw [c4b0] | (simp only [i64_w, i32_w]; rw [c4b0]) | skip)
      by_cases c6 : (l0_6.length : Int) = 0
      · rw [if_pos c6] at H
        have c6b0 : ((l0_6.length : Int) == 0) = true := beq_iff_eq.mpr c6
        have c6b1 : ((l0_6.length : Int) != 0) = false := bne_eq_false_iff_eq.mpr c6
        clear c6
        have H' := Aside0.mk H
        clear H
        have hcz7_0 : w3.cell? ⟨gb23001, 0, none⟩ = some (.int .i64 a0_0) := (blk_cell BK23001.out 0).trans rfl
        have hcz7_1 : w3.cell? ⟨gb23001, 1, none⟩ = some (.string a0_1) := (blk_cell BK23001.out 1).trans rfl
        have hcz7_2 : w3.cell? ⟨gb23001, 2, none⟩ = some (.string a0_2) := (blk_cell BK23001.out 2).trans rfl
        have hcz7_3 : w3.cell? ⟨gb23001, 3, none⟩ = some (.int .i64 a0_3) := (blk_cell BK23001.out 3).trans rfl
        have hcz7_4 : w3.cell? ⟨gb23001, 4, none⟩ = some (.string a0_4) := (blk_cell BK23001.out 4).trans rfl
        have hcz7_5 : w3.cell? ⟨gb23001, 5, none⟩ = some (.slice A0_5 l0_5.length c0_5) := (blk_cell BK23001.out 5).trans rfl
        have hcz7_6 : w3.cell? ⟨gb23001, 6, none⟩ = some (.slice A0_6 l0_6.length c0_6) := (blk_cell BK23001.out 6).trans rfl
        have hcz7_7 : w3.cell? ⟨gb23001, 7, none⟩ = some (.int .i64 a0_7) := (blk_cell BK23001.out 7).trans rfl
        have hfz7_0 := blk_frozen BK23001.out 0
        have hfz7_1 := blk_frozen BK23001.out 1
        have hfz7_2 := blk_frozen BK23001.out 2
        have hfz7_3 := blk_frozen BK23001.out 3
        have hfz7_4 := blk_frozen BK23001.out 4
        have hfz7_5 := blk_frozen BK23001.out 5
        have hfz7_6 := blk_frozen BK23001.out 6
        have hfz7_7 := blk_frozen BK23001.out 7
        go_wp2
        go_meet
        case rel => exact ⟨_, ((a0_7 != 0)), (by first | rfl | (simp; done) | (simp [*]; done)), H', ⟨by first | omega | exact Nat.le_refl _⟩, ⟨by (with_reducible repeat (first | refine blk_drewN ?_ _ | refine blk_drew ?_ | refine blk_alloc ?_ _)); exact BK23001.out⟩, ⟨by repeat (first | (with_reducible first | exact HB.out | apply below_alloc | apply pw_below_drewN | apply below_drew1 | refine below_set ?_ GE23001.out) | exact HB.out)⟩⟩
      · rw [if_neg c6] at H
        have c6b0 : ((l0_6.length : Int) == 0) = false := beq_eq_false_iff_ne.mpr c6
        have c6b1 : ((l0_6.length : Int) != 0) = true := bne_iff_ne.mpr c6
        have c6b2 : ¬ (l0_6 = []) := fun h_ => c6 (by rw [h_]; rfl)
        have H' := Aside0.mk H
        clear H
        have hcz8_0 : w3.cell? ⟨gb23001, 0, none⟩ = some (.int .i64 a0_0) := (blk_cell BK23001.out 0).trans rfl
        have hcz8_1 : w3.cell? ⟨gb23001, 1, none⟩ = some (.string a0_1) := (blk_cell BK23001.out 1).trans rfl
        have hcz8_2 : w3.cell? ⟨gb23001, 2, none⟩ = some (.string a0_2) := (blk_cell BK23001.out 2).trans rfl
        have hcz8_3 : w3.cell? ⟨gb23001, 3, none⟩ = some (.int .i64 a0_3) := (blk_cell BK23001.out 3).trans rfl
        have hcz8_4 : w3.cell? ⟨gb23001, 4, none⟩ = some (.string a0_4) := (blk_cell BK23001.out 4).trans rfl
        have hcz8_5 : w3.cell? ⟨gb23001, 5, none⟩ = some (.slice A0_5 l0_5.length c0_5) := (blk_cell BK23001.out 5).trans rfl
        have hcz8_6 : w3.cell? ⟨gb23001, 6, none⟩ = some (.slice A0_6 l0_6.length c0_6) := (blk_cell BK23001.out 6).trans rfl
        have hcz8_7 : w3.cell? ⟨gb23001, 7, none⟩ = some (.int .i64 a0_7) := (blk_cell BK23001.out 7).trans rfl
        have hfz8_0 := blk_frozen BK23001.out 0
        have hfz8_1 := blk_frozen BK23001.out 1
        have hfz8_2 := blk_frozen BK23001.out 2
        have hfz8_3 := blk_frozen BK23001.out 3
        have hfz8_4 := blk_frozen BK23001.out 4
        have hfz8_5 := blk_frozen BK23001.out 5
        have hfz8_6 := blk_frozen BK23001.out 6
        have hfz8_7 := blk_frozen BK23001.out 7
        go_wp2
        go_meet
        case rel => exact ⟨_, (true), (by first | rfl | (simp; done) | (simp [*]; done)), H', ⟨by first | omega | exact Nat.le_refl _⟩, ⟨by (with_reducible repeat (first | refine blk_drewN ?_ _ | refine blk_drew ?_ | refine blk_alloc ?_ _)); exact BK23001.out⟩, ⟨by repeat (first | (with_reducible first | exact HB.out | apply below_alloc | apply pw_below_drewN | apply below_drew1 | refine below_set ?_ GE23001.out) | exact HB.out)⟩⟩
  case rest =>
    clear HC2
    try clear c2
    try clear p2
    try clear c4
    try clear c4b0
    try clear c4b1
    try clear c6
    try clear c6b0
    try clear c6b1
    try clear c6b2
    try clear hcz5_0
    try clear hcz5_1
    try clear hcz5_2
    try clear hcz5_3
    try clear hcz5_4
    try clear hcz5_5
    try clear hcz5_6
    try clear hcz5_7
    try clear hcz7_0
    try clear hcz7_1
    try clear hcz7_2
    try clear hcz7_3
    try clear hcz7_4
    try clear hcz7_5
    try clear hcz7_6
    try clear hcz7_7
    try clear hcz8_0
    try clear hcz8_1
    try clear hcz8_2
    try clear hcz8_3
    try clear hcz8_4
    try clear hcz8_5
    try clear hcz8_6
    try clear hcz8_7
    try clear hfz5_0
    try clear hfz5_1
    try clear hfz5_2
    try clear hfz5_3
    try clear hfz5_4
    try clear hfz5_5
    try clear hfz5_6
    try clear hfz5_7
    try clear hfz7_0
    try clear hfz7_1
    try clear hfz7_2
    try clear hfz7_3
    try clear hfz7_4
    try clear hfz7_5
    try clear hfz7_6
    try clear hfz7_7
    try clear hfz8_0
    try clear hfz8_1
    try clear hfz8_2
    try clear hfz8_3
    try clear hfz8_4
    try clear hfz8_5
    try clear hfz8_6
    try clear hfz8_7
    obtain ⟨kq, x16_1, rfl, HA, HJ1, BK23001, HB⟩ := hcut
    cases kq with
    | zero => exact absurd HA.out (by simp [impl_IsValidConstraint.j0])
    | succ kj1 =>
      have H := HA.out
      clear HA
      simp only [impl_IsValidConstraint.j0] at H
      by_cases c9 : x16_1 = true
      · subst c9
        have H1 : (some false) = some r := by rw [if_pos rfl] at H; exact H
        clear H
        have H := H1
        clear H1
        obtain rfl := Option.some.inj H
        go_wp2
        go_ret
        exact ⟨by first | rfl | (simp [errW_none, errW_some] <;> rfl) | (simp [*, errW_none, errW_some] <;> rfl), by repeat (first | (with_reducible first | exact HB.out | apply below_alloc | apply pw_below_drewN | apply below_drew1 | refine below_set ?_ GE23001.out) | exact HB.out)⟩
      · replace c9 := Bool.eq_false_iff.mpr c9
        subst c9
        have H1 : (if a0_0 = 1 then (impl_IsValidConstraint.j1 kj1 a0_0 (a0_0 == 1) a0_0 a0_1 a0_2 a0_3 a0_4 l0_5 l0_6 a0_7) else (impl_IsValidConstraint.j1 kj1 a0_0 (a0_0 == 2) a0_0 a0_1 a0_2 a0_3 a0_4 l0_5 l0_6 a0_7)) = some r := by rw [if_neg (show ¬ (false = true) by decide)] at H; exact H
        clear H
        have H := H1
        clear H1
        have HC10 := Aside0.mk H
        clear H
        have hcz11_0 : wc.cell? ⟨gb23001, 0, none⟩ = some (.int .i64 a0_0) := (blk_cell BK23001.out 0).trans rfl
        have hcz11_1 : wc.cell? ⟨gb23001, 1, none⟩ = some (.string a0_1) := (blk_cell BK23001.out 1).trans rfl
        have hcz11_2 : wc.cell? ⟨gb23001, 2, none⟩ = some (.string a0_2) := (blk_cell BK23001.out 2).trans rfl
        have hcz11_3 : wc.cell? ⟨gb23001, 3, none⟩ = some (.int .i64 a0_3) := (blk_cell BK23001.out 3).trans rfl
        have hcz11_4 : wc.cell? ⟨gb23001, 4, none⟩ = some (.string a0_4) := (blk_cell BK23001.out 4).trans rfl
        have hcz11_5 : wc.cell? ⟨gb23001, 5, none⟩ = some (.slice A0_5 l0_5.length c0_5) := (blk_cell BK23001.out 5).trans rfl
        have hcz11_6 : wc.cell? ⟨gb23001, 6, none⟩ = some (.slice A0_6 l0_6.length c0_6) := (blk_cell BK23001.out 6).trans rfl
        have hcz11_7 : wc.cell? ⟨gb23001, 7, none⟩ = some (.int .i64 a0_7) := (blk_cell BK23001.out 7).trans rfl
        have hfz11_0 := blk_frozen BK23001.out 0
        have hfz11_1 := blk_frozen BK23001.out 1
        have hfz11_2 := blk_frozen BK23001.out 2
        have hfz11_3 := blk_frozen BK23001.out 3
        have hfz11_4 := blk_frozen BK23001.out 4
        have hfz11_5 := blk_frozen BK23001.out 5
        have hfz11_6 := blk_frozen BK23001.out 6
        have hfz11_7 := blk_frozen BK23001.out 7
        go_upto_if 19 with (fail)
        go_cut [19] (fun v19 wc => ∃ (kq : Nat) (x19_9 : Bool), v19 = .bool x19_9 ∧ Aside0 (impl_IsValidConstraint.j1 kq a0_0 x19_9 a0_0 a0_1 a0_2 a0_3 a0_4 l0_5 l0_6 a0_7 = some r) ∧ Aside0 (kq ≤ kj1) ∧ Aside0 (wc.heap[gb23001]? = some (.cells #[.int .i64 a0_0, .string a0_1, .string a0_2, .int .i64 a0_3, .string a0_4, (.slice A0_5 l0_5.length c0_5), (.slice A0_6 l0_6.length c0_6), .int .i64 a0_7] 44 (0, 0))) ∧ Aside0 (Below w.heap.size w wc))
        case first =>
          have H := HC10.out
          clear HC10
          by_cases c12 : a0_0 = 1
          · rw [if_pos c12] at H
            have c12b0 : (a0_0 == 1) = true := beq_iff_eq.mpr c12
            have c12b1 : (a0_0 != 1) = false := bne_eq_false_iff_eq.mpr c12
            clear c12
            (first | rw [c12b0] | (simp only [i64_w, i32_w]; rw [c12b0]) | skip)
            have H' := Aside0.mk H
            clear H
            go_wp2
            go_meet
            case rel => exact ⟨_, ((a0_0 == 1)), (by first | rfl | (simp; done) | (simp [*]; done)), H', ⟨by have := HJ1.out; first | omega | exact Nat.le_refl _⟩, ⟨by (with_reducible repeat (first | refine blk_drewN ?_ _ | refine blk_drew ?_ | refine blk_alloc ?_ _)); exact BK23001.out⟩, ⟨by repeat (first | (with_reducible first | exact HB.out | apply below_alloc | apply pw_below_drewN | apply below_drew1 | refine below_set ?_ GE23001.out) | exact HB.out)⟩⟩
          · rw [if_neg c12] at H
            have c12b0 : (a0_0 == 1) = false := beq_eq_false_iff_ne.mpr c12
            have c12b1 : (a0_0 != 1) = true := bne_iff_ne.mpr c12
            (first | rw [c12b0] | (simp only [i64_w, i32_w]; rw [c12b0]) | skip)
            have H' := Aside0.mk H
            clear H
            go_wp2
            go_meet
            case rel => exact ⟨_, ((a0_0 == 2)), (by first | rfl | (simp; done) | (simp [*]; done)), H', ⟨by have := HJ1.out; first | omega | exact Nat.le_refl _⟩, ⟨by (with_reducible repeat (first | refine blk_drewN ?_ _ | refine blk_drew ?_ | refine blk_alloc ?_ _)); exact BK23001.out⟩, ⟨by repeat (first | (with_reducible first | exact HB.out | apply below_alloc | apply pw_below_drewN | apply below_drew1 | refine below_set ?_ GE23001.out) | exact HB.out)⟩⟩
        case rest =>
          clear HC10
          try clear c1
          try clear c2
          try clear p2
          try clear c4
          try clear c4b0
          try clear c4b1
          try clear c6
          try clear c6b0
          try clear c6b1
          try clear c6b2
          try clear c9
          try clear c12
          try clear c12b0
          try clear c12b1
          try clear hcz11_0
          try clear hcz11_1
          try clear hcz11_2
          try clear hcz11_3
          try clear hcz11_4
          try clear hcz11_5
          try clear hcz11_6
          try clear hcz11_7
          try clear hcz5_0
          try clear hcz5_1
          try clear hcz5_2
          try clear hcz5_3
          try clear hcz5_4
          try clear hcz5_5
          try clear hcz5_6
          try clear hcz5_7
          try clear hcz7_0
          try clear hcz7_1
          try clear hcz7_2
          try clear hcz7_3
          try clear hcz7_4
          try clear hcz7_5
          try clear hcz7_6
          try clear hcz7_7
          try clear hcz8_0
          try clear hcz8_1
          try clear hcz8_2
          try clear hcz8_3
          try clear hcz8_4
          try clear hcz8_5
          try clear hcz8_6
          try clear hcz8_7
          try clear hfz11_0
          try clear hfz11_1
          try clear hfz11_2
          try clear hfz11_3
          try clear hfz11_4
          try clear hfz11_5
          try clear hfz11_6
          try clear hfz11_7
          try clear hfz5_0
          try clear hfz5_1
          try clear hfz5_2
          try clear hfz5_3
          try clear hfz5_4
          try clear hfz5_5
          try clear hfz5_6
          try clear hfz5_7
          try clear hfz7_0
          try clear hfz7_1
          try clear hfz7_2
          try clear hfz7_3
          try clear hfz7_4
          try clear hfz7_5
          try clear hfz7_6
          try clear hfz7_7
          try clear hfz8_0
          try clear hfz8_1
          try clear hfz8_2
          try clear hfz8_3
          try clear hfz8_4
          try clear hfz8_5
          try clear hfz8_6
          try clear hfz8_7
          try clear p2
          obtain ⟨kq, x19_9, rfl, HA, HJ9, BK23001, HB⟩ := hcut
          cases kq with
          | zero => exact absurd HA.out (by simp [impl_IsValidConstraint.j1])
          | succ kj9 =>
            have H := HA.out
            clear HA
            simp only [impl_IsValidConstraint.j1] at H
            by_cases c13 : x19_9 = true
            · subst c13
              have H1 : ((impl_IsTerm.f kj9 a0_1).bind fun t23002 => (if t23002 = true then ((impl_IsTerm.f kj9 a0_2).bind fun t23003 => (if t23003 = true then ((impl_isZeroRegex.f a0_3 a0_4 l0_5).bind fun t23004 => (some t23004)) else (some false))) else (some false))) = some r := by rw [if_pos rfl] at H; exact H
              clear H
              have H := H1
              clear H1
              replace H := Option.bind_eq_some_iff.mp H
              obtain ⟨t23002, A140, H⟩ := H
              replace H : (if t23002 = true then ((impl_IsTerm.f kj9 a0_2).bind fun t23003 => (if t23003 = true then ((impl_isZeroRegex.f a0_3 a0_4 l0_5).bind fun t23004 => (some t23004)) else (some false))) else (some false)) = some r := H
              have A14 := Aside0.mk A140
              clear A140
              by_cases c15 : t23002 = true
              · subst c15
                have H1 : ((impl_IsTerm.f kj9 a0_2).bind fun t23003 => (if t23003 = true then ((impl_isZeroRegex.f a0_3 a0_4 l0_5).bind fun t23004 => (some t23004)) else (some false))) = some r := by rw [if_pos rfl] at H; exact H
                clear H
                have H := H1
                clear H1
                replace H := Option.bind_eq_some_iff.mp H
                obtain ⟨t23003, A160, H⟩ := H
                replace H : (if t23003 = true then ((impl_isZeroRegex.f a0_3 a0_4 l0_5).bind fun t23004 => (some t23004)) else (some false)) = some r := H
                have A16 := Aside0.mk A160
                clear A160
                by_cases c17 : t23003 = true
                · subst c17
                  have H1 : ((impl_isZeroRegex.f a0_3 a0_4 l0_5).bind fun t23004 => (some t23004)) = some r := by rw [if_pos rfl] at H; exact H
                  clear H
                  have H := H1
                  clear H1
                  replace H := Option.bind_eq_some_iff.mp H
                  obtain ⟨t23004, A180, H⟩ := H
                  replace H : (some t23004) = some r := H
                  have A18 := Aside0.mk A180
                  clear A180
                  obtain rfl := Option.some.inj H
                  have hcz19_0 : wc.cell? ⟨gb23001, 0, none⟩ = some (.int .i64 a0_0) := (blk_cell BK23001.out 0).trans rfl
                  have hcz19_1 : wc.cell? ⟨gb23001, 1, none⟩ = some (.string a0_1) := (blk_cell BK23001.out 1).trans rfl
                  have hcz19_2 : wc.cell? ⟨gb23001, 2, none⟩ = some (.string a0_2) := (blk_cell BK23001.out 2).trans rfl
                  have hcz19_3 : wc.cell? ⟨gb23001, 3, none⟩ = some (.int .i64 a0_3) := (blk_cell BK23001.out 3).trans rfl
                  have hcz19_4 : wc.cell? ⟨gb23001, 4, none⟩ = some (.string a0_4) := (blk_cell BK23001.out 4).trans rfl
                  have hcz19_5 : wc.cell? ⟨gb23001, 5, none⟩ = some (.slice A0_5 l0_5.length c0_5) := (blk_cell BK23001.out 5).trans rfl
                  have hcz19_6 : wc.cell? ⟨gb23001, 6, none⟩ = some (.slice A0_6 l0_6.length c0_6) := (blk_cell BK23001.out 6).trans rfl
                  have hcz19_7 : wc.cell? ⟨gb23001, 7, none⟩ = some (.int .i64 a0_7) := (blk_cell BK23001.out 7).trans rfl
                  have hfz19_0 := blk_frozen BK23001.out 0
                  have hfz19_1 := blk_frozen BK23001.out 1
                  have hfz19_2 := blk_frozen BK23001.out 2
                  have hfz19_3 := blk_frozen BK23001.out 3
                  have hfz19_4 := blk_frozen BK23001.out 4
                  have hfz19_5 := blk_frozen BK23001.out 5
                  have hfz19_6 := blk_frozen BK23001.out 6
                  have hfz19_7 := blk_frozen BK23001.out 7
                  go_wp2_with (first | ((with_reducible refine gate_callee (f := 49) rfl ?_); refine goesL_ (some 24) rfl rfl Try.func49 (by kernel_rfl) rfl #[.string a0_1] rfl (by (try simp only [List.map_toArray, List.map_cons, List.map_nil]); first | done | rfl | (simp only [List.length_drop, List.length_take]; rfl)) ?_; (with_reducible refine (impl_IsTerm.calls kj9 a0_1 true _ A14.out).mono ?_); rintro e w' ⟨rfl, ⟨nd, rfl⟩⟩; refine ⟨_, rfl, ?_⟩) | (go_at_call 49; (with_reducible refine (impl_IsTerm.calls kj9 a0_2 true _ A16.out).mono ?_); rintro e w' ⟨rfl, ⟨nd, rfl⟩⟩) | (go_at_call 94; (with_reducible refine (impl_isZeroRegex.calls a0_3 a0_4 _ _ l0_5 t23004 _ ?side1 ?side2 A18.out).mono ?_); (case side1 => repeat (first | exact (Kd.C_below HR0_5.out (by repeat (first | (with_reducible first | exact HB.out | apply below_alloc | apply pw_below_drewN | apply below_drew1 | refine below_set ?_ GE23001.out) | exact HB.out))) | (with_reducible refine Kd.C_alloc ?_ _) | (with_reducible refine Kd.C_drewN ?_ _) | (with_reducible refine Kd.C_drew ?_))); (case side2 => exact HC0_5.out); rintro e w20 ⟨rfl, hb⟩; have n0_ := Aside0.mk (blk_below (g := gb23001) (o := .cells #[.int .i64 a0_0, .string a0_1, .string a0_2, .int .i64 a0_3, .string a0_4, .slice A0_5 l0_5.length c0_5, .slice A0_6 l0_6.length c0_6, .int .i64 a0_7] 44 (0, 0)) (by (with_reducible repeat (first | refine blk_drewN ?_ _ | refine blk_drew ?_ | refine blk_alloc ?_ _)); exact BK23001.out) hb); have n1_ := Aside0.mk (below_step (by repeat (first | (with_reducible first | exact HB.out | apply below_alloc | apply pw_below_drewN | apply below_drew1 | refine below_set ?_ GE23001.out) | exact HB.out)) hb); clear BK23001; clear HB; have BK23001 := n0_; have HB := n1_; clear n0_ n1_; (try clear hb); (try clear hb2); (try clear hk); (try clear hi)))
                  go_ret
                  exact ⟨by first | rfl | (simp [errW_none, errW_some] <;> rfl) | (simp [*, errW_none, errW_some] <;> rfl), by repeat (first | (with_reducible first | exact HB.out | apply below_alloc | apply pw_below_drewN | apply below_drew1 | refine below_set ?_ GE23001.out) | exact HB.out)⟩
                · replace c17 := Bool.eq_false_iff.mpr c17
                  subst c17
                  have H1 : (some false) = some r := by rw [if_neg (show ¬ (false = true) by decide)] at H; exact H
                  clear H
                  have H := H1
                  clear H1
                  obtain rfl := Option.some.inj H
                  have hcz21_0 : wc.cell? ⟨gb23001, 0, none⟩ = some (.int .i64 a0_0) := (blk_cell BK23001.out 0).trans rfl
                  have hcz21_1 : wc.cell? ⟨gb23001, 1, none⟩ = some (.string a0_1) := (blk_cell BK23001.out 1).trans rfl
                  have hcz21_2 : wc.cell? ⟨gb23001, 2, none⟩ = some (.string a0_2) := (blk_cell BK23001.out 2).trans rfl
                  have hcz21_3 : wc.cell? ⟨gb23001, 3, none⟩ = some (.int .i64 a0_3) := (blk_cell BK23001.out 3).trans rfl
                  have hcz21_4 : wc.cell? ⟨gb23001, 4, none⟩ = some (.string a0_4) := (blk_cell BK23001.out 4).trans rfl
                  have hcz21_5 : wc.cell? ⟨gb23001, 5, none⟩ = some (.slice A0_5 l0_5.length c0_5) := (blk_cell BK23001.out 5).trans rfl
                  have hcz21_6 : wc.cell? ⟨gb23001, 6, none⟩ = some (.slice A0_6 l0_6.length c0_6) := (blk_cell BK23001.out 6).trans rfl
                  have hcz21_7 : wc.cell? ⟨gb23001, 7, none⟩ = some (.int .i64 a0_7) := (blk_cell BK23001.out 7).trans rfl
                  have hfz21_0 := blk_frozen BK23001.out 0
                  have hfz21_1 := blk_frozen BK23001.out 1
                  have hfz21_2 := blk_frozen BK23001.out 2
                  have hfz21_3 := blk_frozen BK23001.out 3
                  have hfz21_4 := blk_frozen BK23001.out 4
                  have hfz21_5 := blk_frozen BK23001.out 5
                  have hfz21_6 := blk_frozen BK23001.out 6
                  have hfz21_7 := blk_frozen BK23001.out 7
                  go_wp2_with (first | ((with_reducible refine gate_callee (f := 49) rfl ?_); refine goesL_ (some 24) rfl rfl Try.func49 (by kernel_rfl) rfl #[.string a0_1] rfl (by (try simp only [List.map_toArray, List.map_cons, List.map_nil]); first | done | rfl | (simp only [List.length_drop, List.length_take]; rfl)) ?_; (with_reducible refine (impl_IsTerm.calls kj9 a0_1 true _ A14.out).mono ?_); rintro e w' ⟨rfl, ⟨nd, rfl⟩⟩; refine ⟨_, rfl, ?_⟩) | (go_at_call 49; (with_reducible refine (impl_IsTerm.calls kj9 a0_2 false _ A16.out).mono ?_); rintro e w' ⟨rfl, ⟨nd, rfl⟩⟩))
                  go_ret
                  exact ⟨by first | rfl | (simp [errW_none, errW_some] <;> rfl) | (simp [*, errW_none, errW_some] <;> rfl), by repeat (first | (with_reducible first | exact HB.out | apply below_alloc | apply pw_below_drewN | apply below_drew1 | refine below_set ?_ GE23001.out) | exact HB.out)⟩
              · replace c15 := Bool.eq_false_iff.mpr c15
                subst c15
                have H1 : (some false) = some r := by rw [if_neg (show ¬ (false = true) by decide)] at H; exact H
                clear H
                have H := H1
                clear H1
                obtain rfl := Option.some.inj H
                have hcz22_0 : wc.cell? ⟨gb23001, 0, none⟩ = some (.int .i64 a0_0) := (blk_cell BK23001.out 0).trans rfl
                have hcz22_1 : wc.cell? ⟨gb23001, 1, none⟩ = some (.string a0_1) := (blk_cell BK23001.out 1).trans rfl
                have hcz22_2 : wc.cell? ⟨gb23001, 2, none⟩ = some (.string a0_2) := (blk_cell BK23001.out 2).trans rfl
                have hcz22_3 : wc.cell? ⟨gb23001, 3, none⟩ = some (.int .i64 a0_3) := (blk_cell BK23001.out 3).trans rfl
                have hcz22_4 : wc.cell? ⟨gb23001, 4, none⟩ = some (.string a0_4) := (blk_cell BK23001.out 4).trans rfl
                have hcz22_5 : wc.cell? ⟨gb23001, 5, none⟩ = some (.slice A0_5 l0_5.length c0_5) := (blk_cell BK23001.out 5).trans rfl
                have hcz22_6 : wc.cell? ⟨gb23001, 6, none⟩ = some (.slice A0_6 l0_6.length c0_6) := (blk_cell BK23001.out 6).trans rfl
                have hcz22_7 : wc.cell? ⟨gb23001, 7, none⟩ = some (.int .i64 a0_7) := (blk_cell BK23001.out 7).trans rfl
                have hfz22_0 := blk_frozen BK23001.out 0
                have hfz22_1 := blk_frozen BK23001.out 1
                have hfz22_2 := blk_frozen BK23001.out 2
                have hfz22_3 := blk_frozen BK23001.out 3
                have hfz22_4 := blk_frozen BK23001.out 4
                have hfz22_5 := blk_frozen BK23001.out 5
                have hfz22_6 := blk_frozen BK23001.out 6
                have hfz22_7 := blk_frozen BK23001.out 7
                go_wp2_with (first | ((with_reducible refine gate_callee (f := 49) rfl ?_); refine goesL_ (some 24) rfl rfl Try.func49 (by kernel_rfl) rfl #[.string a0_1] rfl (by (try simp only [List.map_toArray, List.map_cons, List.map_nil]); first | done | rfl | (simp only [List.length_drop, List.length_take]; rfl)) ?_; (with_reducible refine (impl_IsTerm.calls kj9 a0_1 false _ A14.out).mono ?_); rintro e w' ⟨rfl, ⟨nd, rfl⟩⟩; refine ⟨_, rfl, ?_⟩))
                go_ret
                exact ⟨by first | rfl | (simp [errW_none, errW_some] <;> rfl) | (simp [*, errW_none, errW_some] <;> rfl), by repeat (first | (with_reducible first | exact HB.out | apply below_alloc | apply pw_below_drewN | apply below_drew1 | refine below_set ?_ GE23001.out) | exact HB.out)⟩
            · replace c13 := Bool.eq_false_iff.mpr c13
              subst c13
              have H1 : (if a0_0 = 3 then (impl_IsValidConstraint.j2 kj9 a0_0 (a0_0 == 3) a0_0 a0_1 a0_2 a0_3 a0_4 l0_5 l0_6 a0_7) else (impl_IsValidConstraint.j2 kj9 a0_0 (a0_0 == 4) a0_0 a0_1 a0_2 a0_3 a0_4 l0_5 l0_6 a0_7)) = some r := by rw [if_neg (show ¬ (false = true) by decide)] at H; exact H
              clear H
              have H := H1
              clear H1
              have HC23 := Aside0.mk H
              clear H
              go_upto_if 35 with (fail)
              go_cut [35] (fun v35 wc => ∃ (kq : Nat) (x35_22 : Bool), v35 = .bool x35_22 ∧ Aside0 (impl_IsValidConstraint.j2 kq a0_0 x35_22 a0_0 a0_1 a0_2 a0_3 a0_4 l0_5 l0_6 a0_7 = some r) ∧ Aside0 (kq ≤ kj9) ∧ Aside0 (wc.heap[gb23001]? = some (.cells #[.int .i64 a0_0, .string a0_1, .string a0_2, .int .i64 a0_3, .string a0_4, (.slice A0_5 l0_5.length c0_5), (.slice A0_6 l0_6.length c0_6), .int .i64 a0_7] 44 (0, 0))) ∧ Aside0 (Below w.heap.size w wc))
              case first =>
                have H := HC23.out
                clear HC23
                by_cases c24 : a0_0 = 3
                · rw [if_pos c24] at H
                  have c24b0 : (a0_0 == 3) = true := beq_iff_eq.mpr c24
                  have c24b1 : (a0_0 != 3) = false := bne_eq_false_iff_eq.mpr c24
                  clear c24
                  (first | rw [c24b0] | (simp only [i64_w, i32_w]; rw [c24b0]) | skip)
                  have H' := Aside0.mk H
                  clear H
                  go_wp2
                  go_meet
                  case rel => exact ⟨_, ((a0_0 == 3)), (by first | rfl | (simp; done) | (simp [*]; done)), H', ⟨by have := HJ1.out; have := HJ9.out; first | omega | exact Nat.le_refl _⟩, ⟨by (with_reducible repeat (first | refine blk_drewN ?_ _ | refine blk_drew ?_ | refine blk_alloc ?_ _)); exact BK23001.out⟩, ⟨by repeat (first | (with_reducible first | exact HB.out | apply below_alloc | apply pw_below_drewN | apply below_drew1 | refine below_set ?_ GE23001.out) | exact HB.out)⟩⟩
                · rw [if_neg c24] at H
                  have c24b0 : (a0_0 == 3) = false := beq_eq_false_iff_ne.mpr c24
                  have c24b1 : (a0_0 != 3) = true := bne_iff_ne.mpr c24
                  (first | rw [c24b0] | (simp only [i64_w, i32_w]; rw [c24b0]) | skip)
                  have H' := Aside0.mk H
                  clear H
                  go_wp2
                  go_meet
                  case rel => exact ⟨_, ((a0_0 == 4)), (by first | rfl | (simp; done) | (simp [*]; done)), H', ⟨by have := HJ1.out; have := HJ9.out; first | omega | exact Nat.le_refl _⟩, ⟨by (with_reducible repeat (first | refine blk_drewN ?_ _ | refine blk_drew ?_ | refine blk_alloc ?_ _)); exact BK23001.out⟩, ⟨by repeat (first | (with_reducible first | exact HB.out | apply below_alloc | apply pw_below_drewN | apply below_drew1 | refine below_set ?_ GE23001.out) | exact HB.out)⟩⟩
              case rest =>
                clear HC23
                try clear c1
                try clear c2
                try clear p2
                try clear c4
                try clear c4b0
                try clear c4b1
                try clear c6
                try clear c6b0
                try clear c6b1
                try clear c6b2
                try clear c9
                try clear c12
                try clear c12b0
                try clear c12b1
                try clear c13
                try clear c15
                try clear c17
                try clear c23
                try clear c24
                try clear c24b0
                try clear c24b1
                try clear hcz11_0
                try clear hcz11_1
                try clear hcz11_2
                try clear hcz11_3
                try clear hcz11_4
                try clear hcz11_5
                try clear hcz11_6
                try clear hcz11_7
                try clear hcz19_0
                try clear hcz19_1
                try clear hcz19_2
                try clear hcz19_3
                try clear hcz19_4
                try clear hcz19_5
                try clear hcz19_6
                try clear hcz19_7
                try clear hcz21_0
                try clear hcz21_1
                try clear hcz21_2
                try clear hcz21_3
                try clear hcz21_4
                try clear hcz21_5
                try clear hcz21_6
                try clear hcz21_7
                try clear hcz22_0
                try clear hcz22_1
                try clear hcz22_2
                try clear hcz22_3
                try clear hcz22_4
                try clear hcz22_5
                try clear hcz22_6
                try clear hcz22_7
                try clear hcz5_0
                try clear hcz5_1
                try clear hcz5_2
                try clear hcz5_3
                try clear hcz5_4
                try clear hcz5_5
                try clear hcz5_6
                try clear hcz5_7
                try clear hcz7_0
                try clear hcz7_1
                try clear hcz7_2
                try clear hcz7_3
                try clear hcz7_4
                try clear hcz7_5
                try clear hcz7_6
                try clear hcz7_7
                try clear hcz8_0
                try clear hcz8_1
                try clear hcz8_2
                try clear hcz8_3
                try clear hcz8_4
                try clear hcz8_5
                try clear hcz8_6
                try clear hcz8_7
                try clear hfz11_0
                try clear hfz11_1
                try clear hfz11_2
                try clear hfz11_3
                try clear hfz11_4
                try clear hfz11_5
                try clear hfz11_6
                try clear hfz11_7
                try clear hfz19_0
                try clear hfz19_1
                try clear hfz19_2
                try clear hfz19_3
                try clear hfz19_4
                try clear hfz19_5
                try clear hfz19_6
                try clear hfz19_7
                try clear hfz21_0
                try clear hfz21_1
                try clear hfz21_2
                try clear hfz21_3
                try clear hfz21_4
                try clear hfz21_5
                try clear hfz21_6
                try clear hfz21_7
                try clear hfz22_0
                try clear hfz22_1
                try clear hfz22_2
                try clear hfz22_3
                try clear hfz22_4
                try clear hfz22_5
                try clear hfz22_6
                try clear hfz22_7
                try clear hfz5_0
                try clear hfz5_1
                try clear hfz5_2
                try clear hfz5_3
                try clear hfz5_4
                try clear hfz5_5
                try clear hfz5_6
                try clear hfz5_7
                try clear hfz7_0
                try clear hfz7_1
                try clear hfz7_2
                try clear hfz7_3
                try clear hfz7_4
                try clear hfz7_5
                try clear hfz7_6
                try clear hfz7_7
                try clear hfz8_0
                try clear hfz8_1
                try clear hfz8_2
                try clear hfz8_3
                try clear hfz8_4
                try clear hfz8_5
                try clear hfz8_6
                try clear hfz8_7
                try clear p2
                obtain ⟨kq, x35_22, rfl, HA, HJ22, BK23001, HB⟩ := hcut
                cases kq with
                | zero => exact absurd HA.out (by simp [impl_IsValidConstraint.j2])
                | succ kj22 =>
                  have H := HA.out
                  clear HA
                  simp only [impl_IsValidConstraint.j2] at H
                  by_cases c25 : x35_22 = true
                  · subst c25
                    have H1 : ((impl_IsTerm.f kj22 a0_1).bind fun t23005 => (if t23005 = true then (if a0_2.toList = ([] : List UInt8) then ((impl_IsValidRegex.f kj22 a0_3 a0_4 l0_5).bind fun t23006 => (some t23006)) else (some false)) else (some false))) = some r := by rw [if_pos rfl] at H; exact H
                    clear H
                    have H := H1
                    clear H1
                    replace H := Option.bind_eq_some_iff.mp H
                    obtain ⟨t23005, A260, H⟩ := H
                    replace H : (if t23005 = true then (if a0_2.toList = ([] : List UInt8) then ((impl_IsValidRegex.f kj22 a0_3 a0_4 l0_5).bind fun t23006 => (some t23006)) else (some false)) else (some false)) = some r := H
                    have A26 := Aside0.mk A260
                    clear A260
                    by_cases c27 : t23005 = true
                    · subst c27
                      have H1 : (if a0_2.toList = ([] : List UInt8) then ((impl_IsValidRegex.f kj22 a0_3 a0_4 l0_5).bind fun t23006 => (some t23006)) else (some false)) = some r := by rw [if_pos rfl] at H; exact H
                      clear H
                      have H := H1
                      clear H1
                      by_cases c28 : a0_2.toList = ([] : List UInt8)
                      · rw [if_pos c28] at H
                        have c28b0 : (a0_2.toList == ([] : List UInt8)) = true := beq_iff_eq.mpr c28
                        have c28b1 : (a0_2.toList != ([] : List UInt8)) = false := bne_eq_false_iff_eq.mpr c28
                        clear c28
                        replace H := Option.bind_eq_some_iff.mp H
                        obtain ⟨t23006, A290, H⟩ := H
                        replace H : (some t23006) = some r := H
                        have A29 := Aside0.mk A290
                        clear A290
                        obtain rfl := Option.some.inj H
                        have hcz30_0 : wc.cell? ⟨gb23001, 0, none⟩ = some (.int .i64 a0_0) := (blk_cell BK23001.out 0).trans rfl
                        have hcz30_1 : wc.cell? ⟨gb23001, 1, none⟩ = some (.string a0_1) := (blk_cell BK23001.out 1).trans rfl
                        have hcz30_2 : wc.cell? ⟨gb23001, 2, none⟩ = some (.string a0_2) := (blk_cell BK23001.out 2).trans rfl
                        have hcz30_3 : wc.cell? ⟨gb23001, 3, none⟩ = some (.int .i64 a0_3) := (blk_cell BK23001.out 3).trans rfl
                        have hcz30_4 : wc.cell? ⟨gb23001, 4, none⟩ = some (.string a0_4) := (blk_cell BK23001.out 4).trans rfl
                        have hcz30_5 : wc.cell? ⟨gb23001, 5, none⟩ = some (.slice A0_5 l0_5.length c0_5) := (blk_cell BK23001.out 5).trans rfl
                        have hcz30_6 : wc.cell? ⟨gb23001, 6, none⟩ = some (.slice A0_6 l0_6.length c0_6) := (blk_cell BK23001.out 6).trans rfl
                        have hcz30_7 : wc.cell? ⟨gb23001, 7, none⟩ = some (.int .i64 a0_7) := (blk_cell BK23001.out 7).trans rfl
                        have hfz30_0 := blk_frozen BK23001.out 0
                        have hfz30_1 := blk_frozen BK23001.out 1
                        have hfz30_2 := blk_frozen BK23001.out 2
                        have hfz30_3 := blk_frozen BK23001.out 3
                        have hfz30_4 := blk_frozen BK23001.out 4
                        have hfz30_5 := blk_frozen BK23001.out 5
                        have hfz30_6 := blk_frozen BK23001.out 6
                        have hfz30_7 := blk_frozen BK23001.out 7
                        go_wp2_with (first | ((with_reducible refine gate_callee (f := 49) rfl ?_); refine goesL_ (some 40) rfl rfl Try.func49 (by kernel_rfl) rfl #[.string a0_1] rfl (by (try simp only [List.map_toArray, List.map_cons, List.map_nil]); first | done | rfl | (simp only [List.length_drop, List.length_take]; rfl)) ?_; (with_reducible refine (impl_IsTerm.calls kj22 a0_1 true _ A26.out).mono ?_); rintro e w' ⟨rfl, ⟨nd, rfl⟩⟩; refine ⟨_, rfl, ?_⟩) | (go_at_call 95; (with_reducible refine (impl_IsValidRegex.calls kj22 a0_3 a0_4 _ _ l0_5 t23006 _ ?side1 ?side2 A29.out).mono ?_); (case side1 => repeat (first | exact (Kd.C_below HR0_5.out (by repeat (first | (with_reducible first | exact HB.out | apply below_alloc | apply pw_below_drewN | apply below_drew1 | refine below_set ?_ GE23001.out) | exact HB.out))) | (with_reducible refine Kd.C_alloc ?_ _) | (with_reducible refine Kd.C_drewN ?_ _) | (with_reducible refine Kd.C_drew ?_))); (case side2 => exact HC0_5.out); rintro e w31 ⟨rfl, hb⟩; have n0_ := Aside0.mk (blk_below (g := gb23001) (o := .cells #[.int .i64 a0_0, .string a0_1, .string a0_2, .int .i64 a0_3, .string a0_4, .slice A0_5 l0_5.length c0_5, .slice A0_6 l0_6.length c0_6, .int .i64 a0_7] 44 (0, 0)) (by (with_reducible repeat (first | refine blk_drewN ?_ _ | refine blk_drew ?_ | refine blk_alloc ?_ _)); exact BK23001.out) hb); have n1_ := Aside0.mk (below_step (by repeat (first | (with_reducible first | exact HB.out | apply below_alloc | apply pw_below_drewN | apply below_drew1 | refine below_set ?_ GE23001.out) | exact HB.out)) hb); clear BK23001; clear HB; have BK23001 := n0_; have HB := n1_; clear n0_ n1_; (try clear hb); (try clear hb2); (try clear hk); (try clear hi)))
                        go_ret
                        exact ⟨by first | rfl | (simp [errW_none, errW_some] <;> rfl) | (simp [*, errW_none, errW_some] <;> rfl), by repeat (first | (with_reducible first | exact HB.out | apply below_alloc | apply pw_below_drewN | apply below_drew1 | refine below_set ?_ GE23001.out) | exact HB.out)⟩
                      · rw [if_neg c28] at H
                        have c28b0 : (a0_2.toList == ([] : List UInt8)) = false := beq_eq_false_iff_ne.mpr c28
                        have c28b1 : (a0_2.toList != ([] : List UInt8)) = true := bne_iff_ne.mpr c28
                        obtain rfl := Option.some.inj H
                        have hcz32_0 : wc.cell? ⟨gb23001, 0, none⟩ = some (.int .i64 a0_0) := (blk_cell BK23001.out 0).trans rfl
                        have hcz32_1 : wc.cell? ⟨gb23001, 1, none⟩ = some (.string a0_1) := (blk_cell BK23001.out 1).trans rfl
                        have hcz32_2 : wc.cell? ⟨gb23001, 2, none⟩ = some (.string a0_2) := (blk_cell BK23001.out 2).trans rfl
                        have hcz32_3 : wc.cell? ⟨gb23001, 3, none⟩ = some (.int .i64 a0_3) := (blk_cell BK23001.out 3).trans rfl
                        have hcz32_4 : wc.cell? ⟨gb23001, 4, none⟩ = some (.string a0_4) := (blk_cell BK23001.out 4).trans rfl
                        have hcz32_5 : wc.cell? ⟨gb23001, 5, none⟩ = some (.slice A0_5 l0_5.length c0_5) := (blk_cell BK23001.out 5).trans rfl
                        have hcz32_6 : wc.cell? ⟨gb23001, 6, none⟩ = some (.slice A0_6 l0_6.length c0_6) := (blk_cell BK23001.out 6).trans rfl
                        have hcz32_7 : wc.cell? ⟨gb23001, 7, none⟩ = some (.int .i64 a0_7) := (blk_cell BK23001.out 7).trans rfl
                        have hfz32_0 := blk_frozen BK23001.out 0
                        have hfz32_1 := blk_frozen BK23001.out 1
                        have hfz32_2 := blk_frozen BK23001.out 2
                        have hfz32_3 := blk_frozen BK23001.out 3
                        have hfz32_4 := blk_frozen BK23001.out 4
                        have hfz32_5 := blk_frozen BK23001.out 5
                        have hfz32_6 := blk_frozen BK23001.out 6
                        have hfz32_7 := blk_frozen BK23001.out 7
                        go_wp2_with (first | ((with_reducible refine gate_callee (f := 49) rfl ?_); refine goesL_ (some 40) rfl rfl Try.func49 (by kernel_rfl) rfl #[.string a0_1] rfl (by (try simp only [List.map_toArray, List.map_cons, List.map_nil]); first | done | rfl | (simp only [List.length_drop, List.length_take]; rfl)) ?_; (with_reducible refine (impl_IsTerm.calls kj22 a0_1 true _ A26.out).mono ?_); rintro e w' ⟨rfl, ⟨nd, rfl⟩⟩; refine ⟨_, rfl, ?_⟩))
                        go_ret
                        exact ⟨by first | rfl | (simp [errW_none, errW_some] <;> rfl) | (simp [*, errW_none, errW_some] <;> rfl), by repeat (first | (with_reducible first | exact HB.out | apply below_alloc | apply pw_below_drewN | apply below_drew1 | refine below_set ?_ GE23001.out) | exact HB.out)⟩
                    · replace c27 := Bool.eq_false_iff.mpr c27
                      subst c27
                      have H1 : (some false) = some r := by rw [if_neg (show ¬ (false = true) by decide)] at H; exact H
                      clear H
                      have H := H1
                      clear H1
                      obtain rfl := Option.some.inj H
                      have hcz33_0 : wc.cell? ⟨gb23001, 0, none⟩ = some (.int .i64 a0_0) := (blk_cell BK23001.out 0).trans rfl
                      have hcz33_1 : wc.cell? ⟨gb23001, 1, none⟩ = some (.string a0_1) := (blk_cell BK23001.out 1).trans rfl
                      have hcz33_2 : wc.cell? ⟨gb23001, 2, none⟩ = some (.string a0_2) := (blk_cell BK23001.out 2).trans rfl
                      have hcz33_3 : wc.cell? ⟨gb23001, 3, none⟩ = some (.int .i64 a0_3) := (blk_cell BK23001.out 3).trans rfl
                      have hcz33_4 : wc.cell? ⟨gb23001, 4, none⟩ = some (.string a0_4) := (blk_cell BK23001.out 4).trans rfl
                      have hcz33_5 : wc.cell? ⟨gb23001, 5, none⟩ = some (.slice A0_5 l0_5.length c0_5) := (blk_cell BK23001.out 5).trans rfl
                      have hcz33_6 : wc.cell? ⟨gb23001, 6, none⟩ = some (.slice A0_6 l0_6.length c0_6) := (blk_cell BK23001.out 6).trans rfl
                      have hcz33_7 : wc.cell? ⟨gb23001, 7, none⟩ = some (.int .i64 a0_7) := (blk_cell BK23001.out 7).trans rfl
                      have hfz33_0 := blk_frozen BK23001.out 0
                      have hfz33_1 := blk_frozen BK23001.out 1
                      have hfz33_2 := blk_frozen BK23001.out 2
                      have hfz33_3 := blk_frozen BK23001.out 3
                      have hfz33_4 := blk_frozen BK23001.out 4
                      have hfz33_5 := blk_frozen BK23001.out 5
                      have hfz33_6 := blk_frozen BK23001.out 6
                      have hfz33_7 := blk_frozen BK23001.out 7
                      go_wp2_with (first | ((with_reducible refine gate_callee (f := 49) rfl ?_); refine goesL_ (some 40) rfl rfl Try.func49 (by kernel_rfl) rfl #[.string a0_1] rfl (by (try simp only [List.map_toArray, List.map_cons, List.map_nil]); first | done | rfl | (simp only [List.length_drop, List.length_take]; rfl)) ?_; (with_reducible refine (impl_IsTerm.calls kj22 a0_1 false _ A26.out).mono ?_); rintro e w' ⟨rfl, ⟨nd, rfl⟩⟩; refine ⟨_, rfl, ?_⟩))
                      go_ret
                      exact ⟨by first | rfl | (simp [errW_none, errW_some] <;> rfl) | (simp [*, errW_none, errW_some] <;> rfl), by repeat (first | (with_reducible first | exact HB.out | apply below_alloc | apply pw_below_drewN | apply below_drew1 | refine below_set ?_ GE23001.out) | exact HB.out)⟩
                  · replace c25 := Bool.eq_false_iff.mpr c25
                    subst c25
                    have H1 : (if a0_0 = 5 then (if a0_1.toList = ([] : List UInt8) then (if a0_2.toList = ([] : List UInt8) then ((impl_isZeroRegex.f a0_3 a0_4 l0_5).bind fun t23007 => (if t23007 = true then (if (l0_6.length : Int) = 3 then ((impl_within.f a0_7 (-99) 99).bind fun t23008 => (if t23008 = true then ((slices_ContainsFunc_int_int_97.f kj22 l0_6).bind fun t23009 => (some (!t23009))) else (some false))) else (some false)) else (some false))) else (some false)) else (some false)) else (some false)) = some r := by rw [if_neg (show ¬ (false = true) by decide)] at H; exact H
                    clear H
                    have H := H1
                    clear H1
                    by_cases c34 : a0_0 = 5
                    · rw [if_pos c34] at H
                      have c34b0 : (a0_0 == 5) = true := beq_iff_eq.mpr c34
                      have c34b1 : (a0_0 != 5) = false := bne_eq_false_iff_eq.mpr c34
                      clear c34
                      by_cases c35 : a0_1.toList = ([] : List UInt8)
                      · rw [if_pos c35] at H
                        have c35b0 : (a0_1.toList == ([] : List UInt8)) = true := beq_iff_eq.mpr c35
                        have c35b1 : (a0_1.toList != ([] : List UInt8)) = false := bne_eq_false_iff_eq.mpr c35
                        clear c35
                        by_cases c36 : a0_2.toList = ([] : List UInt8)
                        · rw [if_pos c36] at H
                          have c36b0 : (a0_2.toList == ([] : List UInt8)) = true := beq_iff_eq.mpr c36
                          have c36b1 : (a0_2.toList != ([] : List UInt8)) = false := bne_eq_false_iff_eq.mpr c36
                          clear c36
                          replace H := Option.bind_eq_some_iff.mp H
                          obtain ⟨t23007, A370, H⟩ := H
                          replace H : (if t23007 = true then (if (l0_6.length : Int) = 3 then ((impl_within.f a0_7 (-99) 99).bind fun t23008 => (if t23008 = true then ((slices_ContainsFunc_int_int_97.f kj22 l0_6).bind fun t23009 => (some (!t23009))) else (some false))) else (some false)) else (some false)) = some r := H
                          have A37 := Aside0.mk A370
                          clear A370
                          by_cases c38 : t23007 = true
                          · subst c38
                            have H1 : (if (l0_6.length : Int) = 3 then ((impl_within.f a0_7 (-99) 99).bind fun t23008 => (if t23008 = true then ((slices_ContainsFunc_int_int_97.f kj22 l0_6).bind fun t23009 => (some (!t23009))) else (some false))) else (some false)) = some r := by rw [if_pos rfl] at H; exact H
                            clear H
                            have H := H1
                            clear H1
                            by_cases c39 : (l0_6.length : Int) = 3
                            · rw [if_pos c39] at H
                              have c39b0 : ((l0_6.length : Int) == 3) = true := beq_iff_eq.mpr c39
                              have c39b1 : ((l0_6.length : Int) != 3) = false := bne_eq_false_iff_eq.mpr c39
                              clear c39
                              replace H := Option.bind_eq_some_iff.mp H
                              obtain ⟨t23008, A400, H⟩ := H
                              replace H : (if t23008 = true then ((slices_ContainsFunc_int_int_97.f kj22 l0_6).bind fun t23009 => (some (!t23009))) else (some false)) = some r := H
                              have A40 := Aside0.mk A400
                              clear A400
                              by_cases c41 : t23008 = true
                              · subst c41
                                have H1 : ((slices_ContainsFunc_int_int_97.f kj22 l0_6).bind fun t23009 => (some (!t23009))) = some r := by rw [if_pos rfl] at H; exact H
                                clear H
                                have H := H1
                                clear H1
                                replace H := Option.bind_eq_some_iff.mp H
                                obtain ⟨t23009, A420, H⟩ := H
                                replace H : (some (!t23009)) = some r := H
                                have A42 := Aside0.mk A420
                                clear A420
                                obtain rfl := Option.some.inj H
                                have hcz43_0 : wc.cell? ⟨gb23001, 0, none⟩ = some (.int .i64 a0_0) := (blk_cell BK23001.out 0).trans rfl
                                have hcz43_1 : wc.cell? ⟨gb23001, 1, none⟩ = some (.string a0_1) := (blk_cell BK23001.out 1).trans rfl
                                have hcz43_2 : wc.cell? ⟨gb23001, 2, none⟩ = some (.string a0_2) := (blk_cell BK23001.out 2).trans rfl
                                have hcz43_3 : wc.cell? ⟨gb23001, 3, none⟩ = some (.int .i64 a0_3) := (blk_cell BK23001.out 3).trans rfl
                                have hcz43_4 : wc.cell? ⟨gb23001, 4, none⟩ = some (.string a0_4) := (blk_cell BK23001.out 4).trans rfl
                                have hcz43_5 : wc.cell? ⟨gb23001, 5, none⟩ = some (.slice A0_5 l0_5.length c0_5) := (blk_cell BK23001.out 5).trans rfl
                                have hcz43_6 : wc.cell? ⟨gb23001, 6, none⟩ = some (.slice A0_6 l0_6.length c0_6) := (blk_cell BK23001.out 6).trans rfl
                                have hcz43_7 : wc.cell? ⟨gb23001, 7, none⟩ = some (.int .i64 a0_7) := (blk_cell BK23001.out 7).trans rfl
                                have hfz43_0 := blk_frozen BK23001.out 0
                                have hfz43_1 := blk_frozen BK23001.out 1
                                have hfz43_2 := blk_frozen BK23001.out 2
                                have hfz43_3 := blk_frozen BK23001.out 3
                                have hfz43_4 := blk_frozen BK23001.out 4
                                have hfz43_5 := blk_frozen BK23001.out 5
                                have hfz43_6 := blk_frozen BK23001.out 6
                                have hfz43_7 := blk_frozen BK23001.out 7
                                go_wp2_with (first | (go_at_call 94; (with_reducible refine (impl_isZeroRegex.calls a0_3 a0_4 _ _ l0_5 true _ ?side1 ?side2 A37.out).mono ?_); (case side1 => repeat (first | exact (Kd.C_below HR0_5.out HB.out) | (with_reducible refine Kd.C_alloc ?_ _) | (with_reducible refine Kd.C_drewN ?_ _) | (with_reducible refine Kd.C_drew ?_))); (case side2 => exact HC0_5.out); rintro e w44 ⟨rfl, hb⟩; have n0_ := Aside0.mk (blk_below (g := gb23001) (o := .cells #[.int .i64 a0_0, .string a0_1, .string a0_2, .int .i64 a0_3, .string a0_4, .slice A0_5 l0_5.length c0_5, .slice A0_6 l0_6.length c0_6, .int .i64 a0_7] 44 (0, 0)) (by (with_reducible repeat (first | refine blk_drewN ?_ _ | refine blk_drew ?_ | refine blk_alloc ?_ _)); exact BK23001.out) hb); have n1_ := Aside0.mk (below_step (by repeat (first | (with_reducible first | exact HB.out | apply below_alloc | apply pw_below_drewN | apply below_drew1 | refine below_set ?_ GE23001.out) | exact HB.out)) hb); clear BK23001; clear HB; have BK23001 := n0_; have HB := n1_; clear n0_ n1_; (try clear hb); (try clear hb2); (try clear hk); (try clear hi); have hcz45_0 : w44.cell? ⟨gb23001, 0, none⟩ = some (.int .i64 a0_0) := (blk_cell BK23001.out 0).trans rfl; have hcz45_1 : w44.cell? ⟨gb23001, 1, none⟩ = some (.string a0_1) := (blk_cell BK23001.out 1).trans rfl; have hcz45_2 : w44.cell? ⟨gb23001, 2, none⟩ = some (.string a0_2) := (blk_cell BK23001.out 2).trans rfl; have hcz45_3 : w44.cell? ⟨gb23001, 3, none⟩ = some (.int .i64 a0_3) := (blk_cell BK23001.out 3).trans rfl; have hcz45_4 : w44.cell? ⟨gb23001, 4, none⟩ = some (.string a0_4) := (blk_cell BK23001.out 4).trans rfl; have hcz45_5 : w44.cell? ⟨gb23001, 5, none⟩ = some (.slice A0_5 l0_5.length c0_5) := (blk_cell BK23001.out 5).trans rfl; have hcz45_6 : w44.cell? ⟨gb23001, 6, none⟩ = some (.slice A0_6 l0_6.length c0_6) := (blk_cell BK23001.out 6).trans rfl; have hcz45_7 : w44.cell? ⟨gb23001, 7, none⟩ = some (.int .i64 a0_7) := (blk_cell BK23001.out 7).trans rfl; have hfz45_0 := blk_frozen BK23001.out 0; have hfz45_1 := blk_frozen BK23001.out 1; have hfz45_2 := blk_frozen BK23001.out 2; have hfz45_3 := blk_frozen BK23001.out 3; have hfz45_4 := blk_frozen BK23001.out 4; have hfz45_5 := blk_frozen BK23001.out 5; have hfz45_6 := blk_frozen BK23001.out 6; have hfz45_7 := blk_frozen BK23001.out 7) | (go_at_call 96; (with_reducible refine (impl_within.calls a0_7 (-99) 99 true _ A40.out).mono ?_); rintro e w' ⟨rfl, ⟨nd, rfl⟩⟩) | ((with_reducible refine gate_callee (f := 97) rfl ?_); refine goesL_ (some 81) rfl rfl Try.func97 (by kernel_rfl) rfl #[.slice A0_6 l0_6.length c0_6, .func (.func 98) #[] #[]] rfl (by (try simp only [List.map_toArray, List.map_cons, List.map_nil]); first | done | rfl | (simp only [List.length_drop, List.length_take]; rfl)) ?_; (with_reducible refine (slices_ContainsFunc_int_int_97.calls kj22 _ _ l0_6 t23009 _ ?side1 ?side2 A42.out).mono ?_); (case side1 => repeat (first | exact (Kd.C_below HR0_6.out (by repeat (first | (with_reducible first | exact HB.out | apply below_alloc | apply pw_below_drewN | apply below_drew1 | refine below_set ?_ GE23001.out) | exact HB.out))) | (with_reducible refine Kd.C_alloc ?_ _) | (with_reducible refine Kd.C_drewN ?_ _) | (with_reducible refine Kd.C_drew ?_))); (case side2 => exact HC0_6.out); rintro e w' ⟨rfl, ⟨nd, rfl⟩⟩; refine ⟨_, rfl, ?_⟩))
                                go_ret
                                exact ⟨by first | rfl | (simp [errW_none, errW_some] <;> rfl) | (simp [*, errW_none, errW_some] <;> rfl), by repeat (first | (with_reducible first | exact HB.out | apply below_alloc | apply pw_below_drewN | apply below_drew1 | refine below_set ?_ GE23001.out) | exact HB.out)⟩
                              · replace c41 := Bool.eq_false_iff.mpr c41
                                subst c41
                                have H1 : (some false) = some r := by rw [if_neg (show ¬ (false = true) by decide)] at H; exact H
                                clear H
                                have H := H1
                                clear H1
                                obtain rfl := Option.some.inj H
                                have hcz46_0 : wc.cell? ⟨gb23001, 0, none⟩ = some (.int .i64 a0_0) := (blk_cell BK23001.out 0).trans rfl
                                have hcz46_1 : wc.cell? ⟨gb23001, 1, none⟩ = some (.string a0_1) := (blk_cell BK23001.out 1).trans rfl
                                have hcz46_2 : wc.cell? ⟨gb23001, 2, none⟩ = some (.string a0_2) := (blk_cell BK23001.out 2).trans rfl
                                have hcz46_3 : wc.cell? ⟨gb23001, 3, none⟩ = some (.int .i64 a0_3) := (blk_cell BK23001.out 3).trans rfl
                                have hcz46_4 : wc.cell? ⟨gb23001, 4, none⟩ = some (.string a0_4) := (blk_cell BK23001.out 4).trans rfl
                                have hcz46_5 : wc.cell? ⟨gb23001, 5, none⟩ = some (.slice A0_5 l0_5.length c0_5) := (blk_cell BK23001.out 5).trans rfl
                                have hcz46_6 : wc.cell? ⟨gb23001, 6, none⟩ = some (.slice A0_6 l0_6.length c0_6) := (blk_cell BK23001.out 6).trans rfl
                                have hcz46_7 : wc.cell? ⟨gb23001, 7, none⟩ = some (.int .i64 a0_7) := (blk_cell BK23001.out 7).trans rfl
                                have hfz46_0 := blk_frozen BK23001.out 0
                                have hfz46_1 := blk_frozen BK23001.out 1
                                have hfz46_2 := blk_frozen BK23001.out 2
                                have hfz46_3 := blk_frozen BK23001.out 3
                                have hfz46_4 := blk_frozen BK23001.out 4
                                have hfz46_5 := blk_frozen BK23001.out 5
                                have hfz46_6 := blk_frozen BK23001.out 6
                                have hfz46_7 := blk_frozen BK23001.out 7
                                go_wp2_with (first | (go_at_call 94; (with_reducible refine (impl_isZeroRegex.calls a0_3 a0_4 _ _ l0_5 true _ ?side1 ?side2 A37.out).mono ?_); (case side1 => repeat (first | exact (Kd.C_below HR0_5.out HB.out) | (with_reducible refine Kd.C_alloc ?_ _) | (with_reducible refine Kd.C_drewN ?_ _) | (with_reducible refine Kd.C_drew ?_))); (case side2 => exact HC0_5.out); rintro e w47 ⟨rfl, hb⟩; have n0_ := Aside0.mk (blk_below (g := gb23001) (o := .cells #[.int .i64 a0_0, .string a0_1, .string a0_2, .int .i64 a0_3, .string a0_4, .slice A0_5 l0_5.length c0_5, .slice A0_6 l0_6.length c0_6, .int .i64 a0_7] 44 (0, 0)) (by (with_reducible repeat (first | refine blk_drewN ?_ _ | refine blk_drew ?_ | refine blk_alloc ?_ _)); exact BK23001.out) hb); have n1_ := Aside0.mk (below_step (by repeat (first | (with_reducible first | exact HB.out | apply below_alloc | apply pw_below_drewN | apply below_drew1 | refine below_set ?_ GE23001.out) | exact HB.out)) hb); clear BK23001; clear HB; have BK23001 := n0_; have HB := n1_; clear n0_ n1_; (try clear hb); (try clear hb2); (try clear hk); (try clear hi); have hcz48_0 : w47.cell? ⟨gb23001, 0, none⟩ = some (.int .i64 a0_0) := (blk_cell BK23001.out 0).trans rfl; have hcz48_1 : w47.cell? ⟨gb23001, 1, none⟩ = some (.string a0_1) := (blk_cell BK23001.out 1).trans rfl; have hcz48_2 : w47.cell? ⟨gb23001, 2, none⟩ = some (.string a0_2) := (blk_cell BK23001.out 2).trans rfl; have hcz48_3 : w47.cell? ⟨gb23001, 3, none⟩ = some (.int .i64 a0_3) := (blk_cell BK23001.out 3).trans rfl; have hcz48_4 : w47.cell? ⟨gb23001, 4, none⟩ = some (.string a0_4) := (blk_cell BK23001.out 4).trans rfl; have hcz48_5 : w47.cell? ⟨gb23001, 5, none⟩ = some (.slice A0_5 l0_5.length c0_5) := (blk_cell BK23001.out 5).trans rfl; have hcz48_6 : w47.cell? ⟨gb23001, 6, none⟩ = some (.slice A0_6 l0_6.length c0_6) := (blk_cell BK23001.out 6).trans rfl; have hcz48_7 : w47.cell? ⟨gb23001, 7, none⟩ = some (.int .i64 a0_7) := (blk_cell BK23001.out 7).trans rfl; have hfz48_0 := blk_frozen BK23001.out 0; have hfz48_1 := blk_frozen BK23001.out 1; have hfz48_2 := blk_frozen BK23001.out 2; have hfz48_3 := blk_frozen BK23001.out 3; have hfz48_4 := blk_frozen BK23001.out 4; have hfz48_5 := blk_frozen BK23001.out 5; have hfz48_6 := blk_frozen BK23001.out 6; have hfz48_7 := blk_frozen BK23001.out 7) | (go_at_call 96; (with_reducible refine (impl_within.calls a0_7 (-99) 99 false _ A40.out).mono ?_); rintro e w' ⟨rfl, ⟨nd, rfl⟩⟩))
                                go_ret
                                exact ⟨by first | rfl | (simp [errW_none, errW_some] <;> rfl) | (simp [*, errW_none, errW_some] <;> rfl), by repeat (first | (with_reducible first | exact HB.out | apply below_alloc | apply pw_below_drewN | apply below_drew1 | refine below_set ?_ GE23001.out) | exact HB.out)⟩
                            · rw [if_neg c39] at H
                              have c39b0 : ((l0_6.length : Int) == 3) = false := beq_eq_false_iff_ne.mpr c39
                              have c39b1 : ((l0_6.length : Int) != 3) = true := bne_iff_ne.mpr c39
                              obtain rfl := Option.some.inj H
                              have hcz49_0 : wc.cell? ⟨gb23001, 0, none⟩ = some (.int .i64 a0_0) := (blk_cell BK23001.out 0).trans rfl
                              have hcz49_1 : wc.cell? ⟨gb23001, 1, none⟩ = some (.string a0_1) := (blk_cell BK23001.out 1).trans rfl
                              have hcz49_2 : wc.cell? ⟨gb23001, 2, none⟩ = some (.string a0_2) := (blk_cell BK23001.out 2).trans rfl
                              have hcz49_3 : wc.cell? ⟨gb23001, 3, none⟩ = some (.int .i64 a0_3) := (blk_cell BK23001.out 3).trans rfl
                              have hcz49_4 : wc.cell? ⟨gb23001, 4, none⟩ = some (.string a0_4) := (blk_cell BK23001.out 4).trans rfl
                              have hcz49_5 : wc.cell? ⟨gb23001, 5, none⟩ = some (.slice A0_5 l0_5.length c0_5) := (blk_cell BK23001.out 5).trans rfl
                              have hcz49_6 : wc.cell? ⟨gb23001, 6, none⟩ = some (.slice A0_6 l0_6.length c0_6) := (blk_cell BK23001.out 6).trans rfl
                              have hcz49_7 : wc.cell? ⟨gb23001, 7, none⟩ = some (.int .i64 a0_7) := (blk_cell BK23001.out 7).trans rfl
                              have hfz49_0 := blk_frozen BK23001.out 0
                              have hfz49_1 := blk_frozen BK23001.out 1
                              have hfz49_2 := blk_frozen BK23001.out 2
                              have hfz49_3 := blk_frozen BK23001.out 3
                              have hfz49_4 := blk_frozen BK23001.out 4
                              have hfz49_5 := blk_frozen BK23001.out 5
                              have hfz49_6 := blk_frozen BK23001.out 6
                              have hfz49_7 := blk_frozen BK23001.out 7
                              go_wp2_with (first | (go_at_call 94; (with_reducible refine (impl_isZeroRegex.calls a0_3 a0_4 _ _ l0_5 true _ ?side1 ?side2 A37.out).mono ?_); (case side1 => repeat (first | exact (Kd.C_below HR0_5.out HB.out) | (with_reducible refine Kd.C_alloc ?_ _) | (with_reducible refine Kd.C_drewN ?_ _) | (with_reducible refine Kd.C_drew ?_))); (case side2 => exact HC0_5.out); rintro e w50 ⟨rfl, hb⟩; have n0_ := Aside0.mk (blk_below (g := gb23001) (o := .cells #[.int .i64 a0_0, .string a0_1, .string a0_2, .int .i64 a0_3, .string a0_4, .slice A0_5 l0_5.length c0_5, .slice A0_6 l0_6.length c0_6, .int .i64 a0_7] 44 (0, 0)) (by (with_reducible repeat (first | refine blk_drewN ?_ _ | refine blk_drew ?_ | refine blk_alloc ?_ _)); exact BK23001.out) hb); have n1_ := Aside0.mk (below_step (by repeat (first | (with_reducible first | exact HB.out | apply below_alloc | apply pw_below_drewN | apply below_drew1 | refine below_set ?_ GE23001.out) | exact HB.out)) hb); clear BK23001; clear HB; have BK23001 := n0_; have HB := n1_; clear n0_ n1_; (try clear hb); (try clear hb2); (try clear hk); (try clear hi); have hcz51_0 : w50.cell? ⟨gb23001, 0, none⟩ = some (.int .i64 a0_0) := (blk_cell BK23001.out 0).trans rfl; have hcz51_1 : w50.cell? ⟨gb23001, 1, none⟩ = some (.string a0_1) := (blk_cell BK23001.out 1).trans rfl; have hcz51_2 : w50.cell? ⟨gb23001, 2, none⟩ = some (.string a0_2) := (blk_cell BK23001.out 2).trans rfl; have hcz51_3 : w50.cell? ⟨gb23001, 3, none⟩ = some (.int .i64 a0_3) := (blk_cell BK23001.out 3).trans rfl; have hcz51_4 : w50.cell? ⟨gb23001, 4, none⟩ = some (.string a0_4) := (blk_cell BK23001.out 4).trans rfl; have hcz51_5 : w50.cell? ⟨gb23001, 5, none⟩ = some (.slice A0_5 l0_5.length c0_5) := (blk_cell BK23001.out 5).trans rfl; have hcz51_6 : w50.cell? ⟨gb23001, 6, none⟩ = some (.slice A0_6 l0_6.length c0_6) := (blk_cell BK23001.out 6).trans rfl; have hcz51_7 : w50.cell? ⟨gb23001, 7, none⟩ = some (.int .i64 a0_7) := (blk_cell BK23001.out 7).trans rfl; have hfz51_0 := blk_frozen BK23001.out 0; have hfz51_1 := blk_frozen BK23001.out 1; have hfz51_2 := blk_frozen BK23001.out 2; have hfz51_3 := blk_frozen BK23001.out 3; have hfz51_4 := blk_frozen BK23001.out 4; have hfz51_5 := blk_frozen BK23001.out 5; have hfz51_6 := blk_frozen BK23001.out 6; have hfz51_7 := blk_frozen BK23001.out 7))
                              go_ret
                              exact ⟨by first | rfl | (simp [errW_none, errW_some] <;> rfl) | (simp [*, errW_none, errW_some] <;> rfl), by repeat (first | (with_reducible first | exact HB.out | apply below_alloc | apply pw_below_drewN | apply below_drew1 | refine below_set ?_ GE23001.out) | exact HB.out)⟩
                          · replace c38 := Bool.eq_false_iff.mpr c38
                            subst c38
                            have H1 : (some false) = some r := by rw [if_neg (show ¬ (false = true) by decide)] at H; exact H
                            clear H
                            have H := H1
                            clear H1
                            obtain rfl := Option.some.inj H
                            have hcz52_0 : wc.cell? ⟨gb23001, 0, none⟩ = some (.int .i64 a0_0) := (blk_cell BK23001.out 0).trans rfl
                            have hcz52_1 : wc.cell? ⟨gb23001, 1, none⟩ = some (.string a0_1) := (blk_cell BK23001.out 1).trans rfl
                            have hcz52_2 : wc.cell? ⟨gb23001, 2, none⟩ = some (.string a0_2) := (blk_cell BK23001.out 2).trans rfl
                            have hcz52_3 : wc.cell? ⟨gb23001, 3, none⟩ = some (.int .i64 a0_3) := (blk_cell BK23001.out 3).trans rfl
                            have hcz52_4 : wc.cell? ⟨gb23001, 4, none⟩ = some (.string a0_4) := (blk_cell BK23001.out 4).trans rfl
                            have hcz52_5 : wc.cell? ⟨gb23001, 5, none⟩ = some (.slice A0_5 l0_5.length c0_5) := (blk_cell BK23001.out 5).trans rfl
                            have hcz52_6 : wc.cell? ⟨gb23001, 6, none⟩ = some (.slice A0_6 l0_6.length c0_6) := (blk_cell BK23001.out 6).trans rfl
                            have hcz52_7 : wc.cell? ⟨gb23001, 7, none⟩ = some (.int .i64 a0_7) := (blk_cell BK23001.out 7).trans rfl
                            have hfz52_0 := blk_frozen BK23001.out 0
                            have hfz52_1 := blk_frozen BK23001.out 1
                            have hfz52_2 := blk_frozen BK23001.out 2
                            have hfz52_3 := blk_frozen BK23001.out 3
                            have hfz52_4 := blk_frozen BK23001.out 4
                            have hfz52_5 := blk_frozen BK23001.out 5
                            have hfz52_6 := blk_frozen BK23001.out 6
                            have hfz52_7 := blk_frozen BK23001.out 7
                            go_wp2_with (first | (go_at_call 94; (with_reducible refine (impl_isZeroRegex.calls a0_3 a0_4 _ _ l0_5 false _ ?side1 ?side2 A37.out).mono ?_); (case side1 => repeat (first | exact (Kd.C_below HR0_5.out HB.out) | (with_reducible refine Kd.C_alloc ?_ _) | (with_reducible refine Kd.C_drewN ?_ _) | (with_reducible refine Kd.C_drew ?_))); (case side2 => exact HC0_5.out); rintro e w53 ⟨rfl, hb⟩; have n0_ := Aside0.mk (blk_below (g := gb23001) (o := .cells #[.int .i64 a0_0, .string a0_1, .string a0_2, .int .i64 a0_3, .string a0_4, .slice A0_5 l0_5.length c0_5, .slice A0_6 l0_6.length c0_6, .int .i64 a0_7] 44 (0, 0)) (by (with_reducible repeat (first | refine blk_drewN ?_ _ | refine blk_drew ?_ | refine blk_alloc ?_ _)); exact BK23001.out) hb); have n1_ := Aside0.mk (below_step (by repeat (first | (with_reducible first | exact HB.out | apply below_alloc | apply pw_below_drewN | apply below_drew1 | refine below_set ?_ GE23001.out) | exact HB.out)) hb); clear BK23001; clear HB; have BK23001 := n0_; have HB := n1_; clear n0_ n1_; (try clear hb); (try clear hb2); (try clear hk); (try clear hi)))
                            go_ret
                            exact ⟨by first | rfl | (simp [errW_none, errW_some] <;> rfl) | (simp [*, errW_none, errW_some] <;> rfl), by repeat (first | (with_reducible first | exact HB.out | apply below_alloc | apply pw_below_drewN | apply below_drew1 | refine below_set ?_ GE23001.out) | exact HB.out)⟩
                        · rw [if_neg c36] at H
                          have c36b0 : (a0_2.toList == ([] : List UInt8)) = false := beq_eq_false_iff_ne.mpr c36
                          have c36b1 : (a0_2.toList != ([] : List UInt8)) = true := bne_iff_ne.mpr c36
                          obtain rfl := Option.some.inj H
                          have hcz54_0 : wc.cell? ⟨gb23001, 0, none⟩ = some (.int .i64 a0_0) := (blk_cell BK23001.out 0).trans rfl
                          have hcz54_1 : wc.cell? ⟨gb23001, 1, none⟩ = some (.string a0_1) := (blk_cell BK23001.out 1).trans rfl
                          have hcz54_2 : wc.cell? ⟨gb23001, 2, none⟩ = some (.string a0_2) := (blk_cell BK23001.out 2).trans rfl
                          have hcz54_3 : wc.cell? ⟨gb23001, 3, none⟩ = some (.int .i64 a0_3) := (blk_cell BK23001.out 3).trans rfl
                          have hcz54_4 : wc.cell? ⟨gb23001, 4, none⟩ = some (.string a0_4) := (blk_cell BK23001.out 4).trans rfl
                          have hcz54_5 : wc.cell? ⟨gb23001, 5, none⟩ = some (.slice A0_5 l0_5.length c0_5) := (blk_cell BK23001.out 5).trans rfl
                          have hcz54_6 : wc.cell? ⟨gb23001, 6, none⟩ = some (.slice A0_6 l0_6.length c0_6) := (blk_cell BK23001.out 6).trans rfl
                          have hcz54_7 : wc.cell? ⟨gb23001, 7, none⟩ = some (.int .i64 a0_7) := (blk_cell BK23001.out 7).trans rfl
                          have hfz54_0 := blk_frozen BK23001.out 0
                          have hfz54_1 := blk_frozen BK23001.out 1
                          have hfz54_2 := blk_frozen BK23001.out 2
                          have hfz54_3 := blk_frozen BK23001.out 3
                          have hfz54_4 := blk_frozen BK23001.out 4
                          have hfz54_5 := blk_frozen BK23001.out 5
                          have hfz54_6 := blk_frozen BK23001.out 6
                          have hfz54_7 := blk_frozen BK23001.out 7
                          go_wp2
                          go_ret
                          exact ⟨by first | rfl | (simp [errW_none, errW_some] <;> rfl) | (simp [*, errW_none, errW_some] <;> rfl), by repeat (first | (with_reducible first | exact HB.out | apply below_alloc | apply pw_below_drewN | apply below_drew1 | refine below_set ?_ GE23001.out) | exact HB.out)⟩
                      · rw [if_neg c35] at H
                        have c35b0 : (a0_1.toList == ([] : List UInt8)) = false := beq_eq_false_iff_ne.mpr c35
                        have c35b1 : (a0_1.toList != ([] : List UInt8)) = true := bne_iff_ne.mpr c35
                        obtain rfl := Option.some.inj H
                        have hcz55_0 : wc.cell? ⟨gb23001, 0, none⟩ = some (.int .i64 a0_0) := (blk_cell BK23001.out 0).trans rfl
                        have hcz55_1 : wc.cell? ⟨gb23001, 1, none⟩ = some (.string a0_1) := (blk_cell BK23001.out 1).trans rfl
                        have hcz55_2 : wc.cell? ⟨gb23001, 2, none⟩ = some (.string a0_2) := (blk_cell BK23001.out 2).trans rfl
                        have hcz55_3 : wc.cell? ⟨gb23001, 3, none⟩ = some (.int .i64 a0_3) := (blk_cell BK23001.out 3).trans rfl
                        have hcz55_4 : wc.cell? ⟨gb23001, 4, none⟩ = some (.string a0_4) := (blk_cell BK23001.out 4).trans rfl
                        have hcz55_5 : wc.cell? ⟨gb23001, 5, none⟩ = some (.slice A0_5 l0_5.length c0_5) := (blk_cell BK23001.out 5).trans rfl
                        have hcz55_6 : wc.cell? ⟨gb23001, 6, none⟩ = some (.slice A0_6 l0_6.length c0_6) := (blk_cell BK23001.out 6).trans rfl
                        have hcz55_7 : wc.cell? ⟨gb23001, 7, none⟩ = some (.int .i64 a0_7) := (blk_cell BK23001.out 7).trans rfl
                        have hfz55_0 := blk_frozen BK23001.out 0
                        have hfz55_1 := blk_frozen BK23001.out 1
                        have hfz55_2 := blk_frozen BK23001.out 2
                        have hfz55_3 := blk_frozen BK23001.out 3
                        have hfz55_4 := blk_frozen BK23001.out 4
                        have hfz55_5 := blk_frozen BK23001.out 5
                        have hfz55_6 := blk_frozen BK23001.out 6
                        have hfz55_7 := blk_frozen BK23001.out 7
                        go_wp2
                        go_ret
                        exact ⟨by first | rfl | (simp [errW_none, errW_some] <;> rfl) | (simp [*, errW_none, errW_some] <;> rfl), by repeat (first | (with_reducible first | exact HB.out | apply below_alloc | apply pw_below_drewN | apply below_drew1 | refine below_set ?_ GE23001.out) | exact HB.out)⟩
                    · rw [if_neg c34] at H
                      have c34b0 : (a0_0 == 5) = false := beq_eq_false_iff_ne.mpr c34
                      have c34b1 : (a0_0 != 5) = true := bne_iff_ne.mpr c34
                      obtain rfl := Option.some.inj H
                      go_wp2
                      go_ret
                      exact ⟨by first | rfl | (simp [errW_none, errW_some] <;> rfl) | (simp [*, errW_none, errW_some] <;> rfl), by repeat (first | (with_reducible first | exact HB.out | apply below_alloc | apply pw_below_drewN | apply below_drew1 | refine below_set ?_ GE23001.out) | exact HB.out)⟩


end Go.Proofs.Ytpppopdmnejcfaa.A


namespace Go.Proofs.Ytpppopdmnejcfaa.A
open Go.RowKit Go.Proofs.Ytpppopdmnejcfaa.Ext Go.Proofs.YtpppopdmnejcfaaW.PrintWords Go.Proofs.YtpppopdmnejcfaaW.PrintLast Go.Proofs.YtpppopdmnejcfaaW.PrintMore
attribute [local go_sem] max2_int min2_int max_two min_two max_three min_three max_four min_four   -- for this text's walks alone
set_option linter.unusedVariables false
set_option linter.unusedSimpArgs false

/-! ### impl_VarsOfConstraint: function 62 -/
def impl_VarsOfConstraint.l0 : Nat → ByteArray → List Int → Int → Int → Option (ByteArray)
  | 0, _, _, _, _ => none
  | k + 1, x3, x15, x16, x17 => if x17 < x16 then (if 0 ≤ x17 then (if x17 < (x15.length : Int) then (if (rd x15 x17) = 0 then (impl_VarsOfConstraint.l0 k x3 x15 x16 (wrap64 (x17 + 1))) else (if x17 ≤ (wrap64 (x17 + 1)) then (if (wrap64 (x17 + 1)) ≤ 3 then (if x3.size + ((⟨#[88, 89, 90]⟩ : ByteArray).extract (x17 : Int).toNat ((wrap64 (x17 + 1)) : Int).toNat).size ≤ 9223372036854775807 then (impl_VarsOfConstraint.l0 k (x3 ++ ((⟨#[88, 89, 90]⟩ : ByteArray).extract (x17 : Int).toNat ((wrap64 (x17 + 1)) : Int).toNat)) x15 x16 (wrap64 (x17 + 1))) else (none)) else (none)) else (none))) else (none)) else (none)) else ((impl_VarsOf.f k x3).bind fun t62004 => (some t62004))
def impl_VarsOfConstraint.f (k : Nat) (a0_0 : Int) (a0_1 : ByteArray) (a0_2 : ByteArray) (a0_3 : Int) (a0_4 : ByteArray) (l0_5 : List (S42)) (l0_6 : List Int) (a0_7 : Int) : Option (ByteArray) := (impl_IsValidConstraint.f k a0_0 a0_1 a0_2 a0_3 a0_4 l0_5 l0_6 a0_7).bind fun t62002 => (if t62002 = true then (if a0_1.size + a0_2.size ≤ 9223372036854775807 then (impl_VarsOfConstraint.l0 k (a0_1 ++ a0_2) l0_6 (l0_6.length : Int) 0) else (none)) else (some (⟨#[]⟩ : ByteArray)))
theorem impl_VarsOfConstraint.mono_l : ∀ k, (∀ y0 y1 y2 y3, LeO (impl_VarsOfConstraint.l0 k y0 y1 y2 y3) (impl_VarsOfConstraint.l0 (k + 1) y0 y1 y2 y3))
  | 0 => fun _ _ _ _ r h => by simp [impl_VarsOfConstraint.l0] at h
  | k + 1 => by
    have ih0 := impl_VarsOfConstraint.mono_l k
    · intro y0 y1 y2 y3
      unfold impl_VarsOfConstraint.l0
      repeat' first
      | (with_reducible exact ih0 _ _ _ _)
      | (with_reducible exact impl_IsValidConstraint.mono _ _ _ _ _ _ _ _ _)
      | (with_reducible exact impl_VarsOf.mono _ _)
      | (with_reducible exact LeO.refl _)
      | (with_reducible exact LeO.none _)
      | (with_reducible refine LeO.ite ?_ ?_)
      | (with_reducible refine LeO.bind ?_ (fun _ => ?_))
      | exact ih0 _ _ _ _
      | exact impl_IsValidConstraint.mono _ _ _ _ _ _ _ _ _
      | exact impl_VarsOf.mono _ _
      | exact LeO.none _
      | refine LeO.ite ?_ ?_
      | refine LeO.bind ?_ (fun _ => ?_)
theorem impl_VarsOfConstraint.mono : ∀ a0 a1 a2 a3 a4 a5 a6 a7 k, LeO (impl_VarsOfConstraint.f k a0 a1 a2 a3 a4 a5 a6 a7) (impl_VarsOfConstraint.f (k + 1) a0 a1 a2 a3 a4 a5 a6 a7) := by
  intro a0 a1 a2 a3 a4 a5 a6 a7 k
  have ih0 := impl_VarsOfConstraint.mono_l k
  unfold impl_VarsOfConstraint.f
  repeat' first
      | (with_reducible exact ih0 _ _ _ _)
      | (with_reducible exact impl_IsValidConstraint.mono _ _ _ _ _ _ _ _ _)
      | (with_reducible exact impl_VarsOf.mono _ _)
      | (with_reducible exact LeO.refl _)
      | (with_reducible exact LeO.none _)
      | (with_reducible refine LeO.ite ?_ ?_)
      | (with_reducible refine LeO.bind ?_ (fun _ => ?_))
      | exact ih0 _ _ _ _
      | exact impl_IsValidConstraint.mono _ _ _ _ _ _ _ _ _
      | exact impl_VarsOf.mono _ _
      | exact LeO.none _
      | refine LeO.ite ?_ ?_
      | refine LeO.bind ?_ (fun _ => ?_)
set_option maxHeartbeats 8000000 in
set_option maxRecDepth 100000 in
theorem impl_VarsOfConstraint.calls (k : Nat) (a0_0 : Int) (a0_1 : ByteArray) (a0_2 : ByteArray) (a0_3 : Int) (a0_4 : ByteArray) (A0_5 : Option Addr) (c0_5 : Nat) (l0_5 : List (S42)) (A0_6 : Option Addr) (c0_6 : Nat) (l0_6 : List Int) (a0_7 : Int) (r : ByteArray) (w : World) (hr0_5 : Kd.C k42 w A0_5 l0_5.length l0_5) (hc0_5 : l0_5.length ≤ c0_5) (hr0_6 : Kd.C (Kd.int .i64) w A0_6 l0_6.length l0_6) (hc0_6 : l0_6.length ≤ c0_6) (h : impl_VarsOfConstraint.f k a0_0 a0_1 a0_2 a0_3 a0_4 l0_5 l0_6 a0_7 = some r) :
    Calls Try.prog 62 #[.agg #[.int .i64 a0_0, .string a0_1, .string a0_2, .int .i64 a0_3, .string a0_4, .slice A0_5 l0_5.length c0_5, .slice A0_6 l0_6.length c0_6, .int .i64 a0_7]] w fun e w' => e = .returned (.string r) ∧ Below w.heap.size w w' := by
  have hu44 := Try.underlying44
  have HR0_5 := Aside0.mk hr0_5
  have HC0_5 := Aside0.mk hc0_5
  clear hr0_5 hc0_5
  have HR0_6 := Aside0.mk hr0_6
  have HC0_6 := Aside0.mk hc0_6
  clear hr0_6 hc0_6
  have HB := Aside0.mk (Below.refl w.heap.size w)
  have H : ((impl_IsValidConstraint.f k a0_0 a0_1 a0_2 a0_3 a0_4 l0_5 l0_6 a0_7).bind fun t62002 => (if t62002 = true then (if a0_1.size + a0_2.size ≤ 9223372036854775807 then (impl_VarsOfConstraint.l0 k (a0_1 ++ a0_2) l0_6 (l0_6.length : Int) 0) else (none)) else (some (⟨#[]⟩ : ByteArray)))) = some r := h
  clear h
  replace H := Option.bind_eq_some_iff.mp H
  obtain ⟨t62002, A20, H⟩ := H
  replace H : (if t62002 = true then (if a0_1.size + a0_2.size ≤ 9223372036854775807 then (impl_VarsOfConstraint.l0 k (a0_1 ++ a0_2) l0_6 (l0_6.length : Int) 0) else (none)) else (some (⟨#[]⟩ : ByteArray))) = some r := H
  have A2 := Aside0.mk A20
  clear A20
  by_cases c3 : t62002 = true
  · subst c3
    have H1 : (if a0_1.size + a0_2.size ≤ 9223372036854775807 then (impl_VarsOfConstraint.l0 k (a0_1 ++ a0_2) l0_6 (l0_6.length : Int) 0) else (none)) = some r := by rw [if_pos rfl] at H; exact H
    clear H
    have H := H1
    clear H1
    by_cases c4 : a0_1.size + a0_2.size ≤ 9223372036854775807
    · rw [if_pos c4] at H
      have c4z := c4
      try simp at c4z
      try replace c4z := eq_false (Nat.not_lt.2 c4z)
      have c4b0 := eq_true c4
      have c4b1 : decide (a0_1.size + a0_2.size ≤ 9223372036854775807) = true := decide_eq_true c4
      try have c4b2 : (9223372036854775807 < a0_1.size + a0_2.size) = False := eq_false (Nat.not_lt.2 c4)
      have H' := Aside0.mk H
      clear H
      go_enter Try.func62, Try.ntmps62
      go_wp2_with (first | ((with_reducible refine gate_dst (N := 1) rfl ?_); refine box_event ?hg (N := 1) ?hd (cs := #[.int .i64 a0_0, .string a0_1, .string a0_2, .int .i64 a0_3, .string a0_4, .slice A0_5 l0_5.length c0_5, .slice A0_6 l0_6.length c0_6, .int .i64 a0_7]) (t := 44) ?hr ?_; (case hd => rfl); (case hg => rfl); (case hr => first | (go_simp; done) | (go_simp; rfl)); intro gb62001 hg w5 hbox hb; have n0_ := Aside0.mk (below_step (by repeat (first | (with_reducible first | exact HB.out | apply below_alloc | apply pw_below_drewN | apply below_drew1) | exact HB.out)) hb); have n1_ := Aside0.mk (hbox); have n2_ := Aside0.mk ((by rw [hg]; exact (below_size (by repeat (first | (with_reducible first | exact HB.out | apply below_alloc | apply pw_below_drewN | apply below_drew1) | exact HB.out))) : w.heap.size ≤ gb62001)); have n3_ := Aside0.mk ((by rw [hg]; exact (below_size (by repeat (first | (with_reducible first | exact HB.out | apply below_alloc | apply pw_below_drewN | apply below_drew1) | exact HB.out))) : w.heap.size ≤ gb62001)); clear HB; have HB := n0_; have BK62001 := n1_; have GW62001 := n2_; have GE62001 := n3_; clear n0_ n1_ n2_ n3_; clear hb hbox hg; have hcz6_0 : w5.cell? ⟨gb62001, 0, none⟩ = some (.int .i64 a0_0) := (blk_cell BK62001.out 0).trans rfl; have hcz6_1 : w5.cell? ⟨gb62001, 1, none⟩ = some (.string a0_1) := (blk_cell BK62001.out 1).trans rfl; have hcz6_2 : w5.cell? ⟨gb62001, 2, none⟩ = some (.string a0_2) := (blk_cell BK62001.out 2).trans rfl; have hcz6_3 : w5.cell? ⟨gb62001, 3, none⟩ = some (.int .i64 a0_3) := (blk_cell BK62001.out 3).trans rfl; have hcz6_4 : w5.cell? ⟨gb62001, 4, none⟩ = some (.string a0_4) := (blk_cell BK62001.out 4).trans rfl; have hcz6_5 : w5.cell? ⟨gb62001, 5, none⟩ = some (.slice A0_5 l0_5.length c0_5) := (blk_cell BK62001.out 5).trans rfl; have hcz6_6 : w5.cell? ⟨gb62001, 6, none⟩ = some (.slice A0_6 l0_6.length c0_6) := (blk_cell BK62001.out 6).trans rfl; have hcz6_7 : w5.cell? ⟨gb62001, 7, none⟩ = some (.int .i64 a0_7) := (blk_cell BK62001.out 7).trans rfl; have hfz6_0 := blk_frozen BK62001.out 0; have hfz6_1 := blk_frozen BK62001.out 1; have hfz6_2 := blk_frozen BK62001.out 2; have hfz6_3 := blk_frozen BK62001.out 3; have hfz6_4 := blk_frozen BK62001.out 4; have hfz6_5 := blk_frozen BK62001.out 5; have hfz6_6 := blk_frozen BK62001.out 6; have hfz6_7 := blk_frozen BK62001.out 7) | ((with_reducible refine gate_callee (f := 23) rfl ?_); refine goesL_ (some 7) rfl rfl Try.func23 (by kernel_rfl) rfl #[.agg #[.int .i64 a0_0, .string a0_1, .string a0_2, .int .i64 a0_3, .string a0_4, .slice A0_5 l0_5.length c0_5, .slice A0_6 l0_6.length c0_6, .int .i64 a0_7]] rfl (by (try simp only [List.map_toArray, List.map_cons, List.map_nil]); first | done | rfl | (simp only [List.length_drop, List.length_take]; rfl)) ?_; (with_reducible refine (impl_IsValidConstraint.calls k a0_0 a0_1 a0_2 a0_3 a0_4 _ _ l0_5 _ _ l0_6 a0_7 true _ ?side1 ?side2 ?side3 ?side4 A2.out).mono ?_); (case side1 => repeat (first | exact (Kd.C_below HR0_5.out HB.out) | (with_reducible refine Kd.C_alloc ?_ _) | (with_reducible refine Kd.C_drewN ?_ _) | (with_reducible refine Kd.C_drew ?_))); (case side2 => exact HC0_5.out); (case side3 => repeat (first | exact (Kd.C_below HR0_6.out HB.out) | (with_reducible refine Kd.C_alloc ?_ _) | (with_reducible refine Kd.C_drewN ?_ _) | (with_reducible refine Kd.C_drew ?_))); (case side4 => exact HC0_6.out); rintro e w7 ⟨rfl, hb⟩; refine ⟨_, rfl, ?_⟩; have n0_ := Aside0.mk (blk_below (g := gb62001) (o := .cells #[.int .i64 a0_0, .string a0_1, .string a0_2, .int .i64 a0_3, .string a0_4, .slice A0_5 l0_5.length c0_5, .slice A0_6 l0_6.length c0_6, .int .i64 a0_7] 44 (0, 0)) (by (with_reducible repeat (first | refine blk_drewN ?_ _ | refine blk_drew ?_ | refine blk_alloc ?_ _)); exact BK62001.out) hb); have n1_ := Aside0.mk (below_step (by repeat (first | (with_reducible first | exact HB.out | apply below_alloc | apply pw_below_drewN | apply below_drew1 | refine below_set ?_ GE62001.out) | exact HB.out)) hb); clear BK62001; clear HB; have BK62001 := n0_; have HB := n1_; clear n0_ n1_; (try clear hb); (try clear hb2); (try clear hk); (try clear hi); have hcz8_0 : w7.cell? ⟨gb62001, 0, none⟩ = some (.int .i64 a0_0) := (blk_cell BK62001.out 0).trans rfl; have hcz8_1 : w7.cell? ⟨gb62001, 1, none⟩ = some (.string a0_1) := (blk_cell BK62001.out 1).trans rfl; have hcz8_2 : w7.cell? ⟨gb62001, 2, none⟩ = some (.string a0_2) := (blk_cell BK62001.out 2).trans rfl; have hcz8_3 : w7.cell? ⟨gb62001, 3, none⟩ = some (.int .i64 a0_3) := (blk_cell BK62001.out 3).trans rfl; have hcz8_4 : w7.cell? ⟨gb62001, 4, none⟩ = some (.string a0_4) := (blk_cell BK62001.out 4).trans rfl; have hcz8_5 : w7.cell? ⟨gb62001, 5, none⟩ = some (.slice A0_5 l0_5.length c0_5) := (blk_cell BK62001.out 5).trans rfl; have hcz8_6 : w7.cell? ⟨gb62001, 6, none⟩ = some (.slice A0_6 l0_6.length c0_6) := (blk_cell BK62001.out 6).trans rfl; have hcz8_7 : w7.cell? ⟨gb62001, 7, none⟩ = some (.int .i64 a0_7) := (blk_cell BK62001.out 7).trans rfl; have hfz8_0 := blk_frozen BK62001.out 0; have hfz8_1 := blk_frozen BK62001.out 1; have hfz8_2 := blk_frozen BK62001.out 2; have hfz8_3 := blk_frozen BK62001.out 3; have hfz8_4 := blk_frozen BK62001.out 4; have hfz8_5 := blk_frozen BK62001.out 5; have hfz8_6 := blk_frozen BK62001.out 6; have hfz8_7 := blk_frozen BK62001.out 7))
      first | go_loopg [3, 17] k (fun kq v3 v17 w' => ∃ (x3_1 : ByteArray) (x17_1 : Int), v3 = .string x3_1 ∧ v17 = .int .i64 x17_1 ∧ Aside0 (impl_VarsOfConstraint.l0 kq x3_1 l0_6 (l0_6.length : Int) x17_1 = some r) ∧ Aside0 (kq ≤ k) ∧ Aside0 (w'.heap[gb62001]? = some (.cells #[.int .i64 a0_0, .string a0_1, .string a0_2, .int .i64 a0_3, .string a0_4, (.slice A0_5 l0_5.length c0_5), (.slice A0_6 l0_6.length c0_6), .int .i64 a0_7] 44 (0, 0))) ∧ Aside0 (Below w.heap.size w w')) | (simp only [Act.put, List.setIfInBounds_toArray, List.set_cons_succ, List.set_cons_zero]; go_loopg [3, 17] k (fun kq v3 v17 w' => ∃ (x3_1 : ByteArray) (x17_1 : Int), v3 = .string x3_1 ∧ v17 = .int .i64 x17_1 ∧ Aside0 (impl_VarsOfConstraint.l0 kq x3_1 l0_6 (l0_6.length : Int) x17_1 = some r) ∧ Aside0 (kq ≤ k) ∧ Aside0 (w'.heap[gb62001]? = some (.cells #[.int .i64 a0_0, .string a0_1, .string a0_2, .int .i64 a0_3, .string a0_4, (.slice A0_5 l0_5.length c0_5), (.slice A0_6 l0_6.length c0_6), .int .i64 a0_7] 44 (0, 0))) ∧ Aside0 (Below w.heap.size w w')))
      case atStart => exact ⟨(a0_1 ++ a0_2), (0), (by first | rfl | (simp; done) | (simp [*]; done)), (by first | rfl | (simp; done) | (simp [*]; done)), H', ⟨Nat.le_refl _⟩, ⟨by (with_reducible repeat (first | refine blk_drewN ?_ _ | refine blk_drew ?_ | refine blk_alloc ?_ _)); exact BK62001.out⟩, ⟨by repeat (first | (with_reducible first | exact HB.out | apply below_alloc | apply pw_below_drewN | apply below_drew1 | refine below_set ?_ GE62001.out) | exact HB.out)⟩⟩
      case round =>
        clear H'
        try clear c2
        try clear p2
        try clear c3
        try clear c4
        try clear c4b0
        try clear c4b1
        try clear c4b2
        try clear c6
        try clear hcz6_0
        try clear hcz6_1
        try clear hcz6_2
        try clear hcz6_3
        try clear hcz6_4
        try clear hcz6_5
        try clear hcz6_6
        try clear hcz6_7
        try clear hcz8_0
        try clear hcz8_1
        try clear hcz8_2
        try clear hcz8_3
        try clear hcz8_4
        try clear hcz8_5
        try clear hcz8_6
        try clear hcz8_7
        try clear hfz6_0
        try clear hfz6_1
        try clear hfz6_2
        try clear hfz6_3
        try clear hfz6_4
        try clear hfz6_5
        try clear hfz6_6
        try clear hfz6_7
        try clear hfz8_0
        try clear hfz8_1
        try clear hfz8_2
        try clear hfz8_3
        try clear hfz8_4
        try clear hfz8_5
        try clear hfz8_6
        try clear hfz8_7
        obtain ⟨x3_1, x17_1, rfl, rfl, HA, HK1, BK62001, HB⟩ := hrel
        cases gk with
        | zero => exact absurd HA.out (by simp [impl_VarsOfConstraint.l0])
        | succ k1 =>
          have H := HA.out
          clear HA
          simp only [impl_VarsOfConstraint.l0] at H
          by_cases c9 : x17_1 < (l0_6.length : Int)
          · rw [if_pos c9] at H
            have c9b0 : decide (x17_1 < (l0_6.length : Int)) = true := decide_eq_true c9
            clear c9
            by_cases c10 : 0 ≤ x17_1
            · rw [if_pos c10] at H
              have c10b0 : decide (0 ≤ x17_1) = true := decide_eq_true c10
              clear c10
              by_cases c11 : x17_1 < (l0_6.length : Int)
              · rw [if_pos c11] at H
                have c11b0 : decide (x17_1 < (l0_6.length : Int)) = true := decide_eq_true c11
                clear c11
                by_cases c12 : (rd l0_6 x17_1) = 0
                · rw [if_pos c12] at H
                  have c12b0 : ((rd l0_6 x17_1) == 0) = true := beq_iff_eq.mpr c12
                  have c12b1 : ((rd l0_6 x17_1) != 0) = false := bne_eq_false_iff_eq.mpr c12
                  clear c12
                  have H' := Aside0.mk H
                  clear H
                  have p62003 : 0 ≤ (x17_1 : Int) := of_decide_eq_true (by first | (with_reducible assumption) | assumption)
                  have q62003 : x17_1 < (l0_6.length : Int) := of_decide_eq_true (by first | (with_reducible assumption) | assumption)
                  obtain ⟨ad62003, e62003, hx62003_0⟩ := Kd.at_int HR0_6.out x17_1 p62003 q62003
                  cases e62003
                  replace hx62003_0 := (HB.out.cell (World.block_lt_of_cell? w _ hx62003_0)).trans hx62003_0
                  replace p62003 := eq_true p62003
                  replace q62003 := eq_true q62003
                  go_wp2
                  go_roundg k1
                  case measure => have := HK1.out; omega
                  case rel => exact ⟨(x3_1), (wrap64 (x17_1 + 1)), (by first | rfl | (simp; done) | (simp [*]; done)), (by first | rfl | (simp; done) | (simp [*]; done)), H', ⟨by have := HK1.out; omega⟩, ⟨by (with_reducible repeat (first | refine blk_drewN ?_ _ | refine blk_drew ?_ | refine blk_alloc ?_ _)); exact BK62001.out⟩, ⟨by repeat (first | (with_reducible first | exact HB.out | apply below_alloc | apply pw_below_drewN | apply below_drew1 | refine below_set ?_ GE62001.out) | exact HB.out)⟩⟩
                · rw [if_neg c12] at H
                  have c12b0 : ((rd l0_6 x17_1) == 0) = false := beq_eq_false_iff_ne.mpr c12
                  have c12b1 : ((rd l0_6 x17_1) != 0) = true := bne_iff_ne.mpr c12
                  have c13b0 := eq_true (of_decide_eq_true (by first | (with_reducible assumption) | assumption) : 0 ≤ x17_1)
                  by_cases c14 : x17_1 ≤ (wrap64 (x17_1 + 1))
                  · rw [if_pos c14] at H
                    have c14b0 := eq_true c14
                    have c14b1 : decide (x17_1 ≤ (wrap64 (x17_1 + 1))) = true := decide_eq_true c14
                    by_cases c15 : (wrap64 (x17_1 + 1)) ≤ 3
                    · rw [if_pos c15] at H
                      have c15b0 := eq_true c15
                      have c15b1 : decide ((wrap64 (x17_1 + 1)) ≤ 3) = true := decide_eq_true c15
                      by_cases c16 : x3_1.size + ((⟨#[88, 89, 90]⟩ : ByteArray).extract (x17_1 : Int).toNat ((wrap64 (x17_1 + 1)) : Int).toNat).size ≤ 9223372036854775807
                      · rw [if_pos c16] at H
                        have c16z := c16
                        try simp at c16z
                        try replace c16z := eq_false (Nat.not_lt.2 c16z)
                        have c16b0 := eq_true c16
                        have c16b1 : decide (x3_1.size + ((⟨#[88, 89, 90]⟩ : ByteArray).extract (x17_1 : Int).toNat ((wrap64 (x17_1 + 1)) : Int).toNat).size ≤ 9223372036854775807) = true := decide_eq_true c16
                        try have c16b2 : (9223372036854775807 < x3_1.size + ((⟨#[88, 89, 90]⟩ : ByteArray).extract (x17_1 : Int).toNat ((wrap64 (x17_1 + 1)) : Int).toNat).size) = False := eq_false (Nat.not_lt.2 c16)
                        have H' := Aside0.mk H
                        clear H
                        have p62003 : 0 ≤ (x17_1 : Int) := of_decide_eq_true (by first | (with_reducible assumption) | assumption)
                        have q62003 : x17_1 < (l0_6.length : Int) := of_decide_eq_true (by first | (with_reducible assumption) | assumption)
                        obtain ⟨ad62003, e62003, hx62003_0⟩ := Kd.at_int HR0_6.out x17_1 p62003 q62003
                        cases e62003
                        replace hx62003_0 := (HB.out.cell (World.block_lt_of_cell? w _ hx62003_0)).trans hx62003_0
                        replace p62003 := eq_true p62003
                        replace q62003 := eq_true q62003
                        go_wp2
                        go_roundg k1
                        case measure => have := HK1.out; omega
                        case rel => exact ⟨(x3_1 ++ ((⟨#[88, 89, 90]⟩ : ByteArray).extract (x17_1 : Int).toNat ((wrap64 (x17_1 + 1)) : Int).toNat)), (wrap64 (x17_1 + 1)), (by first | rfl | (simp; done) | (simp [*]; done)), (by first | rfl | (simp; done) | (simp [*]; done)), H', ⟨by have := HK1.out; omega⟩, ⟨by (with_reducible repeat (first | refine blk_drewN ?_ _ | refine blk_drew ?_ | refine blk_alloc ?_ _)); exact BK62001.out⟩, ⟨by repeat (first | (with_reducible first | exact HB.out | apply below_alloc | apply pw_below_drewN | apply below_drew1 | refine below_set ?_ GE62001.out) | exact HB.out)⟩⟩
                      · rw [if_neg c16] at H
                        exact absurd H (by simp)
                    · rw [if_neg c15] at H
                      exact absurd H (by simp)
                  · rw [if_neg c14] at H
                    exact absurd H (by simp)
              · rw [if_neg c11] at H
                exact absurd H (by simp)
            · rw [if_neg c10] at H
              exact absurd H (by simp)
          · rw [if_neg c9] at H
            have c9b0 : decide (x17_1 < (l0_6.length : Int)) = false := decide_eq_false c9
            clear c9
            replace H := Option.bind_eq_some_iff.mp H
            obtain ⟨t62004, A170, H⟩ := H
            replace H : (some t62004) = some r := H
            have A17 := Aside0.mk A170
            clear A170
            obtain rfl := Option.some.inj H
            go_wp2_with (first | ((with_reducible refine gate_callee (f := 47) rfl ?_); refine goesL_ (some 32) rfl rfl Try.func47 (by kernel_rfl) rfl #[.string x3_1] rfl (by (try simp only [List.map_toArray, List.map_cons, List.map_nil]); first | done | rfl | (simp only [List.length_drop, List.length_take]; rfl)) ?_; (with_reducible refine (impl_VarsOf.calls k1 x3_1 t62004 _ A17.out).mono ?_); rintro e w' ⟨rfl, ⟨nd, rfl⟩⟩; refine ⟨_, rfl, ?_⟩))
            go_ret
            exact ⟨by first | rfl | (simp [errW_none, errW_some] <;> rfl) | (simp [*, errW_none, errW_some] <;> rfl), by repeat (first | (with_reducible first | exact HB.out | apply below_alloc | apply pw_below_drewN | apply below_drew1 | refine below_set ?_ GE62001.out) | exact HB.out)⟩
    · rw [if_neg c4] at H
      exact absurd H (by simp)
  · replace c3 := Bool.eq_false_iff.mpr c3
    subst c3
    have H1 : (some (⟨#[]⟩ : ByteArray)) = some r := by rw [if_neg (show ¬ (false = true) by decide)] at H; exact H
    clear H
    have H := H1
    clear H1
    obtain rfl := Option.some.inj H
    go_enter Try.func62, Try.ntmps62
    go_wp2_with (first | ((with_reducible refine gate_dst (N := 1) rfl ?_); refine box_event ?hg (N := 1) ?hd (cs := #[.int .i64 a0_0, .string a0_1, .string a0_2, .int .i64 a0_3, .string a0_4, .slice A0_5 l0_5.length c0_5, .slice A0_6 l0_6.length c0_6, .int .i64 a0_7]) (t := 44) ?hr ?_; (case hd => rfl); (case hg => rfl); (case hr => first | (go_simp; done) | (go_simp; rfl)); intro gb62001 hg w18 hbox hb; have n0_ := Aside0.mk (below_step (by repeat (first | (with_reducible first | exact HB.out | apply below_alloc | apply pw_below_drewN | apply below_drew1) | exact HB.out)) hb); have n1_ := Aside0.mk (hbox); have n2_ := Aside0.mk ((by rw [hg]; exact (below_size (by repeat (first | (with_reducible first | exact HB.out | apply below_alloc | apply pw_below_drewN | apply below_drew1) | exact HB.out))) : w.heap.size ≤ gb62001)); have n3_ := Aside0.mk ((by rw [hg]; exact (below_size (by repeat (first | (with_reducible first | exact HB.out | apply below_alloc | apply pw_below_drewN | apply below_drew1) | exact HB.out))) : w.heap.size ≤ gb62001)); clear HB; have HB := n0_; have BK62001 := n1_; have GW62001 := n2_; have GE62001 := n3_; clear n0_ n1_ n2_ n3_; clear hb hbox hg; have hcz19_0 : w18.cell? ⟨gb62001, 0, none⟩ = some (.int .i64 a0_0) := (blk_cell BK62001.out 0).trans rfl; have hcz19_1 : w18.cell? ⟨gb62001, 1, none⟩ = some (.string a0_1) := (blk_cell BK62001.out 1).trans rfl; have hcz19_2 : w18.cell? ⟨gb62001, 2, none⟩ = some (.string a0_2) := (blk_cell BK62001.out 2).trans rfl; have hcz19_3 : w18.cell? ⟨gb62001, 3, none⟩ = some (.int .i64 a0_3) := (blk_cell BK62001.out 3).trans rfl; have hcz19_4 : w18.cell? ⟨gb62001, 4, none⟩ = some (.string a0_4) := (blk_cell BK62001.out 4).trans rfl; have hcz19_5 : w18.cell? ⟨gb62001, 5, none⟩ = some (.slice A0_5 l0_5.length c0_5) := (blk_cell BK62001.out 5).trans rfl; have hcz19_6 : w18.cell? ⟨gb62001, 6, none⟩ = some (.slice A0_6 l0_6.length c0_6) := (blk_cell BK62001.out 6).trans rfl; have hcz19_7 : w18.cell? ⟨gb62001, 7, none⟩ = some (.int .i64 a0_7) := (blk_cell BK62001.out 7).trans rfl; have hfz19_0 := blk_frozen BK62001.out 0; have hfz19_1 := blk_frozen BK62001.out 1; have hfz19_2 := blk_frozen BK62001.out 2; have hfz19_3 := blk_frozen BK62001.out 3; have hfz19_4 := blk_frozen BK62001.out 4; have hfz19_5 := blk_frozen BK62001.out 5; have hfz19_6 := blk_frozen BK62001.out 6; have hfz19_7 := blk_frozen BK62001.out 7) | ((with_reducible refine gate_callee (f := 23) rfl ?_); refine goesL_ (some 7) rfl rfl Try.func23 (by kernel_rfl) rfl #[.agg #[.int .i64 a0_0, .string a0_1, .string a0_2, .int .i64 a0_3, .string a0_4, .slice A0_5 l0_5.length c0_5, .slice A0_6 l0_6.length c0_6, .int .i64 a0_7]] rfl (by (try simp only [List.map_toArray, List.map_cons, List.map_nil]); first | done | rfl | (simp only [List.length_drop, List.length_take]; rfl)) ?_; (with_reducible refine (impl_IsValidConstraint.calls k a0_0 a0_1 a0_2 a0_3 a0_4 _ _ l0_5 _ _ l0_6 a0_7 false _ ?side1 ?side2 ?side3 ?side4 A2.out).mono ?_); (case side1 => repeat (first | exact (Kd.C_below HR0_5.out HB.out) | (with_reducible refine Kd.C_alloc ?_ _) | (with_reducible refine Kd.C_drewN ?_ _) | (with_reducible refine Kd.C_drew ?_))); (case side2 => exact HC0_5.out); (case side3 => repeat (first | exact (Kd.C_below HR0_6.out HB.out) | (with_reducible refine Kd.C_alloc ?_ _) | (with_reducible refine Kd.C_drewN ?_ _) | (with_reducible refine Kd.C_drew ?_))); (case side4 => exact HC0_6.out); rintro e w20 ⟨rfl, hb⟩; refine ⟨_, rfl, ?_⟩; have n0_ := Aside0.mk (blk_below (g := gb62001) (o := .cells #[.int .i64 a0_0, .string a0_1, .string a0_2, .int .i64 a0_3, .string a0_4, .slice A0_5 l0_5.length c0_5, .slice A0_6 l0_6.length c0_6, .int .i64 a0_7] 44 (0, 0)) (by (with_reducible repeat (first | refine blk_drewN ?_ _ | refine blk_drew ?_ | refine blk_alloc ?_ _)); exact BK62001.out) hb); have n1_ := Aside0.mk (below_step (by repeat (first | (with_reducible first | exact HB.out | apply below_alloc | apply pw_below_drewN | apply below_drew1 | refine below_set ?_ GE62001.out) | exact HB.out)) hb); clear BK62001; clear HB; have BK62001 := n0_; have HB := n1_; clear n0_ n1_; (try clear hb); (try clear hb2); (try clear hk); (try clear hi)))
    go_ret
    exact ⟨by first | rfl | (simp [errW_none, errW_some] <;> rfl) | (simp [*, errW_none, errW_some] <;> rfl), by repeat (first | (with_reducible first | exact HB.out | apply below_alloc | apply pw_below_drewN | apply below_drew1 | refine below_set ?_ GE62001.out) | exact HB.out)⟩


end Go.Proofs.Ytpppopdmnejcfaa.A


namespace Go.Proofs.Ytpppopdmnejcfaa.A
open Go.RowKit Go.Proofs.Ytpppopdmnejcfaa.Ext Go.Proofs.YtpppopdmnejcfaaW.PrintWords Go.Proofs.YtpppopdmnejcfaaW.PrintLast Go.Proofs.YtpppopdmnejcfaaW.PrintMore
attribute [local go_sem] max2_int min2_int max_two min_two max_three min_three max_four min_four   -- for this text's walks alone
set_option linter.unusedVariables false
set_option linter.unusedSimpArgs false

/-! ### laws_FnExactVarsOfConstraint: function 8 -/
def laws_FnExactVarsOfConstraint.f (k : Nat) (a0_0 : Int) (a0_1 : ByteArray) (a0_2 : ByteArray) (a0_3 : Int) (a0_4 : ByteArray) (l0_5 : List (S34)) (l0_6 : List Int) (a0_7 : Int) : Option (Bool) := (laws_szConstraint.f k a0_0 a0_1 a0_2 a0_3 a0_4 l0_5 l0_6 a0_7 1048576).bind fun t8002 => (if t8002 < 0 then (some true) else ((laws_toConstraint.f k a0_0 a0_1 a0_2 a0_3 a0_4 l0_5 l0_6 a0_7).bind fun bt8003 => ((spec_VarsOfConstraint.f k bt8003.1 bt8003.2.1 bt8003.2.2.1 bt8003.2.2.2.1 bt8003.2.2.2.2.1 bt8003.2.2.2.2.2.1 bt8003.2.2.2.2.2.2.1 bt8003.2.2.2.2.2.2.2).bind fun t8015 => ((laws_toConstraint.f k a0_0 a0_1 a0_2 a0_3 a0_4 l0_5 l0_6 a0_7).bind fun bt8016 => ((impl_VarsOfConstraint.f k bt8016.1 bt8016.2.1 bt8016.2.2.1 bt8016.2.2.2.1 bt8016.2.2.2.2.1 bt8016.2.2.2.2.2.1 bt8016.2.2.2.2.2.2.1 bt8016.2.2.2.2.2.2.2).bind fun t8029 => (if t8029.toList = t8015.toList then ((laws_toConstraint.f k a0_0 a0_1 a0_2 a0_3 a0_4 l0_5 l0_6 a0_7).bind fun bt8030 => ((laws_eqConstraint.f k bt8016.1 bt8016.2.1 bt8016.2.2.1 bt8016.2.2.2.1 bt8016.2.2.2.2.1 bt8016.2.2.2.2.2.1 bt8016.2.2.2.2.2.2.1 bt8016.2.2.2.2.2.2.2 bt8030.1 bt8030.2.1 bt8030.2.2.1 bt8030.2.2.2.1 bt8030.2.2.2.2.1 bt8030.2.2.2.2.2.1 bt8030.2.2.2.2.2.2.1 bt8030.2.2.2.2.2.2.2).bind fun t8042 => (if t8042 = true then (some true) else (some false)))) else (some false)))))))
theorem laws_FnExactVarsOfConstraint.mono : ∀ a0 a1 a2 a3 a4 a5 a6 a7 k, LeO (laws_FnExactVarsOfConstraint.f k a0 a1 a2 a3 a4 a5 a6 a7) (laws_FnExactVarsOfConstraint.f (k + 1) a0 a1 a2 a3 a4 a5 a6 a7) := by
  intro a0 a1 a2 a3 a4 a5 a6 a7 k
  unfold laws_FnExactVarsOfConstraint.f
  repeat' first
      | (with_reducible exact impl_VarsOfConstraint.mono _ _ _ _ _ _ _ _ _)
      | (with_reducible exact laws_eqConstraint.mono _ _ _ _ _ _ _ _ _ _ _ _ _ _ _ _ _)
      | (with_reducible exact laws_szConstraint.mono _ _ _ _ _ _ _ _ _ _)
      | (with_reducible exact laws_toConstraint.mono _ _ _ _ _ _ _ _ _)
      | (with_reducible exact spec_VarsOfConstraint.mono _ _ _ _ _ _ _ _ _)
      | (with_reducible exact LeO.refl _)
      | (with_reducible exact LeO.none _)
      | (with_reducible refine LeO.ite ?_ ?_)
      | (with_reducible refine LeO.bind ?_ (fun _ => ?_))
      | exact impl_VarsOfConstraint.mono _ _ _ _ _ _ _ _ _
      | exact laws_eqConstraint.mono _ _ _ _ _ _ _ _ _ _ _ _ _ _ _ _ _
      | exact laws_szConstraint.mono _ _ _ _ _ _ _ _ _ _
      | exact laws_toConstraint.mono _ _ _ _ _ _ _ _ _
      | exact spec_VarsOfConstraint.mono _ _ _ _ _ _ _ _ _
      | exact LeO.none _
      | refine LeO.ite ?_ ?_
      | refine LeO.bind ?_ (fun _ => ?_)
set_option maxHeartbeats 8000000 in
set_option maxRecDepth 100000 in
theorem laws_FnExactVarsOfConstraint.calls (k : Nat) (a0_0 : Int) (a0_1 : ByteArray) (a0_2 : ByteArray) (a0_3 : Int) (a0_4 : ByteArray) (A0_5 : Option Addr) (c0_5 : Nat) (l0_5 : List (S34)) (A0_6 : Option Addr) (c0_6 : Nat) (l0_6 : List Int) (a0_7 : Int) (r : Bool) (w : World) (hr0_5 : Kd.C k34 w A0_5 l0_5.length l0_5) (hc0_5 : l0_5.length ≤ c0_5) (hr0_6 : Kd.C (Kd.int .i64) w A0_6 l0_6.length l0_6) (hc0_6 : l0_6.length ≤ c0_6) (h : laws_FnExactVarsOfConstraint.f k a0_0 a0_1 a0_2 a0_3 a0_4 l0_5 l0_6 a0_7 = some r) (hr_ : r = true) :
    Calls Try.prog 8 #[.agg #[.int .i64 a0_0, .string a0_1, .string a0_2, .int .i64 a0_3, .string a0_4, .slice A0_5 l0_5.length c0_5, .slice A0_6 l0_6.length c0_6, .int .i64 a0_7]] w fun e w' => e = .returned (.bool r) ∧ Below w.heap.size w w' := by
  have HRT_ := Aside0.mk hr_
  clear hr_
  have hu37 := Try.underlying37
  have hu44 := Try.underlying44
  have HR0_5 := Aside0.mk hr0_5
  have HC0_5 := Aside0.mk hc0_5
  clear hr0_5 hc0_5
  have HR0_6 := Aside0.mk hr0_6
  have HC0_6 := Aside0.mk hc0_6
  clear hr0_6 hc0_6
  have HB := Aside0.mk (Below.refl w.heap.size w)
  have H : ((laws_szConstraint.f k a0_0 a0_1 a0_2 a0_3 a0_4 l0_5 l0_6 a0_7 1048576).bind fun t8002 => (if t8002 < 0 then (some true) else ((laws_toConstraint.f k a0_0 a0_1 a0_2 a0_3 a0_4 l0_5 l0_6 a0_7).bind fun bt8003 => ((spec_VarsOfConstraint.f k bt8003.1 bt8003.2.1 bt8003.2.2.1 bt8003.2.2.2.1 bt8003.2.2.2.2.1 bt8003.2.2.2.2.2.1 bt8003.2.2.2.2.2.2.1 bt8003.2.2.2.2.2.2.2).bind fun t8015 => ((laws_toConstraint.f k a0_0 a0_1 a0_2 a0_3 a0_4 l0_5 l0_6 a0_7).bind fun bt8016 => ((impl_VarsOfConstraint.f k bt8016.1 bt8016.2.1 bt8016.2.2.1 bt8016.2.2.2.1 bt8016.2.2.2.2.1 bt8016.2.2.2.2.2.1 bt8016.2.2.2.2.2.2.1 bt8016.2.2.2.2.2.2.2).bind fun t8029 => (if t8029.toList = t8015.toList then ((laws_toConstraint.f k a0_0 a0_1 a0_2 a0_3 a0_4 l0_5 l0_6 a0_7).bind fun bt8030 => ((laws_eqConstraint.f k bt8016.1 bt8016.2.1 bt8016.2.2.1 bt8016.2.2.2.1 bt8016.2.2.2.2.1 bt8016.2.2.2.2.2.1 bt8016.2.2.2.2.2.2.1 bt8016.2.2.2.2.2.2.2 bt8030.1 bt8030.2.1 bt8030.2.2.1 bt8030.2.2.2.1 bt8030.2.2.2.2.1 bt8030.2.2.2.2.2.1 bt8030.2.2.2.2.2.2.1 bt8030.2.2.2.2.2.2.2).bind fun t8042 => (if t8042 = true then (some true) else (some false)))) else (some false)))))))) = some r := h
  clear h
  replace H := Option.bind_eq_some_iff.mp H
  obtain ⟨t8002, A20, H⟩ := H
  replace H : (if t8002 < 0 then (some true) else ((laws_toConstraint.f k a0_0 a0_1 a0_2 a0_3 a0_4 l0_5 l0_6 a0_7).bind fun bt8003 => ((spec_VarsOfConstraint.f k bt8003.1 bt8003.2.1 bt8003.2.2.1 bt8003.2.2.2.1 bt8003.2.2.2.2.1 bt8003.2.2.2.2.2.1 bt8003.2.2.2.2.2.2.1 bt8003.2.2.2.2.2.2.2).bind fun t8015 => ((laws_toConstraint.f k a0_0 a0_1 a0_2 a0_3 a0_4 l0_5 l0_6 a0_7).bind fun bt8016 => ((impl_VarsOfConstraint.f k bt8016.1 bt8016.2.1 bt8016.2.2.1 bt8016.2.2.2.1 bt8016.2.2.2.2.1 bt8016.2.2.2.2.2.1 bt8016.2.2.2.2.2.2.1 bt8016.2.2.2.2.2.2.2).bind fun t8029 => (if t8029.toList = t8015.toList then ((laws_toConstraint.f k a0_0 a0_1 a0_2 a0_3 a0_4 l0_5 l0_6 a0_7).bind fun bt8030 => ((laws_eqConstraint.f k bt8016.1 bt8016.2.1 bt8016.2.2.1 bt8016.2.2.2.1 bt8016.2.2.2.2.1 bt8016.2.2.2.2.2.1 bt8016.2.2.2.2.2.2.1 bt8016.2.2.2.2.2.2.2 bt8030.1 bt8030.2.1 bt8030.2.2.1 bt8030.2.2.2.1 bt8030.2.2.2.2.1 bt8030.2.2.2.2.2.1 bt8030.2.2.2.2.2.2.1 bt8030.2.2.2.2.2.2.2).bind fun t8042 => (if t8042 = true then (some true) else (some false)))) else (some false))))))) = some r := H
  have A2 := Aside0.mk A20
  clear A20
  by_cases c3 : t8002 < 0
  · rw [if_pos c3] at H
    have c3b0 : decide (t8002 < 0) = true := decide_eq_true c3
    clear c3
    obtain rfl := Option.some.inj H
    go_enter Try.func8, Try.ntmps8
    go_wp2_with (first | ((with_reducible refine gate_dst (N := 1) rfl ?_); refine box_event ?hg (N := 1) ?hd (cs := #[.int .i64 a0_0, .string a0_1, .string a0_2, .int .i64 a0_3, .string a0_4, .slice A0_5 l0_5.length c0_5, .slice A0_6 l0_6.length c0_6, .int .i64 a0_7]) (t := 37) ?hr ?_; (case hd => rfl); (case hg => rfl); (case hr => first | (go_simp; done) | (go_simp; rfl)); intro gb8001 hg w4 hbox hb; have n0_ := Aside0.mk (below_step (by repeat (first | (with_reducible first | exact HB.out | apply below_alloc | apply pw_below_drewN | apply below_drew1) | exact HB.out)) hb); have n1_ := Aside0.mk (hbox); have n2_ := Aside0.mk ((by rw [hg]; exact (below_size (by repeat (first | (with_reducible first | exact HB.out | apply below_alloc | apply pw_below_drewN | apply below_drew1) | exact HB.out))) : w.heap.size ≤ gb8001)); have n3_ := Aside0.mk ((by rw [hg]; exact (below_size (by repeat (first | (with_reducible first | exact HB.out | apply below_alloc | apply pw_below_drewN | apply below_drew1) | exact HB.out))) : w.heap.size ≤ gb8001)); clear HB; have HB := n0_; have BK8001 := n1_; have GW8001 := n2_; have GE8001 := n3_; clear n0_ n1_ n2_ n3_; clear hb hbox hg; have hcz5_0 : w4.cell? ⟨gb8001, 0, none⟩ = some (.int .i64 a0_0) := (blk_cell BK8001.out 0).trans rfl; have hcz5_1 : w4.cell? ⟨gb8001, 1, none⟩ = some (.string a0_1) := (blk_cell BK8001.out 1).trans rfl; have hcz5_2 : w4.cell? ⟨gb8001, 2, none⟩ = some (.string a0_2) := (blk_cell BK8001.out 2).trans rfl; have hcz5_3 : w4.cell? ⟨gb8001, 3, none⟩ = some (.int .i64 a0_3) := (blk_cell BK8001.out 3).trans rfl; have hcz5_4 : w4.cell? ⟨gb8001, 4, none⟩ = some (.string a0_4) := (blk_cell BK8001.out 4).trans rfl; have hcz5_5 : w4.cell? ⟨gb8001, 5, none⟩ = some (.slice A0_5 l0_5.length c0_5) := (blk_cell BK8001.out 5).trans rfl; have hcz5_6 : w4.cell? ⟨gb8001, 6, none⟩ = some (.slice A0_6 l0_6.length c0_6) := (blk_cell BK8001.out 6).trans rfl; have hcz5_7 : w4.cell? ⟨gb8001, 7, none⟩ = some (.int .i64 a0_7) := (blk_cell BK8001.out 7).trans rfl; have hfz5_0 := blk_frozen BK8001.out 0; have hfz5_1 := blk_frozen BK8001.out 1; have hfz5_2 := blk_frozen BK8001.out 2; have hfz5_3 := blk_frozen BK8001.out 3; have hfz5_4 := blk_frozen BK8001.out 4; have hfz5_5 := blk_frozen BK8001.out 5; have hfz5_6 := blk_frozen BK8001.out 6; have hfz5_7 := blk_frozen BK8001.out 7) | ((with_reducible refine gate_callee (f := 20) rfl ?_); refine goesL_ (some 9) rfl rfl Try.func20 (by kernel_rfl) rfl #[.agg #[.int .i64 a0_0, .string a0_1, .string a0_2, .int .i64 a0_3, .string a0_4, .slice A0_5 l0_5.length c0_5, .slice A0_6 l0_6.length c0_6, .int .i64 a0_7], .int .i64 1048576] rfl (by (try simp only [List.map_toArray, List.map_cons, List.map_nil]); first | done | rfl | (simp only [List.length_drop, List.length_take]; rfl)) ?_; (with_reducible refine (laws_szConstraint.calls k a0_0 a0_1 a0_2 a0_3 a0_4 _ _ l0_5 _ _ l0_6 a0_7 1048576 t8002 _ ?side1 ?side2 ?side3 ?side4 A2.out).mono ?_); (case side1 => repeat (first | exact (Kd.C_below HR0_5.out HB.out) | (with_reducible refine Kd.C_alloc ?_ _) | (with_reducible refine Kd.C_drewN ?_ _) | (with_reducible refine Kd.C_drew ?_))); (case side2 => exact HC0_5.out); (case side3 => repeat (first | exact (Kd.C_below HR0_6.out HB.out) | (with_reducible refine Kd.C_alloc ?_ _) | (with_reducible refine Kd.C_drewN ?_ _) | (with_reducible refine Kd.C_drew ?_))); (case side4 => exact HC0_6.out); rintro e w6 ⟨rfl, hb⟩; refine ⟨_, rfl, ?_⟩; have n0_ := Aside0.mk (blk_below (g := gb8001) (o := .cells #[.int .i64 a0_0, .string a0_1, .string a0_2, .int .i64 a0_3, .string a0_4, .slice A0_5 l0_5.length c0_5, .slice A0_6 l0_6.length c0_6, .int .i64 a0_7] 37 (0, 0)) (by (with_reducible repeat (first | refine blk_drewN ?_ _ | refine blk_drew ?_ | refine blk_alloc ?_ _)); exact BK8001.out) hb); have n1_ := Aside0.mk (below_step (by repeat (first | (with_reducible first | exact HB.out | apply below_alloc | apply pw_below_drewN | apply below_drew1 | refine below_set ?_ GE8001.out) | exact HB.out)) hb); clear BK8001; clear HB; have BK8001 := n0_; have HB := n1_; clear n0_ n1_; (try clear hb); (try clear hb2); (try clear hk); (try clear hi)))
    go_ret
    exact ⟨by first | rfl | (simp [errW_none, errW_some] <;> rfl) | (simp [*, errW_none, errW_some] <;> rfl), by repeat (first | (with_reducible first | exact HB.out | apply below_alloc | apply pw_below_drewN | apply below_drew1 | refine below_set ?_ GE8001.out) | exact HB.out)⟩
  · rw [if_neg c3] at H
    have c3b0 : decide (t8002 < 0) = false := decide_eq_false c3
    clear c3
    replace H := Option.bind_eq_some_iff.mp H
    obtain ⟨⟨t8003, t8004, t8005, t8006, t8007, t8008, t8011, t8014⟩, A70, H⟩ := H
    replace H : ((spec_VarsOfConstraint.f k t8003 t8004 t8005 t8006 t8007 t8008 t8011 t8014).bind fun t8015 => ((laws_toConstraint.f k a0_0 a0_1 a0_2 a0_3 a0_4 l0_5 l0_6 a0_7).bind fun bt8016 => ((impl_VarsOfConstraint.f k bt8016.1 bt8016.2.1 bt8016.2.2.1 bt8016.2.2.2.1 bt8016.2.2.2.2.1 bt8016.2.2.2.2.2.1 bt8016.2.2.2.2.2.2.1 bt8016.2.2.2.2.2.2.2).bind fun t8029 => (if t8029.toList = t8015.toList then ((laws_toConstraint.f k a0_0 a0_1 a0_2 a0_3 a0_4 l0_5 l0_6 a0_7).bind fun bt8030 => ((laws_eqConstraint.f k bt8016.1 bt8016.2.1 bt8016.2.2.1 bt8016.2.2.2.1 bt8016.2.2.2.2.1 bt8016.2.2.2.2.2.1 bt8016.2.2.2.2.2.2.1 bt8016.2.2.2.2.2.2.2 bt8030.1 bt8030.2.1 bt8030.2.2.1 bt8030.2.2.2.1 bt8030.2.2.2.2.1 bt8030.2.2.2.2.2.1 bt8030.2.2.2.2.2.2.1 bt8030.2.2.2.2.2.2.2).bind fun t8042 => (if t8042 = true then (some true) else (some false)))) else (some false))))) = some r := H
    have A7 := Aside0.mk A70
    clear A70
    replace H := Option.bind_eq_some_iff.mp H
    obtain ⟨t8015, A80, H⟩ := H
    replace H : ((laws_toConstraint.f k a0_0 a0_1 a0_2 a0_3 a0_4 l0_5 l0_6 a0_7).bind fun bt8016 => ((impl_VarsOfConstraint.f k bt8016.1 bt8016.2.1 bt8016.2.2.1 bt8016.2.2.2.1 bt8016.2.2.2.2.1 bt8016.2.2.2.2.2.1 bt8016.2.2.2.2.2.2.1 bt8016.2.2.2.2.2.2.2).bind fun t8029 => (if t8029.toList = t8015.toList then ((laws_toConstraint.f k a0_0 a0_1 a0_2 a0_3 a0_4 l0_5 l0_6 a0_7).bind fun bt8030 => ((laws_eqConstraint.f k bt8016.1 bt8016.2.1 bt8016.2.2.1 bt8016.2.2.2.1 bt8016.2.2.2.2.1 bt8016.2.2.2.2.2.1 bt8016.2.2.2.2.2.2.1 bt8016.2.2.2.2.2.2.2 bt8030.1 bt8030.2.1 bt8030.2.2.1 bt8030.2.2.2.1 bt8030.2.2.2.2.1 bt8030.2.2.2.2.2.1 bt8030.2.2.2.2.2.2.1 bt8030.2.2.2.2.2.2.2).bind fun t8042 => (if t8042 = true then (some true) else (some false)))) else (some false)))) = some r := H
    have A8 := Aside0.mk A80
    clear A80
    replace H := Option.bind_eq_some_iff.mp H
    obtain ⟨⟨t8016, t8017, t8018, t8019, t8020, t8021, t8024, t8027⟩, A90, H⟩ := H
    replace H : ((impl_VarsOfConstraint.f k t8016 t8017 t8018 t8019 t8020 t8021 t8024 t8027).bind fun t8029 => (if t8029.toList = t8015.toList then ((laws_toConstraint.f k a0_0 a0_1 a0_2 a0_3 a0_4 l0_5 l0_6 a0_7).bind fun bt8030 => ((laws_eqConstraint.f k t8016 t8017 t8018 t8019 t8020 t8021 t8024 t8027 bt8030.1 bt8030.2.1 bt8030.2.2.1 bt8030.2.2.2.1 bt8030.2.2.2.2.1 bt8030.2.2.2.2.2.1 bt8030.2.2.2.2.2.2.1 bt8030.2.2.2.2.2.2.2).bind fun t8042 => (if t8042 = true then (some true) else (some false)))) else (some false))) = some r := H
    have A9 := Aside0.mk A90
    clear A90
    replace H := Option.bind_eq_some_iff.mp H
    obtain ⟨t8029, A100, H⟩ := H
    replace H : (if t8029.toList = t8015.toList then ((laws_toConstraint.f k a0_0 a0_1 a0_2 a0_3 a0_4 l0_5 l0_6 a0_7).bind fun bt8030 => ((laws_eqConstraint.f k t8016 t8017 t8018 t8019 t8020 t8021 t8024 t8027 bt8030.1 bt8030.2.1 bt8030.2.2.1 bt8030.2.2.2.1 bt8030.2.2.2.2.1 bt8030.2.2.2.2.2.1 bt8030.2.2.2.2.2.2.1 bt8030.2.2.2.2.2.2.2).bind fun t8042 => (if t8042 = true then (some true) else (some false)))) else (some false)) = some r := H
    have A10 := Aside0.mk A100
    clear A100
    by_cases c11 : t8029.toList = t8015.toList
    · rw [if_pos c11] at H
      have c11b0 : (t8029.toList == t8015.toList) = true := beq_iff_eq.mpr c11
      have c11b1 : (t8029.toList != t8015.toList) = false := bne_eq_false_iff_eq.mpr c11
      clear c11
      replace H := Option.bind_eq_some_iff.mp H
      obtain ⟨⟨t8030, t8031, t8032, t8033, t8034, t8035, t8038, t8041⟩, A120, H⟩ := H
      replace H : ((laws_eqConstraint.f k t8016 t8017 t8018 t8019 t8020 t8021 t8024 t8027 t8030 t8031 t8032 t8033 t8034 t8035 t8038 t8041).bind fun t8042 => (if t8042 = true then (some true) else (some false))) = some r := H
      have A12 := Aside0.mk A120
      clear A120
      replace H := Option.bind_eq_some_iff.mp H
      obtain ⟨t8042, A130, H⟩ := H
      replace H : (if t8042 = true then (some true) else (some false)) = some r := H
      have A13 := Aside0.mk A130
      clear A130
      by_cases c14 : t8042 = true
      · subst c14
        have H1 : (some true) = some r := by rw [if_pos rfl] at H; exact H
        clear H
        have H := H1
        clear H1
        obtain rfl := Option.some.inj H
        go_enter Try.func8, Try.ntmps8
        try go_wp2_with (first | ((with_reducible refine gate_dst (N := 1) rfl ?_); refine box_event ?hg (N := 1) ?hd (cs := #[.int .i64 a0_0, .string a0_1, .string a0_2, .int .i64 a0_3, .string a0_4, .slice A0_5 l0_5.length c0_5, .slice A0_6 l0_6.length c0_6, .int .i64 a0_7]) (t := 37) ?hr ?_; (case hd => rfl); (case hg => rfl); (case hr => first | (go_simp; done) | (go_simp; rfl)); intro gb8001 hg w15 hbox hb; have n0_ := Aside0.mk (below_step (by repeat (first | (with_reducible first | exact HB.out | apply below_alloc | apply pw_below_drewN | apply below_drew1) | exact HB.out)) hb); have n1_ := Aside0.mk (hbox); have n2_ := Aside0.mk ((by rw [hg]; exact (below_size (by repeat (first | (with_reducible first | exact HB.out | apply below_alloc | apply pw_below_drewN | apply below_drew1) | exact HB.out))) : w.heap.size ≤ gb8001)); have n3_ := Aside0.mk ((by rw [hg]; exact (below_size (by repeat (first | (with_reducible first | exact HB.out | apply below_alloc | apply pw_below_drewN | apply below_drew1) | exact HB.out))) : w.heap.size ≤ gb8001)); clear HB; have HB := n0_; have BK8001 := n1_; have GW8001 := n2_; have GE8001 := n3_; clear n0_ n1_ n2_ n3_; clear hb hbox hg; have hcz16_0 : w15.cell? ⟨gb8001, 0, none⟩ = some (.int .i64 a0_0) := (blk_cell BK8001.out 0).trans rfl; have hcz16_1 : w15.cell? ⟨gb8001, 1, none⟩ = some (.string a0_1) := (blk_cell BK8001.out 1).trans rfl; have hcz16_2 : w15.cell? ⟨gb8001, 2, none⟩ = some (.string a0_2) := (blk_cell BK8001.out 2).trans rfl; have hcz16_3 : w15.cell? ⟨gb8001, 3, none⟩ = some (.int .i64 a0_3) := (blk_cell BK8001.out 3).trans rfl; have hcz16_4 : w15.cell? ⟨gb8001, 4, none⟩ = some (.string a0_4) := (blk_cell BK8001.out 4).trans rfl; have hcz16_5 : w15.cell? ⟨gb8001, 5, none⟩ = some (.slice A0_5 l0_5.length c0_5) := (blk_cell BK8001.out 5).trans rfl; have hcz16_6 : w15.cell? ⟨gb8001, 6, none⟩ = some (.slice A0_6 l0_6.length c0_6) := (blk_cell BK8001.out 6).trans rfl; have hcz16_7 : w15.cell? ⟨gb8001, 7, none⟩ = some (.int .i64 a0_7) := (blk_cell BK8001.out 7).trans rfl; have hfz16_0 := blk_frozen BK8001.out 0; have hfz16_1 := blk_frozen BK8001.out 1; have hfz16_2 := blk_frozen BK8001.out 2; have hfz16_3 := blk_frozen BK8001.out 3; have hfz16_4 := blk_frozen BK8001.out 4; have hfz16_5 := blk_frozen BK8001.out 5; have hfz16_6 := blk_frozen BK8001.out 6; have hfz16_7 := blk_frozen BK8001.out 7) | ((with_reducible refine gate_callee (f := 20) rfl ?_); refine goesL_ (some 9) rfl rfl Try.func20 (by kernel_rfl) rfl #[.agg #[.int .i64 a0_0, .string a0_1, .string a0_2, .int .i64 a0_3, .string a0_4, .slice A0_5 l0_5.length c0_5, .slice A0_6 l0_6.length c0_6, .int .i64 a0_7], .int .i64 1048576] rfl (by (try simp only [List.map_toArray, List.map_cons, List.map_nil]); first | done | rfl | (simp only [List.length_drop, List.length_take]; rfl)) ?_; (with_reducible refine (laws_szConstraint.calls k a0_0 a0_1 a0_2 a0_3 a0_4 _ _ l0_5 _ _ l0_6 a0_7 1048576 t8002 _ ?side1 ?side2 ?side3 ?side4 A2.out).mono ?_); (case side1 => repeat (first | exact (Kd.C_below HR0_5.out HB.out) | (with_reducible refine Kd.C_alloc ?_ _) | (with_reducible refine Kd.C_drewN ?_ _) | (with_reducible refine Kd.C_drew ?_))); (case side2 => exact HC0_5.out); (case side3 => repeat (first | exact (Kd.C_below HR0_6.out HB.out) | (with_reducible refine Kd.C_alloc ?_ _) | (with_reducible refine Kd.C_drewN ?_ _) | (with_reducible refine Kd.C_drew ?_))); (case side4 => exact HC0_6.out); rintro e w17 ⟨rfl, hb⟩; refine ⟨_, rfl, ?_⟩; have n0_ := Aside0.mk (blk_below (g := gb8001) (o := .cells #[.int .i64 a0_0, .string a0_1, .string a0_2, .int .i64 a0_3, .string a0_4, .slice A0_5 l0_5.length c0_5, .slice A0_6 l0_6.length c0_6, .int .i64 a0_7] 37 (0, 0)) (by (with_reducible repeat (first | refine blk_drewN ?_ _ | refine blk_drew ?_ | refine blk_alloc ?_ _)); exact BK8001.out) hb); have n1_ := Aside0.mk (below_step (by repeat (first | (with_reducible first | exact HB.out | apply below_alloc | apply pw_below_drewN | apply below_drew1 | refine below_set ?_ GE8001.out) | exact HB.out)) hb); clear BK8001; clear HB; have BK8001 := n0_; have HB := n1_; clear n0_ n1_; (try clear hb); (try clear hb2); (try clear hk); (try clear hi); have hcz18_0 : w17.cell? ⟨gb8001, 0, none⟩ = some (.int .i64 a0_0) := (blk_cell BK8001.out 0).trans rfl; have hcz18_1 : w17.cell? ⟨gb8001, 1, none⟩ = some (.string a0_1) := (blk_cell BK8001.out 1).trans rfl; have hcz18_2 : w17.cell? ⟨gb8001, 2, none⟩ = some (.string a0_2) := (blk_cell BK8001.out 2).trans rfl; have hcz18_3 : w17.cell? ⟨gb8001, 3, none⟩ = some (.int .i64 a0_3) := (blk_cell BK8001.out 3).trans rfl; have hcz18_4 : w17.cell? ⟨gb8001, 4, none⟩ = some (.string a0_4) := (blk_cell BK8001.out 4).trans rfl; have hcz18_5 : w17.cell? ⟨gb8001, 5, none⟩ = some (.slice A0_5 l0_5.length c0_5) := (blk_cell BK8001.out 5).trans rfl; have hcz18_6 : w17.cell? ⟨gb8001, 6, none⟩ = some (.slice A0_6 l0_6.length c0_6) := (blk_cell BK8001.out 6).trans rfl; have hcz18_7 : w17.cell? ⟨gb8001, 7, none⟩ = some (.int .i64 a0_7) := (blk_cell BK8001.out 7).trans rfl; have hfz18_0 := blk_frozen BK8001.out 0; have hfz18_1 := blk_frozen BK8001.out 1; have hfz18_2 := blk_frozen BK8001.out 2; have hfz18_3 := blk_frozen BK8001.out 3; have hfz18_4 := blk_frozen BK8001.out 4; have hfz18_5 := blk_frozen BK8001.out 5; have hfz18_6 := blk_frozen BK8001.out 6; have hfz18_7 := blk_frozen BK8001.out 7) | ((with_reducible refine gate_callee (f := 22) rfl ?_); refine goesL_ (some 13) rfl rfl Try.func22 (by kernel_rfl) rfl #[.agg #[.int .i64 a0_0, .string a0_1, .string a0_2, .int .i64 a0_3, .string a0_4, .slice A0_5 l0_5.length c0_5, .slice A0_6 l0_6.length c0_6, .int .i64 a0_7]] rfl (by (try simp only [List.map_toArray, List.map_cons, List.map_nil]); first | done | rfl | (simp only [List.length_drop, List.length_take]; rfl)) ?_; (with_reducible refine (laws_toConstraint.calls k a0_0 a0_1 a0_2 a0_3 a0_4 _ _ l0_5 _ _ l0_6 a0_7 t8003 t8004 t8005 t8006 t8007 t8008 t8011 t8014 _ ?side1 ?side2 ?side3 ?side4 A7.out).mono ?_); (case side1 => repeat (first | exact (Kd.C_below HR0_5.out HB.out) | (with_reducible refine Kd.C_alloc ?_ _) | (with_reducible refine Kd.C_drewN ?_ _) | (with_reducible refine Kd.C_drew ?_))); (case side2 => exact HC0_5.out); (case side3 => repeat (first | exact (Kd.C_below HR0_6.out HB.out) | (with_reducible refine Kd.C_alloc ?_ _) | (with_reducible refine Kd.C_drewN ?_ _) | (with_reducible refine Kd.C_drew ?_))); (case side4 => exact HC0_6.out); rintro e w19 ⟨v8009, v8012, rfl, ho0, ho1, hb⟩; refine ⟨_, rfl, ?_⟩; have n0_ := Aside0.mk (Kd.R_lower ho0 (below_size (by repeat (first | (with_reducible first | exact HB.out | apply below_alloc | apply pw_below_drewN | apply below_drew1 | refine below_set ?_ GE8001.out) | exact HB.out)))); have n1_ := Aside0.mk (Kd.R_lower ho1 (below_size (by repeat (first | (with_reducible first | exact HB.out | apply below_alloc | apply pw_below_drewN | apply below_drew1 | refine below_set ?_ GE8001.out) | exact HB.out)))); have n2_ := Aside0.mk (blk_below (g := gb8001) (o := .cells #[.int .i64 a0_0, .string a0_1, .string a0_2, .int .i64 a0_3, .string a0_4, .slice A0_5 l0_5.length c0_5, .slice A0_6 l0_6.length c0_6, .int .i64 a0_7] 37 (0, 0)) (by (with_reducible repeat (first | refine blk_drewN ?_ _ | refine blk_drew ?_ | refine blk_alloc ?_ _)); exact BK8001.out) hb); have n3_ := Aside0.mk (below_step (by repeat (first | (with_reducible first | exact HB.out | apply below_alloc | apply pw_below_drewN | apply below_drew1 | refine below_set ?_ GE8001.out) | exact HB.out)) hb); clear BK8001; clear HB; have HO8010 := n0_; have HO8013 := n1_; have BK8001 := n2_; have HB := n3_; clear n0_ n1_ n2_ n3_; (try clear hb); (try clear hb2); (try clear hk); (try clear hi); (try clear ho0); (try clear ho1); obtain ⟨Ao20, co20, eo20⟩ := Kd.R_slice HO8010.out; subst eo20; obtain ⟨Ao21, co21, eo21⟩ := Kd.R_slice HO8013.out; subst eo21) | ((with_reducible refine gate_callee (f := 61) rfl ?_); refine goesL_ (some 14) rfl rfl Try.func61 (by kernel_rfl) rfl #[.agg #[.int .i64 t8003, .string t8004, .string t8005, .int .i64 t8006, .string t8007, .slice Ao20 t8008.length co20, .slice Ao21 t8011.length co21, .int .i64 t8014]] rfl (by (try simp only [List.map_toArray, List.map_cons, List.map_nil]); first | done | rfl | (simp only [List.length_drop, List.length_take]; rfl)) ?_; (with_reducible refine (spec_VarsOfConstraint.calls k t8003 t8004 t8005 t8006 t8007 _ _ t8008 _ _ t8011 t8014 t8015 _ ?side1 ?side2 ?side3 ?side4 A8.out).mono ?_); (case side1 => repeat (first | exact (Kd.R_reads' HO8010.out).2.2 | (with_reducible refine Kd.C_alloc ?_ _) | (with_reducible refine Kd.C_drewN ?_ _) | (with_reducible refine Kd.C_drew ?_))); (case side2 => exact (Kd.R_reads' HO8010.out).2.1); (case side3 => repeat (first | exact (Kd.R_reads' HO8013.out).2.2 | (with_reducible refine Kd.C_alloc ?_ _) | (with_reducible refine Kd.C_drewN ?_ _) | (with_reducible refine Kd.C_drew ?_))); (case side4 => exact (Kd.R_reads' HO8013.out).2.1); rintro e w22 ⟨rfl, hb⟩; refine ⟨_, rfl, ?_⟩; have n0_ := Aside0.mk (Kd.R_below (by (with_reducible repeat (first | apply Kd.R_alloc | apply Kd.R_drewN | apply Kd.R_drew)); exact HO8010.out) hb); have n1_ := Aside0.mk (Kd.R_below (by (with_reducible repeat (first | apply Kd.R_alloc | apply Kd.R_drewN | apply Kd.R_drew)); exact HO8013.out) hb); have n2_ := Aside0.mk (blk_below (g := gb8001) (o := .cells #[.int .i64 a0_0, .string a0_1, .string a0_2, .int .i64 a0_3, .string a0_4, .slice A0_5 l0_5.length c0_5, .slice A0_6 l0_6.length c0_6, .int .i64 a0_7] 37 (0, 0)) (by (with_reducible repeat (first | refine blk_drewN ?_ _ | refine blk_drew ?_ | refine blk_alloc ?_ _)); exact BK8001.out) hb); have n3_ := Aside0.mk (below_step (by repeat (first | (with_reducible first | exact HB.out | apply below_alloc | apply pw_below_drewN | apply below_drew1 | refine below_set ?_ GE8001.out) | exact HB.out)) hb); clear HO8010; clear HO8013; clear BK8001; clear HB; have HO8010 := n0_; have HO8013 := n1_; have BK8001 := n2_; have HB := n3_; clear n0_ n1_ n2_ n3_; (try clear hb); (try clear hb2); (try clear hk); (try clear hi); have hcz23_0 : w22.cell? ⟨gb8001, 0, none⟩ = some (.int .i64 a0_0) := (blk_cell BK8001.out 0).trans rfl; have hcz23_1 : w22.cell? ⟨gb8001, 1, none⟩ = some (.string a0_1) := (blk_cell BK8001.out 1).trans rfl; have hcz23_2 : w22.cell? ⟨gb8001, 2, none⟩ = some (.string a0_2) := (blk_cell BK8001.out 2).trans rfl; have hcz23_3 : w22.cell? ⟨gb8001, 3, none⟩ = some (.int .i64 a0_3) := (blk_cell BK8001.out 3).trans rfl; have hcz23_4 : w22.cell? ⟨gb8001, 4, none⟩ = some (.string a0_4) := (blk_cell BK8001.out 4).trans rfl; have hcz23_5 : w22.cell? ⟨gb8001, 5, none⟩ = some (.slice A0_5 l0_5.length c0_5) := (blk_cell BK8001.out 5).trans rfl; have hcz23_6 : w22.cell? ⟨gb8001, 6, none⟩ = some (.slice A0_6 l0_6.length c0_6) := (blk_cell BK8001.out 6).trans rfl; have hcz23_7 : w22.cell? ⟨gb8001, 7, none⟩ = some (.int .i64 a0_7) := (blk_cell BK8001.out 7).trans rfl; have hfz23_0 := blk_frozen BK8001.out 0; have hfz23_1 := blk_frozen BK8001.out 1; have hfz23_2 := blk_frozen BK8001.out 2; have hfz23_3 := blk_frozen BK8001.out 3; have hfz23_4 := blk_frozen BK8001.out 4; have hfz23_5 := blk_frozen BK8001.out 5; have hfz23_6 := blk_frozen BK8001.out 6; have hfz23_7 := blk_frozen BK8001.out 7) | ((with_reducible refine gate_callee (f := 22) rfl ?_); refine goesL_ (some 16) rfl rfl Try.func22 (by kernel_rfl) rfl #[.agg #[.int .i64 a0_0, .string a0_1, .string a0_2, .int .i64 a0_3, .string a0_4, .slice A0_5 l0_5.length c0_5, .slice A0_6 l0_6.length c0_6, .int .i64 a0_7]] rfl (by (try simp only [List.map_toArray, List.map_cons, List.map_nil]); first | done | rfl | (simp only [List.length_drop, List.length_take]; rfl)) ?_; (with_reducible refine (laws_toConstraint.calls k a0_0 a0_1 a0_2 a0_3 a0_4 _ _ l0_5 _ _ l0_6 a0_7 t8016 t8017 t8018 t8019 t8020 t8021 t8024 t8027 _ ?side1 ?side2 ?side3 ?side4 A9.out).mono ?_); (case side1 => repeat (first | exact (Kd.C_below HR0_5.out HB.out) | (with_reducible refine Kd.C_alloc ?_ _) | (with_reducible refine Kd.C_drewN ?_ _) | (with_reducible refine Kd.C_drew ?_))); (case side2 => exact HC0_5.out); (case side3 => repeat (first | exact (Kd.C_below HR0_6.out HB.out) | (with_reducible refine Kd.C_alloc ?_ _) | (with_reducible refine Kd.C_drewN ?_ _) | (with_reducible refine Kd.C_drew ?_))); (case side4 => exact HC0_6.out); rintro e w24 ⟨v8022, v8025, rfl, ho0, ho1, hb⟩; refine ⟨_, rfl, ?_⟩; have n0_ := Aside0.mk (Kd.R_elder' (by (with_reducible repeat (first | apply Kd.R_alloc | apply Kd.R_drewN | apply Kd.R_drew)); exact HO8010.out) (Kd.R_base ho0) hb); have n1_ := Aside0.mk (Kd.R_elder' (by (with_reducible repeat (first | apply Kd.R_alloc | apply Kd.R_drewN | apply Kd.R_drew)); exact HO8013.out) (Kd.R_base ho1) hb); have n2_ := Aside0.mk (Kd.R_lower (Kd.R_new' ho0 (Kd.R_lt (by (with_reducible repeat (first | apply Kd.R_alloc | apply Kd.R_drewN | apply Kd.R_drew)); exact HO8010.out))) (below_size (by repeat (first | (with_reducible first | exact HB.out | apply below_alloc | apply pw_below_drewN | apply below_drew1 | refine below_set ?_ GE8001.out) | exact HB.out)))); have n3_ := Aside0.mk (Kd.R_lower (Kd.R_new' ho1 (Kd.R_lt (by (with_reducible repeat (first | apply Kd.R_alloc | apply Kd.R_drewN | apply Kd.R_drew)); exact HO8013.out))) (below_size (by repeat (first | (with_reducible first | exact HB.out | apply below_alloc | apply pw_below_drewN | apply below_drew1 | refine below_set ?_ GE8001.out) | exact HB.out)))); have n4_ := Aside0.mk (blk_below (g := gb8001) (o := .cells #[.int .i64 a0_0, .string a0_1, .string a0_2, .int .i64 a0_3, .string a0_4, .slice A0_5 l0_5.length c0_5, .slice A0_6 l0_6.length c0_6, .int .i64 a0_7] 37 (0, 0)) (by (with_reducible repeat (first | refine blk_drewN ?_ _ | refine blk_drew ?_ | refine blk_alloc ?_ _)); exact BK8001.out) hb); have n5_ := Aside0.mk (below_step (by repeat (first | (with_reducible first | exact HB.out | apply below_alloc | apply pw_below_drewN | apply below_drew1 | refine below_set ?_ GE8001.out) | exact HB.out)) hb); clear HO8010; clear HO8013; clear BK8001; clear HB; have HO8010 := n0_; have HO8013 := n1_; have HO8023 := n2_; have HO8026 := n3_; have BK8001 := n4_; have HB := n5_; clear n0_ n1_ n2_ n3_ n4_ n5_; (try clear hb); (try clear hb2); (try clear hk); (try clear hi); (try clear ho0); (try clear ho1)) | ((with_reducible refine gate_dst (N := 5) rfl ?_); refine box_event ?hg (N := 5) ?hd (cs := #[.int .i64 0, .string (⟨#[]⟩ : ByteArray), .string (⟨#[]⟩ : ByteArray), .int .i64 0, .string (⟨#[]⟩ : ByteArray), .slice none 0 0, .slice none 0 0, .int .i64 0]) (t := 44) ?hr ?_; (case hd => rfl); (case hg => rfl); (case hr => first | (go_simp; done) | (go_simp; rfl)); intro gb8028 hg w25 hbox hb; have n0_ := Aside0.mk (Kd.R_below (by (with_reducible repeat (first | apply Kd.R_alloc | apply Kd.R_drewN | apply Kd.R_drew)); exact HO8010.out) hb); have n1_ := Aside0.mk (Kd.R_below (by (with_reducible repeat (first | apply Kd.R_alloc | apply Kd.R_drewN | apply Kd.R_drew)); exact HO8013.out) hb); have n2_ := Aside0.mk (Kd.R_below (by (with_reducible repeat (first | apply Kd.R_alloc | apply Kd.R_drewN | apply Kd.R_drew)); exact HO8023.out) hb); have n3_ := Aside0.mk (Kd.R_below (by (with_reducible repeat (first | apply Kd.R_alloc | apply Kd.R_drewN | apply Kd.R_drew)); exact HO8026.out) hb); have n4_ := Aside0.mk (blk_below (g := gb8001) (o := .cells #[.int .i64 a0_0, .string a0_1, .string a0_2, .int .i64 a0_3, .string a0_4, .slice A0_5 l0_5.length c0_5, .slice A0_6 l0_6.length c0_6, .int .i64 a0_7] 37 (0, 0)) (by (with_reducible repeat (first | refine blk_drewN ?_ _ | refine blk_drew ?_ | refine blk_alloc ?_ _)); exact BK8001.out) hb); have n5_ := Aside0.mk (below_step (by repeat (first | (with_reducible first | exact HB.out | apply below_alloc | apply pw_below_drewN | apply below_drew1 | refine below_set ?_ GE8001.out) | exact HB.out)) hb); have n6_ := Aside0.mk (hbox); have n7_ := Aside0.mk ((by rw [hg]; exact (below_size (by repeat (first | (with_reducible first | exact HB.out | apply below_alloc | apply pw_below_drewN | apply below_drew1 | refine below_set ?_ GE8001.out) | exact HB.out))) : w.heap.size ≤ gb8028)); have n8_ := Aside0.mk ((by rw [hg]; exact (below_size (by repeat (first | (with_reducible first | exact HB.out | apply below_alloc | apply pw_below_drewN | apply below_drew1 | refine below_set ?_ GE8001.out) | exact HB.out))) : w.heap.size ≤ gb8028)); have n9_ := Aside0.mk ((by rw [hg]; exact Nat.ne_of_lt (blk_lt (g := gb8001) (o := .cells #[.int .i64 a0_0, .string a0_1, .string a0_2, .int .i64 a0_3, .string a0_4, .slice A0_5 l0_5.length c0_5, .slice A0_6 l0_6.length c0_6, .int .i64 a0_7] 37 (0, 0)) (by (with_reducible repeat (first | refine blk_drewN ?_ _ | refine blk_drew ?_ | refine blk_alloc ?_ _)); exact BK8001.out)) : gb8001 ≠ gb8028)); have n10_ := Aside0.mk ((by rw [hg]; exact Nat.ne_of_gt (blk_lt (g := gb8001) (o := .cells #[.int .i64 a0_0, .string a0_1, .string a0_2, .int .i64 a0_3, .string a0_4, .slice A0_5 l0_5.length c0_5, .slice A0_6 l0_6.length c0_6, .int .i64 a0_7] 37 (0, 0)) (by (with_reducible repeat (first | refine blk_drewN ?_ _ | refine blk_drew ?_ | refine blk_alloc ?_ _)); exact BK8001.out)) : gb8028 ≠ gb8001)); clear HO8010; clear HO8013; clear HO8023; clear HO8026; clear BK8001; clear HB; have HO8010 := n0_; have HO8013 := n1_; have HO8023 := n2_; have HO8026 := n3_; have BK8001 := n4_; have HB := n5_; have BK8028 := n6_; have GW8028 := n7_; have GE8028 := n8_; have NB8001_8028 := n9_; have NB8028_8001 := n10_; clear n0_ n1_ n2_ n3_ n4_ n5_ n6_ n7_ n8_ n9_ n10_; clear hb hbox hg; have hnb26 := NB8028_8001.out; have hnc26 := NB8001_8028.out; have hcz27_0 : w25.cell? ⟨gb8028, 0, none⟩ = some (.int .i64 0) := (blk_cell BK8028.out 0).trans rfl; have hcz27_1 : w25.cell? ⟨gb8028, 1, none⟩ = some (.string (⟨#[]⟩ : ByteArray)) := (blk_cell BK8028.out 1).trans rfl; have hcz27_2 : w25.cell? ⟨gb8028, 2, none⟩ = some (.string (⟨#[]⟩ : ByteArray)) := (blk_cell BK8028.out 2).trans rfl; have hcz27_3 : w25.cell? ⟨gb8028, 3, none⟩ = some (.int .i64 0) := (blk_cell BK8028.out 3).trans rfl; have hcz27_4 : w25.cell? ⟨gb8028, 4, none⟩ = some (.string (⟨#[]⟩ : ByteArray)) := (blk_cell BK8028.out 4).trans rfl; have hcz27_5 : w25.cell? ⟨gb8028, 5, none⟩ = some (.slice none 0 0) := (blk_cell BK8028.out 5).trans rfl; have hcz27_6 : w25.cell? ⟨gb8028, 6, none⟩ = some (.slice none 0 0) := (blk_cell BK8028.out 6).trans rfl; have hcz27_7 : w25.cell? ⟨gb8028, 7, none⟩ = some (.int .i64 0) := (blk_cell BK8028.out 7).trans rfl; have hfz27_0 := blk_frozen BK8028.out 0; have hfz27_1 := blk_frozen BK8028.out 1; have hfz27_2 := blk_frozen BK8028.out 2; have hfz27_3 := blk_frozen BK8028.out 3; have hfz27_4 := blk_frozen BK8028.out 4; have hfz27_5 := blk_frozen BK8028.out 5; have hfz27_6 := blk_frozen BK8028.out 6; have hfz27_7 := blk_frozen BK8028.out 7; obtain ⟨Ao28, co28, eo28⟩ := Kd.R_slice HO8023.out; subst eo28; obtain ⟨Ao29, co29, eo29⟩ := Kd.R_slice HO8026.out; subst eo29) | ((with_reducible refine gate_callee (f := 62) rfl ?_); refine goesL_ (some 18) rfl rfl Try.func62 (by kernel_rfl) rfl #[.agg #[.int .i64 t8016, .string t8017, .string t8018, .int .i64 t8019, .string t8020, .slice Ao28 t8021.length co28, .slice Ao29 t8024.length co29, .int .i64 t8027]] rfl (by (try simp only [List.map_toArray, List.map_cons, List.map_nil]); first | done | rfl | (simp only [List.length_drop, List.length_take]; rfl)) ?_; (with_reducible refine (impl_VarsOfConstraint.calls k t8016 t8017 t8018 t8019 t8020 _ _ t8021 _ _ t8024 t8027 t8029 _ ?side1 ?side2 ?side3 ?side4 A10.out).mono ?_); (case side1 => refine (Kd.R_reads' (e := 42) (base := w.heap.size) (ok := fun k_ => (True ∧ some k_ ≠ (.slice Ao20 t8008.length co20 : Value).ownBlock)) (n := t8021.length) (c := co28) ?_).2.2; exact (by (with_reducible repeat (first | apply Kd.R_alloc | apply Kd.R_drewN | apply Kd.R_drew)); exact (Kd.R_mono (Kd.R_far (p := ⟨gb8028, 7, none⟩) (Kd.R_far (p := ⟨gb8028, 6, none⟩) (Kd.R_far (p := ⟨gb8028, 5, none⟩) (Kd.R_far (p := ⟨gb8028, 4, none⟩) (Kd.R_far (p := ⟨gb8028, 3, none⟩) (Kd.R_far (p := ⟨gb8028, 2, none⟩) (Kd.R_far (p := ⟨gb8028, 1, none⟩) (Kd.R_far (p := ⟨gb8028, 0, none⟩) (Kd.R_types HO8023.out BK8028.out (by decide)) (fun _ hk => hk.2) (.int .i64 t8016)) (fun _ hk => hk.2) (.string t8017)) (fun _ hk => hk.2) (.string t8018)) (fun _ hk => hk.2) (.int .i64 t8019)) (fun _ hk => hk.2) (.string t8020)) (fun _ hk => hk.2) (.slice Ao28 t8021.length co28)) (fun _ hk => hk.2) (.slice Ao29 t8024.length co29)) (fun _ hk => hk.2) (.int .i64 t8027)) (fun _ h_ => h_.1)))); (case side2 => exact (Kd.R_reads' HO8023.out).2.1); (case side3 => refine (Kd.R_reads' (e := 3) (base := w.heap.size) (ok := fun k_ => (True ∧ some k_ ≠ (.slice Ao21 t8011.length co21 : Value).ownBlock)) (n := t8024.length) (c := co29) ?_).2.2; exact (by (with_reducible repeat (first | apply Kd.R_alloc | apply Kd.R_drewN | apply Kd.R_drew)); exact (Kd.R_mono (Kd.R_far (p := ⟨gb8028, 7, none⟩) (Kd.R_far (p := ⟨gb8028, 6, none⟩) (Kd.R_far (p := ⟨gb8028, 5, none⟩) (Kd.R_far (p := ⟨gb8028, 4, none⟩) (Kd.R_far (p := ⟨gb8028, 3, none⟩) (Kd.R_far (p := ⟨gb8028, 2, none⟩) (Kd.R_far (p := ⟨gb8028, 1, none⟩) (Kd.R_far (p := ⟨gb8028, 0, none⟩) (Kd.R_types HO8026.out BK8028.out (by decide)) (fun _ hk => hk.2) (.int .i64 t8016)) (fun _ hk => hk.2) (.string t8017)) (fun _ hk => hk.2) (.string t8018)) (fun _ hk => hk.2) (.int .i64 t8019)) (fun _ hk => hk.2) (.string t8020)) (fun _ hk => hk.2) (.slice Ao28 t8021.length co28)) (fun _ hk => hk.2) (.slice Ao29 t8024.length co29)) (fun _ hk => hk.2) (.int .i64 t8027)) (fun _ h_ => h_.1)))); (case side4 => exact (Kd.R_reads' HO8026.out).2.1); rintro e w30 ⟨rfl, hb⟩; refine ⟨_, rfl, ?_⟩; have n0_ := Aside0.mk (Kd.R_below (by (with_reducible repeat (first | apply Kd.R_alloc | apply Kd.R_drewN | apply Kd.R_drew)); exact (Kd.R_mono (Kd.R_far (p := ⟨gb8028, 7, none⟩) (Kd.R_far (p := ⟨gb8028, 6, none⟩) (Kd.R_far (p := ⟨gb8028, 5, none⟩) (Kd.R_far (p := ⟨gb8028, 4, none⟩) (Kd.R_far (p := ⟨gb8028, 3, none⟩) (Kd.R_far (p := ⟨gb8028, 2, none⟩) (Kd.R_far (p := ⟨gb8028, 1, none⟩) (Kd.R_far (p := ⟨gb8028, 0, none⟩) (Kd.R_types HO8010.out BK8028.out (by decide)) (fun _ hk => hk.2) (.int .i64 t8016)) (fun _ hk => hk.2) (.string t8017)) (fun _ hk => hk.2) (.string t8018)) (fun _ hk => hk.2) (.int .i64 t8019)) (fun _ hk => hk.2) (.string t8020)) (fun _ hk => hk.2) (.slice Ao28 t8021.length co28)) (fun _ hk => hk.2) (.slice Ao29 t8024.length co29)) (fun _ hk => hk.2) (.int .i64 t8027)) (fun _ h_ => h_.1))) hb); have n1_ := Aside0.mk (Kd.R_below (by (with_reducible repeat (first | apply Kd.R_alloc | apply Kd.R_drewN | apply Kd.R_drew)); exact (Kd.R_mono (Kd.R_far (p := ⟨gb8028, 7, none⟩) (Kd.R_far (p := ⟨gb8028, 6, none⟩) (Kd.R_far (p := ⟨gb8028, 5, none⟩) (Kd.R_far (p := ⟨gb8028, 4, none⟩) (Kd.R_far (p := ⟨gb8028, 3, none⟩) (Kd.R_far (p := ⟨gb8028, 2, none⟩) (Kd.R_far (p := ⟨gb8028, 1, none⟩) (Kd.R_far (p := ⟨gb8028, 0, none⟩) (Kd.R_types HO8013.out BK8028.out (by decide)) (fun _ hk => hk.2) (.int .i64 t8016)) (fun _ hk => hk.2) (.string t8017)) (fun _ hk => hk.2) (.string t8018)) (fun _ hk => hk.2) (.int .i64 t8019)) (fun _ hk => hk.2) (.string t8020)) (fun _ hk => hk.2) (.slice Ao28 t8021.length co28)) (fun _ hk => hk.2) (.slice Ao29 t8024.length co29)) (fun _ hk => hk.2) (.int .i64 t8027)) (fun _ h_ => h_.1))) hb); have n2_ := Aside0.mk (Kd.R_below (by (with_reducible repeat (first | apply Kd.R_alloc | apply Kd.R_drewN | apply Kd.R_drew)); exact (Kd.R_mono (Kd.R_far (p := ⟨gb8028, 7, none⟩) (Kd.R_far (p := ⟨gb8028, 6, none⟩) (Kd.R_far (p := ⟨gb8028, 5, none⟩) (Kd.R_far (p := ⟨gb8028, 4, none⟩) (Kd.R_far (p := ⟨gb8028, 3, none⟩) (Kd.R_far (p := ⟨gb8028, 2, none⟩) (Kd.R_far (p := ⟨gb8028, 1, none⟩) (Kd.R_far (p := ⟨gb8028, 0, none⟩) (Kd.R_types HO8023.out BK8028.out (by decide)) (fun _ hk => hk.2) (.int .i64 t8016)) (fun _ hk => hk.2) (.string t8017)) (fun _ hk => hk.2) (.string t8018)) (fun _ hk => hk.2) (.int .i64 t8019)) (fun _ hk => hk.2) (.string t8020)) (fun _ hk => hk.2) (.slice Ao28 t8021.length co28)) (fun _ hk => hk.2) (.slice Ao29 t8024.length co29)) (fun _ hk => hk.2) (.int .i64 t8027)) (fun _ h_ => h_.1))) hb); have n3_ := Aside0.mk (Kd.R_below (by (with_reducible repeat (first | apply Kd.R_alloc | apply Kd.R_drewN | apply Kd.R_drew)); exact (Kd.R_mono (Kd.R_far (p := ⟨gb8028, 7, none⟩) (Kd.R_far (p := ⟨gb8028, 6, none⟩) (Kd.R_far (p := ⟨gb8028, 5, none⟩) (Kd.R_far (p := ⟨gb8028, 4, none⟩) (Kd.R_far (p := ⟨gb8028, 3, none⟩) (Kd.R_far (p := ⟨gb8028, 2, none⟩) (Kd.R_far (p := ⟨gb8028, 1, none⟩) (Kd.R_far (p := ⟨gb8028, 0, none⟩) (Kd.R_types HO8026.out BK8028.out (by decide)) (fun _ hk => hk.2) (.int .i64 t8016)) (fun _ hk => hk.2) (.string t8017)) (fun _ hk => hk.2) (.string t8018)) (fun _ hk => hk.2) (.int .i64 t8019)) (fun _ hk => hk.2) (.string t8020)) (fun _ hk => hk.2) (.slice Ao28 t8021.length co28)) (fun _ hk => hk.2) (.slice Ao29 t8024.length co29)) (fun _ hk => hk.2) (.int .i64 t8027)) (fun _ h_ => h_.1))) hb); have n4_ := Aside0.mk (blk_below (g := gb8001) (o := .cells #[.int .i64 a0_0, .string a0_1, .string a0_2, .int .i64 a0_3, .string a0_4, .slice A0_5 l0_5.length c0_5, .slice A0_6 l0_6.length c0_6, .int .i64 a0_7] 37 (0, 0)) (by (with_reducible repeat (first | refine blk_drewN ?_ _ | refine blk_drew ?_ | refine blk_alloc ?_ _)); refine blk_far ?_ NB8001_8028.out _; (with_reducible repeat (first | refine blk_drewN ?_ _ | refine blk_drew ?_ | refine blk_alloc ?_ _)); refine blk_far ?_ NB8001_8028.out _; (with_reducible repeat (first | refine blk_drewN ?_ _ | refine blk_drew ?_ | refine blk_alloc ?_ _)); refine blk_far ?_ NB8001_8028.out _; (with_reducible repeat (first | refine blk_drewN ?_ _ | refine blk_drew ?_ | refine blk_alloc ?_ _)); refine blk_far ?_ NB8001_8028.out _; (with_reducible repeat (first | refine blk_drewN ?_ _ | refine blk_drew ?_ | refine blk_alloc ?_ _)); refine blk_far ?_ NB8001_8028.out _; (with_reducible repeat (first | refine blk_drewN ?_ _ | refine blk_drew ?_ | refine blk_alloc ?_ _)); refine blk_far ?_ NB8001_8028.out _; (with_reducible repeat (first | refine blk_drewN ?_ _ | refine blk_drew ?_ | refine blk_alloc ?_ _)); refine blk_far ?_ NB8001_8028.out _; (with_reducible repeat (first | refine blk_drewN ?_ _ | refine blk_drew ?_ | refine blk_alloc ?_ _)); refine blk_far ?_ NB8001_8028.out _; (with_reducible repeat (first | refine blk_drewN ?_ _ | refine blk_drew ?_ | refine blk_alloc ?_ _)); exact BK8001.out) hb); have n5_ := Aside0.mk (blk_below (g := gb8028) (o := .cells #[.int .i64 t8016, .string t8017, .string t8018, .int .i64 t8019, .string t8020, .slice Ao28 t8021.length co28, .slice Ao29 t8024.length co29, .int .i64 t8027] 44 (0, 0)) (by (with_reducible repeat (first | refine blk_drewN ?_ _ | refine blk_drew ?_ | refine blk_alloc ?_ _)); refine blk_put (cs := #[.int .i64 t8016, .string t8017, .string t8018, .int .i64 t8019, .string t8020, .slice Ao28 t8021.length co28, .slice Ao29 t8024.length co29, .int .i64 0]) ?_ 7 _ rfl; (with_reducible repeat (first | refine blk_drewN ?_ _ | refine blk_drew ?_ | refine blk_alloc ?_ _)); refine blk_put (cs := #[.int .i64 t8016, .string t8017, .string t8018, .int .i64 t8019, .string t8020, .slice Ao28 t8021.length co28, .slice none 0 0, .int .i64 0]) ?_ 6 _ rfl; (with_reducible repeat (first | refine blk_drewN ?_ _ | refine blk_drew ?_ | refine blk_alloc ?_ _)); refine blk_put (cs := #[.int .i64 t8016, .string t8017, .string t8018, .int .i64 t8019, .string t8020, .slice none 0 0, .slice none 0 0, .int .i64 0]) ?_ 5 _ rfl; (with_reducible repeat (first | refine blk_drewN ?_ _ | refine blk_drew ?_ | refine blk_alloc ?_ _)); refine blk_put (cs := #[.int .i64 t8016, .string t8017, .string t8018, .int .i64 t8019, .string (⟨#[]⟩ : ByteArray), .slice none 0 0, .slice none 0 0, .int .i64 0]) ?_ 4 _ rfl; (with_reducible repeat (first | refine blk_drewN ?_ _ | refine blk_drew ?_ | refine blk_alloc ?_ _)); refine blk_put (cs := #[.int .i64 t8016, .string t8017, .string t8018, .int .i64 0, .string (⟨#[]⟩ : ByteArray), .slice none 0 0, .slice none 0 0, .int .i64 0]) ?_ 3 _ rfl; (with_reducible repeat (first | refine blk_drewN ?_ _ | refine blk_drew ?_ | refine blk_alloc ?_ _)); refine blk_put (cs := #[.int .i64 t8016, .string t8017, .string (⟨#[]⟩ : ByteArray), .int .i64 0, .string (⟨#[]⟩ : ByteArray), .slice none 0 0, .slice none 0 0, .int .i64 0]) ?_ 2 _ rfl; (with_reducible repeat (first | refine blk_drewN ?_ _ | refine blk_drew ?_ | refine blk_alloc ?_ _)); refine blk_put (cs := #[.int .i64 t8016, .string (⟨#[]⟩ : ByteArray), .string (⟨#[]⟩ : ByteArray), .int .i64 0, .string (⟨#[]⟩ : ByteArray), .slice none 0 0, .slice none 0 0, .int .i64 0]) ?_ 1 _ rfl; (with_reducible repeat (first | refine blk_drewN ?_ _ | refine blk_drew ?_ | refine blk_alloc ?_ _)); refine blk_put (cs := #[.int .i64 0, .string (⟨#[]⟩ : ByteArray), .string (⟨#[]⟩ : ByteArray), .int .i64 0, .string (⟨#[]⟩ : ByteArray), .slice none 0 0, .slice none 0 0, .int .i64 0]) ?_ 0 _ rfl; (with_reducible repeat (first | refine blk_drewN ?_ _ | refine blk_drew ?_ | refine blk_alloc ?_ _)); exact BK8028.out) hb); have n6_ := Aside0.mk (below_step (by repeat (first | (with_reducible first | exact HB.out | apply below_alloc | apply pw_below_drewN | apply below_drew1 | refine below_set ?_ GE8001.out | refine below_set ?_ GE8028.out) | exact HB.out)) hb); clear HO8010; clear HO8013; clear HO8023; clear HO8026; clear BK8001; clear BK8028; clear HB; have HO8010 := n0_; have HO8013 := n1_; have HO8023 := n2_; have HO8026 := n3_; have BK8001 := n4_; have BK8028 := n5_; have HB := n6_; clear n0_ n1_ n2_ n3_ n4_ n5_ n6_; (try clear hb); (try clear hb2); (try clear hk); (try clear hi)))
        have n0_ := Aside0.mk (Kd.R_drew HO8010.out)
        have n1_ := Aside0.mk (Kd.R_drew HO8013.out)
        have n2_ := Aside0.mk (Kd.R_drew HO8023.out)
        have n3_ := Aside0.mk (Kd.R_drew HO8026.out)
        have n4_ := Aside0.mk (blk_drew BK8001.out)
        have n5_ := Aside0.mk (blk_drew BK8028.out)
        have n6_ := Aside0.mk (below_drew1 HB.out)
        clear HO8010
        clear HO8013
        clear HO8023
        clear HO8026
        clear BK8001
        clear BK8028
        clear HB
        have HO8010 := n0_
        have HO8013 := n1_
        have HO8023 := n2_
        have HO8026 := n3_
        have BK8001 := n4_
        have BK8028 := n5_
        have HB := n6_
        clear n0_ n1_ n2_ n3_ n4_ n5_ n6_
        refine start_ (n := 5) (S := fun w' => w'.cell? ⟨gb8028, 0, none⟩ = some (.int .i64 t8016) ∧ w'.cell? ⟨gb8028, 1, none⟩ = some (.string t8017) ∧ w'.cell? ⟨gb8028, 2, none⟩ = some (.string t8018) ∧ w'.cell? ⟨gb8028, 3, none⟩ = some (.int .i64 t8019) ∧ w'.cell? ⟨gb8028, 4, none⟩ = some (.string t8020) ∧ w'.cell? ⟨gb8028, 5, none⟩ = some (.slice Ao28 t8021.length co28) ∧ w'.cell? ⟨gb8028, 6, none⟩ = some (.slice Ao29 t8024.length co29) ∧ w'.cell? ⟨gb8028, 7, none⟩ = some (.int .i64 t8027) ∧ w'.cell? ⟨gb8001, 0, none⟩ = some (.int .i64 a0_0) ∧ w'.cell? ⟨gb8001, 1, none⟩ = some (.string a0_1) ∧ w'.cell? ⟨gb8001, 2, none⟩ = some (.string a0_2) ∧ w'.cell? ⟨gb8001, 3, none⟩ = some (.int .i64 a0_3) ∧ w'.cell? ⟨gb8001, 4, none⟩ = some (.string a0_4) ∧ w'.cell? ⟨gb8001, 5, none⟩ = some (.slice A0_5 l0_5.length c0_5) ∧ w'.cell? ⟨gb8001, 6, none⟩ = some (.slice A0_6 l0_6.length c0_6) ∧ w'.cell? ⟨gb8001, 7, none⟩ = some (.int .i64 a0_7)) (ds := []) #[false, false, false, false, false] (by kernel_rfl) rfl rfl ⟨(blk_cell BK8028.out 0).trans rfl, (blk_cell BK8028.out 1).trans rfl, (blk_cell BK8028.out 2).trans rfl, (blk_cell BK8028.out 3).trans rfl, (blk_cell BK8028.out 4).trans rfl, (blk_cell BK8028.out 5).trans rfl, (blk_cell BK8028.out 6).trans rfl, (blk_cell BK8028.out 7).trans rfl, (blk_cell BK8001.out 0).trans rfl, (blk_cell BK8001.out 1).trans rfl, (blk_cell BK8001.out 2).trans rfl, (blk_cell BK8001.out 3).trans rfl, (blk_cell BK8001.out 4).trans rfl, (blk_cell BK8001.out 5).trans rfl, (blk_cell BK8001.out 6).trans rfl, (blk_cell BK8001.out 7).trans rfl⟩ (fun hHeld => ?_)
        generalize w30.drew = w31 at HO8010 HO8013 HO8023 HO8026 BK8001 BK8028 HB hHeld ⊢
        refine take_ (i := 0) (N := some 22) (v := ?_) (a' := ?_) #[true, false, false, false, false] rfl rfl (by kernel_rfl) (fun _ _ _ h => h) (Or.inl ⟨by rfl, ?_⟩) hHeld ?_ ?_
        rotate_left
        · rintro w' ⟨s0, s1, s2, s3, s4, s5, s6, s7, s8, s9, s10, s11, s12, s13, s14, s15⟩
          go_simp
          first | with_reducible rfl | (rw [if_neg (by omega)]; done)
        rotate_left
        · simp only [Act.put, List.setIfInBounds_toArray, List.set_cons_zero, List.set_cons_succ, i64_w, i32_w]
          rfl
        refine take_ (i := 1) (N := some 23) (v := ?_) (a' := ?_) #[true, true, false, false, false] rfl rfl (by kernel_rfl) (fun _ _ _ h => h) (Or.inl ⟨by rfl, ?_⟩) hHeld ?_ ?_
        rotate_left
        · rintro w' ⟨s0, s1, s2, s3, s4, s5, s6, s7, s8, s9, s10, s11, s12, s13, s14, s15⟩
          go_simp
          first | with_reducible rfl | (rw [if_neg (by omega)]; done)
        rotate_left
        · simp only [Act.put, List.setIfInBounds_toArray, List.set_cons_zero, List.set_cons_succ, i64_w, i32_w]
          rfl
        refine one_ (i := 2) (N := some 24) #[true, true, true, false, false] rfl rfl (by kernel_rfl) (by decide) (fun K hK => ?_)
        refine goes_ Try.func22 (by kernel_rfl) rfl #[.agg #[.int .i64 a0_0, .string a0_1, .string a0_2, .int .i64 a0_3, .string a0_4, .slice A0_5 l0_5.length c0_5, .slice A0_6 l0_6.length c0_6, .int .i64 a0_7]] (by rfl) rfl rfl (by (try simp only [List.map_toArray, List.map_cons, List.map_nil]); first | done | rfl | (simp only [List.length_drop, List.length_take]; rfl)) ?_
        with_reducible refine (laws_toConstraint.calls k a0_0 a0_1 a0_2 a0_3 a0_4 _ _ l0_5 _ _ l0_6 a0_7 t8030 t8031 t8032 t8033 t8034 t8035 t8038 t8041 _ ?side1 ?side2 ?side3 ?side4 A12.out).mono ?_
        (case side1 => repeat (first | exact (Kd.C_below HR0_5.out HB.out) | (with_reducible refine Kd.C_alloc ?_ _) | (with_reducible refine Kd.C_drewN ?_ _) | (with_reducible refine Kd.C_drew ?_)))
        (case side2 => exact HC0_5.out)
        (case side3 => repeat (first | exact (Kd.C_below HR0_6.out HB.out) | (with_reducible refine Kd.C_alloc ?_ _) | (with_reducible refine Kd.C_drewN ?_ _) | (with_reducible refine Kd.C_drew ?_)))
        (case side4 => exact HC0_6.out)
        rintro e w32 ⟨v8036, v8039, rfl, ho0, ho1, hb⟩
        refine ⟨_, rfl, ?_⟩
        have n0_ := Aside0.mk (Kd.R_elder' (by (with_reducible repeat (first | apply Kd.R_alloc | apply Kd.R_drewN | apply Kd.R_drew)); exact HO8010.out) (Kd.R_base ho0) hb)
        have n1_ := Aside0.mk (Kd.R_elder' (by (with_reducible repeat (first | apply Kd.R_alloc | apply Kd.R_drewN | apply Kd.R_drew)); exact HO8013.out) (Kd.R_base ho1) hb)
        have n2_ := Aside0.mk (Kd.R_elder' (by (with_reducible repeat (first | apply Kd.R_alloc | apply Kd.R_drewN | apply Kd.R_drew)); exact HO8023.out) (Kd.R_base ho0) hb)
        have n3_ := Aside0.mk (Kd.R_elder' (by (with_reducible repeat (first | apply Kd.R_alloc | apply Kd.R_drewN | apply Kd.R_drew)); exact HO8026.out) (Kd.R_base ho1) hb)
        have n4_ := Aside0.mk (Kd.R_lower (Kd.R_new' (Kd.R_new' ho0 (Kd.R_lt (by (with_reducible repeat (first | apply Kd.R_alloc | apply Kd.R_drewN | apply Kd.R_drew)); exact HO8010.out))) (Kd.R_lt (by (with_reducible repeat (first | apply Kd.R_alloc | apply Kd.R_drewN | apply Kd.R_drew)); exact HO8023.out))) (below_size (by repeat (first | (with_reducible first | exact HB.out | apply below_alloc | apply pw_below_drewN | apply below_drew1 | refine below_set ?_ GE8001.out | refine below_set ?_ GE8028.out) | exact HB.out))))
        have n5_ := Aside0.mk (Kd.R_lower (Kd.R_new' (Kd.R_new' ho1 (Kd.R_lt (by (with_reducible repeat (first | apply Kd.R_alloc | apply Kd.R_drewN | apply Kd.R_drew)); exact HO8013.out))) (Kd.R_lt (by (with_reducible repeat (first | apply Kd.R_alloc | apply Kd.R_drewN | apply Kd.R_drew)); exact HO8026.out))) (below_size (by repeat (first | (with_reducible first | exact HB.out | apply below_alloc | apply pw_below_drewN | apply below_drew1 | refine below_set ?_ GE8001.out | refine below_set ?_ GE8028.out) | exact HB.out))))
        have n6_ := Aside0.mk (blk_below (g := gb8001) (o := .cells #[.int .i64 a0_0, .string a0_1, .string a0_2, .int .i64 a0_3, .string a0_4, .slice A0_5 l0_5.length c0_5, .slice A0_6 l0_6.length c0_6, .int .i64 a0_7] 37 (0, 0)) (by (with_reducible repeat (first | refine blk_drewN ?_ _ | refine blk_drew ?_ | refine blk_alloc ?_ _)); exact BK8001.out) hb)
        have n7_ := Aside0.mk (blk_below (g := gb8028) (o := .cells #[.int .i64 t8016, .string t8017, .string t8018, .int .i64 t8019, .string t8020, .slice Ao28 t8021.length co28, .slice Ao29 t8024.length co29, .int .i64 t8027] 44 (0, 0)) (by (with_reducible repeat (first | refine blk_drewN ?_ _ | refine blk_drew ?_ | refine blk_alloc ?_ _)); exact BK8028.out) hb)
        have n8_ := Aside0.mk (below_step (by repeat (first | (with_reducible first | exact HB.out | apply below_alloc | apply pw_below_drewN | apply below_drew1 | refine below_set ?_ GE8001.out | refine below_set ?_ GE8028.out) | exact HB.out)) hb)
        clear HO8010
        clear HO8013
        clear HO8023
        clear HO8026
        clear BK8001
        clear BK8028
        clear HB
        have HO8010 := n0_
        have HO8013 := n1_
        have HO8023 := n2_
        have HO8026 := n3_
        have HO8037 := n4_
        have HO8040 := n5_
        have BK8001 := n6_
        have BK8028 := n7_
        have HB := n8_
        clear n0_ n1_ n2_ n3_ n4_ n5_ n6_ n7_ n8_
        (try clear hb)
        (try clear hb2)
        (try clear hk)
        (try clear hi)
        (try clear ho0)
        (try clear ho1)
        obtain ⟨Ao33, co33, eo33⟩ := Kd.R_slice HO8037.out
        (first | subst eo33 | (injection eo33 with f1_ f2_ f3_; have f4_ := f1_.symm; have f5_ := f3_.symm; clear f1_ f2_ f3_; subst f4_; subst f5_))
        obtain ⟨Ao34, co34, eo34⟩ := Kd.R_slice HO8040.out
        (first | subst eo34 | (injection eo34 with f1_ f2_ f3_; have f4_ := f1_.symm; have f5_ := f3_.symm; clear f1_ f2_ f3_; subst f4_; subst f5_))
        refine hK.out _ _ ⟨(blk_cell BK8028.out 0).trans rfl, (blk_cell BK8028.out 1).trans rfl, (blk_cell BK8028.out 2).trans rfl, (blk_cell BK8028.out 3).trans rfl, (blk_cell BK8028.out 4).trans rfl, (blk_cell BK8028.out 5).trans rfl, (blk_cell BK8028.out 6).trans rfl, (blk_cell BK8028.out 7).trans rfl, (blk_cell BK8001.out 0).trans rfl, (blk_cell BK8001.out 1).trans rfl, (blk_cell BK8001.out 2).trans rfl, (blk_cell BK8001.out 3).trans rfl, (blk_cell BK8001.out 4).trans rfl, (blk_cell BK8001.out 5).trans rfl, (blk_cell BK8001.out 6).trans rfl, (blk_cell BK8001.out 7).trans rfl⟩ (fun hHeld => ?_)
        clear hK K
        refine norm_ (a' := ?_) ?_ ?_
        rotate_left
        · show Act.put _ (some 24) _ = _
          simp only [Act.put, List.setIfInBounds_toArray, List.set_cons_zero, List.set_cons_succ, i64_w, i32_w]
          rfl
        refine one_ (i := 3) (N := some 25) #[true, true, true, true, false] rfl rfl (by kernel_rfl) (by decide) (fun K hK => ?_)
        refine goes_ Try.func24 (by kernel_rfl) rfl #[.agg #[.int .i64 t8016, .string t8017, .string t8018, .int .i64 t8019, .string t8020, .slice Ao28 t8021.length co28, .slice Ao29 t8024.length co29, .int .i64 t8027], .agg #[.int .i64 t8030, .string t8031, .string t8032, .int .i64 t8033, .string t8034, .slice Ao33 t8035.length co33, .slice Ao34 t8038.length co34, .int .i64 t8041]] (by rfl) rfl rfl (by (try simp only [List.map_toArray, List.map_cons, List.map_nil]); first | done | rfl | (simp only [List.length_drop, List.length_take]; rfl)) ?_
        with_reducible refine (laws_eqConstraint.calls k t8016 t8017 t8018 t8019 t8020 _ _ t8021 _ _ t8024 t8027 t8030 t8031 t8032 t8033 t8034 _ _ t8035 _ _ t8038 t8041 true _ ?side1 ?side2 ?side3 ?side4 ?side5 ?side6 ?side7 ?side8 A13.out).mono ?_
        (case side1 => repeat (first | exact (Kd.R_reads' HO8023.out).2.2 | (with_reducible refine Kd.C_alloc ?_ _) | (with_reducible refine Kd.C_drewN ?_ _) | (with_reducible refine Kd.C_drew ?_)))
        (case side2 => exact (Kd.R_reads' HO8023.out).2.1)
        (case side3 => repeat (first | exact (Kd.R_reads' HO8026.out).2.2 | (with_reducible refine Kd.C_alloc ?_ _) | (with_reducible refine Kd.C_drewN ?_ _) | (with_reducible refine Kd.C_drew ?_)))
        (case side4 => exact (Kd.R_reads' HO8026.out).2.1)
        (case side5 => repeat (first | exact (Kd.R_reads' HO8037.out).2.2 | (with_reducible refine Kd.C_alloc ?_ _) | (with_reducible refine Kd.C_drewN ?_ _) | (with_reducible refine Kd.C_drew ?_)))
        (case side6 => exact (Kd.R_reads' HO8037.out).2.1)
        (case side7 => repeat (first | exact (Kd.R_reads' HO8040.out).2.2 | (with_reducible refine Kd.C_alloc ?_ _) | (with_reducible refine Kd.C_drewN ?_ _) | (with_reducible refine Kd.C_drew ?_)))
        (case side8 => exact (Kd.R_reads' HO8040.out).2.1)
        rintro e w35 ⟨rfl, hb⟩
        refine ⟨_, rfl, ?_⟩
        have n0_ := Aside0.mk (Kd.R_below (by (with_reducible repeat (first | apply Kd.R_alloc | apply Kd.R_drewN | apply Kd.R_drew)); exact HO8010.out) hb)
        have n1_ := Aside0.mk (Kd.R_below (by (with_reducible repeat (first | apply Kd.R_alloc | apply Kd.R_drewN | apply Kd.R_drew)); exact HO8013.out) hb)
        have n2_ := Aside0.mk (Kd.R_below (by (with_reducible repeat (first | apply Kd.R_alloc | apply Kd.R_drewN | apply Kd.R_drew)); exact HO8023.out) hb)
        have n3_ := Aside0.mk (Kd.R_below (by (with_reducible repeat (first | apply Kd.R_alloc | apply Kd.R_drewN | apply Kd.R_drew)); exact HO8026.out) hb)
        have n4_ := Aside0.mk (Kd.R_below (by (with_reducible repeat (first | apply Kd.R_alloc | apply Kd.R_drewN | apply Kd.R_drew)); exact HO8037.out) hb)
        have n5_ := Aside0.mk (Kd.R_below (by (with_reducible repeat (first | apply Kd.R_alloc | apply Kd.R_drewN | apply Kd.R_drew)); exact HO8040.out) hb)
        have n6_ := Aside0.mk (blk_below (g := gb8001) (o := .cells #[.int .i64 a0_0, .string a0_1, .string a0_2, .int .i64 a0_3, .string a0_4, .slice A0_5 l0_5.length c0_5, .slice A0_6 l0_6.length c0_6, .int .i64 a0_7] 37 (0, 0)) (by (with_reducible repeat (first | refine blk_drewN ?_ _ | refine blk_drew ?_ | refine blk_alloc ?_ _)); exact BK8001.out) hb)
        have n7_ := Aside0.mk (blk_below (g := gb8028) (o := .cells #[.int .i64 t8016, .string t8017, .string t8018, .int .i64 t8019, .string t8020, .slice Ao28 t8021.length co28, .slice Ao29 t8024.length co29, .int .i64 t8027] 44 (0, 0)) (by (with_reducible repeat (first | refine blk_drewN ?_ _ | refine blk_drew ?_ | refine blk_alloc ?_ _)); exact BK8028.out) hb)
        have n8_ := Aside0.mk (below_step (by repeat (first | (with_reducible first | exact HB.out | apply below_alloc | apply pw_below_drewN | apply below_drew1 | refine below_set ?_ GE8001.out | refine below_set ?_ GE8028.out) | exact HB.out)) hb)
        clear HO8010
        clear HO8013
        clear HO8023
        clear HO8026
        clear HO8037
        clear HO8040
        clear BK8001
        clear BK8028
        clear HB
        have HO8010 := n0_
        have HO8013 := n1_
        have HO8023 := n2_
        have HO8026 := n3_
        have HO8037 := n4_
        have HO8040 := n5_
        have BK8001 := n6_
        have BK8028 := n7_
        have HB := n8_
        clear n0_ n1_ n2_ n3_ n4_ n5_ n6_ n7_ n8_
        (try clear hb)
        (try clear hb2)
        (try clear hk)
        (try clear hi)
        refine hK.out _ _ ⟨(blk_cell BK8028.out 0).trans rfl, (blk_cell BK8028.out 1).trans rfl, (blk_cell BK8028.out 2).trans rfl, (blk_cell BK8028.out 3).trans rfl, (blk_cell BK8028.out 4).trans rfl, (blk_cell BK8028.out 5).trans rfl, (blk_cell BK8028.out 6).trans rfl, (blk_cell BK8028.out 7).trans rfl, (blk_cell BK8001.out 0).trans rfl, (blk_cell BK8001.out 1).trans rfl, (blk_cell BK8001.out 2).trans rfl, (blk_cell BK8001.out 3).trans rfl, (blk_cell BK8001.out 4).trans rfl, (blk_cell BK8001.out 5).trans rfl, (blk_cell BK8001.out 6).trans rfl, (blk_cell BK8001.out 7).trans rfl⟩ (fun hHeld => ?_)
        clear hK K
        refine norm_ (a' := ?_) ?_ ?_
        rotate_left
        · show Act.put _ (some 25) _ = _
          simp only [Act.put, List.setIfInBounds_toArray, List.set_cons_zero, List.set_cons_succ, i64_w, i32_w]
          rfl
        refine pure_ (i := 4) (N := some 26) (v := ?_) (a' := ?_) #[true, true, true, true, true] rfl rfl (by kernel_rfl) (fun _ _ _ h => h) (Or.inl ⟨by rfl, ?_⟩) ?_ ?_
        rotate_left
        · intro w'
          go_simp
          first | with_reducible rfl | (rw [if_neg (by omega)]; done)
        rotate_left
        · simp only [Act.put, List.setIfInBounds_toArray, List.set_cons_zero, List.set_cons_succ, i64_w, i32_w]
          rfl
        refine done_ (by kernel_rfl) ?_
        try go_wp2
        go_ret
        exact ⟨by first | rfl | (simp [errW_none, errW_some] <;> rfl) | (simp [*, errW_none, errW_some] <;> rfl), by repeat (first | (with_reducible first | exact HB.out | apply below_alloc | apply pw_below_drewN | apply below_drew1 | refine below_set ?_ GE8001.out | refine below_set ?_ GE8028.out) | exact HB.out)⟩
      · replace c14 := Bool.eq_false_iff.mpr c14
        subst c14
        have H1 : (some false) = some r := by rw [if_neg (show ¬ (false = true) by decide)] at H; exact H
        clear H
        have H := H1
        clear H1
        exact absurd ((Option.some.inj H).trans HRT_.out) (by decide)
    · rw [if_neg c11] at H
      have c11b0 : (t8029.toList == t8015.toList) = false := beq_eq_false_iff_ne.mpr c11
      have c11b1 : (t8029.toList != t8015.toList) = true := bne_iff_ne.mpr c11
      exact absurd ((Option.some.inj H).trans HRT_.out) (by decide)

end Go.Proofs.Ytpppopdmnejcfaa.A


namespace Go.Proofs.Ytpppopdmnejcfaa.Br
set_option linter.unusedVariables false
set_option linter.unusedSimpArgs false
open Go Go.Proofs.YtpppopdmnejcfaaW.PrintWords

/-- Whatever reads at type t, with at most n of fuel, is of kind d and well formed. -/
def BrN (P : Program) (n : Nat) (t : TypeId) {α : Type} (d : Kd α) (wf : α → Prop) : Prop :=
  ∀ (H : Type) (enc : TypeId × Value → H) (w : World) (base : Nat) (spare : Nat → Bool) (held : Bool) (m : Nat) (cs : List Value) (x : DataW H × List MemPlace),
    m ≤ n → DataW.trod enc P w base spare held m t cs = some x → ∃ a, d.K w a cs ∧ wf a
def Br (P : Program) (t : TypeId) {α : Type} (d : Kd α) (wf : α → Prop) : Prop := ∀ n, BrN P n t d wf

/-- The same of the fields of a struct, from offset o on. -/
def BF (P : Program) (n : Nat) (fs : List Field) (o : Nat) {α : Type} (d : Kd α) (wf : α → Prop) : Prop :=
  ∀ (H : Type) (enc : TypeId × Value → H) (w : World) (base : Nat) (spare : Nat → Bool) (held : Bool) (m : Nat) (cs : List Value) (xs : List (DataW H × List MemPlace)),
    m ≤ n → cs.length = d.sz → xs.length = fs.length →
    (∀ (i : Nat) (f : Field), fs[i]? = some f → DataW.trod enc P w base spare held m f.type ((cs.drop (f.offset - o)).take (P.cellsOf f.type)) = xs[i]?) → ∃ a, d.K w a cs ∧ wf a

theorem BrN.mono {P : Program} {n m : Nat} {t : TypeId} {α : Type} {d : Kd α} {wf : α → Prop} (h : BrN P n t d wf) (hm : m ≤ n) : BrN P m t d wf :=
  fun H enc w base spare held k cs x hk => h H enc w base spare held k cs x (Nat.le_trans hk hm)
theorem BrN.imp {P : Program} {n : Nat} {t : TypeId} {α : Type} {d : Kd α} {wf wf' : α → Prop} (h : BrN P n t d wf) (hi : ∀ a, wf a → wf' a) : BrN P n t d wf' :=
  fun H enc w base spare held k cs x hk hx => by
    obtain ⟨a, h1, h2⟩ := h H enc w base spare held k cs x hk hx
    exact ⟨a, h1, hi a h2⟩
theorem BrN.zero (P : Program) (t : TypeId) {α : Type} (d : Kd α) (wf : α → Prop) : BrN P 0 t d wf := by
  intro H enc w base spare held m cs x hm hx
  obtain rfl : m = 0 := by omega
  simp [DataW.trod] at hx

theorem br_int {P : Program} {t : TypeId} {k : IntKind} (ht : P.underlying t = some (.int k)) (n : Nat) : BrN P n t (Kd.int k) (fun a => (Lit.int k a).wf = true) := by
  intro H enc w base spare held m cs x _ hx
  obtain ⟨a, rfl, _, hw⟩ := DataW.trod_int ht hx
  exact ⟨a, rfl, hw⟩
theorem br_string {P : Program} {t : TypeId} (ht : P.underlying t = some .string) (n : Nat) : BrN P n t Kd.string (fun s => s.size ≤ 9223372036854775807) := by
  intro H enc w base spare held m cs x _ hx
  obtain ⟨a, rfl, _, hw⟩ := DataW.trod_string ht hx
  exact ⟨a, rfl, by simpa [maxLen] using hw⟩

theorem list_of_all {α : Type} {Q : Nat → α → Prop} (n : Nat) (h : ∀ i, i < n → ∃ a, Q i a) : ∃ l : List α, l.length = n ∧ ∀ i a, l[i]? = some a → Q i a := by
  induction n with
  | zero => exact ⟨[], rfl, fun i a h => by simp at h⟩
  | succ n ih =>
    obtain ⟨l, hl, hq⟩ := ih (fun i hi => h i (by omega))
    obtain ⟨a, ha⟩ := h n (by omega)
    refine ⟨l ++ [a], by simp [hl], fun i b hb => ?_⟩
    rcases Nat.lt_or_ge i l.length with hi | hi
    · rw [List.getElem?_append_left hi] at hb
      exact hq i b hb
    · rw [List.getElem?_append_right hi] at hb
      obtain ⟨h0, rfl⟩ : i - l.length = 0 ∧ a = b := by
        rcases Nat.eq_zero_or_pos (i - l.length) with h0 | h0
        · rw [h0] at hb; exact ⟨h0, by simpa using hb⟩
        · rw [List.getElem?_eq_none (by simp; omega)] at hb; simp at hb
      obtain rfl : i = n := by omega
      exact ha

theorem cells_at {w : World} {base : Nat} {a : Addr} {n : Nat} {cs : List Value} (h : w.cells? base a n = some cs) : cs.length = n ∧ ∀ i u, cs[i]? = some u → w.cell? (a.add i) = some u := by
  unfold World.cells? at h
  split at h
  · have hl := mapM_some_length h
    refine ⟨by simpa using hl, fun i u hu => ?_⟩
    have hi : i < n := by
      have := (List.getElem?_eq_some_iff.1 hu).1
      simp at hl
      omega
    have := mapM_some_get h i i (by simp [hi])
    rw [this, hu]
  · simp at h

theorem br_slice {P : Program} {t e : TypeId} {α : Type} {d : Kd α} {wf : α → Prop} {n : Nat} (ht : P.underlying t = some (.slice e)) (hs : P.cellsOf e = d.sz) (h : BrN P n e d wf) :
    BrN P (n + 1) t (Kd.slice e d) (fun l => l.length ≤ 9223372036854775807 ∧ ∀ a ∈ l, wf a) := by
  intro H enc w base spare held m cs x hm hx
  rcases DataW.trod_slice ht hx with ⟨rfl, _⟩ | ⟨a, len, cap, elems, rest, k, rfl, rfl, _, _, hl, hc, he, hg, _, _⟩
  · exact ⟨[], ⟨none, 0, rfl, Nat.le_refl _, Kd.C_nil d w⟩, by simp, by simp⟩
  · have hq : ∀ i, i < len → ∃ b, (∃ c, c.length = d.sz ∧ d.K w b c ∧ ∀ j u, c[j]? = some u → w.cell? (a.add (i * d.sz + j)) = some u) ∧ wf b := by
      intro i hi
      have g := hg i hi
      rw [List.getElem?_eq_getElem (by omega)] at g
      obtain ⟨c, hc1, hc2⟩ := Option.bind_eq_some_iff.1 g
      obtain ⟨b, hb, hw⟩ := h H enc w base spare held k c _ (by omega) hc2
      obtain ⟨h1, h2⟩ := cells_at hc1
      refine ⟨b, ⟨c, by rw [h1, hs], hb, fun j u hu => ?_⟩, hw⟩
      have := h2 j u hu
      rw [Addr.add_add, hs] at this
      exact this
    obtain ⟨l, hl1, hl2⟩ := list_of_all len hq
    have hlen : len ≤ 9223372036854775807 := by simp only [maxLen] at hc; omega
    refine ⟨l, ⟨some a, cap, by rw [hl1], by omega, rfl, by omega, fun _ => ⟨a, rfl, fun j p hp => (hl2 j p hp).1⟩⟩, by omega, fun b hb => ?_⟩
    obtain ⟨i, hi, rfl⟩ := List.mem_iff_getElem.1 hb
    exact (hl2 i _ (List.getElem?_eq_getElem hi)).2
theorem br_slice' {P : Program} {t e : TypeId} {α : Type} {d : Kd α} {wf : α → Prop} (ht : P.underlying t = some (.slice e)) (hs : P.cellsOf e = d.sz) (h : ∀ n, BrN P n e d wf) (n : Nat) :
    BrN P n t (Kd.slice e d) (fun l => l.length ≤ 9223372036854775807 ∧ ∀ a ∈ l, wf a) := (br_slice ht hs (h n)).mono (Nat.le_succ n)

theorem bf_one {P : Program} {n o : Nat} {f : Field} {α : Type} {d : Kd α} {wf : α → Prop} (ho : f.offset = o) (hs : P.cellsOf f.type = d.sz) (h : BrN P n f.type d wf) : BF P n [f] o d wf := by
  intro H enc w base spare held m cs xs hm hl hx hf
  have g := hf 0 f rfl
  rw [ho, Nat.sub_self, List.drop_zero, hs, ← hl, List.take_length, List.getElem?_eq_getElem (by simp at hx; omega)] at g
  exact h H enc w base spare held m cs _ hm g
theorem bf_cons {P : Program} {n o : Nat} {f : Field} {fs : List Field} {α β : Type} {d : Kd α} {d' : Kd β} {wf : α → Prop} {wf' : β → Prop} (ho : f.offset = o) (hs : P.cellsOf f.type = d.sz) (h : BrN P n f.type d wf)
    (hfs : BF P n fs (o + d.sz) d' wf') (hle : ∀ g ∈ fs, o + d.sz ≤ g.offset) : BF P n (f :: fs) o (Kd.pair d d') (fun x => wf x.1 ∧ wf' x.2) := by
  intro H enc w base spare held m cs xs hm hl hx hf
  have hl' : cs.length = d.sz + d'.sz := hl
  have g := hf 0 f rfl
  rw [ho, Nat.sub_self, List.drop_zero, hs, List.getElem?_eq_getElem (by simp at hx; omega)] at g
  obtain ⟨a, ha, hwa⟩ := h H enc w base spare held m _ _ hm g
  cases xs with
  | nil => simp at hx
  | cons y ys =>
    obtain ⟨b, hb, hwb⟩ := hfs H enc w base spare held m (cs.drop d.sz) ys hm (by rw [List.length_drop]; omega) (by simpa using hx) (fun i q hq => by
      have g2 := hf (i + 1) q (by simpa using hq)
      have hm : q ∈ fs := List.mem_of_getElem? hq
      have := hle q hm
      rw [List.drop_drop, show d.sz + (q.offset - (o + d.sz)) = q.offset - o by omega]
      simpa using g2)
    exact ⟨(a, b), ⟨cs.take d.sz, cs.drop d.sz, (List.take_append_drop _ _).symm, ha, hb⟩, hwa, hwb⟩
theorem br_struct {P : Program} {t : TypeId} {fs : Array Field} {α : Type} {d : Kd α} {wf : α → Prop} {n : Nat} (ht : P.underlying t = some (.struct fs)) (hs : P.cellsOf t = d.sz) (h : BF P n fs.toList 0 d wf) : BrN P (n + 1) t d wf := by
  intro H enc w base spare held m cs x hm hx
  obtain ⟨xs, k, rfl, _, hl, hxs, hf⟩ := DataW.trod_struct ht hx
  exact h H enc w base spare held k cs xs (by omega) (by rw [hl, hs]) (by simpa using hxs) (fun i f hi => by simpa using hf i f (by simpa using hi))
theorem br_struct' {P : Program} {t : TypeId} {fs : Array Field} {α : Type} {d : Kd α} {wf : α → Prop} (ht : P.underlying t = some (.struct fs)) (hs : P.cellsOf t = d.sz) (h : ∀ n, BF P n fs.toList 0 d wf) (n : Nat) : BrN P n t d wf :=
  (br_struct ht hs (h n)).mono (Nat.le_succ n)
theorem br_iso {P : Program} {n : Nat} {t : TypeId} {α β : Type} {d : Kd α} {wf : α → Prop} {f : β → α} (g : α → β) (hg : ∀ y, f (g y) = y) (h : BrN P n t d wf) : BrN P n t (Kd.iso d f) (fun x => wf (f x)) := by
  intro H enc w base spare held m cs x hm hx
  obtain ⟨a, h1, h2⟩ := h H enc w base spare held m cs x hm hx
  exact ⟨g a, by show d.K w (f (g a)) cs; rw [hg]; exact h1, by show wf (f (g a)); rw [hg]; exact h2⟩
/-- A type nested in itself. -/
theorem br_fix {P : Program} {t : TypeId} {α : Type} {F : Kd α → Kd α} {sz : Nat} {E : List Nat} {hs : ∀ n, (Kd.upto F sz E n).sz = sz} {hE : ∀ n q, q ∈ (Kd.upto F sz E n).E → q ∈ E} {wf : Nat → α → Prop}
    (h : ∀ n, BrN P n t (Kd.upto F sz E n) (wf n)) (n : Nat) : BrN P n t (Kd.fix F sz E hs hE) (fun a => ∃ k, wf k a) := by
  intro H enc w base spare held m cs x hm hx
  obtain ⟨a, h1, h2⟩ := h n H enc w base spare held m cs x hm hx
  exact ⟨a, ⟨n, h1⟩, n, h2⟩
theorem arr_of {xs : Array Value} {l : List Value} (h : xs.toList = l) : xs = l.toArray := by rw [← h]

end Go.Proofs.Ytpppopdmnejcfaa.Br


namespace Go.Proofs.Ytpppopdmnejcfaa.BtFnExactVarsOfConstraint
open Go Go.RowKit Go.Proofs.Ytpppopdmnejcfaa.A Go.Proofs.Ytpppopdmnejcfaa.Br Go.Proofs.YtpppopdmnejcfaaW.PrintWords
set_option linter.unusedVariables false
def wf34N : Nat → S34 → Prop
  | 0, _ => False
  | n + 1, x => ((Lit.int .i64 x.f0).wf = true) ∧ ((x.f1 : ByteArray).size ≤ 9223372036854775807) ∧ ((x.f2 : (List S34)).length ≤ 9223372036854775807 ∧ ∀ a ∈ x.f2, wf34N n a)
def wf34 (x : S34) : Prop := ∃ n, wf34N n x
theorem br34N : ∀ n, BrN Try.prog n 34 (Kd.upto F34 3 [34] n) (wf34N n)
  | 0 => BrN.zero _ _ _ _
  | n + 1 => by
    have ih := br34N n
    exact (br_iso (f := (fun x : S34 => (x.f0, x.f1, x.f2))) (fun y => ⟨y.1, y.2.1, y.2.2⟩) (fun _ => rfl) (br_struct Try.underlying34 (show Try.prog.cellsOf 34 = 3 by kernel_rfl) (bf_cons rfl (show Try.prog.cellsOf 3 = 1 by kernel_rfl) (br_int Try.underlying3 n) (bf_cons rfl (show Try.prog.cellsOf 9 = 1 by kernel_rfl) (br_string Try.underlying9 n) (bf_one rfl (show Try.prog.cellsOf 32 = 1 by kernel_rfl) ((br_slice Try.underlying32 (show Try.prog.cellsOf 34 = (Kd.upto F34 3 [34] n).sz by rw [sz34]; kernel_rfl) ih).mono (Nat.le_succ n))) (of_decide_eq_true (by kernel_rfl))) (of_decide_eq_true (by kernel_rfl))))).imp (fun _ h => h)
theorem br34 (n : Nat) : BrN Try.prog n 34 k34 wf34 := br_fix br34N n
end Go.Proofs.Ytpppopdmnejcfaa.BtFnExactVarsOfConstraint

namespace Go.Proofs.Ytpppopdmnejcfaa.Pure
open Go Go.RowKit Go.Proofs.Ytpppopdmnejcfaa.Br Go.Proofs.YtpppopdmnejcfaaW.PrintWords Go.Proofs.YtpppopdmnejcfaaW.PrintLast Go.Proofs.Ytpppopdmnejcfaa.A Go.Proofs.Ytpppopdmnejcfaa.Ext Go.Proofs.Ytpppopdmnejcfaa.BtFnExactVarsOfConstraint
set_option linter.unusedVariables false
def FnExactVarsOfConstraint.Pure : Prop := ∀ (a0_0 : Int) (a0_1 : ByteArray) (a0_2 : ByteArray) (a0_3 : Int) (a0_4 : ByteArray) (l0_5 : (List S34)) (l0_6 : (List Int)) (a0_7 : Int), ((Lit.int .i64 a0_0).wf = true) → ((a0_1 : ByteArray).size ≤ 9223372036854775807) → ((a0_2 : ByteArray).size ≤ 9223372036854775807) → ((Lit.int .i64 a0_3).wf = true) → ((a0_4 : ByteArray).size ≤ 9223372036854775807) → ((l0_5 : (List S34)).length ≤ 9223372036854775807 ∧ ∀ a ∈ l0_5, wf34 a) → ((l0_6 : (List Int)).length ≤ 9223372036854775807 ∧ ∀ a ∈ l0_6, (Lit.int .i64 a).wf = true) → ((Lit.int .i64 a0_7).wf = true) → ∃ k, laws_FnExactVarsOfConstraint.f k a0_0 a0_1 a0_2 a0_3 a0_4 l0_5 l0_6 a0_7 = some true
end Go.Proofs.Ytpppopdmnejcfaa.Pure

namespace Go.Proofs.Ytpppopdmnejcfaa.Pl
set_option linter.unusedVariables false
set_option linter.unusedSimpArgs false
open Go.RowKit Go.Proofs.YtpppopdmnejcfaaW.PrintWords

/-- From some number of rounds on, it answers r. -/
def Evt {α : Type} (g : Nat → Option α) (r : α) : Prop := ∃ K, ∀ k, K ≤ k → g k = some r
section
variable {α β : Type}
theorem Evt.const {g : Option α} {r : α} (h : g = some r) : Evt (fun _ => g) r := ⟨0, fun _ _ => h⟩
theorem Evt.ret (r : α) : Evt (fun _ => some r) r := Evt.const rfl
theorem Evt.bind {g : Nat → Option α} {f : Nat → α → Option β} {a : α} {r : β} (hg : Evt g a) (hf : Evt (fun k => f k a) r) : Evt (fun k => (g k).bind (f k)) r := by
  obtain ⟨K, hK⟩ := hg
  obtain ⟨L, hL⟩ := hf
  exact ⟨max K L, fun k hk => by show (g k).bind (f k) = some r; rw [hK k (by omega)]; exact hL k (by omega)⟩
theorem Evt.bindc {g : Option α} {f : Nat → α → Option β} {a : α} {r : β} (hg : g = some a) (hf : Evt (fun k => f k a) r) : Evt (fun k => g.bind (f k)) r := Evt.bind (Evt.const hg) hf
theorem Evt.step {g : Nat → Option α} {r : α} (h : Evt (fun k => g (k + 1)) r) : Evt g r := by
  obtain ⟨K, hK⟩ := h
  exact ⟨K + 1, fun k hk => by
    obtain ⟨m, rfl⟩ : ∃ m, k = m + 1 := ⟨k - 1, by omega⟩
    exact hK m (by omega)⟩
theorem Evt.pos {c : Prop} [Decidable c] {t e : Nat → Option α} {r : α} (h : c) (ht : Evt t r) : Evt (fun k => if c then t k else e k) r := by
  obtain ⟨K, hK⟩ := ht
  exact ⟨K, fun k hk => (if_pos h).trans (hK k hk)⟩
theorem Evt.neg {c : Prop} [Decidable c] {t e : Nat → Option α} {r : α} (h : ¬ c) (ht : Evt e r) : Evt (fun k => if c then t k else e k) r := by
  obtain ⟨K, hK⟩ := ht
  exact ⟨K, fun k hk => (if_neg h).trans (hK k hk)⟩
theorem Evt.ite {c : Prop} [Decidable c] {t e : Nat → Option α} {x y : α} (ht : c → Evt t x) (he : ¬ c → Evt e y) : Evt (fun k => if c then t k else e k) (if c then x else y) := by
  by_cases h : c
  · rw [if_pos h]; exact Evt.pos h (ht h)
  · rw [if_neg h]; exact Evt.neg h (he h)
theorem Evt.get {g : Nat → Option α} {r : α} (h : Evt g r) : ∃ k, g k = some r := by
  obtain ⟨K, hK⟩ := h
  exact ⟨K, hK K (Nat.le_refl _)⟩
theorem Evt.of_eq {g g' : Nat → Option α} {r : α} (h : ∀ k, g k = g' k) (h' : Evt g' r) : Evt g r := by
  obtain ⟨K, hK⟩ := h'
  exact ⟨K, fun k hk => by rw [h]; exact hK k hk⟩
theorem Evt.cast {g : Nat → Option α} {r r' : α} (h : Evt g r) (e : r = r') : Evt g r' := e ▸ h
/-- A loop that counts up from 0 to n: what it answers at i is R i. -/
theorem Evt.up (l : Nat → Int → Option α) (n : Nat) (R : Nat → α) (hend : Evt (fun k => l k (n : Int)) (R n))
    (hstep : ∀ i : Nat, i < n → Evt (fun k => l k ((i + 1 : Nat) : Int)) (R (i + 1)) → Evt (fun k => l k (i : Int)) (R i)) : Evt (fun k => l k 0) (R 0) := by
  have h : ∀ d i : Nat, i + d = n → Evt (fun k => l k (i : Int)) (R i) := by
    intro d
    induction d with
    | zero =>
      intro i hi
      obtain rfl : i = n := by omega
      exact hend
    | succ d ih =>
      intro i hi
      exact hstep i (by omega) (ih (i + 1) (by omega))
  exact h n 0 (by omega)
end

theorem w64 {x : Int} (h : -9223372036854775808 ≤ x) (h' : x ≤ 9223372036854775807) : wrap64 x = x := by unfold wrap64; omega
/-- The counter's next value. -/
theorem w64s {i : Nat} (h : i < 9223372036854775807) : wrap64 ((i : Int) + 1) = ((i + 1 : Nat) : Int) := by
  rw [w64 (by omega) (by omega)]; omega

theorem bt0 (s : ByteArray) (i : Int) : 0 ≤ bt s i := (bt_range s i).1
theorem bt255 (s : ByteArray) (i : Int) : bt s i ≤ 255 := (bt_range s i).2
theorem bt_get (s : ByteArray) (i : Nat) (h : i < (bytesOf s).length) : bt s (i : Int) = (bytesOf s)[i] := by
  rw [← rd_bytesOf]
  simp [rd, h]
theorem bytesOf_inj {s t : ByteArray} (h : bytesOf s = bytesOf t) : s = t := by
  have h1 : s.data.toList = t.data.toList := by
    refine List.map_inj_right (f := fun b : UInt8 => (b.toNat : Int)) (fun x y hxy => ?_) |>.1 h
    exact UInt8.toNat_inj.1 (Int.ofNat_inj.1 hxy)
  cases s; cases t
  simp only [ByteArray.mk.injEq]
  exact Array.toList_inj.1 h1
theorem toList_eq_iff (s t : ByteArray) : s.toList = t.toList ↔ s = t := by
  rw [Lib.toList_data, Lib.toList_data]
  constructor
  · intro h
    cases s; cases t
    simp only [ByteArray.mk.injEq]
    exact Array.toList_inj.1 h
  · rintro rfl; rfl
theorem toList_nil_iff (s : ByteArray) : s.toList = ([] : List UInt8) ↔ s.size = 0 := by
  rw [Lib.toList_data, ← data_length, List.length_eq_zero_iff]
theorem mem_bytes (s : ByteArray) {c : Int} (h : c ∈ bytesOf s) : 0 ≤ c ∧ c ≤ 255 := by
  unfold bytesOf at h
  obtain ⟨b, _, rfl⟩ := List.mem_map.1 h
  have := b.toNat_lt
  omega
theorem bytesOf_append (s t : ByteArray) : bytesOf (s ++ t) = bytesOf s ++ bytesOf t := by
  simp [bytesOf, ByteArray.data_append]
theorem bytesOf_extract (s : ByteArray) (a b : Nat) : bytesOf (s.extract a b) = ((bytesOf s).drop a).take (b - a) := by
  have h := Lib.extract_toList s a b
  rw [Lib.toList_data] at h
  unfold bytesOf
  rw [h, List.map_take, List.map_drop]
theorem bytesOf_tail (s : ByteArray) (a : Nat) : bytesOf (s.extract a s.size) = (bytesOf s).drop a := by
  rw [bytesOf_extract, List.take_of_length_le]
  rw [List.length_drop, bytesOf_length]
  exact Nat.le_refl _

/-- A letter's number. -/
def ltI (c : Int) : Int := if 97 = c then 0 else if 98 = c then 1 else if 99 = c then 2 else -1
def varI (c : Int) : Int := if 88 = c then 0 else if 89 = c then 1 else if 90 = c then 2 else -1
def isVr (c : Int) : Bool := decide (88 ≤ c ∧ c ≤ 90)
theorem ix_abc : ∀ n : Nat, n < 256 → Lib.indexByte [97, 98, 99] n.toUInt8 = ltI (n : Int) := by decide +kernel
theorem ix_XYZ : ∀ n : Nat, n < 256 → Lib.indexByte [88, 89, 90] n.toUInt8 = varI (n : Int) := by decide +kernel
theorem varI_isVar (c : Int) : decide (varI c ≥ 0) = isVr c := by
  unfold varI isVr
  split
  · subst_vars; rfl
  · split
    · subst_vars; rfl
    · split
      · subst_vars; rfl
      · simp; omega
theorem ltI_nonneg (c : Int) : 0 ≤ ltI c ↔ (97 ≤ c ∧ c ≤ 99) := by
  unfold ltI
  split
  · subst_vars; simp
  · split
    · subst_vars; simp
    · split
      · subst_vars; simp
      · simp; omega
theorem ltI_le (c : Int) : ltI c ≤ 2 := by
  unfold ltI
  repeat' split
  all_goals omega
theorem ltI_ge (c : Int) : -1 ≤ ltI c := by
  unfold ltI
  repeat' split
  all_goals omega
theorem bt_abc0 : bt (⟨#[97, 98, 99]⟩ : ByteArray) 0 = 97 := by decide
theorem bt_abc1 : bt (⟨#[97, 98, 99]⟩ : ByteArray) 1 = 98 := by decide
theorem bt_abc2 : bt (⟨#[97, 98, 99]⟩ : ByteArray) 2 = 99 := by decide
theorem bt_XYZ0 : bt (⟨#[88, 89, 90]⟩ : ByteArray) 0 = 88 := by decide
theorem bt_XYZ1 : bt (⟨#[88, 89, 90]⟩ : ByteArray) 1 = 89 := by decide
theorem bt_XYZ2 : bt (⟨#[88, 89, 90]⟩ : ByteArray) 2 = 90 := by decide
theorem w64_a : wrap64 1 = 1 := by unfold wrap64; omega
theorem w64_b : wrap64 2 = 2 := by unfold wrap64; omega
theorem w64_c : wrap64 3 = 3 := by unfold wrap64; omega
theorem w64_1 : wrap64 (0 + 1) = 1 := by unfold wrap64; omega
theorem w64_2 : wrap64 (1 + 1) = 2 := by unfold wrap64; omega
theorem w64_3 : wrap64 (2 + 1) = 3 := by unfold wrap64; omega

theorem indexByte_nonneg (l : List UInt8) (c : UInt8) : 0 ≤ Lib.indexByte l c ↔ c ∈ l := by
  induction l with
  | nil => simp [Lib.indexByte]
  | cons b l ih =>
    unfold Lib.indexByte
    by_cases h : b = c
    · subst h; simp
    · have hb : (b == c) = false := by simpa using h
      rw [hb]
      have hge := Lib.indexByte_ge l c
      by_cases h2 : Lib.indexByte l c = -1
      · simp only [h2]
        simp
        refine ⟨fun e => h e.symm, fun hm => ?_⟩
        have := ih.2 hm
        omega
      · have h3 : (Lib.indexByte l c == -1) = false := by simpa using h2
        rw [h3]
        simp
        constructor
        · intro _; exact .inr (ih.1 (by omega))
        · rintro (e | hm)
          · exact absurd e.symm h
          · have := ih.2 hm; omega
theorem mem_data (s : ByteArray) (n : Nat) (hn : n < 256) : n.toUInt8 ∈ s.data.toList ↔ (n : Int) ∈ bytesOf s := by
  unfold bytesOf
  rw [List.mem_map]
  constructor
  · intro h
    exact ⟨_, h, by simp [Nat.mod_eq_of_lt hn]⟩
  · rintro ⟨b, hb, e⟩
    have e2 : b.toNat = n := by omega
    subst e2
    simpa using hb
theorem w64_sub {a : Int} {n : Nat} (ha : -1 ≤ a) (ha' : a ≤ 1048576) (hn : n ≤ 9223372036854775807) : wrap64 (a - (n : Int)) = a - (n : Int) := w64 (by omega) (by omega)
end Go.Proofs.Ytpppopdmnejcfaa.Pl

namespace Go.Proofs.Ytpppopdmnejcfaa.F
set_option linter.unusedVariables false
set_option linter.unusedSimpArgs false
open Go.RowKit Go.Proofs.YtpppopdmnejcfaaW.PrintWords Go.Proofs.Ytpppopdmnejcfaa.Pl Go.Proofs.Ytpppopdmnejcfaa.A Go.Proofs.Ytpppopdmnejcfaa.Ext

/-- From some numbers of rounds on, the depth's and the loop's. -/
def Evt2 {α : Type} (g : Nat → Nat → Option α) (r : α) : Prop := ∃ K, ∀ i j, K ≤ i → K ≤ j → g i j = some r
theorem Evt2.ret {α : Type} (r : α) : Evt2 (fun _ _ => some r) r := ⟨0, fun _ _ _ _ => rfl⟩
theorem Evt2.bind {α β : Type} {g : Nat → Option α} {f : Nat → Nat → α → Option β} {a : α} {r : β} (hg : Evt g a) (hf : Evt2 (fun i j => f i j a) r) : Evt2 (fun i j => (g i).bind (f i j)) r := by
  obtain ⟨K, hK⟩ := hg
  obtain ⟨L, hL⟩ := hf
  exact ⟨max K L, fun i j hi hj => by show (g i).bind (f i j) = some r; rw [hK i (by omega)]; exact hL i j (by omega) (by omega)⟩
theorem Evt2.bind2 {α β : Type} {g : Nat → Nat → Option α} {f : Nat → Nat → α → Option β} {a : α} {r : β} (hg : Evt2 g a) (hf : Evt2 (fun i j => f i j a) r) : Evt2 (fun i j => (g i j).bind (f i j)) r := by
  obtain ⟨K, hK⟩ := hg
  obtain ⟨L, hL⟩ := hf
  exact ⟨max K L, fun i j hi hj => by show (g i j).bind (f i j) = some r; rw [hK i j (by omega) (by omega)]; exact hL i j (by omega) (by omega)⟩
theorem Evt2.pos {α : Type} {c : Prop} [Decidable c] {t e : Nat → Nat → Option α} {r : α} (h : c) (ht : Evt2 t r) : Evt2 (fun i j => if c then t i j else e i j) r := by
  obtain ⟨K, hK⟩ := ht
  exact ⟨K, fun i j hi hj => by show (if c then t i j else e i j) = some r; rw [if_pos h]; exact hK i j hi hj⟩
theorem Evt2.neg {α : Type} {c : Prop} [Decidable c] {t e : Nat → Nat → Option α} {r : α} (h : ¬ c) (he : Evt2 e r) : Evt2 (fun i j => if c then t i j else e i j) r := by
  obtain ⟨K, hK⟩ := he
  exact ⟨K, fun i j hi hj => by show (if c then t i j else e i j) = some r; rw [if_neg h]; exact hK i j hi hj⟩
theorem Evt2.step {α : Type} {g : Nat → Nat → Option α} {r : α} (h : Evt2 (fun i j => g i (j + 1)) r) : Evt2 g r := by
  obtain ⟨K, hK⟩ := h
  refine ⟨K + 1, fun i j hi hj => ?_⟩
  obtain ⟨j, rfl⟩ : ∃ m, j = m + 1 := ⟨j - 1, by omega⟩
  exact hK i j (by omega) (by omega)
theorem Evt2.diag {α : Type} {g : Nat → Nat → Option α} {r : α} (h : Evt2 g r) : Evt (fun k => g k k) r := by
  obtain ⟨K, hK⟩ := h
  exact ⟨K, fun k hk => hK k k hk hk⟩
theorem Evt2.cast {α : Type} {g : Nat → Nat → Option α} {r r' : α} (h : Evt2 g r) (e : r = r') : Evt2 g r' := e ▸ h

/-- Lengths that a machine can hold, at every depth. -/
def RxOk : Nat → S34 → Prop
  | 0, _ => False
  | n + 1, x => x.f1.size ≤ 9223372036854775807 ∧ x.f2.length ≤ 9223372036854775807 ∧ ∀ a ∈ x.f2, RxOk n a
/-- A copy of what weighing lets through. -/
inductive Sm : S42 → Prop
  | mk (a : Int) (b : ByteArray) (l : List S42) (h : l.length ≤ 1048576) (hs : ∀ x ∈ l, Sm x) : Sm ⟨a, b, l⟩
theorem Sm.len {x : S42} (h : Sm x) : x.f2.length ≤ 1048576 := by cases h; assumption
theorem rxL_at (l : List S34) (i : Nat) (h : i < l.length) : rd_T34 l (i : Int) = l[i] := by simp [rd_T34, h]
theorem rxI_at (l : List S42) (i : Nat) (h : i < l.length) : rd_T42 l (i : Int) = l[i] := by simp [rd_T42, h]
theorem rx_eta (y : S42) : (⟨y.f0, y.f1, y.f2⟩ : S42) = y := by cases y; rfl
/-- Its copy. -/
def Cp (x : S34) (y : S42) : Prop := Sm y ∧ Evt (fun k => laws_toRegex.f k x.f0 x.f1 x.f2) (y.f0, y.f1, y.f2)
theorem copies (l : List S34) (h : ∀ x ∈ l, ∃ y, Cp x y) : ∃ ys : List S42, ys.length = l.length ∧ ∀ (i : Nat) (h : i < l.length) (h' : i < ys.length), Cp l[i] ys[i] := by
  induction l with
  | nil => exact ⟨[], rfl, fun i h => absurd h (by simp)⟩
  | cons x l ih =>
    obtain ⟨y, hy⟩ := h x (by simp)
    obtain ⟨ys, h1, h2⟩ := ih (fun z hz => h z (by simp [hz]))
    refine ⟨y :: ys, by simp [h1], fun i hi hi' => ?_⟩
    cases i with
    | zero => exact hy
    | succ i => exact h2 i (by simpa using hi) (by simpa using hi')
theorem toRegex_ev (a : Int) (b : ByteArray) (l : List S34) (hl : l.length ≤ 1048576) (h : ∀ x ∈ l, ∃ y, Cp x y) : ∃ y, Cp ⟨a, b, l⟩ y := by
  obtain ⟨ys, e, hc⟩ := copies l h
  refine ⟨⟨a, b, ys⟩, Sm.mk a b ys (by omega) (fun y hy => ?_), ?_⟩
  · obtain ⟨i, hi, rfl⟩ := List.mem_iff_getElem.1 hy
    exact (hc i (by omega) hi).1
  · refine Evt.step ?_
    simp only [laws_toRegex.f]
    refine Evt2.diag (g := fun i j => laws_toRegexG.f (fun _ => laws_toRegex.f i) j a b l) ?_
    simp only [laws_toRegexG.f, laws_toRegexSG.f]
    refine Evt2.bind2 (a := ys) (Evt2.pos (by omega) (Evt2.pos (by omega) ?_)) (Evt2.ret _)
    rw [Int.toNat_natCast]
    have hh : ∀ d i : Nat, i + d = l.length → Evt2 (fun p q => laws_toRegexSG.l0 (fun _ => laws_toRegex.f p) q l (ys.take i ++ List.replicate (l.length - i) z42) (i : Int)) ys := by
      intro d
      induction d with
      | zero =>
        intro i hi
        refine Evt2.step ?_
        simp only [laws_toRegexSG.l0]
        refine Evt2.neg (by omega) ((Evt2.ret _).cast ?_)
        rw [show l.length - i = 0 by omega, List.take_of_length_le (by omega)]
        simp
      | succ d ih =>
        intro i hi
        have hi' : i < l.length := by omega
        refine Evt2.step ?_
        simp only [laws_toRegexSG.l0]
        rw [rxL_at l i hi']
        refine Evt2.pos (by omega) (Evt2.pos (by omega) (Evt2.bind (hc i hi' (by omega)).2 (Evt2.pos (by simp; omega) ?_)))
        rw [Int.toNat_natCast, w64s (by omega)]
        have hx : (ys.take i).length = i := by rw [List.length_take]; omega
        have e2 : (ys.take i ++ List.replicate (l.length - i) z42).set i (ys[i]'(by omega)) = ys.take (i + 1) ++ List.replicate (l.length - (i + 1)) z42 := by
          rw [List.set_append_right _ _ (by omega), hx, Nat.sub_self, show l.length - i = (l.length - (i + 1)) + 1 by omega, List.replicate_succ, List.set_cons_zero, List.take_succ_eq_append_getElem (by omega), List.append_assoc]
          rfl
        simp only [rx_eta, e2]
        exact ih (i + 1) (by omega)
    simpa using hh l.length 0 (by omega)
theorem szRegex_ev : ∀ n (x : S34), RxOk n x → ∀ v : Int, 0 ≤ v → v ≤ 1048576 → ∃ t, Evt (fun k => laws_szRegex.f k x.f0 x.f1 x.f2 v) t ∧ (t = -1 ∨ (0 ≤ t ∧ t ≤ v ∧ ∃ y, Cp x y)) := by
  intro n
  induction n with
  | zero => intro x h; exact h.elim
  | succ n ih =>
    rintro ⟨a, b, l⟩ ⟨h1, h2, h3⟩ v hv hv'
    simp only at h1 h2 h3
    have hs : ∃ t, Evt2 (fun i j => laws_szRegexG.f (fun _ => laws_szRegex.f i) j a b l v) t ∧ (t = -1 ∨ (0 ≤ t ∧ t ≤ v ∧ ∃ y, Cp ⟨a, b, l⟩ y)) := by
      simp only [laws_szRegexG.f, laws_szRegexSG.f]
      rw [w64_sub (by omega) (by omega) h1]
      by_cases c1 : v - b.size < 0
      · exact ⟨-1, Evt2.pos c1 (Evt2.ret _), .inl rfl⟩
      rw [w64_sub (by omega) (by omega) h2]
      by_cases c2 : v - b.size - l.length < 0
      · exact ⟨-1, Evt2.neg c1 (Evt2.bind2 (Evt2.pos c2 (Evt2.ret _)) (Evt2.pos (by decide) (Evt2.ret _))), .inl rfl⟩
      have hh : ∀ d i : Nat, i + d = l.length → ∀ u : Int, 0 ≤ u → u ≤ 1048576 → ∃ t, Evt2 (fun p q => laws_szRegexSG.l0 (fun _ => laws_szRegex.f p) q l u (i : Int)) t ∧ (t = -1 ∨ (0 ≤ t ∧ t ≤ u ∧ ∀ x ∈ l.drop i, ∃ y, Cp x y)) := by
        intro d
        induction d with
        | zero =>
          intro i hi u hu hu'
          refine ⟨u, Evt2.step ?_, .inr ⟨hu, Int.le_refl _, ?_⟩⟩
          · simp only [laws_szRegexSG.l0]
            exact Evt2.neg (by omega) (Evt2.ret _)
          · rw [List.drop_of_length_le (by omega)]
            intro x hx
            cases hx
        | succ d ihd =>
          intro i hi u hu hu'
          have hi' : i < l.length := by omega
          obtain ⟨t, ht, hc⟩ := ih l[i] (h3 _ (List.getElem_mem hi')) u hu hu'
          by_cases c3 : t < 0
          · refine ⟨-1, Evt2.step ?_, .inl rfl⟩
            simp only [laws_szRegexSG.l0]
            rw [rxL_at l i hi']
            exact Evt2.pos (by omega) (Evt2.pos (by omega) (Evt2.bind ht (Evt2.pos c3 (Evt2.ret _))))
          · have hc' := hc.resolve_left (by omega)
            obtain ⟨t', ht', hc2⟩ := ihd (i + 1) (by omega) t (by omega) (by omega)
            refine ⟨t', Evt2.step ?_, ?_⟩
            · simp only [laws_szRegexSG.l0]
              rw [rxL_at l i hi', w64s (by omega)]
              exact Evt2.pos (by omega) (Evt2.pos (by omega) (Evt2.bind ht (Evt2.neg c3 ht')))
            · rcases hc2 with h4 | ⟨h4, h5, h6⟩
              · exact .inl h4
              · refine .inr ⟨h4, by omega, ?_⟩
                rw [List.drop_eq_getElem_cons hi']
                intro x hx
                rcases List.mem_cons.1 hx with rfl | hx
                · exact hc'.2.2
                · exact h6 x hx
      obtain ⟨t, ht, hc⟩ := hh l.length 0 (by omega) (v - b.size - l.length) (by omega) (by omega)
      by_cases c4 : t < 0
      · exact ⟨-1, Evt2.neg c1 (Evt2.bind2 (Evt2.neg c2 ht) (Evt2.pos c4 (Evt2.ret _))), .inl rfl⟩
      · have hc' := hc.resolve_left (by omega)
        refine ⟨t, Evt2.neg c1 (Evt2.bind2 (Evt2.neg c2 ht) (Evt2.neg c4 (Evt2.ret _))), .inr ⟨hc'.1, by omega, toRegex_ev a b l (by omega) (by simpa using hc'.2.2)⟩⟩
    obtain ⟨t, ht, hc⟩ := hs
    refine ⟨t, Evt.step ?_, hc⟩
    simp only [laws_szRegex.f]
    exact Evt2.diag ht

end Go.Proofs.Ytpppopdmnejcfaa.F


namespace Go.Proofs.Ytpppopdmnejcfaa.F
set_option linter.unusedVariables false
set_option linter.unusedSimpArgs false
open Go.RowKit Go.Proofs.YtpppopdmnejcfaaW.PrintWords Go.Proofs.Ytpppopdmnejcfaa.Pl Go.Proofs.Ytpppopdmnejcfaa.A Go.Proofs.Ytpppopdmnejcfaa.Ext

theorem spec_LetterIndex_ev (c : Int) : Evt (fun k => spec_LetterIndex.f k c) (ltI c) := by
  refine ⟨4, fun k hk => ?_⟩
  obtain ⟨m, rfl⟩ : ∃ m, k = m + 4 := ⟨k - 4, by omega⟩
  unfold ltI
  by_cases h0 : (97 : Int) = c
  · simp [spec_LetterIndex.f, spec_LetterIndex.l0, w64_a, w64_b, w64_c, bt_abc0, bt_abc1, bt_abc2, h0]
  · by_cases h1 : (98 : Int) = c
    · simp [spec_LetterIndex.f, spec_LetterIndex.l0, w64_a, w64_b, w64_c, bt_abc0, bt_abc1, bt_abc2, h0, h1]
    · by_cases h2 : (99 : Int) = c
      · simp [spec_LetterIndex.f, spec_LetterIndex.l0, w64_a, w64_b, w64_c, bt_abc0, bt_abc1, bt_abc2, h0, h1, h2]
      · simp [spec_LetterIndex.f, spec_LetterIndex.l0, w64_a, w64_b, w64_c, bt_abc0, bt_abc1, bt_abc2, h0, h1, h2]
theorem impl_LetterIndex_eq {c : Int} (h0 : 0 ≤ c) (h1 : c ≤ 255) : impl_LetterIndex.f c = some (ltI c) := by
  obtain ⟨n, rfl⟩ := Int.eq_ofNat_of_zero_le h0
  simp only [impl_LetterIndex.f, strings_IndexByte.f, Option.bind_some]
  rw [Int.toNat_natCast]
  exact congrArg some (ix_abc n (by omega))

def allL (l : List Int) : Bool := l.all fun c => decide (0 ≤ ltI c)
theorem impl_isLetters_ev (s : ByteArray) (hs : s.size ≤ 9223372036854775807) : Evt (fun k => impl_isLetters.f k s) (allL (bytesOf s)) := by
  have h := Evt.up (fun k i => impl_isLetters.l0 k s i) s.size (fun i => allL ((bytesOf s).drop i)) ?_ ?_
  · simpa [impl_isLetters.f] using h
  · refine Evt.step ?_
    simp only [impl_isLetters.l0]
    rw [List.drop_of_length_le (by rw [bytesOf_length]; omega)]
    exact Evt.neg (by omega) (Evt.ret _)
  · intro i hi h
    refine Evt.step ?_
    simp only [impl_isLetters.l0]
    refine Evt.pos (by omega) (Evt.pos (by omega) (Evt.bindc (impl_LetterIndex_eq (bt0 _ _) (bt255 _ _)) ?_))
    have hl : i < (bytesOf s).length := by rw [bytesOf_length]; exact hi
    rw [List.drop_eq_getElem_cons hl, ← bt_get s i hl]
    by_cases hc : ltI (bt s i) < 0
    · exact Evt.pos hc (Evt.const (by simp [allL, show ¬ (0 ≤ ltI (bt s i)) by omega]))
    · rw [w64s (by omega)]
      exact Evt.neg hc (h.cast (by simp [allL, show 0 ≤ ltI (bt s i) by omega]))
/-- A word. -/
def isW (s : ByteArray) : Bool := allL (bytesOf s) && decide (s.size ≤ 30)
theorem impl_IsWord_ev (s : ByteArray) (hs : s.size ≤ 9223372036854775807) : Evt (fun k => impl_IsWord.f k s) (isW s) := by
  unfold isW
  simp only [impl_IsWord.f]
  by_cases h : s.size ≤ 30
  · exact Evt.pos (by omega) (Evt.bind (impl_isLetters_ev s hs) (Evt.const (by simp [h])))
  · exact Evt.neg (by omega) (Evt.const (by simp [h]))
theorem spec_IsWord_ev (s : ByteArray) (hs : s.size ≤ 9223372036854775807) : Evt (fun k => spec_IsWord.f k s) (isW s) := by
  have h := Evt.up (fun k i => spec_IsWord.l0 k s i) s.size (fun i => allL ((bytesOf s).drop i) && decide (s.size ≤ 30)) ?_ ?_
  · simpa [spec_IsWord.f, isW] using h
  · refine Evt.step ?_
    simp only [spec_IsWord.l0]
    rw [List.drop_of_length_le (by rw [bytesOf_length]; omega)]
    refine Evt.neg (by omega) (Evt.const ?_)
    have e : ((s.size : Int) ≤ 30) = (s.size ≤ 30) := by apply propext; omega
    simp [allL, e]
  · intro i hi h
    refine Evt.step ?_
    simp only [spec_IsWord.l0]
    refine Evt.pos (by omega) (Evt.pos (by omega) (Evt.bind (spec_LetterIndex_ev _) ?_))
    have hl : i < (bytesOf s).length := by rw [bytesOf_length]; exact hi
    rw [List.drop_eq_getElem_cons hl, ← bt_get s i hl]
    by_cases hc : ltI (bt s i) < 0
    · exact Evt.pos hc (Evt.const (by simp [allL, show ¬ (0 ≤ ltI (bt s i)) by omega]))
    · rw [w64s (by omega)]
      exact Evt.neg hc (h.cast (by simp [allL, show 0 ≤ ltI (bt s i) by omega]))

end Go.Proofs.Ytpppopdmnejcfaa.F


namespace Go.Proofs.Ytpppopdmnejcfaa.F
set_option linter.unusedVariables false
set_option linter.unusedSimpArgs false
open Go.RowKit Go.Proofs.YtpppopdmnejcfaaW.PrintWords Go.Proofs.Ytpppopdmnejcfaa.Pl Go.Proofs.Ytpppopdmnejcfaa.A Go.Proofs.Ytpppopdmnejcfaa.Ext

/-- How many arguments a kind has. -/
def arN (a : Int) : Nat := if a = 5 ∨ a = 6 ∨ a = 7 then 2 else if a = 8 ∨ a = 9 then 1 else 0
theorem arN_le (a : Int) : arN a ≤ 2 := by
  unfold arN
  split
  · omega
  · split <;> omega
/-- The shape of one node. -/
def kOk (a : Int) (b : ByteArray) (n : Nat) : Bool :=
  if a = 3 then decide (b.size = 1) && isW b && decide (n = 0) else decide (1 ≤ a ∧ a ≤ 9) && decide (b.size = 0) && decide (n = arN a)
theorem kOk_len {a : Int} {b : ByteArray} {n : Nat} (h : kOk a b n = true) : n = arN a := by
  unfold kOk at h
  split at h
  · next e => subst e; simp at h; simp [h.2, arN]
  · simp at h; exact h.2
/-- The nodes of a valid expression of a depth of at most n; more than 16 are told as 17, and so is what is not valid. -/
def nds : Nat → S42 → Nat
  | 0, _ => 17
  | n + 1, x => if kOk x.f0 x.f1 x.f2.length = true then min (1 + (x.f2.map (nds n)).sum) 17 else 17
theorem nds_le (n : Nat) (x : S42) : nds n x ≤ 17 := by
  cases n with
  | zero => exact Nat.le_refl _
  | succ n => unfold nds; split <;> omega
/-- A tree of a height of at most n. -/
def Ht : Nat → S42 → Prop
  | 0, _ => False
  | n + 1, x => x.f2.length ≤ 1048576 ∧ ∀ a ∈ x.f2, Ht n a
theorem Ht_mono : ∀ n (x : S42), Ht n x → Ht (n + 1) x := by
  intro n
  induction n with
  | zero => intro x h; exact h.elim
  | succ n ih => intro x h; exact ⟨h.1, fun a ha => ih a (h.2 a ha)⟩
theorem Ht_le {n m : Nat} (h : n ≤ m) (x : S42) (hx : Ht n x) : Ht m x := by
  induction h with
  | refl => exact hx
  | step _ ih => exact Ht_mono _ _ ih
theorem Sm.ht {x : S42} (h : Sm x) : ∃ n, Ht n x := by
  induction h with
  | mk a b l hl hs ih =>
    have h3 : ∃ n, ∀ a ∈ l, Ht n a := by
      clear hl hs
      induction l with
      | nil => exact ⟨0, fun a ha => by cases ha⟩
      | cons x l ihl =>
        obtain ⟨n, hn⟩ := ihl (fun a ha => ih a (List.mem_cons_of_mem _ ha))
        obtain ⟨m, hm⟩ := ih x (List.mem_cons_self ..)
        refine ⟨max n m, fun a ha => ?_⟩
        rcases List.mem_cons.1 ha with rfl | ha
        · exact Ht_le (by omega) _ hm
        · exact Ht_le (by omega) _ (hn a ha)
    obtain ⟨n, hn⟩ := h3
    exact ⟨n + 1, hl, hn⟩
/-- All nodes, the depth, and whether each node has its shape. -/
def siz : Nat → S42 → Nat
  | 0, _ => 1
  | n + 1, x => 1 + (x.f2.map (siz n)).sum
def dep : Nat → S42 → Nat
  | 0, _ => 1
  | n + 1, x => (x.f2.map (dep n)).foldr max 0 + 1
def alls : Nat → S42 → Bool
  | 0, _ => true
  | n + 1, x => (x.f2.all (alls n)) && kOk x.f0 x.f1 x.f2.length
theorem siz_pos (n : Nat) (x : S42) : 1 ≤ siz n x := by cases n <;> simp [siz]
theorem dep_pos (n : Nat) (x : S42) : 1 ≤ dep n x := by cases n <;> simp [dep]
theorem dep_le_siz (n : Nat) : ∀ x : S42, dep n x ≤ siz n x := by
  induction n with
  | zero => intro x; simp [dep, siz]
  | succ n ih =>
    intro x
    simp only [dep, siz]
    generalize x.f2 = l
    induction l with
    | nil => simp
    | cons y l ihl => simp only [List.map_cons, List.foldr_cons, List.sum_cons]; have := ih y; omega
theorem nds_eq (n : Nat) : ∀ (x : S42) (e : Nat), Ht n x → nds e x = if alls n x = true ∧ dep n x ≤ e ∧ siz n x ≤ 16 then siz n x else 17 := by
  induction n with
  | zero => intro x e h; exact h.elim
  | succ n ih =>
    intro x e h
    cases e with
    | zero =>
      have := dep_pos (n + 1) x
      rw [if_neg (by omega)]
      rfl
    | succ e =>
      unfold nds
      by_cases hk : kOk x.f0 x.f1 x.f2.length = true
      · rw [if_pos hk]
        have hl := kOk_len hk
        have h2 := arN_le x.f0
        obtain ⟨_, hm⟩ := h
        simp only [alls, dep, siz, hk, Bool.and_true]
        generalize x.f2 = l at *
        match l with
        | [] => simp
        | [p] =>
          have ip := ih p e (hm p (by simp))
          have hp := siz_pos n p
          have hq := dep_pos n p
          simp only [List.map_cons, List.map_nil, List.sum_cons, List.sum_nil, List.foldr_cons, List.foldr_nil, List.all_cons, List.all_nil, Bool.and_true, ip]
          by_cases c1 : alls n p = true <;> by_cases c2 : dep n p ≤ e <;> by_cases c3 : siz n p ≤ 16 <;> simp only [c1, c2, c3, true_and, false_and, and_true, and_false, if_true, if_false, Bool.false_eq_true] <;> first | omega | (split <;> omega)
        | [p, q] =>
          have ip := ih p e (hm p (by simp))
          have iq := ih q e (hm q (by simp))
          have hp := siz_pos n p
          have hq := siz_pos n q
          have hp' := dep_pos n p
          have hq' := dep_pos n q
          simp only [List.map_cons, List.map_nil, List.sum_cons, List.sum_nil, List.foldr_cons, List.foldr_nil, List.all_cons, List.all_nil, Bool.and_true, ip, iq, Bool.and_eq_true]
          by_cases c1 : alls n p = true <;> by_cases c2 : dep n p ≤ e <;> by_cases c3 : siz n p ≤ 16 <;> by_cases c1' : alls n q = true <;> by_cases c2' : dep n q ≤ e <;> by_cases c3' : siz n q ≤ 16 <;> simp only [c1, c2, c3, c1', c2', c3', true_and, false_and, and_true, and_false, if_true, if_false, Bool.false_eq_true] <;> first | omega | (split <;> omega)
        | p :: q :: r :: l => simp at hl; omega
      · rw [if_neg hk, if_neg]
        simp [alls, hk]

end Go.Proofs.Ytpppopdmnejcfaa.F


namespace Go.Proofs.Ytpppopdmnejcfaa.F
set_option linter.unusedVariables false
set_option linter.unusedSimpArgs false
open Go.RowKit Go.Proofs.YtpppopdmnejcfaaW.PrintWords Go.Proofs.Ytpppopdmnejcfaa.Pl Go.Proofs.Ytpppopdmnejcfaa.A Go.Proofs.Ytpppopdmnejcfaa.Ext

theorem impl_isVariable_eq {c : Int} (h0 : 0 ≤ c) (h1 : c ≤ 255) : impl_isVariable.f c = some (isVr c) := by
  obtain ⟨n, rfl⟩ := Int.eq_ofNat_of_zero_le h0
  simp only [impl_isVariable.f, strings_IndexByte.f, Option.bind_some]
  rw [Int.toNat_natCast, ← varI_isVar, ← ix_XYZ n (by omega)]
theorem spec_l8Var_eq (c : Int) : spec_l8Var.f c = some (isVr c) := by
  unfold spec_l8Var.f isVr
  by_cases h : c ≥ 88
  · rw [if_pos h]; simp [show 88 ≤ c from h]
  · rw [if_neg h]; simp [show ¬ 88 ≤ c from h]

def isT (c : Int) : Bool := decide (0 ≤ ltI c) || isVr c
/-- A term. -/
def isTm (s : ByteArray) : Bool := (bytesOf s).all isT && decide (s.size ≤ 12)
theorem spec_IsTerm_ev (s : ByteArray) (hs : s.size ≤ 9223372036854775807) : Evt (fun k => spec_IsTerm.f k s) (isTm s) := by
  have h := Evt.up (fun k i => spec_IsTerm.l0 k s i) s.size (fun i => ((bytesOf s).drop i).all isT && decide (s.size ≤ 12)) ?_ ?_
  · simpa [spec_IsTerm.f, isTm] using h
  · refine Evt.step ?_
    simp only [spec_IsTerm.l0]
    rw [List.drop_of_length_le (by rw [bytesOf_length]; omega)]
    refine Evt.neg (by omega) (Evt.const ?_)
    have e : ((s.size : Int) ≤ 12) = (s.size ≤ 12) := by apply propext; omega
    simp [e]
  · intro i hi h
    refine Evt.step ?_
    simp only [spec_IsTerm.l0]
    refine Evt.pos (by omega) (Evt.pos (by omega) (Evt.bind (spec_LetterIndex_ev _) ?_))
    have hl : i < (bytesOf s).length := by rw [bytesOf_length]; exact hi
    rw [List.drop_eq_getElem_cons hl, ← bt_get s i hl, w64s (by omega)]
    by_cases hc : ltI (bt s i) < 0
    · refine Evt.pos hc (Evt.bindc (spec_l8Var_eq _) ?_)
      by_cases hv : isVr (bt s i) = true
      · exact Evt.pos hv (h.cast (by simp [isT, hv]))
      · exact Evt.neg hv (Evt.const (by simp [isT, hv, show ¬ (0 ≤ ltI (bt s i)) by omega]))
    · exact Evt.neg hc (h.cast (by simp [isT, show 0 ≤ ltI (bt s i) by omega]))
theorem impl_IsTerm_ev (s : ByteArray) : Evt (fun k => impl_IsTerm.f k s) (isTm s) := by
  simp only [impl_IsTerm.f]
  by_cases h12 : (s.size : Int) > 12
  · exact Evt.pos h12 (Evt.const (by simp [isTm, show ¬ s.size ≤ 12 by omega]))
  refine Evt.neg h12 ?_
  have h := Evt.up (fun k i => impl_IsTerm.l0 k s i) s.size (fun i => ((bytesOf s).drop i).all isT) ?_ ?_
  · exact h.cast (by simp [isTm, show s.size ≤ 12 by omega])
  · refine Evt.step ?_
    simp only [impl_IsTerm.l0]
    rw [List.drop_of_length_le (by rw [bytesOf_length]; omega)]
    exact Evt.neg (by omega) (Evt.ret _)
  · intro i hi h
    refine Evt.step ?_
    simp only [impl_IsTerm.l0]
    refine Evt.pos (by omega) (Evt.pos (by omega) (Evt.bindc (impl_LetterIndex_eq (bt0 _ _) (bt255 _ _)) ?_))
    have hl : i < (bytesOf s).length := by rw [bytesOf_length]; exact hi
    rw [List.drop_eq_getElem_cons hl, ← bt_get s i hl, w64s (by omega)]
    by_cases hc : ltI (bt s i) < 0
    · refine Evt.pos hc (Evt.bindc (impl_isVariable_eq (bt0 _ _) (bt255 _ _)) ?_)
      by_cases hv : isVr (bt s i) = true
      · exact Evt.pos hv (h.cast (by simp [isT, hv]))
      · exact Evt.neg hv (Evt.const (by simp [isT, hv, show ¬ (0 ≤ ltI (bt s i)) by omega]))
    · exact Evt.neg hc (h.cast (by simp [isT, show 0 ≤ ltI (bt s i) by omega]))

/-- How often a byte occurs. -/
def cntB (l : List Int) (c : Int) : Nat := l.count c
theorem spec_CountByte_ev (s : ByteArray) (c : Int) (hs : s.size ≤ 9223372036854775807) : Evt (fun k => spec_CountByte.f k s c) ((cntB (bytesOf s) c : Nat) : Int) := by
  have h : ∀ d i n : Nat, i + d = s.size → n ≤ i → Evt (fun k => spec_CountByte.l0 k s c (n : Int) (i : Int)) (((n + cntB ((bytesOf s).drop i) c : Nat)) : Int) := by
    intro d
    induction d with
    | zero =>
      intro i n hi hn
      refine Evt.step ?_
      simp only [spec_CountByte.l0]
      rw [List.drop_of_length_le (by rw [bytesOf_length]; omega)]
      exact Evt.neg (by omega) (Evt.const (by simp [cntB]))
    | succ d ih =>
      intro i n hi hn
      refine Evt.step ?_
      simp only [spec_CountByte.l0]
      have hl : i < (bytesOf s).length := by rw [bytesOf_length]; omega
      rw [List.drop_eq_getElem_cons hl, ← bt_get s i hl, w64s (i := i) (by omega), w64s (i := n) (by omega)]
      refine Evt.pos (by omega) (Evt.pos (by omega) ?_)
      by_cases hc : bt s i = c
      · exact Evt.pos hc ((ih (i + 1) (n + 1) (by omega) (by omega)).cast (by simp [cntB, hc]; omega))
      · exact Evt.neg hc ((ih (i + 1) n (by omega) (by omega)).cast (by simp [cntB, hc]))
  have := h s.size 0 0 (by omega) (by omega)
  simpa [spec_CountByte.f] using this
theorem cntB_pos (l : List Int) (c : Int) : ((cntB l c : Nat) : Int) > 0 ↔ c ∈ l := by
  unfold cntB
  rw [show (((l.count c : Nat) : Int) > 0) = (0 < l.count c) by apply propext; omega]
  exact List.count_pos_iff

/-- The variables for which p holds, from number i on. -/
def vr (p : Int → Bool) : Nat → Int → ByteArray → ByteArray
  | 0, _, acc => acc
  | n + 1, i, acc => vr p n (i + 1) (if p (bt (⟨#[88, 89, 90]⟩ : ByteArray) i) = true then acc ++ ((⟨#[88, 89, 90]⟩ : ByteArray).extract (i : Int).toNat ((i + 1) : Int).toNat) else acc)
def varsB (s : ByteArray) : ByteArray := vr (fun c => decide (c ∈ bytesOf s)) 3 0 (⟨#[]⟩ : ByteArray)
theorem ext_size (i : Int) (h0 : 0 ≤ i) (h : i < 3) : ((⟨#[88, 89, 90]⟩ : ByteArray).extract (i : Int).toNat ((i + 1) : Int).toNat).size = 1 := by
  have : i = 0 ∨ i = 1 ∨ i = 2 := by omega
  rcases this with rfl | rfl | rfl <;> rfl
theorem spec_VarsOf_ev (s : ByteArray) (hs : s.size ≤ 9223372036854775807) : Evt (fun k => spec_VarsOf.f k s) (varsB s) := by
  have h : ∀ (n : Nat) (i : Int) (acc : ByteArray), 0 ≤ i → i + n = 3 → acc.size + n ≤ 3 → Evt (fun k => spec_VarsOf.l0 k s acc i) (vr (fun c => decide (c ∈ bytesOf s)) n i acc) := by
    intro n
    induction n with
    | zero =>
      intro i acc h0 hi ha
      refine Evt.step ?_
      simp only [spec_VarsOf.l0]
      exact Evt.neg (by omega) (Evt.ret _)
    | succ n ih =>
      intro i acc h0 hi ha
      have hx := ext_size i h0 (by omega)
      have hw : wrap64 (i + 1) = i + 1 := w64 (by omega) (by omega)
      refine Evt.step ?_
      simp only [spec_VarsOf.l0, hw, hx]
      refine Evt.pos (by omega) (Evt.pos (by omega) (Evt.bind (spec_CountByte_ev s _ hs) ?_))
      unfold vr
      by_cases hc : bt (⟨#[88, 89, 90]⟩ : ByteArray) i ∈ bytesOf s
      · refine Evt.pos ((cntB_pos _ _).2 hc) (Evt.pos (by omega) (Evt.pos (by omega) (Evt.pos (by omega) ?_)))
        exact (ih (i + 1) _ (by omega) (by omega) (by rw [ByteArray.size_append, hx]; omega)).cast (by simp [hc])
      · exact Evt.neg (fun h => hc ((cntB_pos _ _).1 h)) ((ih (i + 1) acc (by omega) (by omega) (by omega)).cast (by simp [hc]))
  simpa [spec_VarsOf.f, varsB] using h 3 0 (⟨#[]⟩ : ByteArray) (by omega) (by omega) (by decide)
theorem ib_nonneg (s : ByteArray) {c : Int} (h0 : 0 ≤ c) (h1 : c ≤ 255) : Lib.indexByte s.data.toList c.toNat.toUInt8 ≥ 0 ↔ c ∈ bytesOf s := by
  obtain ⟨n, rfl⟩ := Int.eq_ofNat_of_zero_le h0
  rw [Int.toNat_natCast, ge_iff_le, indexByte_nonneg, mem_data s n (by omega)]
theorem impl_VarsOf_ev (s : ByteArray) : Evt (fun k => impl_VarsOf.f k s) (varsB s) := by
  have h : ∀ (n : Nat) (i : Int) (acc : ByteArray), 0 ≤ i → i + n = 3 → acc.size + n ≤ 3 → Evt (fun k => impl_VarsOf.l0 k s acc i) (vr (fun c => decide (c ∈ bytesOf s)) n i acc) := by
    intro n
    induction n with
    | zero =>
      intro i acc h0 hi ha
      refine Evt.step ?_
      simp only [impl_VarsOf.l0]
      exact Evt.neg (by omega) (Evt.ret _)
    | succ n ih =>
      intro i acc h0 hi ha
      have hx := ext_size i h0 (by omega)
      have hw : wrap64 (i + 1) = i + 1 := w64 (by omega) (by omega)
      refine Evt.step ?_
      simp only [impl_VarsOf.l0, hw, hx]
      refine Evt.pos (by omega) (Evt.pos (by omega) (Evt.bindc rfl ?_))
      unfold vr
      by_cases hc : bt (⟨#[88, 89, 90]⟩ : ByteArray) i ∈ bytesOf s
      · refine Evt.pos ((ib_nonneg s (bt0 _ _) (bt255 _ _)).2 hc) (Evt.pos (by omega) (Evt.pos (by omega) (Evt.pos (by omega) ?_)))
        exact (ih (i + 1) _ (by omega) (by omega) (by rw [ByteArray.size_append, hx]; omega)).cast (by simp [hc])
      · exact Evt.neg (fun h => hc ((ib_nonneg s (bt0 _ _) (bt255 _ _)).1 h)) ((ih (i + 1) acc (by omega) (by omega) (by omega)).cast (by simp [hc]))
  simpa [impl_VarsOf.f, varsB] using h 3 0 (⟨#[]⟩ : ByteArray) (by omega) (by omega) (by decide)

end Go.Proofs.Ytpppopdmnejcfaa.F


namespace Go.Proofs.Ytpppopdmnejcfaa.F
set_option linter.unusedVariables false
set_option linter.unusedSimpArgs false
open Go.RowKit Go.Proofs.YtpppopdmnejcfaaW.PrintWords Go.Proofs.Ytpppopdmnejcfaa.Pl Go.Proofs.Ytpppopdmnejcfaa.A Go.Proofs.Ytpppopdmnejcfaa.Ext

theorem impl_argsOf_ev (a : Int) : Evt (fun k => impl_argsOf.f k a) (if 1 ≤ a ∧ a ≤ 9 then (arN a : Int) else -1) := by
  refine ⟨3, fun k hk => ?_⟩
  obtain ⟨m, rfl⟩ : ∃ m, k = m + 3 := ⟨k - 3, by omega⟩
  have h : a = 1 ∨ a = 2 ∨ a = 3 ∨ a = 4 ∨ a = 5 ∨ a = 6 ∨ a = 7 ∨ a = 8 ∨ a = 9 ∨ ¬ (1 ≤ a ∧ a ≤ 9) := by omega
  rcases h with rfl | rfl | rfl | rfl | rfl | rfl | rfl | rfl | rfl | h
  all_goals first
    | simp [impl_argsOf.f, impl_argsOf.j0, impl_argsOf.j1, arN, -Int.reduceNeg]; done
    | skip
  rw [if_neg h]
  have e : ∀ c : Int, 1 ≤ c → c ≤ 9 → ¬ a = c := fun c h1 h2 h3 => h (by omega)
  have eb : ∀ c : Int, 1 ≤ c → c ≤ 9 → (a == c) = false := fun c h1 h2 => by simpa using e c h1 h2
  simp [impl_argsOf.f, impl_argsOf.j0, impl_argsOf.j1, e 1, e 2, e 3, e 4, e 5, e 6, e 7, e 8, e 9, eb 4, eb 9]
theorem impl_nodesOf_j0t (v a : Int) (b : ByteArray) (l : List S42) : Evt (fun k => impl_nodesOf.j0 k v true a b l) 17 := by
  refine Evt.step ?_
  simp only [impl_nodesOf.j0]
  exact Evt.pos trivial (Evt.ret _)
theorem impl_nodesOf_l0 (n : Nat) (hn : n ≤ 6) (l : List S42) (hl : l.length ≤ 2) (ih : ∀ x ∈ l, Evt (fun k => impl_nodesOf.f k x.f0 x.f1 x.f2 (n : Int)) ((nds n x : Nat) : Int)) :
    ∀ d i acc : Nat, i + d = l.length → acc ≤ 1 + 17 * i → Evt (fun k => impl_nodesOf.l0 k ((n + 1 : Nat) : Int) (acc : Int) l (l.length : Int) (i : Int)) ((min (acc + ((l.drop i).map (nds n)).sum) 17 : Nat) : Int) := by
  intro d
  induction d with
  | zero =>
    intro i acc hi ha
    refine Evt.step ?_
    simp only [impl_nodesOf.l0]
    refine Evt.neg (by omega) ((Evt.ret _).cast ?_)
    rw [List.drop_of_length_le (by omega)]
    simp only [mn, List.map_nil, List.sum_nil, Nat.add_zero]
    split <;> omega
  | succ d ihd =>
    intro i acc hi ha
    have hi' : i < l.length := by omega
    have hx := nds_le n l[i]
    refine Evt.step ?_
    simp only [impl_nodesOf.l0]
    rw [rxI_at l i hi', w64s (by omega), w64 (x := ((n + 1 : Nat) : Int) - 1) (by omega) (by omega), show ((n + 1 : Nat) : Int) - 1 = (n : Int) by omega]
    refine Evt.pos (by omega) (Evt.pos (by omega) (Evt.pos (by omega) (Evt.bind (ih _ (List.getElem_mem hi')) ?_)))
    rw [w64 (by omega) (by omega), show (acc : Int) + ((nds n l[i] : Nat) : Int) = ((acc + nds n l[i] : Nat) : Int) by omega]
    refine (ihd (i + 1) (acc + nds n l[i]) (by omega) (by omega)).cast ?_
    rw [List.drop_eq_getElem_cons hi', List.map_cons, List.sum_cons, Nat.add_assoc]
theorem impl_nodesOf_ev (n : Nat) : n ≤ 6 → ∀ x : S42, Evt (fun k => impl_nodesOf.f k x.f0 x.f1 x.f2 (n : Int)) ((nds n x : Nat) : Int) := by
  induction n with
  | zero =>
    intro _ x
    refine Evt.step ?_
    simp only [impl_nodesOf.f]
    exact Evt.pos (by omega) ((impl_nodesOf_j0t _ _ _ _).cast (by simp [nds]))
  | succ n ih =>
    intro hn x
    refine Evt.step ?_
    simp only [impl_nodesOf.f]
    refine Evt.neg (by omega) (Evt.bind (impl_argsOf_ev _) ?_)
    unfold nds
    by_cases hlen : (x.f2.length : Int) = (if 1 ≤ x.f0 ∧ x.f0 ≤ 9 then (arN x.f0 : Int) else -1)
    · have e : ((x.f2.length : Int) != (if 1 ≤ x.f0 ∧ x.f0 ≤ 9 then (arN x.f0 : Int) else -1)) = false := by simp [hlen]
      rw [e]
      have hr : 1 ≤ x.f0 ∧ x.f0 ≤ 9 := by
        by_cases hr : 1 ≤ x.f0 ∧ x.f0 ≤ 9
        · exact hr
        · rw [if_neg hr] at hlen; omega
      rw [if_pos hr] at hlen
      have ha := arN_le x.f0
      have hj1 : Evt (fun k => impl_nodesOf.j1 k ((n + 1 : Nat) : Int) x.f0 x.f1 x.f2) ((min (1 + (x.f2.map (nds n)).sum) 17 : Nat) : Int) := by
        refine Evt.step ?_
        simp only [impl_nodesOf.j1]
        have := impl_nodesOf_l0 n (by omega) x.f2 (by omega) (fun y _ => ih (by omega) y) x.f2.length 0 1 (by omega) (by omega)
        simpa using this
      refine Evt.step ?_
      simp only [impl_nodesOf.j0]
      refine Evt.neg (by decide) ?_
      by_cases h3 : x.f0 = 3
      · refine Evt.pos h3 ?_
        have h0 : x.f2.length = 0 := by rw [h3] at hlen; simp [arN] at hlen; simp [hlen]
        by_cases h1 : x.f1.size = 1
        · refine Evt.pos (by omega) (Evt.bind (impl_IsWord_ev _ (by omega)) ?_)
          cases hw : isW x.f1 with
          | true => exact Evt.pos rfl (hj1.cast (by simp [kOk, h3, h1, hw, h0]))
          | false => exact Evt.neg (by decide) ((Evt.ret _).cast (by simp [kOk, h3, h1, hw]))
        · exact Evt.neg (by omega) ((Evt.ret _).cast (by simp [kOk, h3, h1]))
      · refine Evt.neg h3 ?_
        by_cases h1 : x.f1.size = 0
        · have h4 : x.f2.length = arN x.f0 := by omega
          exact Evt.pos ((toList_nil_iff _).2 h1) (hj1.cast (by simp [kOk, h3, h1, hr, h4]))
        · exact Evt.neg (fun h => h1 ((toList_nil_iff _).1 h)) ((Evt.ret _).cast (by simp [kOk, h3, h1]))
    · have e : ((x.f2.length : Int) != (if 1 ≤ x.f0 ∧ x.f0 ≤ 9 then (arN x.f0 : Int) else -1)) = true := bne_iff_ne.mpr hlen
      rw [e]
      refine (impl_nodesOf_j0t _ _ _ _).cast ?_
      rw [if_neg]
      · rfl
      · intro hk
        have := kOk_len hk
        refine hlen ?_
        have hr : 1 ≤ x.f0 ∧ x.f0 ≤ 9 := by
          unfold kOk at hk
          split at hk
          · omega
          · simp at hk; exact hk.1.1
        rw [if_pos hr]; omega
theorem impl_IsValidRegex_ev (x : S42) : Evt (fun k => impl_IsValidRegex.f k x.f0 x.f1 x.f2) (decide (nds 6 x ≤ 16)) := by
  simp only [impl_IsValidRegex.f]
  refine Evt.bind (impl_nodesOf_ev 6 (Nat.le_refl _) x) ((Evt.ret _).cast ?_)
  have e : (((nds 6 x : Nat) : Int) ≤ 16) = (nds 6 x ≤ 16) := by apply propext; omega
  simp [e]

theorem spec_l3Left_ev (n : Nat) : ∀ x : S42, Ht n x → ∀ v : Int, 0 ≤ v → v ≤ 16 → ∃ r, Evt (fun k => spec_l3Left.f k x.f0 x.f1 x.f2 v) r ∧ r ≤ 16 ∧ (if (siz n x : Int) ≤ v then r = v - siz n x else r < 0) := by
  induction n with
  | zero => intro x h; exact h.elim
  | succ n ih =>
    rintro ⟨a, b, l⟩ ⟨hl, hm⟩ v h0 h1
    simp only at hl hm
    have hh : ∀ d i : Nat, i + d = l.length → ∀ u : Int, u ≤ 16 → ∃ r, Evt (fun k => spec_l3Left.l0 k u (i : Int) a b l) r ∧ r ≤ 16 ∧ (if ((((l.drop i).map (siz n)).sum : Nat) : Int) ≤ u then r = u - (((l.drop i).map (siz n)).sum : Nat) else r < 0) := by
      intro d
      induction d with
      | zero =>
        intro i hi u hu
        refine ⟨u, Evt.step ?_, hu, ?_⟩
        · simp only [spec_l3Left.l0]
          exact Evt.neg (by omega) (Evt.ret _)
        · rw [List.drop_of_length_le (by omega)]
          simp only [List.map_nil, List.sum_nil]
          split <;> omega
      | succ d ihd =>
        intro i hi u hu
        have hi' : i < l.length := by omega
        rw [List.drop_eq_getElem_cons hi', List.map_cons, List.sum_cons]
        by_cases hu0 : u ≥ 0
        · obtain ⟨r, hr, hr', hc⟩ := ih l[i] (hm _ (List.getElem_mem hi')) u hu0 hu
          obtain ⟨r2, hr2, hr2', hc2⟩ := ihd (i + 1) (by omega) r hr'
          refine ⟨r2, Evt.step ?_, hr2', ?_⟩
          · simp only [spec_l3Left.l0]
            rw [rxI_at l i hi', w64s (by omega)]
            exact Evt.pos (by omega) (Evt.pos hu0 (Evt.pos (by omega) (Evt.bind hr hr2)))
          · generalize (((l.drop (i + 1)).map (siz n)).sum) = s at *
            generalize siz n l[i] = t at *
            split at hc <;> split at hc2 <;> split <;> omega
        · refine ⟨u, Evt.step ?_, hu, ?_⟩
          · simp only [spec_l3Left.l0]
            exact Evt.pos (by omega) (Evt.neg hu0 (Evt.ret _))
          · rw [if_neg (by omega)]; omega
    obtain ⟨r, hr, hr', hc⟩ := hh l.length 0 (by omega) (v - 1) (by omega)
    refine ⟨r, Evt.step ?_, hr', ?_⟩
    · simp only [spec_l3Left.f]
      rw [w64 (by omega) (by omega)]
      exact hr
    · rw [List.drop_zero] at hc
      have e : siz (n + 1) (⟨a, b, l⟩ : S42) = 1 + (l.map (siz n)).sum := by simp [siz]
      by_cases hs : ((siz (n + 1) (⟨a, b, l⟩ : S42) : Nat) : Int) ≤ v
      · rw [if_pos hs]
        rw [if_pos (by omega)] at hc
        omega
      · rw [if_neg hs]
        rw [if_neg (by omega)] at hc
        exact hc
theorem mem_sum {n : Nat} (l : List S42) (y : S42) (h : y ∈ l) : siz n y ≤ (l.map (siz n)).sum := by
  induction l with
  | nil => cases h
  | cons x l ih =>
    rw [List.map_cons, List.sum_cons]
    rcases List.mem_cons.1 h with rfl | h
    · omega
    · have := ih h; omega
theorem spec_l3Depth_ev (n : Nat) : ∀ x : S42, Ht n x → siz n x ≤ 16 → Evt (fun k => spec_l3Depth.f k x.f0 x.f1 x.f2) (dep n x : Int) := by
  induction n with
  | zero => intro x h; exact h.elim
  | succ n ih =>
    rintro ⟨a, b, l⟩ ⟨hl, hm⟩ hs
    simp only at hl hm
    simp only [siz] at hs
    have hx : ∀ y ∈ l, siz n y ≤ 16 := by
      intro y hy
      have : siz n y ≤ (l.map (siz n)).sum := mem_sum l y hy
      omega
    have hh : ∀ d i : Nat, i + d = l.length → ∀ u : Nat, u ≤ 16 → Evt (fun k => spec_l3Depth.l0 k (u : Int) (i : Int) a b l) ((max u (((l.drop i).map (dep n)).foldr max 0) + 1 : Nat) : Int) := by
      intro d
      induction d with
      | zero =>
        intro i hi u hu
        refine Evt.step ?_
        simp only [spec_l3Depth.l0]
        rw [List.drop_of_length_le (by omega)]
        refine Evt.neg (by omega) ((Evt.ret _).cast ?_)
        rw [w64 (by omega) (by omega)]
        simp
      | succ d ihd =>
        intro i hi u hu
        have hi' : i < l.length := by omega
        have h1 := hx _ (List.getElem_mem hi')
        have h2 := dep_le_siz n l[i]
        refine Evt.step ?_
        simp only [spec_l3Depth.l0]
        rw [List.drop_eq_getElem_cons hi', List.map_cons, List.foldr_cons]
        rw [rxI_at l i hi', w64s (by omega)]
        refine Evt.pos (by omega) (Evt.pos (by omega) (Evt.bind (ih _ (hm _ (List.getElem_mem hi')) h1) (Evt.bindc (a := ((max u (dep n l[i]) : Nat) : Int)) ?_ ?_)))
        · simp only [spec_l1Max.f]
          split
          · congr 1; omega
          · congr 1; omega
        · refine (ihd (i + 1) (by omega) (max u (dep n l[i])) (by omega)).cast ?_
          congr 1
          generalize ((l.drop (i + 1)).map (dep n)).foldr max 0 = z
          omega
    refine Evt.step ?_
    simp only [spec_l3Depth.f]
    refine (hh l.length 0 (by omega) 0 (by omega)).cast ?_
    simp [dep]
theorem spec_l3Args_ev (a : Int) : Evt (fun k => spec_l3Args.f k a) (arN a : Int) := by
  refine ⟨1, fun k hk => ?_⟩
  obtain ⟨m, rfl⟩ : ∃ m, k = m + 1 := ⟨k - 1, by omega⟩
  have h : a = 5 ∨ a = 6 ∨ a = 7 ∨ a = 8 ∨ a = 9 ∨ (a ≠ 5 ∧ a ≠ 6 ∧ a ≠ 7 ∧ a ≠ 8 ∧ a ≠ 9) := by omega
  rcases h with rfl | rfl | rfl | rfl | rfl | ⟨h1, h2, h3, h4, h5⟩
  all_goals simp [spec_l3Args.f, spec_l3Args.j0, arN, *]
theorem spec_l3All_ev (n : Nat) : ∀ x : S42, Ht n x → Evt (fun k => spec_l3All.f k x.f0 x.f1 x.f2) (alls n x) := by
  induction n with
  | zero => intro x h; exact h.elim
  | succ n ih =>
    rintro ⟨a, b, l⟩ ⟨hl, hm⟩
    simp only at hl hm
    refine Evt.step ?_
    simp only [spec_l3All.f, alls]
    have hh := Evt.up (fun k i => spec_l3All.l0 k i a b l) l.length (fun i => (l.drop i).all (alls n) && kOk a b l.length) ?_ ?_
    · simpa using hh
    · refine Evt.step ?_
      simp only [spec_l3All.l0]
      rw [List.drop_of_length_le (by omega)]
      refine Evt.neg (by omega) ?_
      simp only [List.all_nil, Bool.true_and]
      unfold kOk
      by_cases h3 : a = 3
      · rw [if_pos h3]
        refine Evt.pos h3 ?_
        by_cases h1 : b.size = 1
        · refine Evt.pos (by omega) (Evt.bind (spec_IsWord_ev _ (by omega)) ?_)
          cases hw : isW b with
          | true =>
            refine Evt.pos rfl ((Evt.ret _).cast ?_)
            have e : ((l.length : Int) == 0) = decide (l.length = 0) := by rw [show ((l.length : Int) == 0) = decide ((l.length : Int) = 0) from rfl]; congr 1; apply propext; omega
            simp [h1, e]
          | false => exact Evt.neg (by decide) ((Evt.ret _).cast (by simp))
        · exact Evt.neg (by omega) ((Evt.ret _).cast (by simp [h1]))
      · rw [if_neg h3]
        refine Evt.neg h3 ?_
        by_cases hr : 1 ≤ a ∧ a ≤ 9
        · refine Evt.bindc (a := true) (by simp [spec_l1In.f, hr.1, hr.2]) (Evt.pos rfl ?_)
          by_cases h1 : b.size = 0
          · refine Evt.pos ((toList_nil_iff _).2 h1) (Evt.bind (spec_l3Args_ev _) ((Evt.ret _).cast ?_))
            have e : ((l.length : Int) == (arN a : Int)) = decide (l.length = arN a) := by rw [show ((l.length : Int) == (arN a : Int)) = decide ((l.length : Int) = (arN a : Int)) from rfl]; congr 1; apply propext; omega
            simp [h1, hr.1, hr.2, e]
          · exact Evt.neg (fun h => h1 ((toList_nil_iff _).1 h)) ((Evt.ret _).cast (by simp [h1]))
        · refine Evt.bindc (a := false) ?_ (Evt.neg (by decide) ((Evt.ret _).cast (by simp [hr])))
          simp only [spec_l1In.f]
          by_cases hr1 : a ≥ 1
          · rw [if_pos hr1]; congr 1; simp; omega
          · rw [if_neg hr1]
    · intro i hi h
      refine Evt.step ?_
      simp only [spec_l3All.l0]
      rw [rxI_at l i hi, w64s (by omega), List.drop_eq_getElem_cons hi]
      refine Evt.pos (by omega) (Evt.pos (by omega) (Evt.bind (ih _ (hm _ (List.getElem_mem hi))) ?_))
      rw [List.all_cons]
      cases alls n l[i] with
      | true => exact Evt.pos rfl (h.cast (by simp))
      | false => exact Evt.neg (by decide) ((Evt.ret _).cast (by simp))
theorem spec_IsValidRegex_ev (x : S42) (h : Sm x) : Evt (fun k => spec_IsValidRegex.f k x.f0 x.f1 x.f2) (decide (nds 6 x ≤ 16)) := by
  obtain ⟨n, hn⟩ := h.ht
  rw [nds_eq n x 6 hn]
  simp only [spec_IsValidRegex.f]
  obtain ⟨r, hr, _, hc⟩ := spec_l3Left_ev n x hn 16 (by omega) (by omega)
  refine Evt.bind hr ?_
  by_cases h1 : siz n x ≤ 16
  · rw [if_pos (by omega)] at hc
    refine Evt.pos (by omega) (Evt.bind (spec_l3Depth_ev n x hn h1) ?_)
    by_cases h2 : dep n x ≤ 6
    · refine Evt.pos (by omega) (Evt.bind (spec_l3All_ev n x hn) ((Evt.ret _).cast ?_))
      cases ha : alls n x <;> simp [h1, h2]
    · exact Evt.neg (by omega) ((Evt.ret _).cast (by simp [h2]))
  · rw [if_neg (by omega)] at hc
    exact Evt.neg (by omega) ((Evt.ret _).cast (by simp [h1]))

end Go.Proofs.Ytpppopdmnejcfaa.F


namespace Go.Proofs.Ytpppopdmnejcfaa.F
set_option linter.unusedVariables false
set_option linter.unusedSimpArgs false
open Go.RowKit Go.Proofs.YtpppopdmnejcfaaW.PrintWords Go.Proofs.Ytpppopdmnejcfaa.Pl Go.Proofs.Ytpppopdmnejcfaa.A Go.Proofs.Ytpppopdmnejcfaa.Ext

theorem eqRegex_ev (x : S42) (h : Sm x) : Evt (fun k => laws_eqRegex.f k x.f0 x.f1 x.f2 x.f0 x.f1 x.f2) true := by
  induction h with
  | mk a b l hl hs ih =>
    refine Evt.step ?_
    simp only [laws_eqRegex.f]
    refine Evt2.diag (g := fun i j => laws_eqRegexG.f (fun _ => laws_eqRegex.f i) j a b l a b l) ?_
    simp only [laws_eqRegexG.f, laws_eqRegexSG.f]
    refine Evt2.pos trivial (Evt2.pos trivial (Evt2.bind2 (a := true) (Evt2.pos trivial ?_) (Evt2.pos rfl (Evt2.ret _))))
    have hh : ∀ d i : Nat, i + d = l.length → Evt2 (fun p q => laws_eqRegexSG.l0 (fun _ => laws_eqRegex.f p) q l l (i : Int)) true := by
      intro d
      induction d with
      | zero =>
        intro i hi
        refine Evt2.step ?_
        simp only [laws_eqRegexSG.l0]
        exact Evt2.neg (by omega) (Evt2.ret _)
      | succ d ihd =>
        intro i hi
        have hi' : i < l.length := by omega
        refine Evt2.step ?_
        simp only [laws_eqRegexSG.l0]
        rw [rxI_at l i hi', w64s (by omega)]
        exact Evt2.pos (by omega) (Evt2.pos (by omega) (Evt2.pos (by omega) (Evt2.bind (ih _ (List.getElem_mem hi')) (Evt2.pos rfl (ihd (i + 1) (by omega))))))
    exact hh l.length 0 (by omega)

end Go.Proofs.Ytpppopdmnejcfaa.F


namespace Go.Proofs.Ytpppopdmnejcfaa.F
set_option linter.unusedVariables false
set_option linter.unusedSimpArgs false
open Go.RowKit Go.Proofs.YtpppopdmnejcfaaW.PrintWords Go.Proofs.Ytpppopdmnejcfaa.Pl Go.Proofs.Ytpppopdmnejcfaa.A

theorem szIntS_eq (l : List Int) (a : Int) (ha : -1 ≤ a) (ha' : a ≤ 1048576) (hl : l.length ≤ 9223372036854775807) :
    ∃ t, laws_szIntS.f l a = some t ∧ (t = -1 ∨ (0 ≤ t ∧ t = a - l.length)) := by
  unfold laws_szIntS.f
  rw [w64_sub ha ha' hl]
  by_cases h1 : a - l.length < 0
  · exact ⟨-1, by rw [if_pos h1], .inl rfl⟩
  · rw [if_neg h1]; exact ⟨_, rfl, .inr ⟨by omega, rfl⟩⟩
theorem set_next (l : List Int) (i n : Nat) (hn : l.length = n) (hi : i < n) : (l.take i ++ List.replicate (n - i) 0).set i (rd l (i : Int)) = l.take (i + 1) ++ List.replicate (n - (i + 1)) 0 := by
  have hl : (l.take i).length = i := by rw [List.length_take]; omega
  have e : rd l (i : Int) = l[i] := by simp [rd, show i < l.length by omega]
  rw [List.set_append_right _ _ (by omega), hl, Nat.sub_self, show n - i = (n - (i + 1)) + 1 by omega, List.replicate_succ, List.set_cons_zero, List.take_succ_eq_append_getElem (by omega), e, List.append_assoc]
  rfl
theorem toIntS_ev (l : List Int) (hl : l.length ≤ 35184372088832) : Evt (fun k => laws_toIntS.f k l) l := by
  simp only [laws_toIntS.f]
  refine Evt.pos (by omega) (Evt.pos (by omega) ?_)
  rw [Int.toNat_natCast]
  have h : ∀ d i : Nat, i + d = l.length → Evt (fun k => laws_toIntS.l0 k l (l.take i ++ List.replicate (l.length - i) 0) (i : Int)) l := by
    intro d
    induction d with
    | zero =>
      intro i hi
      refine Evt.step ?_
      simp only [laws_toIntS.l0]
      refine Evt.neg (by omega) (Evt.const ?_)
      obtain rfl : i = l.length := by omega
      simp
    | succ d ih =>
      intro i hi
      refine Evt.step ?_
      simp only [laws_toIntS.l0]
      rw [w64s (by omega), Int.toNat_natCast, set_next l i l.length rfl (by omega)]
      exact Evt.pos (by omega) (Evt.pos (by omega) (Evt.pos (by simp; omega) (ih (i + 1) (by omega))))
  simpa using h l.length 0 (by omega)
theorem eqIntS_ev (l l' : List Int) (hl : l.length ≤ 9223372036854775807) : Evt (fun k => laws_eqIntS.f k l l') (decide (l = l')) := by
  simp only [laws_eqIntS.f]
  by_cases he : l.length = l'.length
  · refine Evt.pos (by omega) ?_
    have h := Evt.up (fun k i => laws_eqIntS.l0 k l l' i) l.length (fun i => decide (l.drop i = l'.drop i)) ?_ ?_
    · simpa using h
    · refine Evt.step ?_
      simp only [laws_eqIntS.l0]
      refine Evt.neg (by omega) (Evt.const ?_)
      rw [List.drop_of_length_le (Nat.le_refl _), List.drop_of_length_le (by omega)]
      rfl
    · intro i hi h
      refine Evt.step ?_
      simp only [laws_eqIntS.l0]
      have hi' : i < l'.length := by omega
      refine Evt.pos (by omega) (Evt.pos (by omega) (Evt.pos (by omega) ?_))
      rw [List.drop_eq_getElem_cons hi, List.drop_eq_getElem_cons hi', w64s (by omega)]
      have e1 : rd l (i : Int) = l[i] := by simp [rd, hi]
      have e2 : rd l' (i : Int) = l'[i] := by simp [rd, hi']
      rw [e1, e2]
      by_cases hc : l[i] = l'[i]
      · exact Evt.pos hc (h.cast (by rw [hc]; simp only [List.cons.injEq, true_and]))
      · exact Evt.neg hc (Evt.const (by rw [decide_eq_false (fun e => hc (List.cons.inj e).1)]))
  · refine Evt.neg (by omega) (Evt.const ?_)
    have : l ≠ l' := fun e => he (by rw [e])
    simp [this]

end Go.Proofs.Ytpppopdmnejcfaa.F


namespace Go.Proofs.Ytpppopdmnejcfaa.F
set_option linter.unusedVariables false
set_option linter.unusedSimpArgs false
open Go.RowKit Go.Proofs.YtpppopdmnejcfaaW.PrintWords Go.Proofs.Ytpppopdmnejcfaa.Pl Go.Proofs.Ytpppopdmnejcfaa.A Go.Proofs.Ytpppopdmnejcfaa.Ext

/-- A copy of a constraint: of its expression, that is. -/
def CpC (a : Int) (b c : ByteArray) (d : Int) (e : ByteArray) (l : List S34) (m : List Int) (n : Int) (y : List S42) : Prop :=
  Sm ⟨d, e, y⟩ ∧ m.length ≤ 1048576 ∧ Evt (fun k => laws_toConstraint.f k a b c d e l m n) (a, b, c, d, e, y, m, n)
theorem szConstraint_ev (a : Int) (b c : ByteArray) (d : Int) (e : ByteArray) (l : List S34) (m : List Int) (n : Int) (N : Nat) (v : Int) (hv : 0 ≤ v) (hv' : v ≤ 1048576) (hb : b.size ≤ 9223372036854775807) (hc : c.size ≤ 9223372036854775807) (hr : RxOk N ⟨d, e, l⟩) (hm : m.length ≤ 9223372036854775807) :
    ∃ t, Evt (fun k => laws_szConstraint.f k a b c d e l m n v) t ∧ (t = -1 ∨ (0 ≤ t ∧ t ≤ v ∧ ∃ y, CpC a b c d e l m n y)) := by
  simp only [laws_szConstraint.f]
  rw [w64_sub (by omega) (by omega) hb]
  by_cases c1 : v - b.size < 0
  · exact ⟨-1, Evt.pos c1 (Evt.ret _), .inl rfl⟩
  rw [w64_sub (by omega) (by omega) hc]
  by_cases c2 : v - b.size - c.size < 0
  · exact ⟨-1, Evt.neg c1 (Evt.pos c2 (Evt.ret _)), .inl rfl⟩
  obtain ⟨t, ht, h1⟩ := szRegex_ev N ⟨d, e, l⟩ hr (v - b.size - c.size) (by omega) (by omega)
  simp only at ht
  rcases h1 with rfl | ⟨h1, h2, h3⟩
  · exact ⟨-1, Evt.neg c1 (Evt.neg c2 (Evt.bind ht (Evt.pos (by decide) (Evt.ret _)))), .inl rfl⟩
  obtain ⟨u, hu, h4⟩ := szIntS_eq m t (by omega) (by omega) hm
  rcases h4 with rfl | ⟨h4, h5⟩
  · exact ⟨-1, Evt.neg c1 (Evt.neg c2 (Evt.bind ht (Evt.neg (by omega) (Evt.bindc hu (Evt.pos (by decide) (Evt.ret _)))))), .inl rfl⟩
  refine ⟨u, Evt.neg c1 (Evt.neg c2 (Evt.bind ht (Evt.neg (by omega) (Evt.bindc hu (Evt.neg (by omega) (Evt.ret _)))))), .inr ⟨h4, by omega, ?_⟩⟩
  obtain ⟨⟨d', e', y⟩, hs, he⟩ := h3
  simp only at he
  have hde : d' = d ∧ e' = e := by
    obtain ⟨K, hK⟩ := he
    have h6 := hK (K + 1) (by omega)
    simp only [laws_toRegex.f, laws_toRegexG.f] at h6
    obtain ⟨z, _, h7⟩ := Option.bind_eq_some_iff.mp h6
    simp only [Option.some.injEq, Prod.mk.injEq] at h7
    exact ⟨h7.1.symm, h7.2.1.symm⟩
  obtain ⟨rfl, rfl⟩ := hde
  refine ⟨y, hs, by omega, ?_⟩
  simp only [laws_toConstraint.f]
  exact Evt.bind he (Evt.bind (toIntS_ev m (by omega)) (Evt.ret _))
theorem eqConstraint_ev (a : Int) (b c : ByteArray) (d : Int) (e : ByteArray) (y : List S42) (m : List Int) (n : Int) (hy : Sm ⟨d, e, y⟩) (hm : m.length ≤ 1048576) : Evt (fun k => laws_eqConstraint.f k a b c d e y m n a b c d e y m n) true := by
  simp only [laws_eqConstraint.f]
  exact Evt.pos trivial (Evt.pos trivial (Evt.pos trivial (Evt.bind (eqRegex_ev _ hy) (Evt.pos rfl (Evt.bind (eqIntS_ev m m (by omega)) (Evt.pos (by simp) (Evt.pos trivial (Evt.ret _))))))))

end Go.Proofs.Ytpppopdmnejcfaa.F


namespace Go.Proofs.Ytpppopdmnejcfaa.F
set_option linter.unusedVariables false
set_option linter.unusedSimpArgs false
open Go.RowKit Go.Proofs.YtpppopdmnejcfaaW.PrintWords Go.Proofs.Ytpppopdmnejcfaa.Pl Go.Proofs.Ytpppopdmnejcfaa.A Go.Proofs.Ytpppopdmnejcfaa.Ext

def zR (d : Int) (e : ByteArray) (l : List S42) : Bool := decide (d = 0) && decide (e.size = 0) && ((l.length : Int) == 0)
theorem spec_l9Zero_eq (d : Int) (e : ByteArray) (l : List S42) : spec_l9Zero.f d e l = some (zR d e l) := by
  unfold spec_l9Zero.f zR
  by_cases h1 : d = 0
  · by_cases h2 : e.size = 0
    · rw [if_pos h1, if_pos ((toList_nil_iff _).2 h2)]; simp [h1, h2]
    · rw [if_pos h1, if_neg (fun h => h2 ((toList_nil_iff _).1 h))]; simp [h2]
  · rw [if_neg h1]; simp [h1]
theorem impl_isZeroRegex_eq (d : Int) (e : ByteArray) (l : List S42) : impl_isZeroRegex.f d e l = some (zR d e l) := by
  unfold impl_isZeroRegex.f zR
  by_cases h1 : d = 0
  · by_cases h2 : e.size = 0
    · rw [if_pos h1, if_pos ((toList_nil_iff _).2 h2)]; simp [h1, h2]
    · rw [if_pos h1, if_neg (fun h => h2 ((toList_nil_iff _).1 h))]; simp [h2]
  · rw [if_neg h1]; simp [h1]
def inR (a lo hi : Int) : Bool := decide (lo ≤ a ∧ a ≤ hi)
theorem spec_l1In_eq (a lo hi : Int) : spec_l1In.f a lo hi = some (inR a lo hi) := by
  unfold spec_l1In.f inR
  by_cases h : a ≥ lo
  · rw [if_pos h]; congr 1; simp [show lo ≤ a from h]
  · rw [if_neg h]; congr 1; simp; omega
theorem impl_within_eq (a lo hi : Int) : impl_within.f a lo hi = some (inR a lo hi) := by
  unfold impl_within.f inR
  by_cases h : a ≥ lo
  · rw [if_pos h]; congr 1; simp [show lo ≤ a from h]
  · rw [if_neg h]; congr 1; simp; omega
def cfs (m : List Int) : Bool := m.all fun c => inR c (-9) 9
theorem rdI_at (m : List Int) (i : Nat) (h : i < m.length) : rd m (i : Int) = m[i] := by simp [rd, h]
theorem spec_l9Coeffs_ev (m : List Int) (hm : m.length ≤ 1048576) : Evt (fun k => spec_l9Coeffs.f k m) (cfs m && ((m.length : Int) == 3)) := by
  have h := Evt.up (fun k i => spec_l9Coeffs.l0 k m i) m.length (fun i => cfs (m.drop i) && ((m.length : Int) == 3)) ?_ ?_
  · simpa [spec_l9Coeffs.f] using h
  · refine Evt.step ?_
    simp only [spec_l9Coeffs.l0]
    rw [List.drop_of_length_le (by omega)]
    exact Evt.neg (by omega) ((Evt.ret _).cast (by simp [cfs]))
  · intro i hi h
    refine Evt.step ?_
    simp only [spec_l9Coeffs.l0]
    rw [rdI_at m i hi, w64s (by omega), List.drop_eq_getElem_cons hi]
    refine Evt.pos (by omega) (Evt.pos (by omega) (Evt.bindc (spec_l1In_eq _ _ _) ?_))
    have e : cfs (m[i] :: m.drop (i + 1)) = (inR m[i] (-9) 9 && cfs (m.drop (i + 1))) := rfl
    rw [e]
    cases inR m[i] (-9) 9 with
    | true => exact Evt.pos rfl (h.cast (by simp))
    | false => exact Evt.neg (by decide) ((Evt.ret _).cast (by simp))
theorem impl_coeffs_ev (m : List Int) (hm : m.length ≤ 1048576) : Evt (fun k => slices_ContainsFunc_int_int_97.f k m) (!cfs m) := by
  simp only [slices_ContainsFunc_int_int_97.f, slices_IndexFunc_int_int_169.f]
  have h : ∀ d i : Nat, i + d = m.length → ∃ r, Evt (fun k => slices_IndexFunc_int_int_169.l0 k m (m.length : Int) (i : Int)) r ∧ decide (r ≥ 0) = !cfs (m.drop i) := by
    intro d
    induction d with
    | zero =>
      intro i hi
      refine ⟨-1, Evt.step ?_, ?_⟩
      · simp only [slices_IndexFunc_int_int_169.l0]
        exact Evt.neg (by omega) (Evt.ret _)
      · rw [List.drop_of_length_le (by omega)]; rfl
    | succ d ih =>
      intro i hi
      have hi' : i < m.length := by omega
      have e : cfs (m[i] :: m.drop (i + 1)) = (inR m[i] (-9) 9 && cfs (m.drop (i + 1))) := rfl
      rw [List.drop_eq_getElem_cons hi', e]
      obtain ⟨r, hr, hc⟩ := ih (i + 1) (by omega)
      cases hq : inR m[i] (-9) 9 with
      | true =>
        refine ⟨r, Evt.step ?_, by simpa using hc⟩
        simp only [slices_IndexFunc_int_int_169.l0, impl_IsValidConstraint_1.f]
        rw [rdI_at m i hi', w64s (by omega)]
        exact Evt.pos (by omega) (Evt.pos (by omega) (Evt.pos (by omega) (Evt.bind (Evt.bindc (impl_within_eq _ _ _) (Evt.ret _)) (Evt.neg (by simp [hq]) hr))))
      | false =>
        refine ⟨(i : Int), Evt.step ?_, by simp⟩
        simp only [slices_IndexFunc_int_int_169.l0, impl_IsValidConstraint_1.f]
        rw [rdI_at m i hi']
        exact Evt.pos (by omega) (Evt.pos (by omega) (Evt.pos (by omega) (Evt.bind (Evt.bindc (impl_within_eq _ _ _) (Evt.ret _)) (Evt.pos (by simp [hq]) (Evt.ret _)))))
  obtain ⟨r, hr, hc⟩ := h m.length 0 (by omega)
  exact Evt.bind hr ((Evt.ret _).cast (by rw [hc]; rfl))
/-- Whether a constraint is valid, but for its numbers (x: it has none). -/
def valX (x : Bool) (a : Int) (b c : ByteArray) (d : Int) (e : ByteArray) (l : List S42) (m : List Int) (n : Int) : Bool :=
  if a = 1 ∨ a = 2 then isTm b && (isTm c && (zR d e l && x))
  else if a = 3 ∨ a = 4 then isTm b && (decide (c.size = 0) && (decide (nds 6 ⟨d, e, l⟩ ≤ 16) && x))
  else if a = 5 then decide (b.size = 0) && (decide (c.size = 0) && (zR d e l && ((cfs m && ((m.length : Int) == 3)) && inR n (-99) 99)))
  else false
def valC (a : Int) (b c : ByteArray) (d : Int) (e : ByteArray) (l : List S42) (m : List Int) (n : Int) : Bool :=
  valX (decide (m.length = 0) && (n == 0)) a b c d e l m n
section
variable {a : Int} {b c : ByteArray} {d : Int} {e : ByteArray} {l : List S42} {m : List Int} {n : Int}
theorem and_ev {g h : Nat → Option Bool} {p q : Bool} (hg : Evt g p) (hh : p = true → Evt h q) : Evt (fun k => (g k).bind fun t => if t = true then h k else some false) (p && q) := by
  refine Evt.bind hg ?_
  cases p with
  | true => exact Evt.pos rfl ((hh rfl).cast (by simp))
  | false => exact Evt.neg (by decide) ((Evt.ret _).cast (by simp))
theorem nil_ev {s : ByteArray} {h : Nat → Option Bool} {q : Bool} (hh : s.size = 0 → Evt h q) : Evt (fun k => if s.toList = ([] : List UInt8) then h k else some false) (decide (s.size = 0) && q) := by
  by_cases hs : s.size = 0
  · exact Evt.pos ((toList_nil_iff _).2 hs) ((hh hs).cast (by simp [hs]))
  · exact Evt.neg (fun h => hs ((toList_nil_iff _).1 h)) ((Evt.ret _).cast (by simp [hs]))
theorem last_ev {g : Nat → Option Bool} {p : Bool} (hg : Evt g p) : Evt (fun k => (g k).bind fun t => some t) p := Evt.bind hg (Evt.ret _)
theorem spec_j1t (x : Bool) (v : Int) (hb : b.size ≤ 9223372036854775807) (hc : c.size ≤ 9223372036854775807) : Evt (fun k => spec_IsValidConstraint.j1 k x v true a b c d e l m n) (isTm b && (isTm c && (zR d e l && x))) := by
  refine Evt.step ?_
  simp only [spec_IsValidConstraint.j1]
  exact Evt.pos trivial (and_ev (spec_IsTerm_ev b hb) fun _ => and_ev (spec_IsTerm_ev c hc) fun _ => and_ev (Evt.const (spec_l9Zero_eq d e l)) fun _ => Evt.ret _)
theorem spec_j2t (x : Bool) (v : Int) (hb : b.size ≤ 9223372036854775807) (hr : Sm ⟨d, e, l⟩) : Evt (fun k => spec_IsValidConstraint.j2 k x v true a b c d e l m n) (isTm b && (decide (c.size = 0) && (decide (nds 6 ⟨d, e, l⟩ ≤ 16) && x))) := by
  refine Evt.step ?_
  simp only [spec_IsValidConstraint.j2]
  exact Evt.pos trivial (and_ev (spec_IsTerm_ev b hb) fun _ => nil_ev fun _ => and_ev (spec_IsValidRegex_ev ⟨d, e, l⟩ hr) fun _ => Evt.ret _)
theorem spec_IsValidConstraint_ev (hb : b.size ≤ 9223372036854775807) (hc : c.size ≤ 9223372036854775807) (hr : Sm ⟨d, e, l⟩) (hm : m.length ≤ 1048576) : Evt (fun k => spec_IsValidConstraint.f k a b c d e l m n) (valC a b c d e l m n) := by
  have hj : ∀ x : Bool, Evt (fun k => spec_IsValidConstraint.j0 k x a b c d e l m n) (valX x a b c d e l m n) := by
    intro x
    refine Evt.step ?_
    simp only [spec_IsValidConstraint.j0]
    unfold valX
    by_cases h1 : a = 1
    · subst h1; exact Evt.pos rfl ((spec_j1t x _ hb hc).cast (by simp))
    refine Evt.neg h1 ?_
    by_cases h2 : a = 2
    · subst h2; exact (spec_j1t x _ hb hc).cast (by simp)
    rw [show (a == 2) = false by simpa using h2, if_neg (by omega)]
    refine Evt.step ?_
    simp only [spec_IsValidConstraint.j1]
    refine Evt.neg (by decide) ?_
    by_cases h3 : a = 3
    · subst h3; exact Evt.pos rfl ((spec_j2t x _ hb hr).cast (by simp))
    refine Evt.neg h3 ?_
    by_cases h4 : a = 4
    · subst h4; exact (spec_j2t x _ hb hr).cast (by simp)
    rw [show (a == 4) = false by simpa using h4, if_neg (by omega)]
    refine Evt.step ?_
    simp only [spec_IsValidConstraint.j2]
    refine Evt.neg (by decide) ?_
    by_cases h5 : a = 5
    · rw [if_pos h5]
      exact Evt.pos h5 (nil_ev fun _ => nil_ev fun _ => and_ev (Evt.const (spec_l9Zero_eq d e l)) fun _ => and_ev (spec_l9Coeffs_ev m hm) fun _ => last_ev (Evt.const (spec_l1In_eq _ _ _)))
    · rw [if_neg h5]
      exact Evt.neg h5 (Evt.ret _)
  simp only [spec_IsValidConstraint.f]
  unfold valC
  by_cases h0 : m.length = 0
  · exact Evt.pos (by omega) ((hj _).cast (by simp [h0]))
  · exact Evt.neg (by omega) ((hj _).cast (by simp [h0]))
theorem impl_j1t (v : Int) : Evt (fun k => impl_IsValidConstraint.j1 k v true a b c d e l m n) (isTm b && (isTm c && (zR d e l))) := by
  refine Evt.step ?_
  simp only [impl_IsValidConstraint.j1]
  exact Evt.pos trivial (and_ev (impl_IsTerm_ev b) fun _ => and_ev (impl_IsTerm_ev c) fun _ => last_ev (Evt.const (impl_isZeroRegex_eq d e l)))
theorem impl_j2t (v : Int) : Evt (fun k => impl_IsValidConstraint.j2 k v true a b c d e l m n) (isTm b && (decide (c.size = 0) && (decide (nds 6 ⟨d, e, l⟩ ≤ 16)))) := by
  refine Evt.step ?_
  simp only [impl_IsValidConstraint.j2]
  exact Evt.pos trivial (and_ev (impl_IsTerm_ev b) fun _ => nil_ev fun _ => last_ev (impl_IsValidRegex_ev ⟨d, e, l⟩))
theorem impl_j0t : Evt (fun k => impl_IsValidConstraint.j0 k true a b c d e l m n) false := by
  refine Evt.step ?_
  simp only [impl_IsValidConstraint.j0]
  exact Evt.pos trivial (Evt.ret _)
theorem impl_IsValidConstraint_ev (hm : m.length ≤ 1048576) : Evt (fun k => impl_IsValidConstraint.f k a b c d e l m n) (valC a b c d e l m n) := by
  have hj : Evt (fun k => impl_IsValidConstraint.j0 k false a b c d e l m n) (valX true a b c d e l m n) := by
    refine Evt.step ?_
    simp only [impl_IsValidConstraint.j0]
    unfold valX
    refine Evt.neg (by decide) ?_
    by_cases h1 : a = 1
    · subst h1; exact Evt.pos rfl ((impl_j1t _).cast (by simp))
    refine Evt.neg h1 ?_
    by_cases h2 : a = 2
    · subst h2; exact (impl_j1t _).cast (by simp)
    rw [show (a == 2) = false by simpa using h2, if_neg (by omega)]
    refine Evt.step ?_
    simp only [impl_IsValidConstraint.j1]
    refine Evt.neg (by decide) ?_
    by_cases h3 : a = 3
    · subst h3; exact Evt.pos rfl ((impl_j2t _).cast (by simp))
    refine Evt.neg h3 ?_
    by_cases h4 : a = 4
    · subst h4; exact (impl_j2t _).cast (by simp)
    rw [show (a == 4) = false by simpa using h4, if_neg (by omega)]
    refine Evt.step ?_
    simp only [impl_IsValidConstraint.j2]
    refine Evt.neg (by decide) ?_
    by_cases h5 : a = 5
    · rw [if_pos h5]
      refine Evt.pos h5 (nil_ev fun _ => nil_ev fun _ => and_ev (Evt.const (impl_isZeroRegex_eq d e l)) fun _ => ?_)
      by_cases h3' : m.length = 3
      · refine Evt.pos (by omega) ?_
        rw [show ((m.length : Int) == 3) = true by simp [h3'], Bool.and_true, Bool.and_comm (cfs m)]
        exact and_ev (Evt.const (impl_within_eq _ _ _)) fun _ => Evt.bind (impl_coeffs_ev m hm) ((Evt.ret _).cast (by simp))
      · refine Evt.neg (by omega) ((Evt.ret _).cast ?_)
        have e3 : ((m.length : Int) == 3) = false := by simp; omega
        simp [e3]
    · rw [if_neg h5]
      exact Evt.neg h5 (Evt.ret _)
  simp only [impl_IsValidConstraint.f]
  unfold valC
  have hx : ∀ x, a = 5 → valX x a b c d e l m n = valX true a b c d e l m n := by
    intro x h; subst h; simp [valX]
  have hy : ¬ a = 5 → valX false a b c d e l m n = false := by
    intro h; unfold valX; simp [h]
  by_cases h5 : a = 5
  · exact Evt.pos h5 (hj.cast (hx _ h5).symm)
  refine Evt.neg h5 ?_
  by_cases h0 : m.length = 0
  · refine Evt.pos (by omega) ?_
    by_cases hn : n = 0
    · rw [show (n != 0) = false by simp [hn]]
      exact hj.cast (by simp [h0, hn])
    · rw [show (n != 0) = true by simp [hn]]
      exact impl_j0t.cast (by rw [show (n == 0) = false by simp [hn]]; simp [hy h5])
  · exact Evt.neg (by omega) (impl_j0t.cast (by simp [h0, hy h5]))
end
end Go.Proofs.Ytpppopdmnejcfaa.F


namespace Go.Proofs.Ytpppopdmnejcfaa.F
set_option linter.unusedVariables false
set_option linter.unusedSimpArgs false
open Go.RowKit Go.Proofs.YtpppopdmnejcfaaW.PrintWords Go.Proofs.Ytpppopdmnejcfaa.Pl Go.Proofs.Ytpppopdmnejcfaa.A Go.Proofs.Ytpppopdmnejcfaa.Ext

section
variable {a : Int} {b c : ByteArray} {d : Int} {e : ByteArray} {l : List S42} {m : List Int} {n : Int}
theorem valC_bounds (h : valC a b c d e l m n = true) : m.length ≤ 3 ∧ b.size ≤ 12 ∧ c.size ≤ 12 := by
  unfold valC valX at h
  split at h
  · simp only [isTm, Bool.and_eq_true, decide_eq_true_eq, beq_iff_eq] at h
    obtain ⟨⟨_, h1⟩, ⟨_, h2⟩, _, h4, _⟩ := h
    omega
  · split at h
    · simp only [isTm, Bool.and_eq_true, decide_eq_true_eq, beq_iff_eq] at h
      obtain ⟨⟨_, h1⟩, h2, _, h4, _⟩ := h
      omega
    · split at h
      · simp only [Bool.and_eq_true, decide_eq_true_eq, beq_iff_eq] at h
        obtain ⟨h1, h2, _, ⟨_, h4⟩, _⟩ := h
        omega
      · cases h
/-- The variables that have a coefficient, behind what was there. -/
def catV : List Int → Nat → ByteArray → ByteArray
  | [], _, acc => acc
  | q :: m, i, acc => catV m (i + 1) (if q = 0 then acc else acc ++ (⟨#[88, 89, 90]⟩ : ByteArray).extract ((i : Nat) : Int).toNat ((i + 1 : Nat) : Int).toNat)
def varsC (a : Int) (b c : ByteArray) (d : Int) (e : ByteArray) (l : List S42) (m : List Int) (n : Int) : ByteArray :=
  if valC a b c d e l m n = true then varsB (catV m 0 (b ++ c)) else (⟨#[]⟩ : ByteArray)
theorem spec_VarsOfConstraint_ev (hb : b.size ≤ 9223372036854775807) (hc : c.size ≤ 9223372036854775807) (hr : Sm ⟨d, e, l⟩) (hm : m.length ≤ 1048576) : Evt (fun k => spec_VarsOfConstraint.f k a b c d e l m n) (varsC a b c d e l m n) := by
  simp only [spec_VarsOfConstraint.f]
  unfold varsC
  refine Evt.bind (spec_IsValidConstraint_ev hb hc hr hm) ?_
  cases hv : valC a b c d e l m n with
  | false => exact Evt.neg (by decide) (Evt.ret _)
  | true =>
    obtain ⟨g1, g2, g3⟩ := valC_bounds hv
    refine Evt.pos rfl (Evt.pos (by omega) ?_)
    have hh : ∀ j i : Nat, i + j = m.length → ∀ acc : ByteArray, acc.size ≤ 100 + i → Evt (fun k => spec_VarsOfConstraint.l0 k acc (i : Int) a b c d e l m n) (varsB (catV (m.drop i) i acc)) := by
      intro j
      induction j with
      | zero =>
        intro i hi acc ha
        refine Evt.step ?_
        simp only [spec_VarsOfConstraint.l0]
        rw [List.drop_of_length_le (by omega)]
        exact Evt.neg (by omega) (Evt.bind (spec_VarsOf_ev acc (by omega)) (Evt.ret _))
      | succ j ih =>
        intro i hi acc ha
        have hi' : i < m.length := by omega
        have hx := ext_size (i : Int) (by omega) (by omega)
        refine Evt.step ?_
        simp only [spec_VarsOfConstraint.l0]
        rw [List.drop_eq_getElem_cons hi', rdI_at m i hi', w64s (by omega)]
        refine Evt.pos (by omega) (Evt.pos (by omega) ?_)
        simp only [catV]
        by_cases hq : m[i] = 0
        · rw [if_pos hq]
          exact Evt.pos hq (ih (i + 1) (by omega) acc (by omega))
        · rw [if_neg hq]
          have hs : ((⟨#[88, 89, 90]⟩ : ByteArray).extract ((i : Nat) : Int).toNat ((i + 1 : Nat) : Int).toNat).size = 1 := by
            rw [show ((i + 1 : Nat) : Int) = (i : Int) + 1 by omega, hx]
          refine Evt.neg hq (Evt.pos (by omega) (Evt.pos (by omega) (Evt.pos (by rw [hs]; omega) ?_)))
          exact ih (i + 1) (by omega) _ (by rw [ByteArray.size_append, hs]; omega)
    have := hh m.length 0 (by omega) (b ++ c) (by rw [ByteArray.size_append]; omega)
    rw [if_pos rfl]
    simpa using this
theorem impl_VarsOfConstraint_ev (hm : m.length ≤ 1048576) : Evt (fun k => impl_VarsOfConstraint.f k a b c d e l m n) (varsC a b c d e l m n) := by
  simp only [impl_VarsOfConstraint.f]
  unfold varsC
  refine Evt.bind (impl_IsValidConstraint_ev hm) ?_
  cases hv : valC a b c d e l m n with
  | false => exact Evt.neg (by decide) (Evt.ret _)
  | true =>
    obtain ⟨g1, g2, g3⟩ := valC_bounds hv
    refine Evt.pos rfl (Evt.pos (by omega) ?_)
    have hh : ∀ j i : Nat, i + j = m.length → ∀ acc : ByteArray, acc.size ≤ 100 + i → Evt (fun k => impl_VarsOfConstraint.l0 k acc m (m.length : Int) (i : Int)) (varsB (catV (m.drop i) i acc)) := by
      intro j
      induction j with
      | zero =>
        intro i hi acc ha
        refine Evt.step ?_
        simp only [impl_VarsOfConstraint.l0]
        rw [List.drop_of_length_le (by omega)]
        exact Evt.neg (by omega) (Evt.bind (impl_VarsOf_ev acc) (Evt.ret _))
      | succ j ih =>
        intro i hi acc ha
        have hi' : i < m.length := by omega
        have hx := ext_size (i : Int) (by omega) (by omega)
        refine Evt.step ?_
        simp only [impl_VarsOfConstraint.l0]
        rw [List.drop_eq_getElem_cons hi', rdI_at m i hi', w64s (by omega)]
        refine Evt.pos (by omega) (Evt.pos (by omega) (Evt.pos (by omega) ?_))
        simp only [catV]
        by_cases hq : m[i] = 0
        · rw [if_pos hq]
          exact Evt.pos hq (ih (i + 1) (by omega) acc (by omega))
        · rw [if_neg hq]
          have hs : ((⟨#[88, 89, 90]⟩ : ByteArray).extract ((i : Nat) : Int).toNat ((i + 1 : Nat) : Int).toNat).size = 1 := by
            rw [show ((i + 1 : Nat) : Int) = (i : Int) + 1 by omega, hx]
          refine Evt.neg hq (Evt.pos (by omega) (Evt.pos (by omega) (Evt.pos (by rw [hs]; omega) ?_)))
          exact ih (i + 1) (by omega) _ (by rw [ByteArray.size_append, hs]; omega)
    have := hh m.length 0 (by omega) (b ++ c) (by rw [ByteArray.size_append]; omega)
    rw [if_pos rfl]
    simpa using this
end
end Go.Proofs.Ytpppopdmnejcfaa.F


namespace Go.Proofs.Ytpppopdmnejcfaa.Pure
set_option linter.unusedVariables false
set_option linter.unusedSimpArgs false
open Go Go.RowKit Go.Proofs.YtpppopdmnejcfaaW.PrintWords Go.Proofs.Ytpppopdmnejcfaa.Pl Go.Proofs.Ytpppopdmnejcfaa.F Go.Proofs.Ytpppopdmnejcfaa.A Go.Proofs.Ytpppopdmnejcfaa.Ext Go.Proofs.Ytpppopdmnejcfaa.BtFnExactVarsOfConstraint

theorem rxOk_of (n : Nat) : ∀ x : S34, wf34N n x → RxOk n x := by
  induction n with
  | zero => intro x h; exact h.elim
  | succ n ih => intro x h; exact ⟨h.2.1, h.2.2.1, fun a ha => ih a (h.2.2.2 a ha)⟩
theorem rxOk_mono : ∀ n (x : S34), RxOk n x → RxOk (n + 1) x := by
  intro n
  induction n with
  | zero => intro x h; exact h.elim
  | succ n ih => intro x h; exact ⟨h.1, h.2.1, fun a ha => ih a (h.2.2 a ha)⟩
theorem rxOk_le {n m : Nat} (h : n ≤ m) (x : S34) (hx : RxOk n x) : RxOk m x := by
  induction h with
  | refl => exact hx
  | step _ ih => exact rxOk_mono _ _ ih
theorem rxOk_top (d : Int) (e : ByteArray) (l : List S34) (he : e.size ≤ 9223372036854775807) (hl : l.length ≤ 9223372036854775807 ∧ ∀ a ∈ l, wf34 a) : ∃ n, RxOk n ⟨d, e, l⟩ := by
  obtain ⟨h1, h2⟩ := hl
  have h3 : ∃ n, ∀ a ∈ l, RxOk n a := by
    clear h1
    induction l with
    | nil => exact ⟨0, fun a ha => by cases ha⟩
    | cons x l ih =>
      obtain ⟨n, hn⟩ := ih (fun a ha => h2 a (List.mem_cons_of_mem _ ha))
      obtain ⟨m, hm⟩ := h2 x (List.mem_cons_self ..)
      refine ⟨max n m, fun a ha => ?_⟩
      rcases List.mem_cons.1 ha with rfl | ha
      · exact rxOk_le (by omega) _ (rxOk_of m _ hm)
      · exact rxOk_le (by omega) _ (hn a ha)
  obtain ⟨n, hn⟩ := h3
  exact ⟨n + 1, he, h1, hn⟩
theorem FnExactVarsOfConstraint : FnExactVarsOfConstraint.Pure := by
  intro a b c d e l m n _ hb hc _ he hl hm _
  obtain ⟨N, hN⟩ := rxOk_top d e l he hl
  refine Evt.get (g := fun k => laws_FnExactVarsOfConstraint.f k a b c d e l m n) ?_
  simp only [laws_FnExactVarsOfConstraint.f]
  obtain ⟨t, ht, hs⟩ := szConstraint_ev a b c d e l m n N 1048576 (by omega) (by omega) hb hc hN hm.1
  rcases hs with rfl | ⟨h0, h1, y, y1, y2, q1⟩
  · exact Evt.bind ht (Evt.pos (by decide) (Evt.ret _))
  exact Evt.bind ht (Evt.neg (by omega) (Evt.bind q1 (Evt.bind (spec_VarsOfConstraint_ev hb hc y1 y2) (Evt.bind q1 (Evt.bind (impl_VarsOfConstraint_ev y2) (Evt.pos rfl (Evt.bind q1 (Evt.bind (eqConstraint_ev a b c d e y m n y1 y2) (Evt.pos rfl (Evt.ret _))))))))))

end Go.Proofs.Ytpppopdmnejcfaa.Pure


namespace Go.Proofs.Ytpppopdmnejcfaa.fnExactVarsOfConstraint
open Go.ChangeShapes Go.WideShapes Go.ChangeAt Go.RowKit Go.Proofs.Ytpppopdmnejcfaa.Br Go.Proofs.YtpppopdmnejcfaaW.PrintWords Go.Proofs.Ytpppopdmnejcfaa.A Go.Proofs.Ytpppopdmnejcfaa.BtFnExactVarsOfConstraint
open Go.ChangeMaps (open_string shut_string)
set_option linter.unusedVariables false
theorem own : ownKnob Try.prog.godebug = none := by kernel_rfl
theorem laidOut : laidOutB Try.prog = true := by kernel_rfl
set_option maxHeartbeats 2000000 in
set_option maxRecDepth 100000 in
theorem lifted (os : Os) (started : os.Started) (H : Type) (enc : TypeId × Value → H) :
    ReturnsInHanded {} Try.checked os 8 .any (Rows.fnExactVarsOfConstraintSpec.pre6 enc Try.prog Try.f8 Rows.fnExactVarsOfConstraintRow.domain false) (Rows.fnExactVarsOfConstraintSpec.post enc Try.prog Try.f8 false true false false) := by
  refine returnsInHanded_of_change_sized (C := Try.checked) own started (by kernel_rfl) Try.func8
    (ChangeSpec.witness6 (enc := enc) (C := Try.checked) false ⟨#[], #[.agg #[.int .i64 0, .string ByteArray.empty, .string ByteArray.empty, .int .i64 0, .string ByteArray.empty, .slice none 0 0, .slice none 0 0, .int .i64 0]], []⟩ 8 (by kernel_rfl) (by kernel_rfl) (by kernel_rfl) (by kernel_rfl)) ?_
  intro W base args ds gs before hval0 hW hcnd hsz0 _
  have hval : ∀ (j : Nat) t v, Try.f8.params[j]? = some t → args[j]? = some v → Value.okWide Try.prog W .any base t v := hval0
  have hW' := hW
  obtain ⟨p, q, hA0, hV, rfl, hfz, hnd⟩ := hW
  have hA : DataW.TrodAll enc Try.prog W 0 (fun _ => true) true Try.f8.params.toList args.toList ds p := hA0
  rw [Try.params8] at hA hval
  obtain ⟨v0, vs0, d0, ds0, p0, q0, hargs, rfl, rfl, h0, r0⟩ := trodAll_cons hA
  obtain ⟨rfl, rfl, rfl⟩ := trodAll_nil r0
  obtain rfl : args = #[v0] := by cases args; simp_all
  obtain ⟨rfl, rfl⟩ := trodVars_none hV
  have k0 := h0
  have lt0 : ∀ x ∈ p0, x.block < W.heap.size := by obtain ⟨m, hm⟩ := k0; exact DataW.trod_lt m _ _ _ hm
  obtain ⟨arr0, rfl, _, _⟩ : ∃ cs, v0 = .agg cs ∧ cs.size = Try.prog.cellsOf 37 ∧ Row.okWide Try.prog W .any base 37 cs := by have z := (hval 0 37 v0 rfl rfl); unfold Value.okWide at z; rw [Try.underlying37] at z; exact z
  obtain ⟨fuel0, hf0⟩ := h0
  obtain ⟨x0, hK0, hw0⟩ := (show ∀ n, BrN Try.prog n 37 _ _ from fun n => (br_struct' Try.underlying37 (show Try.prog.cellsOf 37 = 8 by kernel_rfl) (fun n => (bf_cons rfl (show Try.prog.cellsOf 3 = 1 by kernel_rfl) (br_int Try.underlying3 n) (bf_cons rfl (show Try.prog.cellsOf 9 = 1 by kernel_rfl) (br_string Try.underlying9 n) (bf_cons rfl (show Try.prog.cellsOf 9 = 1 by kernel_rfl) (br_string Try.underlying9 n) (bf_cons rfl (show Try.prog.cellsOf 34 = 3 by kernel_rfl) (br_struct' Try.underlying34 (show Try.prog.cellsOf 34 = 3 by kernel_rfl) (fun n => (bf_cons rfl (show Try.prog.cellsOf 3 = 1 by kernel_rfl) (br_int Try.underlying3 n) (bf_cons rfl (show Try.prog.cellsOf 9 = 1 by kernel_rfl) (br_string Try.underlying9 n) (bf_one rfl (show Try.prog.cellsOf 32 = 1 by kernel_rfl) (br_slice' Try.underlying32 (show Try.prog.cellsOf 34 = 3 by kernel_rfl) (fun n => (br34 n)) n)) (of_decide_eq_true (by kernel_rfl))) (of_decide_eq_true (by kernel_rfl)))) n) (bf_cons rfl (show Try.prog.cellsOf 35 = 1 by kernel_rfl) (br_slice' Try.underlying35 (show Try.prog.cellsOf 3 = 1 by kernel_rfl) (fun n => (br_int Try.underlying3 n)) n) (bf_one rfl (show Try.prog.cellsOf 3 = 1 by kernel_rfl) (br_int Try.underlying3 n)) (of_decide_eq_true (by kernel_rfl))) (of_decide_eq_true (by kernel_rfl))) (of_decide_eq_true (by kernel_rfl))) (of_decide_eq_true (by kernel_rfl))) (of_decide_eq_true (by kernel_rfl)))) n)) fuel0 H enc W 0 (fun _ => true) true fuel0 _ _ (Nat.le_refl _) hf0
  obtain ⟨a0_0, ⟨a0_1, ⟨a0_2, ⟨⟨a0_3, ⟨a0_4, l0_5⟩⟩, ⟨l0_6, a0_7⟩⟩⟩⟩⟩ := x0
  replace hw0 := hw0
  obtain ⟨w0_0, ⟨w0_1, ⟨w0_2, ⟨⟨w0_3, ⟨w0_4, w0_5⟩⟩, ⟨w0_6, w0_7⟩⟩⟩⟩⟩ := hw0
  obtain ⟨cs0, hcs0, hK0⟩ : ∃ cs, (Value.agg arr0).cells.toList = cs ∧ _ := ⟨_, rfl, hK0⟩
  obtain ⟨_, _, rfl, rfl, ⟨_, _, rfl, rfl, ⟨_, _, rfl, rfl, ⟨_, _, rfl, ⟨_, _, rfl, rfl, ⟨_, _, rfl, rfl, ⟨A0_5, c0_5, rfl, hc0_5, hr0_5⟩⟩⟩, ⟨_, _, rfl, ⟨A0_6, c0_6, rfl, hc0_6, hr0_6⟩, rfl⟩⟩⟩⟩⟩ := hK0
  obtain rfl : arr0 = #[.int .i64 a0_0, .string a0_1, .string a0_2, .int .i64 a0_3, .string a0_4, .slice A0_5 l0_5.length c0_5, .slice A0_6 l0_6.length c0_6, .int .i64 a0_7] := arr_of hcs0
  clear hA0 hval0 hsz0
  obtain ⟨k, hp⟩ := Pure.FnExactVarsOfConstraint a0_0 a0_1 a0_2 a0_3 a0_4 l0_5 l0_6 a0_7 w0_0 w0_1 w0_2 w0_3 w0_4 w0_5 w0_6 w0_7
  refine (laws_FnExactVarsOfConstraint.calls k a0_0 a0_1 a0_2 a0_3 a0_4 _ _ l0_5 _ _ l0_6 a0_7 true W hr0_5 hc0_5 hr0_6 hc0_6 hp rfl).mono fun e W' ⟨he, bel0⟩ => ?_
  subst he
  have bel : Below W.heap.size W W' := bel0
  exact ⟨_, rfl, _, _, _, [], _, [], hW', trodAll_mk1 (shut_bool Try.underlying4 _), (trodAll_cons_mk (Below.trod laidOut (by kernel_rfl) (of_decide_eq_true (by kernel_rfl)) k0 bel lt0) trodAll_mk0), rfl, bel.frame _, fun h => by cases h⟩
theorem fact0 : (Rows.fnExactVarsOfConstraintRow.inPlace == Try.pinned.checked.prog.inPlace 8) = true := by kernel_rfl
theorem fact1 : (Rows.fnExactVarsOfConstraintRow.unfollowed == Try.pinned.checked.prog.unfollowed 8) = true := by kernel_rfl
theorem fact2 : (Rows.fnExactVarsOfConstraintRow.recurses == Try.pinned.checked.prog.recurses 8) = true := by kernel_rfl
theorem fact3 : (Rows.fnExactVarsOfConstraintRow.named == Try.pinned.checked.prog.varsNamed 8) = true := by kernel_rfl
theorem facts : joinedFacts Try.pinned.checked.prog 8 Try.f8 Rows.fnExactVarsOfConstraintSpec Rows.fnExactVarsOfConstraintRow = true := by
  unfold joinedFacts
  rw [fact0, fact1, fact2, fact3]
  kernel_rfl
theorem known : Try.pinned.checked.prog.funcNamed Rows.fnExactVarsOfConstraintRow.func = some 8 := by kernel_rfl
theorem inst : Try.f8.isInstance Try.pinned.checked.prog Rows.fnExactVarsOfConstraintRow.origin Rows.fnExactVarsOfConstraintRow.targs := of_decide_eq_true (by kernel_rfl)
theorem wrap : Try.f8.isWrapper Try.pinned.checked.prog Rows.fnExactVarsOfConstraintRow.wrapper Rows.fnExactVarsOfConstraintRow.mainSum := by unfold Func.isWrapper; first | (rw [if_pos (by decide +kernel)]; kernel_rfl) | (rw [if_neg (by decide +kernel)]; exact ⟨rfl, rfl⟩)
theorem over : Rows.fnExactVarsOfConstraintRow.holds Try.pinned (OpenSpec.ofChange Rows.fnExactVarsOfConstraintSpec) :=
  OpenClaim.holds_of_wide 8 Try.f8 rfl rfl rfl rfl rfl rfl rfl ⟨rfl, rfl, rfl, rfl, rfl⟩ rfl rfl rfl rfl rfl known Try.func8 facts inst wrap
    (fun os started H enc _ => lifted os started H enc)
theorem proved : Rows.FnExactVarsOfConstraintSaid := over
#print axioms proved
end Go.Proofs.Ytpppopdmnejcfaa.fnExactVarsOfConstraint
namespace Go.Proofs.Ytpppopdmnejcfaa
/-- The row, under a short name, for the claim. -/
theorem fnExactVarsOfConstraint_holds : Rows.FnExactVarsOfConstraintSaid := fnExactVarsOfConstraint.proved
end Go.Proofs.Ytpppopdmnejcfaa
