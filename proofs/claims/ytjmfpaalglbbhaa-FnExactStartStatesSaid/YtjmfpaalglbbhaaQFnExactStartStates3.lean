/- FnExactStartStates: what its proof needs, put together by this session's program wip/merge.py out of the texts that wip/xp.py printed and of this session's own. -/
import Derived.Test.YtjmfpaalglbbhaaQFnExactStartStates2
set_option linter.unusedVariables false
set_option linter.unusedSimpArgs false
set_option maxHeartbeats 8000000
set_option maxRecDepth 100000
namespace Go.Proofs.Ytjmfpaalglbbhaa.A
open Go.RowKit Go.Proofs.Ytjmfpaalglbbhaa.Ext Go.Proofs.YtjmfpaalglbbhaaW.PrintWords Go.Proofs.YtjmfpaalglbbhaaW.PrintLast Go.Proofs.YtjmfpaalglbbhaaW.PrintMore
attribute [local go_sem] max2_int min2_int max_two min_two max_three min_three max_four min_four
mutual
def impl_StartStates.l0 : Nat → List (List Int) → Int → List (List Int) → Int → Int → ByteArray → ByteArray → List (List Int) → List Int → List (List Int) → List (List Int) → Option ((List (S89)))
 | 0, _, _, _, _, _, _, _, _, _, _, _ => none
 | k + 1, x3, x4, x21, x22, x23, x10002000, x10002001, x10002002, x10002003, x10002004, x10002005 => if x23 < x22 then (if 0 ≤ x23 then (if x23 < (x21.length : Int) then (if x10002000.size + x10002001.size ≤ 9223372036854775807 then (if x23 < 3 then ((strings_IndexByte.f (x10002000 ++ x10002001) (bt (⟨#[88, 89, 90]⟩ : ByteArray) x23)).bind fun t10006 => (if t10006 < 0 then (if 0 ≤ (mn 1 ((rd_L1 x21 x23).length : Int)) then (if (mn 1 ((rd_L1 x21 x23).length : Int)) ≤ ((rd_L1 x21 x23).length : Int) then ((some ((rd_L1 x21 x23).take ((mn 1 ((rd_L1 x21 x23).length : Int)) : Int).toNat : List Int)).bind fun y10007 => (if x3.length < 5864062014805 then (impl_StartStates.l0 k (x3 ++ [y10007]) (wrap64 (x4 * (mn (y10007.length : Int) 401))) x21 x22 (wrap64 (x23 + 1)) x10002000 x10002001 x10002002 x10002003 x10002004 x10002005) else (none))) else (none)) else (none)) else (if x3.length < 5864062014805 then (impl_StartStates.l0 k (x3 ++ [rd_L1 x21 x23]) (wrap64 (x4 * (mn ((rd_L1 x21 x23).length : Int) 401))) x21 x22 (wrap64 (x23 + 1)) x10002000 x10002001 x10002002 x10002003 x10002004 x10002005) else (none)))) else (none)) else (none)) else (none)) else (none)) else (if x4 > 400 then (some ([] : List (S89))) else ((impl_StripEquation.f k x10002000 x10002001).bind fun bt10018 => (if 0 < (x3.length : Int) then (impl_StartStates.l1 k x3 (([] : List (S89))) (rd_L1 x3 0) ((rd_L1 x3 0).length : Int) 0 bt10018.1 bt10018.2) else (none))))
def impl_StartStates.l1 : Nat → List (List Int) → List (S89) → List Int → Int → Int → ByteArray → ByteArray → Option ((List (S89)))
 | 0, _, _, _, _, _, _, _ => none
 | k + 1, x3, x8, x62, x63, x64, x10021000, x10021001 => if x64 < x63 then (if 0 ≤ x64 then (if x64 < (x62.length : Int) then (if 1 < (x3.length : Int) then (impl_StartStates.l2 k x3 x8 (rd x62 x64) x62 x63 x64 (rd_L1 x3 1) ((rd_L1 x3 1).length : Int) 0 x10021000 x10021001) else (none)) else (none)) else (none)) else (some x8)
def impl_StartStates.l2 : Nat → List (List Int) → List (S89) → Int → List Int → Int → Int → List Int → Int → Int → ByteArray → ByteArray → Option ((List (S89)))
 | 0, _, _, _, _, _, _, _, _, _, _, _ => none
 | k + 1, x3, x8, x10, x62, x63, x64, x70, x71, x72, x10021000, x10021001 => if x72 < x71 then (if 0 ≤ x72 then (if x72 < (x70.length : Int) then (if 2 < (x3.length : Int) then (impl_StartStates.l3 k x3 x8 x10 (rd x70 x72) x62 x63 x64 x70 x71 x72 (rd_L1 x3 2) ((rd_L1 x3 2).length : Int) 0 x10021000 x10021001) else (none)) else (none)) else (none)) else (impl_StartStates.l1 k x3 x8 x62 x63 (wrap64 (x64 + 1)) x10021000 x10021001)
def impl_StartStates.l3 : Nat → List (List Int) → List (S89) → Int → Int → List Int → Int → Int → List Int → Int → Int → List Int → Int → Int → ByteArray → ByteArray → Option ((List (S89)))
 | 0, _, _, _, _, _, _, _, _, _, _, _, _, _, _, _ => none
 | k + 1, x3, x8, x10, x12, x62, x63, x64, x70, x71, x72, x78, x79, x80, x10021000, x10021001 => if x80 < x79 then (if 0 ≤ x80 then (if x80 < (x78.length : Int) then (if x8.length < 2513169434916 then (impl_StartStates.l3 k x3 (x8 ++ [(⟨x10021000, x10021001, (([x10, x12, rd x78 x80] : List Int))⟩ : S89)]) x10 x12 x62 x63 x64 x70 x71 x72 x78 x79 (wrap64 (x80 + 1)) x10021000 x10021001) else (none)) else (none)) else (none)) else (impl_StartStates.l2 k x3 x8 x10 x62 x63 x64 x70 x71 (wrap64 (x72 + 1)) x10021000 x10021001)
end
def impl_StartStates.f (k : Nat) (a0_0 : ByteArray) (a0_1 : ByteArray) (l0_2 : List (List Int)) (l0_3 : List Int) (l0_4 : List (List Int)) (l0_5 : List (List Int)) : Option ((List (S89))) := if (l0_5.length : Int) = 3 then (impl_StartStates.l0 k (([] : List (List Int))) 1 l0_5 (l0_5.length : Int) 0 a0_0 a0_1 l0_2 l0_3 l0_4 l0_5) else (some ([] : List (S89)))
theorem impl_StartStates.mono_l : ∀ k, (∀ y0 y1 y2 y3 y4 y5 y6 y7 y8 y9 y10, LeO (impl_StartStates.l0 k y0 y1 y2 y3 y4 y5 y6 y7 y8 y9 y10) (impl_StartStates.l0 (k + 1) y0 y1 y2 y3 y4 y5 y6 y7 y8 y9 y10)) ∧ (∀ y0 y1 y2 y3 y4 y5 y6, LeO (impl_StartStates.l1 k y0 y1 y2 y3 y4 y5 y6) (impl_StartStates.l1 (k + 1) y0 y1 y2 y3 y4 y5 y6)) ∧ (∀ y0 y1 y2 y3 y4 y5 y6 y7 y8 y9 y10, LeO (impl_StartStates.l2 k y0 y1 y2 y3 y4 y5 y6 y7 y8 y9 y10) (impl_StartStates.l2 (k + 1) y0 y1 y2 y3 y4 y5 y6 y7 y8 y9 y10)) ∧ (∀ y0 y1 y2 y3 y4 y5 y6 y7 y8 y9 y10 y11 y12 y13 y14, LeO (impl_StartStates.l3 k y0 y1 y2 y3 y4 y5 y6 y7 y8 y9 y10 y11 y12 y13 y14) (impl_StartStates.l3 (k + 1) y0 y1 y2 y3 y4 y5 y6 y7 y8 y9 y10 y11 y12 y13 y14))
 | 0 => ⟨fun _ _ _ _ _ _ _ _ _ _ _ r h => by simp [impl_StartStates.l0] at h, fun _ _ _ _ _ _ _ r h => by simp [impl_StartStates.l1] at h, fun _ _ _ _ _ _ _ _ _ _ _ r h => by simp [impl_StartStates.l2] at h, fun _ _ _ _ _ _ _ _ _ _ _ _ _ _ _ r h => by simp [impl_StartStates.l3] at h⟩
 | k + 1 => by
  obtain ⟨ih0, ih1, ih2, ih3⟩ := impl_StartStates.mono_l k
  refine ⟨?_, ?_, ?_, ?_⟩
  ·intro y0 y1 y2 y3 y4 y5 y6 y7 y8 y9 y10
   unfold impl_StartStates.l0
   repeat' first
   | (with_reducible exact ih0 _ _ _ _ _ _ _ _ _ _ _)
   | (with_reducible exact ih1 _ _ _ _ _ _ _)
   | (with_reducible exact ih2 _ _ _ _ _ _ _ _ _ _ _)
   | (with_reducible exact ih3 _ _ _ _ _ _ _ _ _ _ _ _ _ _ _)
   | (with_reducible exact impl_StripEquation.mono _ _ _)
   | (with_reducible exact LeO.refl _)
   | (with_reducible exact LeO.none _)
   | (with_reducible refine LeO.ite ?_ ?_)
   | (with_reducible refine LeO.bind ?_ (fun _ => ?_))
  ·intro y0 y1 y2 y3 y4 y5 y6
   unfold impl_StartStates.l1
   repeat' first
   | (with_reducible exact ih0 _ _ _ _ _ _ _ _ _ _ _)
   | (with_reducible exact ih1 _ _ _ _ _ _ _)
   | (with_reducible exact ih2 _ _ _ _ _ _ _ _ _ _ _)
   | (with_reducible exact ih3 _ _ _ _ _ _ _ _ _ _ _ _ _ _ _)
   | (with_reducible exact impl_StripEquation.mono _ _ _)
   | (with_reducible exact LeO.refl _)
   | (with_reducible exact LeO.none _)
   | (with_reducible refine LeO.ite ?_ ?_)
   | (with_reducible refine LeO.bind ?_ (fun _ => ?_))
  ·intro y0 y1 y2 y3 y4 y5 y6 y7 y8 y9 y10
   unfold impl_StartStates.l2
   repeat' first
   | (with_reducible exact ih0 _ _ _ _ _ _ _ _ _ _ _)
   | (with_reducible exact ih1 _ _ _ _ _ _ _)
   | (with_reducible exact ih2 _ _ _ _ _ _ _ _ _ _ _)
   | (with_reducible exact ih3 _ _ _ _ _ _ _ _ _ _ _ _ _ _ _)
   | (with_reducible exact impl_StripEquation.mono _ _ _)
   | (with_reducible exact LeO.refl _)
   | (with_reducible exact LeO.none _)
   | (with_reducible refine LeO.ite ?_ ?_)
   | (with_reducible refine LeO.bind ?_ (fun _ => ?_))
  ·intro y0 y1 y2 y3 y4 y5 y6 y7 y8 y9 y10 y11 y12 y13 y14
   unfold impl_StartStates.l3
   repeat' first
   | (with_reducible exact ih0 _ _ _ _ _ _ _ _ _ _ _)
   | (with_reducible exact ih1 _ _ _ _ _ _ _)
   | (with_reducible exact ih2 _ _ _ _ _ _ _ _ _ _ _)
   | (with_reducible exact ih3 _ _ _ _ _ _ _ _ _ _ _ _ _ _ _)
   | (with_reducible exact impl_StripEquation.mono _ _ _)
   | (with_reducible exact LeO.refl _)
   | (with_reducible exact LeO.none _)
   | (with_reducible refine LeO.ite ?_ ?_)
   | (with_reducible refine LeO.bind ?_ (fun _ => ?_))
theorem impl_StartStates.mono : ∀ a0 a1 a2 a3 a4 a5 k, LeO (impl_StartStates.f k a0 a1 a2 a3 a4 a5) (impl_StartStates.f (k + 1) a0 a1 a2 a3 a4 a5) := by
 intro a0 a1 a2 a3 a4 a5 k
 obtain ⟨ih0, ih1, ih2, ih3⟩ := impl_StartStates.mono_l k
 unfold impl_StartStates.f
 repeat' first
   | (with_reducible exact ih0 _ _ _ _ _ _ _ _ _ _ _)
   | (with_reducible exact ih1 _ _ _ _ _ _ _)
   | (with_reducible exact ih2 _ _ _ _ _ _ _ _ _ _ _)
   | (with_reducible exact ih3 _ _ _ _ _ _ _ _ _ _ _ _ _ _ _)
   | (with_reducible exact impl_StripEquation.mono _ _ _)
   | (with_reducible exact LeO.refl _)
   | (with_reducible exact LeO.none _)
   | (with_reducible refine LeO.ite ?_ ?_)
   | (with_reducible refine LeO.bind ?_ (fun _ => ?_))
theorem impl_StartStates.calls (k : Nat) (a0_0 : ByteArray) (a0_1 : ByteArray) (A0_2 : Option Addr) (c0_2 : Nat) (l0_2 : List (List Int)) (A0_3 : Option Addr) (c0_3 : Nat) (l0_3 : List Int) (A0_4 : Option Addr) (c0_4 : Nat) (l0_4 : List (List Int)) (P0_5_ : Nat → Prop) (A0_5 : Option Addr) (c0_5 : Nat) (l0_5 : List (List Int)) (r : List (S89)) (w : World) (hr0_2 : Kd.C (Kd.slice 3 (Kd.int .i64)) w A0_2 l0_2.length l0_2) (hc0_2 : l0_2.length ≤ c0_2) (hr0_3 : Kd.C (Kd.int .i64) w A0_3 l0_3.length l0_3) (hc0_3 : l0_3.length ≤ c0_3) (hr0_4 : Kd.C (Kd.slice 3 (Kd.int .i64)) w A0_4 l0_4.length l0_4) (hc0_4 : l0_4.length ≤ c0_4) (hs0_5 : Kd.V (Kd.slice 3 (Kd.int .i64)) 25 w w.heap.size (fun k_ => P0_5_ k_) (.slice A0_5 l0_5.length c0_5) l0_5) (h : impl_StartStates.f k a0_0 a0_1 l0_2 l0_3 l0_4 l0_5 = some r) :
  Calls Try.prog 10 #[.agg #[.string a0_0, .string a0_1, .slice A0_2 l0_2.length c0_2, .slice A0_3 l0_3.length c0_3, .slice A0_4 l0_4.length c0_4, .slice A0_5 l0_5.length c0_5]] w fun e w' => ∃ v0_ : Value, e = .returned (v0_) ∧ Kd.S k89 89 w' w.heap.size (fun k_ => (P0_5_ k_ ∨ w.heap.size ≤ k_)) v0_ r ∧ Below w.heap.size w w' := by
 have hu36 := Try.underlying36
 have hu33 := Try.underlying33
 have hu89 := Try.underlying89
 have HR0_2 := Aside0.mk hr0_2
 have HC0_2 := Aside0.mk hc0_2
 clear hr0_2 hc0_2
 have HR0_3 := Aside0.mk hr0_3
 have HC0_3 := Aside0.mk hc0_3
 clear hr0_3 hc0_3
 have HR0_4 := Aside0.mk hr0_4
 have HC0_4 := Aside0.mk hc0_4
 clear hr0_4 hc0_4
 have HO0_5 := Aside0.mk (show Kd.V (Kd.slice 3 (Kd.int .i64)) 25 w w.heap.size (fun k_ => (P0_5_ k_ ∨ w.heap.size ≤ k_)) (.slice A0_5 l0_5.length c0_5) l0_5 from Kd.V_mono hs0_5 (fun k_ hk => .inl hk))
 have HB := Aside0.mk (Below.refl w.heap.size w)
 have H : (if (l0_5.length : Int) = 3 then (impl_StartStates.l0 k (([] : List (List Int))) 1 l0_5 (l0_5.length : Int) 0 a0_0 a0_1 l0_2 l0_3 l0_4 l0_5) else (some ([] : List (S89)))) = some r := h
 clear h
 by_cases c2 : (l0_5.length : Int) = 3
 ·rw [if_pos c2] at H
  have c2b0 : ((l0_5.length : Int) == 3) = true := beq_iff_eq.mpr c2
  have c2b1 : ((l0_5.length : Int) != 3) = false := bne_eq_false_iff_eq.mpr c2
  clear c2
  obtain ⟨y10002, hy10002⟩ : ∃ y_ : List (List Int), y_ = (([] : List (List Int))) := ⟨_, rfl⟩
  replace H : (impl_StartStates.l0 k y10002 1 l0_5 (l0_5.length : Int) 0 a0_0 a0_1 l0_2 l0_3 l0_4 l0_5) = some r := by first | (rw [hy10002]; with_reducible exact H) | (have H2_ := (Option.bind_some _ _).symm.trans H; rw [hy10002]; with_reducible exact H2_) | (have H2_ := (Option.bind_some _ _).symm.trans H; with_reducible exact H2_) | with_reducible exact H | (rw [hy10002]; exact H) | exact H
  have Ny10002 := Aside0.mk hy10002
  clear hy10002
  have H' := Aside0.mk H
  clear H
  go_enter Try.func10, Try.ntmps10
  go_wp2_with (first | ((with_reducible refine gate_dst (N := 1) rfl ?_); refine box_event ?hg (N := 1) ?hd (cs := #[.string a0_0, .string a0_1, .slice A0_2 l0_2.length c0_2, .slice A0_3 l0_3.length c0_3, .slice A0_4 l0_4.length c0_4, .slice A0_5 l0_5.length c0_5]) (t := 36) ?hr ?_; (case hd => rfl); (case hg => rfl); (case hr => first | (go_simp; done) | (go_simp; rfl)); intro gb10001 hg w3 hbox hb; have n0_ := Aside0.mk (Kd.V_below (Kd.V_elderB (by (with_reducible repeat (first | apply Kd.V_alloc | apply Kd.V_drewN | apply Kd.V_drew)); exact HO0_5.out) gb10001 (Nat.le_of_eq hg.symm)) hb); have n1_ := Aside0.mk (below_step (by repeat (first | (with_reducible first | exact HB.out | apply below_alloc | apply pw_below_drewN | apply below_drew1) | exact HB.out)) hb); have n2_ := Aside0.mk (hbox); have n3_ := Aside0.mk ((by rw [hg]; exact (below_size (by repeat (first | (with_reducible first | exact HB.out | apply below_alloc | apply pw_below_drewN | apply below_drew1) | exact HB.out))) : w.heap.size ≤ gb10001)); have n4_ := Aside0.mk ((by rw [hg]; exact (below_size (by repeat (first | (with_reducible first | exact HB.out | apply below_alloc | apply pw_below_drewN | apply below_drew1) | exact HB.out))) : w.heap.size ≤ gb10001)); clear HO0_5; clear HB; have HO0_5 := n0_; have HB := n1_; have BK10001 := n2_; have GW10001 := n3_; have GE10001 := n4_; clear n0_ n1_ n2_ n3_ n4_; clear hb hbox hg; have hcz4_0 : w3.cell? ⟨gb10001, 0, none⟩ = some (.string a0_0) := (blk_cell BK10001.out 0).trans rfl; have hcz4_1 : w3.cell? ⟨gb10001, 1, none⟩ = some (.string a0_1) := (blk_cell BK10001.out 1).trans rfl; have hcz4_2 : w3.cell? ⟨gb10001, 2, none⟩ = some (.slice A0_2 l0_2.length c0_2) := (blk_cell BK10001.out 2).trans rfl; have hcz4_3 : w3.cell? ⟨gb10001, 3, none⟩ = some (.slice A0_3 l0_3.length c0_3) := (blk_cell BK10001.out 3).trans rfl; have hcz4_4 : w3.cell? ⟨gb10001, 4, none⟩ = some (.slice A0_4 l0_4.length c0_4) := (blk_cell BK10001.out 4).trans rfl; have hcz4_5 : w3.cell? ⟨gb10001, 5, none⟩ = some (.slice A0_5 l0_5.length c0_5) := (blk_cell BK10001.out 5).trans rfl; have hfz4_0 := blk_frozen BK10001.out 0; have hfz4_1 := blk_frozen BK10001.out 1; have hfz4_2 := blk_frozen BK10001.out 2; have hfz4_3 := blk_frozen BK10001.out 3; have hfz4_4 := blk_frozen BK10001.out 4; have hfz4_5 := blk_frozen BK10001.out 5) | ((with_reducible refine gate_dst (N := 19) rfl ?_); refine Kd.N_lit (Kd.slice 3 (Kd.int .i64)) _ 25 ?hg (N' := 19) ?hd (xs := ([] : List (List Int))) (inner := []) (ok := (fun k_ => (P0_5_ k_ ∨ w.heap.size ≤ k_) ∧ k_ ≠ gb10001)) (okp := (fun k_ => (P0_5_ k_ ∨ w.heap.size ≤ k_) ∧ k_ ≠ gb10001)) ?hr ?hp (fun _ hk => hk) ((show ∀ k_, w3.heap.size ≤ k_ → (fun k_ => (P0_5_ k_ ∨ w.heap.size ≤ k_) ∧ k_ ≠ gb10001) k_ from fun k_ hk => ⟨(.inr (Nat.le_trans (below_size (by repeat (first | (with_reducible first | exact HB.out | apply below_alloc | apply pw_below_drewN | apply below_drew1 | refine below_set ?_ GE10001.out) | exact HB.out))) hk)), Kd.freshB (g := gb10001) (o := .cells #[.string a0_0, .string a0_1, .slice A0_2 l0_2.length c0_2, .slice A0_3 l0_3.length c0_3, .slice A0_4 l0_4.length c0_4, .slice A0_5 l0_5.length c0_5] 36 (0, 0)) (by (with_reducible repeat (first | refine blk_drewN ?_ _ | refine blk_drew ?_ | refine blk_alloc ?_ _)); exact BK10001.out) k_ hk⟩) _ (by first | exact Nat.le_refl _ | simp)) (Below.refl _ _) (Nat.le_refl _) (by simp) ?_; (case hd => rfl); (case hg => rfl); (case hr => first | (go_simp; done) | (go_simp; rfl)); (case hp => exact (Reps.none _ _)); intro v10003 w5 ho6 hb hg_ hnew_; clear hg_ hnew_; (first | rw [← Ny10002.out] at ho6 | (simp only [Int.reduceToNat] at ho6; rw [← Ny10002.out] at ho6)); have n0_ := Aside0.mk (Kd.V_elder' (by (with_reducible repeat (first | apply Kd.V_alloc | apply Kd.V_drewN | apply Kd.V_drew)); exact HO0_5.out) (Kd.N_base ho6) hb); have n1_ := Aside0.mk (Kd.N_lower ho6 (below_size (by repeat (first | (with_reducible first | exact HB.out | apply below_alloc | apply pw_below_drewN | apply below_drew1 | refine below_set ?_ GE10001.out) | exact HB.out)))); have n2_ := Aside0.mk (blk_below (g := gb10001) (o := .cells #[.string a0_0, .string a0_1, .slice A0_2 l0_2.length c0_2, .slice A0_3 l0_3.length c0_3, .slice A0_4 l0_4.length c0_4, .slice A0_5 l0_5.length c0_5] 36 (0, 0)) (by (with_reducible repeat (first | refine blk_drewN ?_ _ | refine blk_drew ?_ | refine blk_alloc ?_ _)); exact BK10001.out) hb); have n3_ := Aside0.mk (below_step (by repeat (first | (with_reducible first | exact HB.out | apply below_alloc | apply pw_below_drewN | apply below_drew1 | refine below_set ?_ GE10001.out) | exact HB.out)) hb); clear HO0_5; clear BK10001; clear HB; have HO0_5 := n0_; have HO10004 := n1_; have BK10001 := n2_; have HB := n3_; clear n0_ n1_ n2_ n3_; clear hb ho6; have hcz7_0 : w5.cell? ⟨gb10001, 0, none⟩ = some (.string a0_0) := (blk_cell BK10001.out 0).trans rfl; have hcz7_1 : w5.cell? ⟨gb10001, 1, none⟩ = some (.string a0_1) := (blk_cell BK10001.out 1).trans rfl; have hcz7_2 : w5.cell? ⟨gb10001, 2, none⟩ = some (.slice A0_2 l0_2.length c0_2) := (blk_cell BK10001.out 2).trans rfl; have hcz7_3 : w5.cell? ⟨gb10001, 3, none⟩ = some (.slice A0_3 l0_3.length c0_3) := (blk_cell BK10001.out 3).trans rfl; have hcz7_4 : w5.cell? ⟨gb10001, 4, none⟩ = some (.slice A0_4 l0_4.length c0_4) := (blk_cell BK10001.out 4).trans rfl; have hcz7_5 : w5.cell? ⟨gb10001, 5, none⟩ = some (.slice A0_5 l0_5.length c0_5) := (blk_cell BK10001.out 5).trans rfl; have hfz7_0 := blk_frozen BK10001.out 0; have hfz7_1 := blk_frozen BK10001.out 1; have hfz7_2 := blk_frozen BK10001.out 2; have hfz7_3 := blk_frozen BK10001.out 3; have hfz7_4 := blk_frozen BK10001.out 4; have hfz7_5 := blk_frozen BK10001.out 5))
  repeat (go_quiet (first | ((with_reducible refine gate_dst (N := 1) rfl ?_); refine box_event ?hg (N := 1) ?hd (cs := #[.string a0_0, .string a0_1, .slice A0_2 l0_2.length c0_2, .slice A0_3 l0_3.length c0_3, .slice A0_4 l0_4.length c0_4, .slice A0_5 l0_5.length c0_5]) (t := 36) ?hr ?_; (case hd => rfl); (case hg => rfl); (case hr => first | (go_simp; done) | (go_simp; rfl)); intro gb10001 hg w3 hbox hb; have n0_ := Aside0.mk (Kd.V_below (Kd.V_elderB (by (with_reducible repeat (first | apply Kd.V_alloc | apply Kd.V_drewN | apply Kd.V_drew)); exact HO0_5.out) gb10001 (Nat.le_of_eq hg.symm)) hb); have n1_ := Aside0.mk (below_step (by repeat (first | (with_reducible first | exact HB.out | apply below_alloc | apply pw_below_drewN | apply below_drew1) | exact HB.out)) hb); have n2_ := Aside0.mk (hbox); have n3_ := Aside0.mk ((by rw [hg]; exact (below_size (by repeat (first | (with_reducible first | exact HB.out | apply below_alloc | apply pw_below_drewN | apply below_drew1) | exact HB.out))) : w.heap.size ≤ gb10001)); have n4_ := Aside0.mk ((by rw [hg]; exact (below_size (by repeat (first | (with_reducible first | exact HB.out | apply below_alloc | apply pw_below_drewN | apply below_drew1) | exact HB.out))) : w.heap.size ≤ gb10001)); clear HO0_5; clear HB; have HO0_5 := n0_; have HB := n1_; have BK10001 := n2_; have GW10001 := n3_; have GE10001 := n4_; clear n0_ n1_ n2_ n3_ n4_; clear hb hbox hg; have hcz4_0 : w3.cell? ⟨gb10001, 0, none⟩ = some (.string a0_0) := (blk_cell BK10001.out 0).trans rfl; have hcz4_1 : w3.cell? ⟨gb10001, 1, none⟩ = some (.string a0_1) := (blk_cell BK10001.out 1).trans rfl; have hcz4_2 : w3.cell? ⟨gb10001, 2, none⟩ = some (.slice A0_2 l0_2.length c0_2) := (blk_cell BK10001.out 2).trans rfl; have hcz4_3 : w3.cell? ⟨gb10001, 3, none⟩ = some (.slice A0_3 l0_3.length c0_3) := (blk_cell BK10001.out 3).trans rfl; have hcz4_4 : w3.cell? ⟨gb10001, 4, none⟩ = some (.slice A0_4 l0_4.length c0_4) := (blk_cell BK10001.out 4).trans rfl; have hcz4_5 : w3.cell? ⟨gb10001, 5, none⟩ = some (.slice A0_5 l0_5.length c0_5) := (blk_cell BK10001.out 5).trans rfl; have hfz4_0 := blk_frozen BK10001.out 0; have hfz4_1 := blk_frozen BK10001.out 1; have hfz4_2 := blk_frozen BK10001.out 2; have hfz4_3 := blk_frozen BK10001.out 3; have hfz4_4 := blk_frozen BK10001.out 4; have hfz4_5 := blk_frozen BK10001.out 5) | ((with_reducible refine gate_dst (N := 19) rfl ?_); refine Kd.N_lit (Kd.slice 3 (Kd.int .i64)) _ 25 ?hg (N' := 19) ?hd (xs := ([] : List (List Int))) (inner := []) (ok := (fun k_ => (P0_5_ k_ ∨ w.heap.size ≤ k_) ∧ k_ ≠ gb10001)) (okp := (fun k_ => (P0_5_ k_ ∨ w.heap.size ≤ k_) ∧ k_ ≠ gb10001)) ?hr ?hp (fun _ hk => hk) ((show ∀ k_, w3.heap.size ≤ k_ → (fun k_ => (P0_5_ k_ ∨ w.heap.size ≤ k_) ∧ k_ ≠ gb10001) k_ from fun k_ hk => ⟨(.inr (Nat.le_trans (below_size (by repeat (first | (with_reducible first | exact HB.out | apply below_alloc | apply pw_below_drewN | apply below_drew1 | refine below_set ?_ GE10001.out) | exact HB.out))) hk)), Kd.freshB (g := gb10001) (o := .cells #[.string a0_0, .string a0_1, .slice A0_2 l0_2.length c0_2, .slice A0_3 l0_3.length c0_3, .slice A0_4 l0_4.length c0_4, .slice A0_5 l0_5.length c0_5] 36 (0, 0)) (by (with_reducible repeat (first | refine blk_drewN ?_ _ | refine blk_drew ?_ | refine blk_alloc ?_ _)); exact BK10001.out) k_ hk⟩) _ (by first | exact Nat.le_refl _ | simp)) (Below.refl _ _) (Nat.le_refl _) (by simp) ?_; (case hd => rfl); (case hg => rfl); (case hr => first | (go_simp; done) | (go_simp; rfl)); (case hp => exact (Reps.none _ _)); intro v10003 w5 ho6 hb hg_ hnew_; clear hg_ hnew_; (first | rw [← Ny10002.out] at ho6 | (simp only [Int.reduceToNat] at ho6; rw [← Ny10002.out] at ho6)); have n0_ := Aside0.mk (Kd.V_elder' (by (with_reducible repeat (first | apply Kd.V_alloc | apply Kd.V_drewN | apply Kd.V_drew)); exact HO0_5.out) (Kd.N_base ho6) hb); have n1_ := Aside0.mk (Kd.N_lower ho6 (below_size (by repeat (first | (with_reducible first | exact HB.out | apply below_alloc | apply pw_below_drewN | apply below_drew1 | refine below_set ?_ GE10001.out) | exact HB.out)))); have n2_ := Aside0.mk (blk_below (g := gb10001) (o := .cells #[.string a0_0, .string a0_1, .slice A0_2 l0_2.length c0_2, .slice A0_3 l0_3.length c0_3, .slice A0_4 l0_4.length c0_4, .slice A0_5 l0_5.length c0_5] 36 (0, 0)) (by (with_reducible repeat (first | refine blk_drewN ?_ _ | refine blk_drew ?_ | refine blk_alloc ?_ _)); exact BK10001.out) hb); have n3_ := Aside0.mk (below_step (by repeat (first | (with_reducible first | exact HB.out | apply below_alloc | apply pw_below_drewN | apply below_drew1 | refine below_set ?_ GE10001.out) | exact HB.out)) hb); clear HO0_5; clear BK10001; clear HB; have HO0_5 := n0_; have HO10004 := n1_; have BK10001 := n2_; have HB := n3_; clear n0_ n1_ n2_ n3_; clear hb ho6; have hcz7_0 : w5.cell? ⟨gb10001, 0, none⟩ = some (.string a0_0) := (blk_cell BK10001.out 0).trans rfl; have hcz7_1 : w5.cell? ⟨gb10001, 1, none⟩ = some (.string a0_1) := (blk_cell BK10001.out 1).trans rfl; have hcz7_2 : w5.cell? ⟨gb10001, 2, none⟩ = some (.slice A0_2 l0_2.length c0_2) := (blk_cell BK10001.out 2).trans rfl; have hcz7_3 : w5.cell? ⟨gb10001, 3, none⟩ = some (.slice A0_3 l0_3.length c0_3) := (blk_cell BK10001.out 3).trans rfl; have hcz7_4 : w5.cell? ⟨gb10001, 4, none⟩ = some (.slice A0_4 l0_4.length c0_4) := (blk_cell BK10001.out 4).trans rfl; have hcz7_5 : w5.cell? ⟨gb10001, 5, none⟩ = some (.slice A0_5 l0_5.length c0_5) := (blk_cell BK10001.out 5).trans rfl; have hfz7_0 := blk_frozen BK10001.out 0; have hfz7_1 := blk_frozen BK10001.out 1; have hfz7_2 := blk_frozen BK10001.out 2; have hfz7_3 := blk_frozen BK10001.out 3; have hfz7_4 := blk_frozen BK10001.out 4; have hfz7_5 := blk_frozen BK10001.out 5)); try go_wp2_with (first | ((with_reducible refine gate_dst (N := 1) rfl ?_); refine box_event ?hg (N := 1) ?hd (cs := #[.string a0_0, .string a0_1, .slice A0_2 l0_2.length c0_2, .slice A0_3 l0_3.length c0_3, .slice A0_4 l0_4.length c0_4, .slice A0_5 l0_5.length c0_5]) (t := 36) ?hr ?_; (case hd => rfl); (case hg => rfl); (case hr => first | (go_simp; done) | (go_simp; rfl)); intro gb10001 hg w3 hbox hb; have n0_ := Aside0.mk (Kd.V_below (Kd.V_elderB (by (with_reducible repeat (first | apply Kd.V_alloc | apply Kd.V_drewN | apply Kd.V_drew)); exact HO0_5.out) gb10001 (Nat.le_of_eq hg.symm)) hb); have n1_ := Aside0.mk (below_step (by repeat (first | (with_reducible first | exact HB.out | apply below_alloc | apply pw_below_drewN | apply below_drew1) | exact HB.out)) hb); have n2_ := Aside0.mk (hbox); have n3_ := Aside0.mk ((by rw [hg]; exact (below_size (by repeat (first | (with_reducible first | exact HB.out | apply below_alloc | apply pw_below_drewN | apply below_drew1) | exact HB.out))) : w.heap.size ≤ gb10001)); have n4_ := Aside0.mk ((by rw [hg]; exact (below_size (by repeat (first | (with_reducible first | exact HB.out | apply below_alloc | apply pw_below_drewN | apply below_drew1) | exact HB.out))) : w.heap.size ≤ gb10001)); clear HO0_5; clear HB; have HO0_5 := n0_; have HB := n1_; have BK10001 := n2_; have GW10001 := n3_; have GE10001 := n4_; clear n0_ n1_ n2_ n3_ n4_; clear hb hbox hg; have hcz4_0 : w3.cell? ⟨gb10001, 0, none⟩ = some (.string a0_0) := (blk_cell BK10001.out 0).trans rfl; have hcz4_1 : w3.cell? ⟨gb10001, 1, none⟩ = some (.string a0_1) := (blk_cell BK10001.out 1).trans rfl; have hcz4_2 : w3.cell? ⟨gb10001, 2, none⟩ = some (.slice A0_2 l0_2.length c0_2) := (blk_cell BK10001.out 2).trans rfl; have hcz4_3 : w3.cell? ⟨gb10001, 3, none⟩ = some (.slice A0_3 l0_3.length c0_3) := (blk_cell BK10001.out 3).trans rfl; have hcz4_4 : w3.cell? ⟨gb10001, 4, none⟩ = some (.slice A0_4 l0_4.length c0_4) := (blk_cell BK10001.out 4).trans rfl; have hcz4_5 : w3.cell? ⟨gb10001, 5, none⟩ = some (.slice A0_5 l0_5.length c0_5) := (blk_cell BK10001.out 5).trans rfl; have hfz4_0 := blk_frozen BK10001.out 0; have hfz4_1 := blk_frozen BK10001.out 1; have hfz4_2 := blk_frozen BK10001.out 2; have hfz4_3 := blk_frozen BK10001.out 3; have hfz4_4 := blk_frozen BK10001.out 4; have hfz4_5 := blk_frozen BK10001.out 5) | ((with_reducible refine gate_dst (N := 19) rfl ?_); refine Kd.N_lit (Kd.slice 3 (Kd.int .i64)) _ 25 ?hg (N' := 19) ?hd (xs := ([] : List (List Int))) (inner := []) (ok := (fun k_ => (P0_5_ k_ ∨ w.heap.size ≤ k_) ∧ k_ ≠ gb10001)) (okp := (fun k_ => (P0_5_ k_ ∨ w.heap.size ≤ k_) ∧ k_ ≠ gb10001)) ?hr ?hp (fun _ hk => hk) ((show ∀ k_, w3.heap.size ≤ k_ → (fun k_ => (P0_5_ k_ ∨ w.heap.size ≤ k_) ∧ k_ ≠ gb10001) k_ from fun k_ hk => ⟨(.inr (Nat.le_trans (below_size (by repeat (first | (with_reducible first | exact HB.out | apply below_alloc | apply pw_below_drewN | apply below_drew1 | refine below_set ?_ GE10001.out) | exact HB.out))) hk)), Kd.freshB (g := gb10001) (o := .cells #[.string a0_0, .string a0_1, .slice A0_2 l0_2.length c0_2, .slice A0_3 l0_3.length c0_3, .slice A0_4 l0_4.length c0_4, .slice A0_5 l0_5.length c0_5] 36 (0, 0)) (by (with_reducible repeat (first | refine blk_drewN ?_ _ | refine blk_drew ?_ | refine blk_alloc ?_ _)); exact BK10001.out) k_ hk⟩) _ (by first | exact Nat.le_refl _ | simp)) (Below.refl _ _) (Nat.le_refl _) (by simp) ?_; (case hd => rfl); (case hg => rfl); (case hr => first | (go_simp; done) | (go_simp; rfl)); (case hp => exact (Reps.none _ _)); intro v10003 w5 ho6 hb hg_ hnew_; clear hg_ hnew_; (first | rw [← Ny10002.out] at ho6 | (simp only [Int.reduceToNat] at ho6; rw [← Ny10002.out] at ho6)); have n0_ := Aside0.mk (Kd.V_elder' (by (with_reducible repeat (first | apply Kd.V_alloc | apply Kd.V_drewN | apply Kd.V_drew)); exact HO0_5.out) (Kd.N_base ho6) hb); have n1_ := Aside0.mk (Kd.N_lower ho6 (below_size (by repeat (first | (with_reducible first | exact HB.out | apply below_alloc | apply pw_below_drewN | apply below_drew1 | refine below_set ?_ GE10001.out) | exact HB.out)))); have n2_ := Aside0.mk (blk_below (g := gb10001) (o := .cells #[.string a0_0, .string a0_1, .slice A0_2 l0_2.length c0_2, .slice A0_3 l0_3.length c0_3, .slice A0_4 l0_4.length c0_4, .slice A0_5 l0_5.length c0_5] 36 (0, 0)) (by (with_reducible repeat (first | refine blk_drewN ?_ _ | refine blk_drew ?_ | refine blk_alloc ?_ _)); exact BK10001.out) hb); have n3_ := Aside0.mk (below_step (by repeat (first | (with_reducible first | exact HB.out | apply below_alloc | apply pw_below_drewN | apply below_drew1 | refine below_set ?_ GE10001.out) | exact HB.out)) hb); clear HO0_5; clear BK10001; clear HB; have HO0_5 := n0_; have HO10004 := n1_; have BK10001 := n2_; have HB := n3_; clear n0_ n1_ n2_ n3_; clear hb ho6; have hcz7_0 : w5.cell? ⟨gb10001, 0, none⟩ = some (.string a0_0) := (blk_cell BK10001.out 0).trans rfl; have hcz7_1 : w5.cell? ⟨gb10001, 1, none⟩ = some (.string a0_1) := (blk_cell BK10001.out 1).trans rfl; have hcz7_2 : w5.cell? ⟨gb10001, 2, none⟩ = some (.slice A0_2 l0_2.length c0_2) := (blk_cell BK10001.out 2).trans rfl; have hcz7_3 : w5.cell? ⟨gb10001, 3, none⟩ = some (.slice A0_3 l0_3.length c0_3) := (blk_cell BK10001.out 3).trans rfl; have hcz7_4 : w5.cell? ⟨gb10001, 4, none⟩ = some (.slice A0_4 l0_4.length c0_4) := (blk_cell BK10001.out 4).trans rfl; have hcz7_5 : w5.cell? ⟨gb10001, 5, none⟩ = some (.slice A0_5 l0_5.length c0_5) := (blk_cell BK10001.out 5).trans rfl; have hfz7_0 := blk_frozen BK10001.out 0; have hfz7_1 := blk_frozen BK10001.out 1; have hfz7_2 := blk_frozen BK10001.out 2; have hfz7_3 := blk_frozen BK10001.out 3; have hfz7_4 := blk_frozen BK10001.out 4; have hfz7_5 := blk_frozen BK10001.out 5)))
  first | go_loopg [3, 4, 23] k (fun kq v3 v4 v23 w' => ∃ (x3_1 : List (List Int)) (x4_1 : Int) (x23_1 : Int), v4 = .int .i64 x4_1 ∧ v23 = .int .i64 x23_1 ∧ Aside0 (impl_StartStates.l0 kq x3_1 x4_1 l0_5 (l0_5.length : Int) x23_1 a0_0 a0_1 l0_2 l0_3 l0_4 l0_5 = some r) ∧ Aside0 (kq ≤ k) ∧ Aside0 (Kd.N (Kd.slice 3 (Kd.int .i64)) 25 w' w.heap.size (fun k_ => (P0_5_ k_ ∨ w.heap.size ≤ k_) ∧ k_ ≠ gb10001) v3 x3_1) ∧ Aside0 (Kd.V (Kd.slice 3 (Kd.int .i64)) 25 w' w.heap.size (fun k_ => (P0_5_ k_ ∨ w.heap.size ≤ k_) ∧ some k_ ≠ (v3 : Value).ownBlock ∧ k_ ≠ gb10001) (.slice A0_5 l0_5.length c0_5) l0_5) ∧ Aside0 (Kd.V (Kd.slice 3 (Kd.int .i64)) 25 w' w.heap.size (fun k_ => (P0_5_ k_ ∨ w.heap.size ≤ k_) ∧ some k_ ≠ (v3 : Value).ownBlock ∧ k_ ≠ gb10001) (.slice A0_5 l0_5.length c0_5) l0_5) ∧ Aside0 (w'.heap[gb10001]? = some (.cells #[.string a0_0, .string a0_1, (.slice A0_2 l0_2.length c0_2), (.slice A0_3 l0_3.length c0_3), (.slice A0_4 l0_4.length c0_4), (.slice A0_5 l0_5.length c0_5)] 36 (0, 0))) ∧ Aside0 (Below w.heap.size w w')) | (simp only [Act.put, List.setIfInBounds_toArray, List.set_cons_succ, List.set_cons_zero]; go_loopg [3, 4, 23] k (fun kq v3 v4 v23 w' => ∃ (x3_1 : List (List Int)) (x4_1 : Int) (x23_1 : Int), v4 = .int .i64 x4_1 ∧ v23 = .int .i64 x23_1 ∧ Aside0 (impl_StartStates.l0 kq x3_1 x4_1 l0_5 (l0_5.length : Int) x23_1 a0_0 a0_1 l0_2 l0_3 l0_4 l0_5 = some r) ∧ Aside0 (kq ≤ k) ∧ Aside0 (Kd.N (Kd.slice 3 (Kd.int .i64)) 25 w' w.heap.size (fun k_ => (P0_5_ k_ ∨ w.heap.size ≤ k_) ∧ k_ ≠ gb10001) v3 x3_1) ∧ Aside0 (Kd.V (Kd.slice 3 (Kd.int .i64)) 25 w' w.heap.size (fun k_ => (P0_5_ k_ ∨ w.heap.size ≤ k_) ∧ some k_ ≠ (v3 : Value).ownBlock ∧ k_ ≠ gb10001) (.slice A0_5 l0_5.length c0_5) l0_5) ∧ Aside0 (Kd.V (Kd.slice 3 (Kd.int .i64)) 25 w' w.heap.size (fun k_ => (P0_5_ k_ ∨ w.heap.size ≤ k_) ∧ some k_ ≠ (v3 : Value).ownBlock ∧ k_ ≠ gb10001) (.slice A0_5 l0_5.length c0_5) l0_5) ∧ Aside0 (w'.heap[gb10001]? = some (.cells #[.string a0_0, .string a0_1, (.slice A0_2 l0_2.length c0_2), (.slice A0_3 l0_3.length c0_3), (.slice A0_4 l0_4.length c0_4), (.slice A0_5 l0_5.length c0_5)] 36 (0, 0))) ∧ Aside0 (Below w.heap.size w w')))
  case atStart => exact ⟨(y10002), (1), (0), (by first | rfl | (simp; done) | (simp [*]; done)), (by first | rfl | (simp; done) | (simp [*]; done)), H', ⟨Nat.le_refl _⟩, ⟨by (with_reducible repeat (first | apply Kd.N_alloc | apply Kd.N_drewN | apply Kd.N_drew | apply Kd.S_alloc | apply Kd.S_drewN | apply Kd.S_drew)); exact HO10004.out⟩, ⟨by (with_reducible repeat (first | apply Kd.V_alloc | apply Kd.V_drewN | apply Kd.V_drew)); exact Kd.V_mono HO0_5.out (fun _ hk => ⟨hk.1.1, ⟨hk.2, hk.1.2⟩⟩)⟩, ⟨by (with_reducible repeat (first | apply Kd.V_alloc | apply Kd.V_drewN | apply Kd.V_drew)); exact Kd.V_mono HO0_5.out (fun _ hk => ⟨hk.1.1, ⟨hk.2, hk.1.2⟩⟩)⟩, ⟨by (with_reducible repeat (first | refine blk_drewN ?_ _ | refine blk_drew ?_ | refine blk_alloc ?_ _)); exact BK10001.out⟩, ⟨by repeat (first | (with_reducible first | exact HB.out | apply below_alloc | apply pw_below_drewN | apply below_drew1 | refine below_set ?_ GE10001.out) | exact HB.out)⟩⟩
  case round =>
   clear H'
   try clear c1
   try clear c2
   try clear c2b0
   try clear c2b1
   try clear p2
   try clear hcz4_0
   try clear hcz4_1
   try clear hcz4_2
   try clear hcz4_3
   try clear hcz4_4
   try clear hcz4_5
   try clear hcz7_0
   try clear hcz7_1
   try clear hcz7_2
   try clear hcz7_3
   try clear hcz7_4
   try clear hcz7_5
   try clear hfz4_0
   try clear hfz4_1
   try clear hfz4_2
   try clear hfz4_3
   try clear hfz4_4
   try clear hfz4_5
   try clear hfz7_0
   try clear hfz7_1
   try clear hfz7_2
   try clear hfz7_3
   try clear hfz7_4
   try clear hfz7_5
   obtain ⟨x3_1, x4_1, x23_1, rfl, rfl, HA, HK1, HO_3, HO_21, HO_10002005, BK10001, HB⟩ := hrel
   cases gk with
   | zero => exact absurd HA.out (by simp [impl_StartStates.l0])
   | succ k1 =>
    have H := HA.out
    clear HA
    simp only [impl_StartStates.l0] at H
    by_cases c8 : x23_1 < (l0_5.length : Int)
    ·rw [if_pos c8] at H
     have c8b0 : decide (x23_1 < (l0_5.length : Int)) = true := decide_eq_true c8
     clear c8
     by_cases c9 : 0 ≤ x23_1
     ·rw [if_pos c9] at H
      have c9b0 : decide (0 ≤ x23_1) = true := decide_eq_true c9
      clear c9
      by_cases c10 : x23_1 < (l0_5.length : Int)
      ·rw [if_pos c10] at H
       have c10b0 : decide (x23_1 < (l0_5.length : Int)) = true := decide_eq_true c10
       clear c10
       by_cases c11 : a0_0.size + a0_1.size ≤ 9223372036854775807
       ·rw [if_pos c11] at H
        have c11z := c11
        try simp at c11z
        try replace c11z := eq_false (Nat.not_lt.2 c11z)
        have c11b0 := eq_true c11
        have c11b1 : decide (a0_0.size + a0_1.size ≤ 9223372036854775807) = true := decide_eq_true c11
        try have c11b2 : (9223372036854775807 < a0_0.size + a0_1.size) = False := eq_false (Nat.not_lt.2 c11)
        by_cases c12 : x23_1 < 3
        ·rw [if_pos c12] at H
         have c12b0 : decide (x23_1 < 3) = true := decide_eq_true c12
         clear c12
         replace H := Option.bind_eq_some_iff.mp H
         obtain ⟨t10006, A140, H⟩ := H
         replace H : (if t10006 < 0 then (if 0 ≤ (mn 1 ((rd_L1 l0_5 x23_1).length : Int)) then (if (mn 1 ((rd_L1 l0_5 x23_1).length : Int)) ≤ ((rd_L1 l0_5 x23_1).length : Int) then ((some ((rd_L1 l0_5 x23_1).take ((mn 1 ((rd_L1 l0_5 x23_1).length : Int)) : Int).toNat : List Int)).bind fun y10007 => (if x3_1.length < 5864062014805 then (impl_StartStates.l0 k1 (x3_1 ++ [y10007]) (wrap64 (x4_1 * (mn (y10007.length : Int) 401))) l0_5 (l0_5.length : Int) (wrap64 (x23_1 + 1)) a0_0 a0_1 l0_2 l0_3 l0_4 l0_5) else (none))) else (none)) else (none)) else (if x3_1.length < 5864062014805 then (impl_StartStates.l0 k1 (x3_1 ++ [rd_L1 l0_5 x23_1]) (wrap64 (x4_1 * (mn ((rd_L1 l0_5 x23_1).length : Int) 401))) l0_5 (l0_5.length : Int) (wrap64 (x23_1 + 1)) a0_0 a0_1 l0_2 l0_3 l0_4 l0_5) else (none))) = some r := H
         have A14 := Aside0.mk A140
         clear A140
         by_cases c15 : t10006 < 0
         ·rw [if_pos c15] at H
          have c15b0 : decide (t10006 < 0) = true := decide_eq_true c15
          clear c15
          obtain ⟨ji16, hji16⟩ : ∃ j_ : Int, (mn 1 ((rd_L1 l0_5 x23_1).length : Int)) = j_ := ⟨_, rfl⟩
          replace H : (if 0 ≤ (ji16) then (if (ji16) ≤ ((rd_L1 l0_5 x23_1).length : Int) then ((some ((rd_L1 l0_5 x23_1).take ((ji16) : Int).toNat : List Int)).bind fun y10007 => (if x3_1.length < 5864062014805 then (impl_StartStates.l0 k1 (x3_1 ++ [y10007]) (wrap64 (x4_1 * (mn (y10007.length : Int) 401))) l0_5 (l0_5.length : Int) (wrap64 (x23_1 + 1)) a0_0 a0_1 l0_2 l0_3 l0_4 l0_5) else (none))) else (none)) else (none)) = some r := by first | (rw [hji16] at H; exact H) | (simp only [hji16] at H ⊢; exact H)
          (try rw [hji16] at A14)
          have hji16_ : (if ((rd_L1 l0_5 x23_1).length : Int) < 1 then ((rd_L1 l0_5 x23_1).length : Int) else 1) = ji16 := hji16
          by_cases c17 : 0 ≤ (ji16)
          ·rw [if_pos c17] at H
           have c17b0 := eq_true c17
           have c17b1 : decide (0 ≤ (ji16)) = true := decide_eq_true c17
           clear c17
           by_cases c18 : (ji16) ≤ ((rd_L1 l0_5 x23_1).length : Int)
           ·rw [if_pos c18] at H
            have c18b0 := eq_true c18
            have c18b1 : decide ((ji16) ≤ ((rd_L1 l0_5 x23_1).length : Int)) = true := decide_eq_true c18
            clear c18
            obtain ⟨y10007, hy10007⟩ : ∃ y_ : List Int, y_ = ((rd_L1 l0_5 x23_1).take ((ji16) : Int).toNat) := ⟨_, rfl⟩
            replace H : (if x3_1.length < 5864062014805 then (impl_StartStates.l0 k1 (x3_1 ++ [y10007]) (wrap64 (x4_1 * (mn (y10007.length : Int) 401))) l0_5 (l0_5.length : Int) (wrap64 (x23_1 + 1)) a0_0 a0_1 l0_2 l0_3 l0_4 l0_5) else (none)) = some r := by first | (rw [hy10007]; with_reducible exact H) | (have H2_ := (Option.bind_some _ _).symm.trans H; rw [hy10007]; with_reducible exact H2_) | (have H2_ := (Option.bind_some _ _).symm.trans H; with_reducible exact H2_) | with_reducible exact H | (rw [hy10007]; exact H) | exact H
            have Ny10007 := Aside0.mk hy10007
            clear hy10007
            by_cases c19 : x3_1.length < 5864062014805
            ·rw [if_pos c19] at H
             have LMc19 := Aside0.mk c19
             clear c19
             obtain ⟨y10012, hy10012⟩ : ∃ y_ : List (List Int), y_ = (x3_1 ++ [y10007]) := ⟨_, rfl⟩
             replace H : (impl_StartStates.l0 k1 y10012 (wrap64 (x4_1 * (mn (y10007.length : Int) 401))) l0_5 (l0_5.length : Int) (wrap64 (x23_1 + 1)) a0_0 a0_1 l0_2 l0_3 l0_4 l0_5) = some r := by first | (rw [hy10012]; with_reducible exact H) | (have H2_ := (Option.bind_some _ _).symm.trans H; rw [hy10012]; with_reducible exact H2_) | (have H2_ := (Option.bind_some _ _).symm.trans H; with_reducible exact H2_) | with_reducible exact H | (rw [hy10012]; exact H) | exact H
             have Ny10012 := Aside0.mk hy10012
             clear hy10012
             obtain ⟨ji20, hji20⟩ : ∃ j_ : Int, (mn (y10007.length : Int) 401) = j_ := ⟨_, rfl⟩
             replace H : (impl_StartStates.l0 k1 y10012 (wrap64 (x4_1 * (ji20))) l0_5 (l0_5.length : Int) (wrap64 (x23_1 + 1)) a0_0 a0_1 l0_2 l0_3 l0_4 l0_5) = some r := by first | (rw [hji20] at H; exact H) | (simp only [hji20] at H ⊢; exact H)
             (try rw [hji20] at A14)
             (try (have hji20h : ji20 ≤ 401 := by (rw [← hji20]; unfold mn; (repeat' split) <;> omega)))
             (try (have hji20g : ji20 ≤ 64 := by omega))
             (try (have hji20l : 0 ≤ ji20 := by (rw [← hji20]; unfold mn; (repeat' split) <;> omega)))
             (try (have hji20m : 0 ≤ ji20 := by omega))
             have hji20_ : (if 401 < (y10007.length : Int) then 401 else (y10007.length : Int)) = ji20 := hji20
             have H' := Aside0.mk H
             clear H
             have p10005 : 0 ≤ (x23_1 : Int) := of_decide_eq_true (by first | (with_reducible assumption) | assumption)
             have q10005 : x23_1 < (l0_5.length : Int) := of_decide_eq_true (by first | (with_reducible assumption) | assumption)
             obtain ⟨ad10005, A10005_0, c10005_0, e10005, hx10005_0, hl10005_0, hi10005_0⟩ := at_L1 (Kd.V_reads' HO_21.out).2.2 x23_1 p10005 q10005
             cases e10005
             obtain ⟨ce10005, hce10005, hMe10005, hcc10005⟩ := Kd.V_get HO_21.out [] x23_1 p10005 (by first | exact q10005 | exact of_decide_eq_true (by first | (with_reducible assumption) | assumption) | (have e_ := (Kd.V_reads' HO_21.out).1; omega))
             obtain ⟨ua10005_0, uc10005_0, rfl, ul10005_0, ge10005_0⟩ := Kd.FK_slice_open hMe10005
             have hv10005_0 := hcc10005 0 _ rfl
             rw [Nat.add_zero, show ((Kd.slice 3 (Kd.int .i64))).sz = 1 from rfl, Nat.mul_one] at hv10005_0
             replace hv10005_0 := Option.some.inj (hv10005_0.symm.trans hx10005_0)
             injection hv10005_0 with hva_ hvn_ hvc_
             rw [hva_] at ge10005_0
             rw [hvc_] at ul10005_0
             have HL10005_0 := Aside0.mk (show Kd.V (Kd.int .i64) 3 _ w.heap.size _ _ (rd_L1 l0_5 x23_1) from Kd.V_mk ul10005_0 ge10005_0)
             clear hva_ hvn_ hvc_ ge10005_0 ul10005_0
             clear hcc10005 hce10005
             have HR10005_0 := Aside0.mk hi10005_0
             have HC10005_0 := Aside0.mk hl10005_0
             clear hi10005_0 hl10005_0
             replace p10005 := eq_true p10005
             replace q10005 := eq_true q10005
             have hcz21_0 : wr.cell? ⟨gb10001, 0, none⟩ = some (.string a0_0) := (blk_cell BK10001.out 0).trans rfl
             have hcz21_1 : wr.cell? ⟨gb10001, 1, none⟩ = some (.string a0_1) := (blk_cell BK10001.out 1).trans rfl
             have hcz21_2 : wr.cell? ⟨gb10001, 2, none⟩ = some (.slice A0_2 l0_2.length c0_2) := (blk_cell BK10001.out 2).trans rfl
             have hcz21_3 : wr.cell? ⟨gb10001, 3, none⟩ = some (.slice A0_3 l0_3.length c0_3) := (blk_cell BK10001.out 3).trans rfl
             have hcz21_4 : wr.cell? ⟨gb10001, 4, none⟩ = some (.slice A0_4 l0_4.length c0_4) := (blk_cell BK10001.out 4).trans rfl
             have hcz21_5 : wr.cell? ⟨gb10001, 5, none⟩ = some (.slice (some ad10005) l0_5.length c0_5) := (blk_cell BK10001.out 5).trans rfl
             have hfz21_0 := blk_frozen BK10001.out 0
             have hfz21_1 := blk_frozen BK10001.out 1
             have hfz21_2 := blk_frozen BK10001.out 2
             have hfz21_3 := blk_frozen BK10001.out 3
             have hfz21_4 := blk_frozen BK10001.out 4
             have hfz21_5 := blk_frozen BK10001.out 5
             have p13 : 0 ≤ (x23_1 : Int) := of_decide_eq_true (by first | (with_reducible assumption) | assumption)
             have q13 : x23_1 < (3 : Int) := of_decide_eq_true (by first | (with_reducible assumption) | assumption)
             have hx13 := bt_at (⟨#[88, 89, 90]⟩ : ByteArray) x23_1
             replace p13 := eq_true p13
             replace q13 := eq_true q13
             go_wp2_with (first | (go_at_call 51; (with_reducible refine (strings_IndexByte.calls (a0_0 ++ a0_1) (bt (⟨#[88, 89, 90]⟩ : ByteArray) x23_1) t10006 _ A14.out).mono ?_); rintro e w' ⟨rfl, ⟨nd, rfl⟩⟩; (try first | exact ⟨rfl, _, World.drewN_drewN _ _ _⟩ | exact ⟨rfl, _, Eq.trans (World.drewN_drewN _ _ _) (congrArg (World.drewN _) (Nat.add_assoc _ _ _))⟩); have q22 : ((ji16) : Int) ≤ (((rd_L1 l0_5 x23_1).length : Int) : Int) := of_decide_eq_true (by first | (with_reducible assumption) | assumption); obtain ⟨i022, hi022, _, hsz22, _⟩ := info_parts info3; have hroom22 : (rd_L1 l0_5 x23_1).length ≤ c10005_0 := HC10005_0.out; have hC22 : Kd.F (Kd.int .i64) _ _ A10005_0 (rd_L1 l0_5 x23_1).length (rd_L1 l0_5 x23_1) := (Kd.V_at (base := w.heap.size) HL10005_0.out).2.2; have hcut22 := cut_to (P := Try.prog) 25 3 .i64 Try.underlying25 hi022 A10005_0 (rd_L1 l0_5 x23_1).length c10005_0 (ji16) (of_decide_eq_true (by first | (with_reducible assumption) | assumption)) q22 hroom22; have hr22 := Kd.F_take (m := ((ji16) : Int).toNat) hC22 (by omega); have hy22 : y10007.length = ((ji16) : Int).toNat := (by rw [Ny10007.out, List.length_take]; omega); rw [← Ny10007.out] at hr22; rw [← hy22] at hcut22; have HO10011 := Aside0.mk (show Kd.V (Kd.int .i64) 3 _ w.heap.size _ (.slice A10005_0 y10007.length c10005_0) y10007 from Kd.V_mk (by omega) hr22); have HC10011 := Aside0.mk (show y10007.length ≤ c10005_0 from by omega); clear hr22 hC22 hroom22 hi022 hsz22; have KY22 := Aside0.mk hy22; clear hy22; replace q22 := eq_true q22) | ((with_reducible refine gate_builtin (b := .append) (xs := #[.tmp 44, .tmp 46]) rfl ?_); at_builtin; refine Kd.N_append (Kd.slice 3 (Kd.int .i64)) (w0 := w) w.heap.size rfl (.tmp 44) (.tmp 46) 24 25 (.slice none 0 0) 24 rfl Try.underlying24 info25 rfl (by decide) (by omega) u3 x3_1 y10007 [.slice A10005_0 y10007.length c10005_0] (fun k_ => (P0_5_ k_ ∨ w.heap.size ≤ k_) ∧ k_ ≠ gb10001) (fun k_ => ((fun k_ => (P0_5_ k_ ∨ w.heap.size ≤ k_) ∧ k_ ≠ gb10001)) k_ ∧ some k_ ≠ (u3 : Value).ownBlock) rfl rfl ?aP (fun _ hk => hk) ?aF ?aO ?aB ?aS ?aL ?_; (case aP => first | exact (Kd.FK_slice_mk (Kd.V_reads' (Kd.V_mono (ok' := (fun k_ => ((fun k_ => (P0_5_ k_ ∨ w.heap.size ≤ k_) ∧ k_ ≠ gb10001)) k_ ∧ some k_ ≠ (u3 : Value).ownBlock)) (HO10011.out) (fun k_ hk => ⟨⟨hk.1, hk.2.2⟩, hk.2.1⟩))).2.1 (Kd.V_F (Kd.V_mono (ok' := (fun k_ => ((fun k_ => (P0_5_ k_ ∨ w.heap.size ≤ k_) ∧ k_ ≠ gb10001)) k_ ∧ some k_ ≠ (u3 : Value).ownBlock)) (HO10011.out) (fun k_ hk => ⟨⟨hk.1, hk.2.2⟩, hk.2.1⟩)))) | exact (Kd.FK_slice_mk (Kd.V_reads' (Kd.V_mono (ok' := (fun k_ => ((fun k_ => (P0_5_ k_ ∨ w.heap.size ≤ k_) ∧ k_ ≠ gb10001)) k_ ∧ some k_ ≠ (u3 : Value).ownBlock)) (HO10011.out) (fun k_ hk => ⟨⟨hk.1, hk.2.2⟩, hk.2.1⟩))).2.1 (Kd.V_F (Kd.V_mono (ok' := (fun k_ => ((fun k_ => (P0_5_ k_ ∨ w.heap.size ≤ k_) ∧ k_ ≠ gb10001)) k_ ∧ some k_ ≠ (u3 : Value).ownBlock)) (Kd.V_drewN HO10011.out _) (fun k_ hk => ⟨⟨hk.1, hk.2.2⟩, hk.2.1⟩))))); (case aB => exact (by repeat (first | (with_reducible first | exact HB.out | apply below_alloc | apply pw_below_drewN | apply below_drew1 | refine below_set ?_ GE10001.out) | exact HB.out))); (case aF => exact (fun k_ hk => ⟨(.inr (Nat.le_trans (below_size (by repeat (first | (with_reducible first | exact HB.out | apply below_alloc | apply pw_below_drewN | apply below_drew1 | refine below_set ?_ GE10001.out) | exact HB.out))) hk)), Kd.freshB (g := gb10001) (o := .cells #[.string a0_0, .string a0_1, .slice A0_2 l0_2.length c0_2, .slice A0_3 l0_3.length c0_3, .slice A0_4 l0_4.length c0_4, .slice (some ad10005) l0_5.length c0_5] 36 (0, 0)) (by (with_reducible repeat (first | refine blk_drewN ?_ _ | refine blk_drew ?_ | refine blk_alloc ?_ _)); exact BK10001.out) k_ hk⟩)); (case aO => exact (by (with_reducible repeat (first | apply Kd.N_alloc | apply Kd.N_drewN | apply Kd.N_drew | apply Kd.S_alloc | apply Kd.S_drewN | apply Kd.S_drew)); exact HO_3.out)); (case aS => exact (below_size (by repeat (first | (with_reducible first | exact HB.out | apply below_alloc | apply pw_below_drewN | apply below_drew1 | refine below_set ?_ GE10001.out) | exact HB.out)))); (case aL => have := LMc19.out; omega); intro v10013 w23 ho hb hg hat; rw [← Ny10012.out] at ho; have n0_ := Aside0.mk (Kd.V_afterv (ok := (fun k_ => (P0_5_ k_ ∨ w.heap.size ≤ k_) ∧ k_ ≠ gb10001)) (by (with_reducible repeat (first | apply Kd.V_alloc | apply Kd.V_drewN | apply Kd.V_drew)); exact Kd.V_mono HO_21.out (fun _ hk => ⟨⟨hk.1, hk.2.2⟩, hk.2.1⟩)) hg hat); have n1_ := Aside0.mk (Kd.V_afterv (ok := (fun k_ => (P0_5_ k_ ∨ w.heap.size ≤ k_) ∧ k_ ≠ gb10001)) (by (with_reducible repeat (first | apply Kd.V_alloc | apply Kd.V_drewN | apply Kd.V_drew)); exact Kd.V_mono HO_10002005.out (fun _ hk => ⟨⟨hk.1, hk.2.2⟩, hk.2.1⟩)) hg hat); have n2_ := Aside0.mk (blk_grown (g := gb10001) (o := .cells #[.string a0_0, .string a0_1, .slice A0_2 l0_2.length c0_2, .slice A0_3 l0_3.length c0_3, .slice A0_4 l0_4.length c0_4, .slice (some ad10005) l0_5.length c0_5] 36 (0, 0)) (by (with_reducible repeat (first | refine blk_drewN ?_ _ | refine blk_drew ?_ | refine blk_alloc ?_ _)); exact BK10001.out) hg (Kd.N_ne HO_3.out BK10001.out (by decide))); have n3_ := Aside0.mk (Kd.V_afterv (ok := (fun k_ => (P0_5_ k_ ∨ w.heap.size ≤ k_) ∧ k_ ≠ gb10001)) (by (with_reducible repeat (first | apply Kd.V_alloc | apply Kd.V_drewN | apply Kd.V_drew)); exact Kd.V_mono HL10005_0.out (fun _ hk => ⟨⟨hk.1, hk.2.2⟩, hk.2.1⟩)) hg hat); have n4_ := Aside0.mk (Kd.V_afterv (ok := (fun k_ => (P0_5_ k_ ∨ w.heap.size ≤ k_) ∧ k_ ≠ gb10001)) (by (with_reducible repeat (first | apply Kd.V_alloc | apply Kd.V_drewN | apply Kd.V_drew)); exact Kd.V_mono HO10011.out (fun _ hk => ⟨⟨hk.1, hk.2.2⟩, hk.2.1⟩)) hg hat); have n5_ := Aside0.mk (hb); have n6_ := Aside0.mk (ho); clear HO_21; clear HO_10002005; clear BK10001; clear HL10005_0; clear HO10011; clear HB; clear HO_3; have HO_21 := n0_; have HO_10002005 := n1_; have BK10001 := n2_; have HL10005_0 := n3_; have HO10011 := n4_; have HB := n5_; have HO10014 := n6_; clear n0_ n1_ n2_ n3_ n4_ n5_ n6_; clear ho hb hg hat))
             repeat (go_quiet (first | (go_at_call 51; (with_reducible refine (strings_IndexByte.calls (a0_0 ++ a0_1) (bt (⟨#[88, 89, 90]⟩ : ByteArray) x23_1) t10006 _ A14.out).mono ?_); rintro e w' ⟨rfl, ⟨nd, rfl⟩⟩; (try first | exact ⟨rfl, _, World.drewN_drewN _ _ _⟩ | exact ⟨rfl, _, Eq.trans (World.drewN_drewN _ _ _) (congrArg (World.drewN _) (Nat.add_assoc _ _ _))⟩); have q22 : ((ji16) : Int) ≤ (((rd_L1 l0_5 x23_1).length : Int) : Int) := of_decide_eq_true (by first | (with_reducible assumption) | assumption); obtain ⟨i022, hi022, _, hsz22, _⟩ := info_parts info3; have hroom22 : (rd_L1 l0_5 x23_1).length ≤ c10005_0 := HC10005_0.out; have hC22 : Kd.F (Kd.int .i64) _ _ A10005_0 (rd_L1 l0_5 x23_1).length (rd_L1 l0_5 x23_1) := (Kd.V_at (base := w.heap.size) HL10005_0.out).2.2; have hcut22 := cut_to (P := Try.prog) 25 3 .i64 Try.underlying25 hi022 A10005_0 (rd_L1 l0_5 x23_1).length c10005_0 (ji16) (of_decide_eq_true (by first | (with_reducible assumption) | assumption)) q22 hroom22; have hr22 := Kd.F_take (m := ((ji16) : Int).toNat) hC22 (by omega); have hy22 : y10007.length = ((ji16) : Int).toNat := (by rw [Ny10007.out, List.length_take]; omega); rw [← Ny10007.out] at hr22; rw [← hy22] at hcut22; have HO10011 := Aside0.mk (show Kd.V (Kd.int .i64) 3 _ w.heap.size _ (.slice A10005_0 y10007.length c10005_0) y10007 from Kd.V_mk (by omega) hr22); have HC10011 := Aside0.mk (show y10007.length ≤ c10005_0 from by omega); clear hr22 hC22 hroom22 hi022 hsz22; have KY22 := Aside0.mk hy22; clear hy22; replace q22 := eq_true q22) | ((with_reducible refine gate_builtin (b := .append) (xs := #[.tmp 44, .tmp 46]) rfl ?_); at_builtin; refine Kd.N_append (Kd.slice 3 (Kd.int .i64)) (w0 := w) w.heap.size rfl (.tmp 44) (.tmp 46) 24 25 (.slice none 0 0) 24 rfl Try.underlying24 info25 rfl (by decide) (by omega) u3 x3_1 y10007 [.slice A10005_0 y10007.length c10005_0] (fun k_ => (P0_5_ k_ ∨ w.heap.size ≤ k_) ∧ k_ ≠ gb10001) (fun k_ => ((fun k_ => (P0_5_ k_ ∨ w.heap.size ≤ k_) ∧ k_ ≠ gb10001)) k_ ∧ some k_ ≠ (u3 : Value).ownBlock) rfl rfl ?aP (fun _ hk => hk) ?aF ?aO ?aB ?aS ?aL ?_; (case aP => first | exact (Kd.FK_slice_mk (Kd.V_reads' (Kd.V_mono (ok' := (fun k_ => ((fun k_ => (P0_5_ k_ ∨ w.heap.size ≤ k_) ∧ k_ ≠ gb10001)) k_ ∧ some k_ ≠ (u3 : Value).ownBlock)) (HO10011.out) (fun k_ hk => ⟨⟨hk.1, hk.2.2⟩, hk.2.1⟩))).2.1 (Kd.V_F (Kd.V_mono (ok' := (fun k_ => ((fun k_ => (P0_5_ k_ ∨ w.heap.size ≤ k_) ∧ k_ ≠ gb10001)) k_ ∧ some k_ ≠ (u3 : Value).ownBlock)) (HO10011.out) (fun k_ hk => ⟨⟨hk.1, hk.2.2⟩, hk.2.1⟩)))) | exact (Kd.FK_slice_mk (Kd.V_reads' (Kd.V_mono (ok' := (fun k_ => ((fun k_ => (P0_5_ k_ ∨ w.heap.size ≤ k_) ∧ k_ ≠ gb10001)) k_ ∧ some k_ ≠ (u3 : Value).ownBlock)) (HO10011.out) (fun k_ hk => ⟨⟨hk.1, hk.2.2⟩, hk.2.1⟩))).2.1 (Kd.V_F (Kd.V_mono (ok' := (fun k_ => ((fun k_ => (P0_5_ k_ ∨ w.heap.size ≤ k_) ∧ k_ ≠ gb10001)) k_ ∧ some k_ ≠ (u3 : Value).ownBlock)) (Kd.V_drewN HO10011.out _) (fun k_ hk => ⟨⟨hk.1, hk.2.2⟩, hk.2.1⟩))))); (case aB => exact (by repeat (first | (with_reducible first | exact HB.out | apply below_alloc | apply pw_below_drewN | apply below_drew1 | refine below_set ?_ GE10001.out) | exact HB.out))); (case aF => exact (fun k_ hk => ⟨(.inr (Nat.le_trans (below_size (by repeat (first | (with_reducible first | exact HB.out | apply below_alloc | apply pw_below_drewN | apply below_drew1 | refine below_set ?_ GE10001.out) | exact HB.out))) hk)), Kd.freshB (g := gb10001) (o := .cells #[.string a0_0, .string a0_1, .slice A0_2 l0_2.length c0_2, .slice A0_3 l0_3.length c0_3, .slice A0_4 l0_4.length c0_4, .slice (some ad10005) l0_5.length c0_5] 36 (0, 0)) (by (with_reducible repeat (first | refine blk_drewN ?_ _ | refine blk_drew ?_ | refine blk_alloc ?_ _)); exact BK10001.out) k_ hk⟩)); (case aO => exact (by (with_reducible repeat (first | apply Kd.N_alloc | apply Kd.N_drewN | apply Kd.N_drew | apply Kd.S_alloc | apply Kd.S_drewN | apply Kd.S_drew)); exact HO_3.out)); (case aS => exact (below_size (by repeat (first | (with_reducible first | exact HB.out | apply below_alloc | apply pw_below_drewN | apply below_drew1 | refine below_set ?_ GE10001.out) | exact HB.out)))); (case aL => have := LMc19.out; omega); intro v10013 w23 ho hb hg hat; rw [← Ny10012.out] at ho; have n0_ := Aside0.mk (Kd.V_afterv (ok := (fun k_ => (P0_5_ k_ ∨ w.heap.size ≤ k_) ∧ k_ ≠ gb10001)) (by (with_reducible repeat (first | apply Kd.V_alloc | apply Kd.V_drewN | apply Kd.V_drew)); exact Kd.V_mono HO_21.out (fun _ hk => ⟨⟨hk.1, hk.2.2⟩, hk.2.1⟩)) hg hat); have n1_ := Aside0.mk (Kd.V_afterv (ok := (fun k_ => (P0_5_ k_ ∨ w.heap.size ≤ k_) ∧ k_ ≠ gb10001)) (by (with_reducible repeat (first | apply Kd.V_alloc | apply Kd.V_drewN | apply Kd.V_drew)); exact Kd.V_mono HO_10002005.out (fun _ hk => ⟨⟨hk.1, hk.2.2⟩, hk.2.1⟩)) hg hat); have n2_ := Aside0.mk (blk_grown (g := gb10001) (o := .cells #[.string a0_0, .string a0_1, .slice A0_2 l0_2.length c0_2, .slice A0_3 l0_3.length c0_3, .slice A0_4 l0_4.length c0_4, .slice (some ad10005) l0_5.length c0_5] 36 (0, 0)) (by (with_reducible repeat (first | refine blk_drewN ?_ _ | refine blk_drew ?_ | refine blk_alloc ?_ _)); exact BK10001.out) hg (Kd.N_ne HO_3.out BK10001.out (by decide))); have n3_ := Aside0.mk (Kd.V_afterv (ok := (fun k_ => (P0_5_ k_ ∨ w.heap.size ≤ k_) ∧ k_ ≠ gb10001)) (by (with_reducible repeat (first | apply Kd.V_alloc | apply Kd.V_drewN | apply Kd.V_drew)); exact Kd.V_mono HL10005_0.out (fun _ hk => ⟨⟨hk.1, hk.2.2⟩, hk.2.1⟩)) hg hat); have n4_ := Aside0.mk (Kd.V_afterv (ok := (fun k_ => (P0_5_ k_ ∨ w.heap.size ≤ k_) ∧ k_ ≠ gb10001)) (by (with_reducible repeat (first | apply Kd.V_alloc | apply Kd.V_drewN | apply Kd.V_drew)); exact Kd.V_mono HO10011.out (fun _ hk => ⟨⟨hk.1, hk.2.2⟩, hk.2.1⟩)) hg hat); have n5_ := Aside0.mk (hb); have n6_ := Aside0.mk (ho); clear HO_21; clear HO_10002005; clear BK10001; clear HL10005_0; clear HO10011; clear HB; clear HO_3; have HO_21 := n0_; have HO_10002005 := n1_; have BK10001 := n2_; have HL10005_0 := n3_; have HO10011 := n4_; have HB := n5_; have HO10014 := n6_; clear n0_ n1_ n2_ n3_ n4_ n5_ n6_; clear ho hb hg hat)); try go_wp2_with (first | (go_at_call 51; (with_reducible refine (strings_IndexByte.calls (a0_0 ++ a0_1) (bt (⟨#[88, 89, 90]⟩ : ByteArray) x23_1) t10006 _ A14.out).mono ?_); rintro e w' ⟨rfl, ⟨nd, rfl⟩⟩; (try first | exact ⟨rfl, _, World.drewN_drewN _ _ _⟩ | exact ⟨rfl, _, Eq.trans (World.drewN_drewN _ _ _) (congrArg (World.drewN _) (Nat.add_assoc _ _ _))⟩); have q22 : ((ji16) : Int) ≤ (((rd_L1 l0_5 x23_1).length : Int) : Int) := of_decide_eq_true (by first | (with_reducible assumption) | assumption); obtain ⟨i022, hi022, _, hsz22, _⟩ := info_parts info3; have hroom22 : (rd_L1 l0_5 x23_1).length ≤ c10005_0 := HC10005_0.out; have hC22 : Kd.F (Kd.int .i64) _ _ A10005_0 (rd_L1 l0_5 x23_1).length (rd_L1 l0_5 x23_1) := (Kd.V_at (base := w.heap.size) HL10005_0.out).2.2; have hcut22 := cut_to (P := Try.prog) 25 3 .i64 Try.underlying25 hi022 A10005_0 (rd_L1 l0_5 x23_1).length c10005_0 (ji16) (of_decide_eq_true (by first | (with_reducible assumption) | assumption)) q22 hroom22; have hr22 := Kd.F_take (m := ((ji16) : Int).toNat) hC22 (by omega); have hy22 : y10007.length = ((ji16) : Int).toNat := (by rw [Ny10007.out, List.length_take]; omega); rw [← Ny10007.out] at hr22; rw [← hy22] at hcut22; have HO10011 := Aside0.mk (show Kd.V (Kd.int .i64) 3 _ w.heap.size _ (.slice A10005_0 y10007.length c10005_0) y10007 from Kd.V_mk (by omega) hr22); have HC10011 := Aside0.mk (show y10007.length ≤ c10005_0 from by omega); clear hr22 hC22 hroom22 hi022 hsz22; have KY22 := Aside0.mk hy22; clear hy22; replace q22 := eq_true q22) | ((with_reducible refine gate_builtin (b := .append) (xs := #[.tmp 44, .tmp 46]) rfl ?_); at_builtin; refine Kd.N_append (Kd.slice 3 (Kd.int .i64)) (w0 := w) w.heap.size rfl (.tmp 44) (.tmp 46) 24 25 (.slice none 0 0) 24 rfl Try.underlying24 info25 rfl (by decide) (by omega) u3 x3_1 y10007 [.slice A10005_0 y10007.length c10005_0] (fun k_ => (P0_5_ k_ ∨ w.heap.size ≤ k_) ∧ k_ ≠ gb10001) (fun k_ => ((fun k_ => (P0_5_ k_ ∨ w.heap.size ≤ k_) ∧ k_ ≠ gb10001)) k_ ∧ some k_ ≠ (u3 : Value).ownBlock) rfl rfl ?aP (fun _ hk => hk) ?aF ?aO ?aB ?aS ?aL ?_; (case aP => first | exact (Kd.FK_slice_mk (Kd.V_reads' (Kd.V_mono (ok' := (fun k_ => ((fun k_ => (P0_5_ k_ ∨ w.heap.size ≤ k_) ∧ k_ ≠ gb10001)) k_ ∧ some k_ ≠ (u3 : Value).ownBlock)) (HO10011.out) (fun k_ hk => ⟨⟨hk.1, hk.2.2⟩, hk.2.1⟩))).2.1 (Kd.V_F (Kd.V_mono (ok' := (fun k_ => ((fun k_ => (P0_5_ k_ ∨ w.heap.size ≤ k_) ∧ k_ ≠ gb10001)) k_ ∧ some k_ ≠ (u3 : Value).ownBlock)) (HO10011.out) (fun k_ hk => ⟨⟨hk.1, hk.2.2⟩, hk.2.1⟩)))) | exact (Kd.FK_slice_mk (Kd.V_reads' (Kd.V_mono (ok' := (fun k_ => ((fun k_ => (P0_5_ k_ ∨ w.heap.size ≤ k_) ∧ k_ ≠ gb10001)) k_ ∧ some k_ ≠ (u3 : Value).ownBlock)) (HO10011.out) (fun k_ hk => ⟨⟨hk.1, hk.2.2⟩, hk.2.1⟩))).2.1 (Kd.V_F (Kd.V_mono (ok' := (fun k_ => ((fun k_ => (P0_5_ k_ ∨ w.heap.size ≤ k_) ∧ k_ ≠ gb10001)) k_ ∧ some k_ ≠ (u3 : Value).ownBlock)) (Kd.V_drewN HO10011.out _) (fun k_ hk => ⟨⟨hk.1, hk.2.2⟩, hk.2.1⟩))))); (case aB => exact (by repeat (first | (with_reducible first | exact HB.out | apply below_alloc | apply pw_below_drewN | apply below_drew1 | refine below_set ?_ GE10001.out) | exact HB.out))); (case aF => exact (fun k_ hk => ⟨(.inr (Nat.le_trans (below_size (by repeat (first | (with_reducible first | exact HB.out | apply below_alloc | apply pw_below_drewN | apply below_drew1 | refine below_set ?_ GE10001.out) | exact HB.out))) hk)), Kd.freshB (g := gb10001) (o := .cells #[.string a0_0, .string a0_1, .slice A0_2 l0_2.length c0_2, .slice A0_3 l0_3.length c0_3, .slice A0_4 l0_4.length c0_4, .slice (some ad10005) l0_5.length c0_5] 36 (0, 0)) (by (with_reducible repeat (first | refine blk_drewN ?_ _ | refine blk_drew ?_ | refine blk_alloc ?_ _)); exact BK10001.out) k_ hk⟩)); (case aO => exact (by (with_reducible repeat (first | apply Kd.N_alloc | apply Kd.N_drewN | apply Kd.N_drew | apply Kd.S_alloc | apply Kd.S_drewN | apply Kd.S_drew)); exact HO_3.out)); (case aS => exact (below_size (by repeat (first | (with_reducible first | exact HB.out | apply below_alloc | apply pw_below_drewN | apply below_drew1 | refine below_set ?_ GE10001.out) | exact HB.out)))); (case aL => have := LMc19.out; omega); intro v10013 w23 ho hb hg hat; rw [← Ny10012.out] at ho; have n0_ := Aside0.mk (Kd.V_afterv (ok := (fun k_ => (P0_5_ k_ ∨ w.heap.size ≤ k_) ∧ k_ ≠ gb10001)) (by (with_reducible repeat (first | apply Kd.V_alloc | apply Kd.V_drewN | apply Kd.V_drew)); exact Kd.V_mono HO_21.out (fun _ hk => ⟨⟨hk.1, hk.2.2⟩, hk.2.1⟩)) hg hat); have n1_ := Aside0.mk (Kd.V_afterv (ok := (fun k_ => (P0_5_ k_ ∨ w.heap.size ≤ k_) ∧ k_ ≠ gb10001)) (by (with_reducible repeat (first | apply Kd.V_alloc | apply Kd.V_drewN | apply Kd.V_drew)); exact Kd.V_mono HO_10002005.out (fun _ hk => ⟨⟨hk.1, hk.2.2⟩, hk.2.1⟩)) hg hat); have n2_ := Aside0.mk (blk_grown (g := gb10001) (o := .cells #[.string a0_0, .string a0_1, .slice A0_2 l0_2.length c0_2, .slice A0_3 l0_3.length c0_3, .slice A0_4 l0_4.length c0_4, .slice (some ad10005) l0_5.length c0_5] 36 (0, 0)) (by (with_reducible repeat (first | refine blk_drewN ?_ _ | refine blk_drew ?_ | refine blk_alloc ?_ _)); exact BK10001.out) hg (Kd.N_ne HO_3.out BK10001.out (by decide))); have n3_ := Aside0.mk (Kd.V_afterv (ok := (fun k_ => (P0_5_ k_ ∨ w.heap.size ≤ k_) ∧ k_ ≠ gb10001)) (by (with_reducible repeat (first | apply Kd.V_alloc | apply Kd.V_drewN | apply Kd.V_drew)); exact Kd.V_mono HL10005_0.out (fun _ hk => ⟨⟨hk.1, hk.2.2⟩, hk.2.1⟩)) hg hat); have n4_ := Aside0.mk (Kd.V_afterv (ok := (fun k_ => (P0_5_ k_ ∨ w.heap.size ≤ k_) ∧ k_ ≠ gb10001)) (by (with_reducible repeat (first | apply Kd.V_alloc | apply Kd.V_drewN | apply Kd.V_drew)); exact Kd.V_mono HO10011.out (fun _ hk => ⟨⟨hk.1, hk.2.2⟩, hk.2.1⟩)) hg hat); have n5_ := Aside0.mk (hb); have n6_ := Aside0.mk (ho); clear HO_21; clear HO_10002005; clear BK10001; clear HL10005_0; clear HO10011; clear HB; clear HO_3; have HO_21 := n0_; have HO_10002005 := n1_; have BK10001 := n2_; have HL10005_0 := n3_; have HO10011 := n4_; have HB := n5_; have HO10014 := n6_; clear n0_ n1_ n2_ n3_ n4_ n5_ n6_; clear ho hb hg hat)))
             go_roundg k1
             case measure => have := HK1.out; omega
             case rel => exact ⟨(y10012), (wrap64 (x4_1 * (ji20))), (wrap64 (x23_1 + 1)), (by first | rfl | (simp; done) | (simp only [← hji20] <;> (first | rfl | simp)) | (simp [*]; done)), (by first | rfl | (simp; done) | (simp [*]; done)), H', ⟨by have := HK1.out; omega⟩, ⟨by (with_reducible repeat (first | apply Kd.N_alloc | apply Kd.N_drewN | apply Kd.N_drew | apply Kd.S_alloc | apply Kd.S_drewN | apply Kd.S_drew)); exact HO10014.out⟩, ⟨by (with_reducible repeat (first | apply Kd.V_alloc | apply Kd.V_drewN | apply Kd.V_drew)); exact Kd.V_mono HO_21.out (fun _ hk => ⟨hk.1.1, ⟨hk.2, hk.1.2⟩⟩)⟩, ⟨by (with_reducible repeat (first | apply Kd.V_alloc | apply Kd.V_drewN | apply Kd.V_drew)); exact Kd.V_mono HO_10002005.out (fun _ hk => ⟨hk.1.1, ⟨hk.2, hk.1.2⟩⟩)⟩, ⟨by (with_reducible repeat (first | refine blk_drewN ?_ _ | refine blk_drew ?_ | refine blk_alloc ?_ _)); exact BK10001.out⟩, ⟨by repeat (first | (with_reducible first | exact HB.out | apply below_alloc | apply pw_below_drewN | apply below_drew1 | refine below_set ?_ GE10001.out) | exact HB.out)⟩⟩
            ·rw [if_neg c19] at H
             exact absurd H (by simp)
           ·rw [if_neg c18] at H
            exact absurd H (by simp)
          ·rw [if_neg c17] at H
           exact absurd H (by simp)
         ·rw [if_neg c15] at H
          have c15b0 : decide (t10006 < 0) = false := decide_eq_false c15
          clear c15
          by_cases c24 : x3_1.length < 5864062014805
          ·rw [if_pos c24] at H
           have LMc24 := Aside0.mk c24
           clear c24
           obtain ⟨y10015, hy10015⟩ : ∃ y_ : List (List Int), y_ = (x3_1 ++ [rd_L1 l0_5 x23_1]) := ⟨_, rfl⟩
           replace H : (impl_StartStates.l0 k1 y10015 (wrap64 (x4_1 * (mn ((rd_L1 l0_5 x23_1).length : Int) 401))) l0_5 (l0_5.length : Int) (wrap64 (x23_1 + 1)) a0_0 a0_1 l0_2 l0_3 l0_4 l0_5) = some r := by first | (rw [hy10015]; with_reducible exact H) | (have H2_ := (Option.bind_some _ _).symm.trans H; rw [hy10015]; with_reducible exact H2_) | (have H2_ := (Option.bind_some _ _).symm.trans H; with_reducible exact H2_) | with_reducible exact H | (rw [hy10015]; exact H) | exact H
           have Ny10015 := Aside0.mk hy10015
           clear hy10015
           obtain ⟨ji25, hji25⟩ : ∃ j_ : Int, (mn ((rd_L1 l0_5 x23_1).length : Int) 401) = j_ := ⟨_, rfl⟩
           replace H : (impl_StartStates.l0 k1 y10015 (wrap64 (x4_1 * (ji25))) l0_5 (l0_5.length : Int) (wrap64 (x23_1 + 1)) a0_0 a0_1 l0_2 l0_3 l0_4 l0_5) = some r := by first | (rw [hji25] at H; exact H) | (simp only [hji25] at H ⊢; exact H)
           (try rw [hji25] at A14)
           have hji25_ : (if 401 < ((rd_L1 l0_5 x23_1).length : Int) then 401 else ((rd_L1 l0_5 x23_1).length : Int)) = ji25 := hji25
           have H' := Aside0.mk H
           clear H
           have p10005 : 0 ≤ (x23_1 : Int) := of_decide_eq_true (by first | (with_reducible assumption) | assumption)
           have q10005 : x23_1 < (l0_5.length : Int) := of_decide_eq_true (by first | (with_reducible assumption) | assumption)
           obtain ⟨ad10005, A10005_0, c10005_0, e10005, hx10005_0, hl10005_0, hi10005_0⟩ := at_L1 (Kd.V_reads' HO_21.out).2.2 x23_1 p10005 q10005
           cases e10005
           obtain ⟨ce10005, hce10005, hMe10005, hcc10005⟩ := Kd.V_get HO_21.out [] x23_1 p10005 (by first | exact q10005 | exact of_decide_eq_true (by first | (with_reducible assumption) | assumption) | (have e_ := (Kd.V_reads' HO_21.out).1; omega))
           obtain ⟨ua10005_0, uc10005_0, rfl, ul10005_0, ge10005_0⟩ := Kd.FK_slice_open hMe10005
           have hv10005_0 := hcc10005 0 _ rfl
           rw [Nat.add_zero, show ((Kd.slice 3 (Kd.int .i64))).sz = 1 from rfl, Nat.mul_one] at hv10005_0
           replace hv10005_0 := Option.some.inj (hv10005_0.symm.trans hx10005_0)
           injection hv10005_0 with hva_ hvn_ hvc_
           rw [hva_] at ge10005_0
           rw [hvc_] at ul10005_0
           have HL10005_0 := Aside0.mk (show Kd.V (Kd.int .i64) 3 _ w.heap.size _ _ (rd_L1 l0_5 x23_1) from Kd.V_mk ul10005_0 ge10005_0)
           clear hva_ hvn_ hvc_ ge10005_0 ul10005_0
           clear hcc10005 hce10005
           have HR10005_0 := Aside0.mk hi10005_0
           have HC10005_0 := Aside0.mk hl10005_0
           clear hi10005_0 hl10005_0
           replace p10005 := eq_true p10005
           replace q10005 := eq_true q10005
           have hcz26_0 : wr.cell? ⟨gb10001, 0, none⟩ = some (.string a0_0) := (blk_cell BK10001.out 0).trans rfl
           have hcz26_1 : wr.cell? ⟨gb10001, 1, none⟩ = some (.string a0_1) := (blk_cell BK10001.out 1).trans rfl
           have hcz26_2 : wr.cell? ⟨gb10001, 2, none⟩ = some (.slice A0_2 l0_2.length c0_2) := (blk_cell BK10001.out 2).trans rfl
           have hcz26_3 : wr.cell? ⟨gb10001, 3, none⟩ = some (.slice A0_3 l0_3.length c0_3) := (blk_cell BK10001.out 3).trans rfl
           have hcz26_4 : wr.cell? ⟨gb10001, 4, none⟩ = some (.slice A0_4 l0_4.length c0_4) := (blk_cell BK10001.out 4).trans rfl
           have hcz26_5 : wr.cell? ⟨gb10001, 5, none⟩ = some (.slice (some ad10005) l0_5.length c0_5) := (blk_cell BK10001.out 5).trans rfl
           have hfz26_0 := blk_frozen BK10001.out 0
           have hfz26_1 := blk_frozen BK10001.out 1
           have hfz26_2 := blk_frozen BK10001.out 2
           have hfz26_3 := blk_frozen BK10001.out 3
           have hfz26_4 := blk_frozen BK10001.out 4
           have hfz26_5 := blk_frozen BK10001.out 5
           have p13 : 0 ≤ (x23_1 : Int) := of_decide_eq_true (by first | (with_reducible assumption) | assumption)
           have q13 : x23_1 < (3 : Int) := of_decide_eq_true (by first | (with_reducible assumption) | assumption)
           have hx13 := bt_at (⟨#[88, 89, 90]⟩ : ByteArray) x23_1
           replace p13 := eq_true p13
           replace q13 := eq_true q13
           go_wp2_with (first | (go_at_call 51; (with_reducible refine (strings_IndexByte.calls (a0_0 ++ a0_1) (bt (⟨#[88, 89, 90]⟩ : ByteArray) x23_1) t10006 _ A14.out).mono ?_); rintro e w' ⟨rfl, ⟨nd, rfl⟩⟩; (try first | exact ⟨rfl, _, World.drewN_drewN _ _ _⟩ | exact ⟨rfl, _, Eq.trans (World.drewN_drewN _ _ _) (congrArg (World.drewN _) (Nat.add_assoc _ _ _))⟩)) | ((with_reducible refine gate_builtin (b := .append) (xs := #[.tmp 44, .tmp 46]) rfl ?_); at_builtin; refine Kd.N_append (Kd.slice 3 (Kd.int .i64)) (w0 := w) w.heap.size rfl (.tmp 44) (.tmp 46) 24 25 (.slice none 0 0) 24 rfl Try.underlying24 info25 rfl (by decide) (by omega) u3 x3_1 (rd_L1 l0_5 x23_1) [.slice A10005_0 (rd_L1 l0_5 x23_1).length c10005_0] (fun k_ => (P0_5_ k_ ∨ w.heap.size ≤ k_) ∧ k_ ≠ gb10001) (fun k_ => ((fun k_ => (P0_5_ k_ ∨ w.heap.size ≤ k_) ∧ k_ ≠ gb10001)) k_ ∧ some k_ ≠ (u3 : Value).ownBlock) rfl rfl ?aP (fun _ hk => hk) ?aF ?aO ?aB ?aS ?aL ?_; (case aP => first | exact (Kd.FK_slice_mk (Kd.V_reads' (Kd.V_mono (ok' := (fun k_ => ((fun k_ => (P0_5_ k_ ∨ w.heap.size ≤ k_) ∧ k_ ≠ gb10001)) k_ ∧ some k_ ≠ (u3 : Value).ownBlock)) (HL10005_0.out) (fun k_ hk => ⟨⟨hk.1, hk.2.2⟩, hk.2.1⟩))).2.1 (Kd.V_F (Kd.V_mono (ok' := (fun k_ => ((fun k_ => (P0_5_ k_ ∨ w.heap.size ≤ k_) ∧ k_ ≠ gb10001)) k_ ∧ some k_ ≠ (u3 : Value).ownBlock)) (HL10005_0.out) (fun k_ hk => ⟨⟨hk.1, hk.2.2⟩, hk.2.1⟩)))) | exact (Kd.FK_slice_mk (Kd.V_reads' (Kd.V_mono (ok' := (fun k_ => ((fun k_ => (P0_5_ k_ ∨ w.heap.size ≤ k_) ∧ k_ ≠ gb10001)) k_ ∧ some k_ ≠ (u3 : Value).ownBlock)) (HL10005_0.out) (fun k_ hk => ⟨⟨hk.1, hk.2.2⟩, hk.2.1⟩))).2.1 (Kd.V_F (Kd.V_mono (ok' := (fun k_ => ((fun k_ => (P0_5_ k_ ∨ w.heap.size ≤ k_) ∧ k_ ≠ gb10001)) k_ ∧ some k_ ≠ (u3 : Value).ownBlock)) (Kd.V_drewN HL10005_0.out _) (fun k_ hk => ⟨⟨hk.1, hk.2.2⟩, hk.2.1⟩))))); (case aB => exact (by repeat (first | (with_reducible first | exact HB.out | apply below_alloc | apply pw_below_drewN | apply below_drew1 | refine below_set ?_ GE10001.out) | exact HB.out))); (case aF => exact (fun k_ hk => ⟨(.inr (Nat.le_trans (below_size (by repeat (first | (with_reducible first | exact HB.out | apply below_alloc | apply pw_below_drewN | apply below_drew1 | refine below_set ?_ GE10001.out) | exact HB.out))) hk)), Kd.freshB (g := gb10001) (o := .cells #[.string a0_0, .string a0_1, .slice A0_2 l0_2.length c0_2, .slice A0_3 l0_3.length c0_3, .slice A0_4 l0_4.length c0_4, .slice (some ad10005) l0_5.length c0_5] 36 (0, 0)) (by (with_reducible repeat (first | refine blk_drewN ?_ _ | refine blk_drew ?_ | refine blk_alloc ?_ _)); exact BK10001.out) k_ hk⟩)); (case aO => exact (by (with_reducible repeat (first | apply Kd.N_alloc | apply Kd.N_drewN | apply Kd.N_drew | apply Kd.S_alloc | apply Kd.S_drewN | apply Kd.S_drew)); exact HO_3.out)); (case aS => exact (below_size (by repeat (first | (with_reducible first | exact HB.out | apply below_alloc | apply pw_below_drewN | apply below_drew1 | refine below_set ?_ GE10001.out) | exact HB.out)))); (case aL => have := LMc24.out; omega); intro v10016 w27 ho hb hg hat; rw [← Ny10015.out] at ho; have n0_ := Aside0.mk (Kd.V_afterv (ok := (fun k_ => (P0_5_ k_ ∨ w.heap.size ≤ k_) ∧ k_ ≠ gb10001)) (by (with_reducible repeat (first | apply Kd.V_alloc | apply Kd.V_drewN | apply Kd.V_drew)); exact Kd.V_mono HO_21.out (fun _ hk => ⟨⟨hk.1, hk.2.2⟩, hk.2.1⟩)) hg hat); have n1_ := Aside0.mk (Kd.V_afterv (ok := (fun k_ => (P0_5_ k_ ∨ w.heap.size ≤ k_) ∧ k_ ≠ gb10001)) (by (with_reducible repeat (first | apply Kd.V_alloc | apply Kd.V_drewN | apply Kd.V_drew)); exact Kd.V_mono HO_10002005.out (fun _ hk => ⟨⟨hk.1, hk.2.2⟩, hk.2.1⟩)) hg hat); have n2_ := Aside0.mk (blk_grown (g := gb10001) (o := .cells #[.string a0_0, .string a0_1, .slice A0_2 l0_2.length c0_2, .slice A0_3 l0_3.length c0_3, .slice A0_4 l0_4.length c0_4, .slice (some ad10005) l0_5.length c0_5] 36 (0, 0)) (by (with_reducible repeat (first | refine blk_drewN ?_ _ | refine blk_drew ?_ | refine blk_alloc ?_ _)); exact BK10001.out) hg (Kd.N_ne HO_3.out BK10001.out (by decide))); have n3_ := Aside0.mk (Kd.V_afterv (ok := (fun k_ => (P0_5_ k_ ∨ w.heap.size ≤ k_) ∧ k_ ≠ gb10001)) (by (with_reducible repeat (first | apply Kd.V_alloc | apply Kd.V_drewN | apply Kd.V_drew)); exact Kd.V_mono HL10005_0.out (fun _ hk => ⟨⟨hk.1, hk.2.2⟩, hk.2.1⟩)) hg hat); have n4_ := Aside0.mk (hb); have n5_ := Aside0.mk (ho); clear HO_21; clear HO_10002005; clear BK10001; clear HL10005_0; clear HB; clear HO_3; have HO_21 := n0_; have HO_10002005 := n1_; have BK10001 := n2_; have HL10005_0 := n3_; have HB := n4_; have HO10017 := n5_; clear n0_ n1_ n2_ n3_ n4_ n5_; clear ho hb hg hat))
           repeat (go_quiet (first | (go_at_call 51; (with_reducible refine (strings_IndexByte.calls (a0_0 ++ a0_1) (bt (⟨#[88, 89, 90]⟩ : ByteArray) x23_1) t10006 _ A14.out).mono ?_); rintro e w' ⟨rfl, ⟨nd, rfl⟩⟩; (try first | exact ⟨rfl, _, World.drewN_drewN _ _ _⟩ | exact ⟨rfl, _, Eq.trans (World.drewN_drewN _ _ _) (congrArg (World.drewN _) (Nat.add_assoc _ _ _))⟩)) | ((with_reducible refine gate_builtin (b := .append) (xs := #[.tmp 44, .tmp 46]) rfl ?_); at_builtin; refine Kd.N_append (Kd.slice 3 (Kd.int .i64)) (w0 := w) w.heap.size rfl (.tmp 44) (.tmp 46) 24 25 (.slice none 0 0) 24 rfl Try.underlying24 info25 rfl (by decide) (by omega) u3 x3_1 (rd_L1 l0_5 x23_1) [.slice A10005_0 (rd_L1 l0_5 x23_1).length c10005_0] (fun k_ => (P0_5_ k_ ∨ w.heap.size ≤ k_) ∧ k_ ≠ gb10001) (fun k_ => ((fun k_ => (P0_5_ k_ ∨ w.heap.size ≤ k_) ∧ k_ ≠ gb10001)) k_ ∧ some k_ ≠ (u3 : Value).ownBlock) rfl rfl ?aP (fun _ hk => hk) ?aF ?aO ?aB ?aS ?aL ?_; (case aP => first | exact (Kd.FK_slice_mk (Kd.V_reads' (Kd.V_mono (ok' := (fun k_ => ((fun k_ => (P0_5_ k_ ∨ w.heap.size ≤ k_) ∧ k_ ≠ gb10001)) k_ ∧ some k_ ≠ (u3 : Value).ownBlock)) (HL10005_0.out) (fun k_ hk => ⟨⟨hk.1, hk.2.2⟩, hk.2.1⟩))).2.1 (Kd.V_F (Kd.V_mono (ok' := (fun k_ => ((fun k_ => (P0_5_ k_ ∨ w.heap.size ≤ k_) ∧ k_ ≠ gb10001)) k_ ∧ some k_ ≠ (u3 : Value).ownBlock)) (HL10005_0.out) (fun k_ hk => ⟨⟨hk.1, hk.2.2⟩, hk.2.1⟩)))) | exact (Kd.FK_slice_mk (Kd.V_reads' (Kd.V_mono (ok' := (fun k_ => ((fun k_ => (P0_5_ k_ ∨ w.heap.size ≤ k_) ∧ k_ ≠ gb10001)) k_ ∧ some k_ ≠ (u3 : Value).ownBlock)) (HL10005_0.out) (fun k_ hk => ⟨⟨hk.1, hk.2.2⟩, hk.2.1⟩))).2.1 (Kd.V_F (Kd.V_mono (ok' := (fun k_ => ((fun k_ => (P0_5_ k_ ∨ w.heap.size ≤ k_) ∧ k_ ≠ gb10001)) k_ ∧ some k_ ≠ (u3 : Value).ownBlock)) (Kd.V_drewN HL10005_0.out _) (fun k_ hk => ⟨⟨hk.1, hk.2.2⟩, hk.2.1⟩))))); (case aB => exact (by repeat (first | (with_reducible first | exact HB.out | apply below_alloc | apply pw_below_drewN | apply below_drew1 | refine below_set ?_ GE10001.out) | exact HB.out))); (case aF => exact (fun k_ hk => ⟨(.inr (Nat.le_trans (below_size (by repeat (first | (with_reducible first | exact HB.out | apply below_alloc | apply pw_below_drewN | apply below_drew1 | refine below_set ?_ GE10001.out) | exact HB.out))) hk)), Kd.freshB (g := gb10001) (o := .cells #[.string a0_0, .string a0_1, .slice A0_2 l0_2.length c0_2, .slice A0_3 l0_3.length c0_3, .slice A0_4 l0_4.length c0_4, .slice (some ad10005) l0_5.length c0_5] 36 (0, 0)) (by (with_reducible repeat (first | refine blk_drewN ?_ _ | refine blk_drew ?_ | refine blk_alloc ?_ _)); exact BK10001.out) k_ hk⟩)); (case aO => exact (by (with_reducible repeat (first | apply Kd.N_alloc | apply Kd.N_drewN | apply Kd.N_drew | apply Kd.S_alloc | apply Kd.S_drewN | apply Kd.S_drew)); exact HO_3.out)); (case aS => exact (below_size (by repeat (first | (with_reducible first | exact HB.out | apply below_alloc | apply pw_below_drewN | apply below_drew1 | refine below_set ?_ GE10001.out) | exact HB.out)))); (case aL => have := LMc24.out; omega); intro v10016 w27 ho hb hg hat; rw [← Ny10015.out] at ho; have n0_ := Aside0.mk (Kd.V_afterv (ok := (fun k_ => (P0_5_ k_ ∨ w.heap.size ≤ k_) ∧ k_ ≠ gb10001)) (by (with_reducible repeat (first | apply Kd.V_alloc | apply Kd.V_drewN | apply Kd.V_drew)); exact Kd.V_mono HO_21.out (fun _ hk => ⟨⟨hk.1, hk.2.2⟩, hk.2.1⟩)) hg hat); have n1_ := Aside0.mk (Kd.V_afterv (ok := (fun k_ => (P0_5_ k_ ∨ w.heap.size ≤ k_) ∧ k_ ≠ gb10001)) (by (with_reducible repeat (first | apply Kd.V_alloc | apply Kd.V_drewN | apply Kd.V_drew)); exact Kd.V_mono HO_10002005.out (fun _ hk => ⟨⟨hk.1, hk.2.2⟩, hk.2.1⟩)) hg hat); have n2_ := Aside0.mk (blk_grown (g := gb10001) (o := .cells #[.string a0_0, .string a0_1, .slice A0_2 l0_2.length c0_2, .slice A0_3 l0_3.length c0_3, .slice A0_4 l0_4.length c0_4, .slice (some ad10005) l0_5.length c0_5] 36 (0, 0)) (by (with_reducible repeat (first | refine blk_drewN ?_ _ | refine blk_drew ?_ | refine blk_alloc ?_ _)); exact BK10001.out) hg (Kd.N_ne HO_3.out BK10001.out (by decide))); have n3_ := Aside0.mk (Kd.V_afterv (ok := (fun k_ => (P0_5_ k_ ∨ w.heap.size ≤ k_) ∧ k_ ≠ gb10001)) (by (with_reducible repeat (first | apply Kd.V_alloc | apply Kd.V_drewN | apply Kd.V_drew)); exact Kd.V_mono HL10005_0.out (fun _ hk => ⟨⟨hk.1, hk.2.2⟩, hk.2.1⟩)) hg hat); have n4_ := Aside0.mk (hb); have n5_ := Aside0.mk (ho); clear HO_21; clear HO_10002005; clear BK10001; clear HL10005_0; clear HB; clear HO_3; have HO_21 := n0_; have HO_10002005 := n1_; have BK10001 := n2_; have HL10005_0 := n3_; have HB := n4_; have HO10017 := n5_; clear n0_ n1_ n2_ n3_ n4_ n5_; clear ho hb hg hat)); try go_wp2_with (first | (go_at_call 51; (with_reducible refine (strings_IndexByte.calls (a0_0 ++ a0_1) (bt (⟨#[88, 89, 90]⟩ : ByteArray) x23_1) t10006 _ A14.out).mono ?_); rintro e w' ⟨rfl, ⟨nd, rfl⟩⟩; (try first | exact ⟨rfl, _, World.drewN_drewN _ _ _⟩ | exact ⟨rfl, _, Eq.trans (World.drewN_drewN _ _ _) (congrArg (World.drewN _) (Nat.add_assoc _ _ _))⟩)) | ((with_reducible refine gate_builtin (b := .append) (xs := #[.tmp 44, .tmp 46]) rfl ?_); at_builtin; refine Kd.N_append (Kd.slice 3 (Kd.int .i64)) (w0 := w) w.heap.size rfl (.tmp 44) (.tmp 46) 24 25 (.slice none 0 0) 24 rfl Try.underlying24 info25 rfl (by decide) (by omega) u3 x3_1 (rd_L1 l0_5 x23_1) [.slice A10005_0 (rd_L1 l0_5 x23_1).length c10005_0] (fun k_ => (P0_5_ k_ ∨ w.heap.size ≤ k_) ∧ k_ ≠ gb10001) (fun k_ => ((fun k_ => (P0_5_ k_ ∨ w.heap.size ≤ k_) ∧ k_ ≠ gb10001)) k_ ∧ some k_ ≠ (u3 : Value).ownBlock) rfl rfl ?aP (fun _ hk => hk) ?aF ?aO ?aB ?aS ?aL ?_; (case aP => first | exact (Kd.FK_slice_mk (Kd.V_reads' (Kd.V_mono (ok' := (fun k_ => ((fun k_ => (P0_5_ k_ ∨ w.heap.size ≤ k_) ∧ k_ ≠ gb10001)) k_ ∧ some k_ ≠ (u3 : Value).ownBlock)) (HL10005_0.out) (fun k_ hk => ⟨⟨hk.1, hk.2.2⟩, hk.2.1⟩))).2.1 (Kd.V_F (Kd.V_mono (ok' := (fun k_ => ((fun k_ => (P0_5_ k_ ∨ w.heap.size ≤ k_) ∧ k_ ≠ gb10001)) k_ ∧ some k_ ≠ (u3 : Value).ownBlock)) (HL10005_0.out) (fun k_ hk => ⟨⟨hk.1, hk.2.2⟩, hk.2.1⟩)))) | exact (Kd.FK_slice_mk (Kd.V_reads' (Kd.V_mono (ok' := (fun k_ => ((fun k_ => (P0_5_ k_ ∨ w.heap.size ≤ k_) ∧ k_ ≠ gb10001)) k_ ∧ some k_ ≠ (u3 : Value).ownBlock)) (HL10005_0.out) (fun k_ hk => ⟨⟨hk.1, hk.2.2⟩, hk.2.1⟩))).2.1 (Kd.V_F (Kd.V_mono (ok' := (fun k_ => ((fun k_ => (P0_5_ k_ ∨ w.heap.size ≤ k_) ∧ k_ ≠ gb10001)) k_ ∧ some k_ ≠ (u3 : Value).ownBlock)) (Kd.V_drewN HL10005_0.out _) (fun k_ hk => ⟨⟨hk.1, hk.2.2⟩, hk.2.1⟩))))); (case aB => exact (by repeat (first | (with_reducible first | exact HB.out | apply below_alloc | apply pw_below_drewN | apply below_drew1 | refine below_set ?_ GE10001.out) | exact HB.out))); (case aF => exact (fun k_ hk => ⟨(.inr (Nat.le_trans (below_size (by repeat (first | (with_reducible first | exact HB.out | apply below_alloc | apply pw_below_drewN | apply below_drew1 | refine below_set ?_ GE10001.out) | exact HB.out))) hk)), Kd.freshB (g := gb10001) (o := .cells #[.string a0_0, .string a0_1, .slice A0_2 l0_2.length c0_2, .slice A0_3 l0_3.length c0_3, .slice A0_4 l0_4.length c0_4, .slice (some ad10005) l0_5.length c0_5] 36 (0, 0)) (by (with_reducible repeat (first | refine blk_drewN ?_ _ | refine blk_drew ?_ | refine blk_alloc ?_ _)); exact BK10001.out) k_ hk⟩)); (case aO => exact (by (with_reducible repeat (first | apply Kd.N_alloc | apply Kd.N_drewN | apply Kd.N_drew | apply Kd.S_alloc | apply Kd.S_drewN | apply Kd.S_drew)); exact HO_3.out)); (case aS => exact (below_size (by repeat (first | (with_reducible first | exact HB.out | apply below_alloc | apply pw_below_drewN | apply below_drew1 | refine below_set ?_ GE10001.out) | exact HB.out)))); (case aL => have := LMc24.out; omega); intro v10016 w27 ho hb hg hat; rw [← Ny10015.out] at ho; have n0_ := Aside0.mk (Kd.V_afterv (ok := (fun k_ => (P0_5_ k_ ∨ w.heap.size ≤ k_) ∧ k_ ≠ gb10001)) (by (with_reducible repeat (first | apply Kd.V_alloc | apply Kd.V_drewN | apply Kd.V_drew)); exact Kd.V_mono HO_21.out (fun _ hk => ⟨⟨hk.1, hk.2.2⟩, hk.2.1⟩)) hg hat); have n1_ := Aside0.mk (Kd.V_afterv (ok := (fun k_ => (P0_5_ k_ ∨ w.heap.size ≤ k_) ∧ k_ ≠ gb10001)) (by (with_reducible repeat (first | apply Kd.V_alloc | apply Kd.V_drewN | apply Kd.V_drew)); exact Kd.V_mono HO_10002005.out (fun _ hk => ⟨⟨hk.1, hk.2.2⟩, hk.2.1⟩)) hg hat); have n2_ := Aside0.mk (blk_grown (g := gb10001) (o := .cells #[.string a0_0, .string a0_1, .slice A0_2 l0_2.length c0_2, .slice A0_3 l0_3.length c0_3, .slice A0_4 l0_4.length c0_4, .slice (some ad10005) l0_5.length c0_5] 36 (0, 0)) (by (with_reducible repeat (first | refine blk_drewN ?_ _ | refine blk_drew ?_ | refine blk_alloc ?_ _)); exact BK10001.out) hg (Kd.N_ne HO_3.out BK10001.out (by decide))); have n3_ := Aside0.mk (Kd.V_afterv (ok := (fun k_ => (P0_5_ k_ ∨ w.heap.size ≤ k_) ∧ k_ ≠ gb10001)) (by (with_reducible repeat (first | apply Kd.V_alloc | apply Kd.V_drewN | apply Kd.V_drew)); exact Kd.V_mono HL10005_0.out (fun _ hk => ⟨⟨hk.1, hk.2.2⟩, hk.2.1⟩)) hg hat); have n4_ := Aside0.mk (hb); have n5_ := Aside0.mk (ho); clear HO_21; clear HO_10002005; clear BK10001; clear HL10005_0; clear HB; clear HO_3; have HO_21 := n0_; have HO_10002005 := n1_; have BK10001 := n2_; have HL10005_0 := n3_; have HB := n4_; have HO10017 := n5_; clear n0_ n1_ n2_ n3_ n4_ n5_; clear ho hb hg hat)))
           go_roundg k1
           case measure => have := HK1.out; omega
           case rel => exact ⟨(y10015), (wrap64 (x4_1 * (ji25))), (wrap64 (x23_1 + 1)), (by first | rfl | (simp; done) | (simp only [← hji25] <;> (first | rfl | simp)) | (simp [*]; done)), (by first | rfl | (simp; done) | (simp [*]; done)), H', ⟨by have := HK1.out; omega⟩, ⟨by (with_reducible repeat (first | apply Kd.N_alloc | apply Kd.N_drewN | apply Kd.N_drew | apply Kd.S_alloc | apply Kd.S_drewN | apply Kd.S_drew)); exact HO10017.out⟩, ⟨by (with_reducible repeat (first | apply Kd.V_alloc | apply Kd.V_drewN | apply Kd.V_drew)); exact Kd.V_mono HO_21.out (fun _ hk => ⟨hk.1.1, ⟨hk.2, hk.1.2⟩⟩)⟩, ⟨by (with_reducible repeat (first | apply Kd.V_alloc | apply Kd.V_drewN | apply Kd.V_drew)); exact Kd.V_mono HO_10002005.out (fun _ hk => ⟨hk.1.1, ⟨hk.2, hk.1.2⟩⟩)⟩, ⟨by (with_reducible repeat (first | refine blk_drewN ?_ _ | refine blk_drew ?_ | refine blk_alloc ?_ _)); exact BK10001.out⟩, ⟨by repeat (first | (with_reducible first | exact HB.out | apply below_alloc | apply pw_below_drewN | apply below_drew1 | refine below_set ?_ GE10001.out) | exact HB.out)⟩⟩
          ·rw [if_neg c24] at H
           exact absurd H (by simp)
        ·rw [if_neg c12] at H
         exact absurd H (by simp)
       ·rw [if_neg c11] at H
        exact absurd H (by simp)
      ·rw [if_neg c10] at H
       exact absurd H (by simp)
     ·rw [if_neg c9] at H
      exact absurd H (by simp)
    ·rw [if_neg c8] at H
     have c8b0 : decide (x23_1 < (l0_5.length : Int)) = false := decide_eq_false c8
     clear c8
     by_cases c28 : x4_1 > 400
     ·rw [if_pos c28] at H
      have c28b0 : decide (400 < x4_1) = true := decide_eq_true c28
      clear c28
      obtain rfl := Option.some.inj H
      go_wp2
      repeat (go_quiet (fail); try go_wp2)
      go_ret
      exact ⟨_, by first | rfl | (simp [errW_none, errW_some] <;> rfl) | (simp [*, errW_none, errW_some] <;> rfl), by first | exact Kd.S_nil _ _ _ _ _ | exact Kd.N_nil _ _ _ _ _ | exact Kd.V_nil _ _ _ _ _ | exact Kd.Q_nil _ _ _ _ _ | exact Kd.R_nil _ _ _ _ _, by repeat (first | (with_reducible first | exact HB.out | apply below_alloc | apply pw_below_drewN | apply below_drew1 | refine below_set ?_ GE10001.out) | exact HB.out)⟩
     ·rw [if_neg c28] at H
      have c28b0 : decide (400 < x4_1) = false := decide_eq_false c28
      clear c28
      replace H := Option.bind_eq_some_iff.mp H
      obtain ⟨⟨t10018, t10019⟩, A290, H⟩ := H
      replace H : (if 0 < (x3_1.length : Int) then (impl_StartStates.l1 k1 x3_1 (([] : List (S89))) (rd_L1 x3_1 0) ((rd_L1 x3_1 0).length : Int) 0 t10018 t10019) else (none)) = some r := H
      have A29 := Aside0.mk A290
      clear A290
      obtain ⟨y10021, hy10021⟩ : ∃ y_ : List (S89), y_ = (([] : List (S89))) := ⟨_, rfl⟩
      replace H : (if 0 < (x3_1.length : Int) then (impl_StartStates.l1 k1 x3_1 y10021 (rd_L1 x3_1 0) ((rd_L1 x3_1 0).length : Int) 0 t10018 t10019) else (none)) = some r := by first | (rw [hy10021]; with_reducible exact H) | (have H2_ := (Option.bind_some _ _).symm.trans H; rw [hy10021]; with_reducible exact H2_) | (have H2_ := (Option.bind_some _ _).symm.trans H; with_reducible exact H2_) | with_reducible exact H | (rw [hy10021]; exact H) | exact H
      have Ny10021 := Aside0.mk hy10021
      clear hy10021
      by_cases c30 : 0 < (x3_1.length : Int)
      ·rw [if_pos c30] at H
       have c30b0 : decide (0 < (x3_1.length : Int)) = true := decide_eq_true c30
       have c30b1 : decide (0 < x3_1.length) = true := decide_eq_true (by omega)
       clear c30
       have H' := Aside0.mk H
       clear H
       have hcz31_0 : wr.cell? ⟨gb10001, 0, none⟩ = some (.string a0_0) := (blk_cell BK10001.out 0).trans rfl
       have hcz31_1 : wr.cell? ⟨gb10001, 1, none⟩ = some (.string a0_1) := (blk_cell BK10001.out 1).trans rfl
       have hcz31_2 : wr.cell? ⟨gb10001, 2, none⟩ = some (.slice A0_2 l0_2.length c0_2) := (blk_cell BK10001.out 2).trans rfl
       have hcz31_3 : wr.cell? ⟨gb10001, 3, none⟩ = some (.slice A0_3 l0_3.length c0_3) := (blk_cell BK10001.out 3).trans rfl
       have hcz31_4 : wr.cell? ⟨gb10001, 4, none⟩ = some (.slice A0_4 l0_4.length c0_4) := (blk_cell BK10001.out 4).trans rfl
       have hcz31_5 : wr.cell? ⟨gb10001, 5, none⟩ = some (.slice A0_5 l0_5.length c0_5) := (blk_cell BK10001.out 5).trans rfl
       have hfz31_0 := blk_frozen BK10001.out 0
       have hfz31_1 := blk_frozen BK10001.out 1
       have hfz31_2 := blk_frozen BK10001.out 2
       have hfz31_3 := blk_frozen BK10001.out 3
       have hfz31_4 := blk_frozen BK10001.out 4
       have hfz31_5 := blk_frozen BK10001.out 5
       go_wp2_with (first | (go_at_call 52; (with_reducible refine (impl_StripEquation.calls k1 a0_0 a0_1 t10018 t10019 _ A29.out).mono ?_); rintro e w32 ⟨rfl, hb⟩; have n0_ := Aside0.mk (Kd.N_below (by (with_reducible repeat (first | apply Kd.N_alloc | apply Kd.N_drewN | apply Kd.N_drew | apply Kd.S_alloc | apply Kd.S_drewN | apply Kd.S_drew)); exact HO_3.out) hb); have n1_ := Aside0.mk (Kd.V_below (by (with_reducible repeat (first | apply Kd.V_alloc | apply Kd.V_drewN | apply Kd.V_drew)); exact HO_21.out) hb); have n2_ := Aside0.mk (Kd.V_below (by (with_reducible repeat (first | apply Kd.V_alloc | apply Kd.V_drewN | apply Kd.V_drew)); exact HO_10002005.out) hb); have n3_ := Aside0.mk (blk_below (g := gb10001) (o := .cells #[.string a0_0, .string a0_1, .slice A0_2 l0_2.length c0_2, .slice A0_3 l0_3.length c0_3, .slice A0_4 l0_4.length c0_4, .slice A0_5 l0_5.length c0_5] 36 (0, 0)) (by (with_reducible repeat (first | refine blk_drewN ?_ _ | refine blk_drew ?_ | refine blk_alloc ?_ _)); exact BK10001.out) hb); have n4_ := Aside0.mk (below_step (by repeat (first | (with_reducible first | exact HB.out | apply below_alloc | apply pw_below_drewN | apply below_drew1 | refine below_set ?_ GE10001.out) | exact HB.out)) hb); clear HO_3; clear HO_21; clear HO_10002005; clear BK10001; clear HB; have HO_3 := n0_; have HO_21 := n1_; have HO_10002005 := n2_; have BK10001 := n3_; have HB := n4_; clear n0_ n1_ n2_ n3_ n4_; (try clear hb); (try clear hb2); (try clear hk); (try clear hi)) | ((with_reducible refine gate_dst (N := 7) rfl ?_); refine box_event ?hg (N := 7) ?hd (cs := #[.string (⟨#[]⟩ : ByteArray), .string (⟨#[]⟩ : ByteArray)]) (t := 33) ?hr ?_; (case hd => rfl); (case hg => rfl); (case hr => first | (go_simp; done) | (go_simp; rfl)); intro gb10020 hg w33 hbox hb; have n0_ := Aside0.mk (Kd.N_below (Kd.N_elderB (by (with_reducible repeat (first | apply Kd.N_alloc | apply Kd.N_drewN | apply Kd.N_drew | apply Kd.S_alloc | apply Kd.S_drewN | apply Kd.S_drew)); exact HO_3.out) gb10020 (Nat.le_of_eq hg.symm)) hb); have n1_ := Aside0.mk (Kd.V_below (Kd.V_elderB (by (with_reducible repeat (first | apply Kd.V_alloc | apply Kd.V_drewN | apply Kd.V_drew)); exact HO_21.out) gb10020 (Nat.le_of_eq hg.symm)) hb); have n2_ := Aside0.mk (Kd.V_below (Kd.V_elderB (by (with_reducible repeat (first | apply Kd.V_alloc | apply Kd.V_drewN | apply Kd.V_drew)); exact HO_10002005.out) gb10020 (Nat.le_of_eq hg.symm)) hb); have n3_ := Aside0.mk (blk_below (g := gb10001) (o := .cells #[.string a0_0, .string a0_1, .slice A0_2 l0_2.length c0_2, .slice A0_3 l0_3.length c0_3, .slice A0_4 l0_4.length c0_4, .slice A0_5 l0_5.length c0_5] 36 (0, 0)) (by (with_reducible repeat (first | refine blk_drewN ?_ _ | refine blk_drew ?_ | refine blk_alloc ?_ _)); exact BK10001.out) hb); have n4_ := Aside0.mk (below_step (by repeat (first | (with_reducible first | exact HB.out | apply below_alloc | apply pw_below_drewN | apply below_drew1 | refine below_set ?_ GE10001.out) | exact HB.out)) hb); have n5_ := Aside0.mk (hbox); have n6_ := Aside0.mk ((by rw [hg]; exact (below_size (by repeat (first | (with_reducible first | exact HB.out | apply below_alloc | apply pw_below_drewN | apply below_drew1 | refine below_set ?_ GE10001.out) | exact HB.out))) : w.heap.size ≤ gb10020)); have n7_ := Aside0.mk ((by rw [hg]; exact (below_size (by repeat (first | (with_reducible first | exact HB.out | apply below_alloc | apply pw_below_drewN | apply below_drew1 | refine below_set ?_ GE10001.out) | exact HB.out))) : w.heap.size ≤ gb10020)); have n8_ := Aside0.mk ((by rw [hg]; exact Nat.ne_of_lt (blk_lt (g := gb10001) (o := .cells #[.string a0_0, .string a0_1, .slice A0_2 l0_2.length c0_2, .slice A0_3 l0_3.length c0_3, .slice A0_4 l0_4.length c0_4, .slice A0_5 l0_5.length c0_5] 36 (0, 0)) (by (with_reducible repeat (first | refine blk_drewN ?_ _ | refine blk_drew ?_ | refine blk_alloc ?_ _)); exact BK10001.out)) : gb10001 ≠ gb10020)); have n9_ := Aside0.mk ((by rw [hg]; exact Nat.ne_of_gt (blk_lt (g := gb10001) (o := .cells #[.string a0_0, .string a0_1, .slice A0_2 l0_2.length c0_2, .slice A0_3 l0_3.length c0_3, .slice A0_4 l0_4.length c0_4, .slice A0_5 l0_5.length c0_5] 36 (0, 0)) (by (with_reducible repeat (first | refine blk_drewN ?_ _ | refine blk_drew ?_ | refine blk_alloc ?_ _)); exact BK10001.out)) : gb10020 ≠ gb10001)); clear HO_3; clear HO_21; clear HO_10002005; clear BK10001; clear HB; have HO_3 := n0_; have HO_21 := n1_; have HO_10002005 := n2_; have BK10001 := n3_; have HB := n4_; have BK10020 := n5_; have GW10020 := n6_; have GE10020 := n7_; have NB10001_10020 := n8_; have NB10020_10001 := n9_; clear n0_ n1_ n2_ n3_ n4_ n5_ n6_ n7_ n8_ n9_; clear hb hbox hg; have hnb34 := NB10020_10001.out; have hnc34 := NB10001_10020.out; have hcz35_0 : w33.cell? ⟨gb10020, 0, none⟩ = some (.string (⟨#[]⟩ : ByteArray)) := (blk_cell BK10020.out 0).trans rfl; have hcz35_1 : w33.cell? ⟨gb10020, 1, none⟩ = some (.string (⟨#[]⟩ : ByteArray)) := (blk_cell BK10020.out 1).trans rfl; have hfz35_0 := blk_frozen BK10020.out 0; have hfz35_1 := blk_frozen BK10020.out 1) | ((with_reducible refine gate_dst (N := 59) rfl ?_); refine Kd.S_lit k89 _ 89 ?hg (N := 59) ?hd (xs := ([] : List (S89))) (inner := []) (ok := (fun k_ => (P0_5_ k_ ∨ w.heap.size ≤ k_) ∧ some k_ ≠ (u3 : Value).ownBlock ∧ k_ ≠ gb10001 ∧ k_ ≠ gb10020)) (okp := (fun k_ => (P0_5_ k_ ∨ w.heap.size ≤ k_) ∧ some k_ ≠ (u3 : Value).ownBlock ∧ k_ ≠ gb10001 ∧ k_ ≠ gb10020)) ?hr ?hp (fun _ hk => hk) ((show ∀ k_, ((w33.setCell ⟨gb10020, 0, none⟩ (.string t10018)).setCell ⟨gb10020, 1, none⟩ (.string t10019)).heap.size ≤ k_ → (fun k_ => (P0_5_ k_ ∨ w.heap.size ≤ k_) ∧ some k_ ≠ (u3 : Value).ownBlock ∧ k_ ≠ gb10001 ∧ k_ ≠ gb10020) k_ from fun k_ hk => ⟨(.inr (Nat.le_trans (below_size (by repeat (first | (with_reducible first | exact HB.out | apply below_alloc | apply pw_below_drewN | apply below_drew1 | refine below_set ?_ GE10001.out | refine below_set ?_ GE10020.out) | exact HB.out))) hk)), Kd.fresh' (Kd.N_lt (by (with_reducible repeat (first | apply Kd.N_alloc | apply Kd.N_drewN | apply Kd.N_drew | apply Kd.S_alloc | apply Kd.S_drewN | apply Kd.S_drew)); exact (Kd.N_mono (Kd.N_far (p := ⟨gb10020, 1, none⟩) (Kd.N_far (p := ⟨gb10020, 0, none⟩) (Kd.N_mono HO_3.out (fun k_ hk => (⟨hk, hk.2⟩ : _ ∧ k_ ≠ gb10020))) (fun _ hk => hk.2) (.string t10018)) (fun _ hk => hk.2) (.string t10019)) (fun _ h_ => h_.1)))) k_ hk, Kd.freshB (g := gb10001) (o := .cells #[.string a0_0, .string a0_1, .slice A0_2 l0_2.length c0_2, .slice A0_3 l0_3.length c0_3, .slice A0_4 l0_4.length c0_4, .slice A0_5 l0_5.length c0_5] 36 (0, 0)) (by (with_reducible repeat (first | refine blk_drewN ?_ _ | refine blk_drew ?_ | refine blk_alloc ?_ _)); refine blk_far ?_ NB10001_10020.out _; (with_reducible repeat (first | refine blk_drewN ?_ _ | refine blk_drew ?_ | refine blk_alloc ?_ _)); refine blk_far ?_ NB10001_10020.out _; (with_reducible repeat (first | refine blk_drewN ?_ _ | refine blk_drew ?_ | refine blk_alloc ?_ _)); exact BK10001.out) k_ hk, Kd.freshB (g := gb10020) (o := .cells #[.string t10018, .string t10019] 33 (0, 0)) (by (with_reducible repeat (first | refine blk_drewN ?_ _ | refine blk_drew ?_ | refine blk_alloc ?_ _)); refine blk_put (cs := #[.string t10018, .string (⟨#[]⟩ : ByteArray)]) ?_ 1 _ rfl; (with_reducible repeat (first | refine blk_drewN ?_ _ | refine blk_drew ?_ | refine blk_alloc ?_ _)); refine blk_put (cs := #[.string (⟨#[]⟩ : ByteArray), .string (⟨#[]⟩ : ByteArray)]) ?_ 0 _ rfl; (with_reducible repeat (first | refine blk_drewN ?_ _ | refine blk_drew ?_ | refine blk_alloc ?_ _)); exact BK10020.out) k_ hk⟩) _ (by first | exact Nat.le_refl _ | simp)) (Below.refl _ _) (Nat.le_refl _) (by simp) ?_; (case hd => rfl); (case hg => rfl); (case hr => first | (go_simp; done) | (go_simp; rfl)); (case hp => exact (Reps.none _ _)); intro v10022 w36 ho37 hb hg_ hnew_; clear hg_ hnew_; (first | rw [← Ny10021.out] at ho37 | (simp only [Int.reduceToNat] at ho37; rw [← Ny10021.out] at ho37)); have n0_ := Aside0.mk (Kd.N_elder' (by (with_reducible repeat (first | apply Kd.N_alloc | apply Kd.N_drewN | apply Kd.N_drew | apply Kd.S_alloc | apply Kd.S_drewN | apply Kd.S_drew)); exact (Kd.N_mono (Kd.N_far (p := ⟨gb10020, 1, none⟩) (Kd.N_far (p := ⟨gb10020, 0, none⟩) (Kd.N_mono HO_3.out (fun k_ hk => (⟨hk, hk.2⟩ : _ ∧ k_ ≠ gb10020))) (fun _ hk => hk.2) (.string t10018)) (fun _ hk => hk.2) (.string t10019)) (fun _ h_ => h_.1))) (Kd.S_base ho37) hb); have n1_ := Aside0.mk (Kd.V_elder' (by (with_reducible repeat (first | apply Kd.V_alloc | apply Kd.V_drewN | apply Kd.V_drew)); exact (Kd.V_mono (Kd.V_far (p := ⟨gb10020, 1, none⟩) (Kd.V_far (p := ⟨gb10020, 0, none⟩) (Kd.V_mono HO_21.out (fun k_ hk => (⟨hk, hk.2⟩ : _ ∧ k_ ≠ gb10020))) (fun _ hk => hk.2) (.string t10018)) (fun _ hk => hk.2) (.string t10019)) (fun _ h_ => h_.1))) (Kd.S_base ho37) hb); have n2_ := Aside0.mk (Kd.V_elder' (by (with_reducible repeat (first | apply Kd.V_alloc | apply Kd.V_drewN | apply Kd.V_drew)); exact (Kd.V_mono (Kd.V_far (p := ⟨gb10020, 1, none⟩) (Kd.V_far (p := ⟨gb10020, 0, none⟩) (Kd.V_mono HO_10002005.out (fun k_ hk => (⟨hk, hk.2⟩ : _ ∧ k_ ≠ gb10020))) (fun _ hk => hk.2) (.string t10018)) (fun _ hk => hk.2) (.string t10019)) (fun _ h_ => h_.1))) (Kd.S_base ho37) hb); have n3_ := Aside0.mk (Kd.S_lower ho37 (below_size (by repeat (first | (with_reducible first | exact HB.out | apply below_alloc | apply pw_below_drewN | apply below_drew1 | refine below_set ?_ GE10001.out | refine below_set ?_ GE10020.out) | exact HB.out)))); have n4_ := Aside0.mk (blk_below (g := gb10001) (o := .cells #[.string a0_0, .string a0_1, .slice A0_2 l0_2.length c0_2, .slice A0_3 l0_3.length c0_3, .slice A0_4 l0_4.length c0_4, .slice A0_5 l0_5.length c0_5] 36 (0, 0)) (by (with_reducible repeat (first | refine blk_drewN ?_ _ | refine blk_drew ?_ | refine blk_alloc ?_ _)); refine blk_far ?_ NB10001_10020.out _; (with_reducible repeat (first | refine blk_drewN ?_ _ | refine blk_drew ?_ | refine blk_alloc ?_ _)); refine blk_far ?_ NB10001_10020.out _; (with_reducible repeat (first | refine blk_drewN ?_ _ | refine blk_drew ?_ | refine blk_alloc ?_ _)); exact BK10001.out) hb); have n5_ := Aside0.mk (blk_below (g := gb10020) (o := .cells #[.string t10018, .string t10019] 33 (0, 0)) (by (with_reducible repeat (first | refine blk_drewN ?_ _ | refine blk_drew ?_ | refine blk_alloc ?_ _)); refine blk_put (cs := #[.string t10018, .string (⟨#[]⟩ : ByteArray)]) ?_ 1 _ rfl; (with_reducible repeat (first | refine blk_drewN ?_ _ | refine blk_drew ?_ | refine blk_alloc ?_ _)); refine blk_put (cs := #[.string (⟨#[]⟩ : ByteArray), .string (⟨#[]⟩ : ByteArray)]) ?_ 0 _ rfl; (with_reducible repeat (first | refine blk_drewN ?_ _ | refine blk_drew ?_ | refine blk_alloc ?_ _)); exact BK10020.out) hb); have n6_ := Aside0.mk (below_step (by repeat (first | (with_reducible first | exact HB.out | apply below_alloc | apply pw_below_drewN | apply below_drew1 | refine below_set ?_ GE10001.out | refine below_set ?_ GE10020.out) | exact HB.out)) hb); clear HO_3; clear HO_21; clear HO_10002005; clear BK10001; clear BK10020; clear HB; have HO_3 := n0_; have HO_21 := n1_; have HO_10002005 := n2_; have HO10023 := n3_; have BK10001 := n4_; have BK10020 := n5_; have HB := n6_; clear n0_ n1_ n2_ n3_ n4_ n5_ n6_; clear hb ho37; obtain ⟨Ao38, co38, eo38⟩ := Kd.N_slice HO_3.out; subst eo38; have p10024 : 0 ≤ (0 : Int) := (by omega); have q10024 : 0 < (x3_1.length : Int) := of_decide_eq_true (by first | (with_reducible assumption) | assumption); obtain ⟨ad10024, A10024_0, c10024_0, e10024, hx10024_0, hl10024_0, hi10024_0⟩ := at_L1 (Kd.N_reads' HO_3.out).2.2 0 p10024 q10024; cases e10024; obtain ⟨ce10024, hce10024, hMe10024, hcc10024⟩ := Kd.N_get HO_3.out [] 0 p10024 (by first | exact q10024 | exact of_decide_eq_true (by first | (with_reducible assumption) | assumption) | (have e_ := (Kd.N_reads' HO_3.out).1; omega)); obtain ⟨ua10024_0, uc10024_0, rfl, ul10024_0, ge10024_0⟩ := Kd.FK_slice_open hMe10024; have hv10024_0 := hcc10024 0 _ rfl; rw [Nat.add_zero, show ((Kd.slice 3 (Kd.int .i64))).sz = 1 from rfl, Nat.mul_one] at hv10024_0; replace hv10024_0 := Option.some.inj (hv10024_0.symm.trans hx10024_0); injection hv10024_0 with hva_ hvn_ hvc_; rw [hva_] at ge10024_0; rw [hvc_] at ul10024_0; have HL10024_0 := Aside0.mk (show Kd.V (Kd.int .i64) 3 _ w.heap.size _ _ (rd_L1 x3_1 0) from Kd.V_mk ul10024_0 ge10024_0); clear hva_ hvn_ hvc_ ge10024_0 ul10024_0; clear hcc10024 hce10024; have qi10024 : (0 < x3_1.length) = True := eq_true (by omega); (try rw [show ((0 : Int)).toNat = 0 from rfl] at hx10024_0); (try rw [Addr.add_zero'] at hx10024_0); have HR10024_0 := Aside0.mk hi10024_0; have HC10024_0 := Aside0.mk hl10024_0; clear hi10024_0 hl10024_0; replace p10024 := eq_true p10024; replace q10024 := eq_true q10024))
       repeat (go_quiet (first | (go_at_call 52; (with_reducible refine (impl_StripEquation.calls k1 a0_0 a0_1 t10018 t10019 _ A29.out).mono ?_); rintro e w32 ⟨rfl, hb⟩; have n0_ := Aside0.mk (Kd.N_below (by (with_reducible repeat (first | apply Kd.N_alloc | apply Kd.N_drewN | apply Kd.N_drew | apply Kd.S_alloc | apply Kd.S_drewN | apply Kd.S_drew)); exact HO_3.out) hb); have n1_ := Aside0.mk (Kd.V_below (by (with_reducible repeat (first | apply Kd.V_alloc | apply Kd.V_drewN | apply Kd.V_drew)); exact HO_21.out) hb); have n2_ := Aside0.mk (Kd.V_below (by (with_reducible repeat (first | apply Kd.V_alloc | apply Kd.V_drewN | apply Kd.V_drew)); exact HO_10002005.out) hb); have n3_ := Aside0.mk (blk_below (g := gb10001) (o := .cells #[.string a0_0, .string a0_1, .slice A0_2 l0_2.length c0_2, .slice A0_3 l0_3.length c0_3, .slice A0_4 l0_4.length c0_4, .slice A0_5 l0_5.length c0_5] 36 (0, 0)) (by (with_reducible repeat (first | refine blk_drewN ?_ _ | refine blk_drew ?_ | refine blk_alloc ?_ _)); exact BK10001.out) hb); have n4_ := Aside0.mk (below_step (by repeat (first | (with_reducible first | exact HB.out | apply below_alloc | apply pw_below_drewN | apply below_drew1 | refine below_set ?_ GE10001.out) | exact HB.out)) hb); clear HO_3; clear HO_21; clear HO_10002005; clear BK10001; clear HB; have HO_3 := n0_; have HO_21 := n1_; have HO_10002005 := n2_; have BK10001 := n3_; have HB := n4_; clear n0_ n1_ n2_ n3_ n4_; (try clear hb); (try clear hb2); (try clear hk); (try clear hi)) | ((with_reducible refine gate_dst (N := 7) rfl ?_); refine box_event ?hg (N := 7) ?hd (cs := #[.string (⟨#[]⟩ : ByteArray), .string (⟨#[]⟩ : ByteArray)]) (t := 33) ?hr ?_; (case hd => rfl); (case hg => rfl); (case hr => first | (go_simp; done) | (go_simp; rfl)); intro gb10020 hg w33 hbox hb; have n0_ := Aside0.mk (Kd.N_below (Kd.N_elderB (by (with_reducible repeat (first | apply Kd.N_alloc | apply Kd.N_drewN | apply Kd.N_drew | apply Kd.S_alloc | apply Kd.S_drewN | apply Kd.S_drew)); exact HO_3.out) gb10020 (Nat.le_of_eq hg.symm)) hb); have n1_ := Aside0.mk (Kd.V_below (Kd.V_elderB (by (with_reducible repeat (first | apply Kd.V_alloc | apply Kd.V_drewN | apply Kd.V_drew)); exact HO_21.out) gb10020 (Nat.le_of_eq hg.symm)) hb); have n2_ := Aside0.mk (Kd.V_below (Kd.V_elderB (by (with_reducible repeat (first | apply Kd.V_alloc | apply Kd.V_drewN | apply Kd.V_drew)); exact HO_10002005.out) gb10020 (Nat.le_of_eq hg.symm)) hb); have n3_ := Aside0.mk (blk_below (g := gb10001) (o := .cells #[.string a0_0, .string a0_1, .slice A0_2 l0_2.length c0_2, .slice A0_3 l0_3.length c0_3, .slice A0_4 l0_4.length c0_4, .slice A0_5 l0_5.length c0_5] 36 (0, 0)) (by (with_reducible repeat (first | refine blk_drewN ?_ _ | refine blk_drew ?_ | refine blk_alloc ?_ _)); exact BK10001.out) hb); have n4_ := Aside0.mk (below_step (by repeat (first | (with_reducible first | exact HB.out | apply below_alloc | apply pw_below_drewN | apply below_drew1 | refine below_set ?_ GE10001.out) | exact HB.out)) hb); have n5_ := Aside0.mk (hbox); have n6_ := Aside0.mk ((by rw [hg]; exact (below_size (by repeat (first | (with_reducible first | exact HB.out | apply below_alloc | apply pw_below_drewN | apply below_drew1 | refine below_set ?_ GE10001.out) | exact HB.out))) : w.heap.size ≤ gb10020)); have n7_ := Aside0.mk ((by rw [hg]; exact (below_size (by repeat (first | (with_reducible first | exact HB.out | apply below_alloc | apply pw_below_drewN | apply below_drew1 | refine below_set ?_ GE10001.out) | exact HB.out))) : w.heap.size ≤ gb10020)); have n8_ := Aside0.mk ((by rw [hg]; exact Nat.ne_of_lt (blk_lt (g := gb10001) (o := .cells #[.string a0_0, .string a0_1, .slice A0_2 l0_2.length c0_2, .slice A0_3 l0_3.length c0_3, .slice A0_4 l0_4.length c0_4, .slice A0_5 l0_5.length c0_5] 36 (0, 0)) (by (with_reducible repeat (first | refine blk_drewN ?_ _ | refine blk_drew ?_ | refine blk_alloc ?_ _)); exact BK10001.out)) : gb10001 ≠ gb10020)); have n9_ := Aside0.mk ((by rw [hg]; exact Nat.ne_of_gt (blk_lt (g := gb10001) (o := .cells #[.string a0_0, .string a0_1, .slice A0_2 l0_2.length c0_2, .slice A0_3 l0_3.length c0_3, .slice A0_4 l0_4.length c0_4, .slice A0_5 l0_5.length c0_5] 36 (0, 0)) (by (with_reducible repeat (first | refine blk_drewN ?_ _ | refine blk_drew ?_ | refine blk_alloc ?_ _)); exact BK10001.out)) : gb10020 ≠ gb10001)); clear HO_3; clear HO_21; clear HO_10002005; clear BK10001; clear HB; have HO_3 := n0_; have HO_21 := n1_; have HO_10002005 := n2_; have BK10001 := n3_; have HB := n4_; have BK10020 := n5_; have GW10020 := n6_; have GE10020 := n7_; have NB10001_10020 := n8_; have NB10020_10001 := n9_; clear n0_ n1_ n2_ n3_ n4_ n5_ n6_ n7_ n8_ n9_; clear hb hbox hg; have hnb34 := NB10020_10001.out; have hnc34 := NB10001_10020.out; have hcz35_0 : w33.cell? ⟨gb10020, 0, none⟩ = some (.string (⟨#[]⟩ : ByteArray)) := (blk_cell BK10020.out 0).trans rfl; have hcz35_1 : w33.cell? ⟨gb10020, 1, none⟩ = some (.string (⟨#[]⟩ : ByteArray)) := (blk_cell BK10020.out 1).trans rfl; have hfz35_0 := blk_frozen BK10020.out 0; have hfz35_1 := blk_frozen BK10020.out 1) | ((with_reducible refine gate_dst (N := 59) rfl ?_); refine Kd.S_lit k89 _ 89 ?hg (N := 59) ?hd (xs := ([] : List (S89))) (inner := []) (ok := (fun k_ => (P0_5_ k_ ∨ w.heap.size ≤ k_) ∧ some k_ ≠ (u3 : Value).ownBlock ∧ k_ ≠ gb10001 ∧ k_ ≠ gb10020)) (okp := (fun k_ => (P0_5_ k_ ∨ w.heap.size ≤ k_) ∧ some k_ ≠ (u3 : Value).ownBlock ∧ k_ ≠ gb10001 ∧ k_ ≠ gb10020)) ?hr ?hp (fun _ hk => hk) ((show ∀ k_, ((w33.setCell ⟨gb10020, 0, none⟩ (.string t10018)).setCell ⟨gb10020, 1, none⟩ (.string t10019)).heap.size ≤ k_ → (fun k_ => (P0_5_ k_ ∨ w.heap.size ≤ k_) ∧ some k_ ≠ (u3 : Value).ownBlock ∧ k_ ≠ gb10001 ∧ k_ ≠ gb10020) k_ from fun k_ hk => ⟨(.inr (Nat.le_trans (below_size (by repeat (first | (with_reducible first | exact HB.out | apply below_alloc | apply pw_below_drewN | apply below_drew1 | refine below_set ?_ GE10001.out | refine below_set ?_ GE10020.out) | exact HB.out))) hk)), Kd.fresh' (Kd.N_lt (by (with_reducible repeat (first | apply Kd.N_alloc | apply Kd.N_drewN | apply Kd.N_drew | apply Kd.S_alloc | apply Kd.S_drewN | apply Kd.S_drew)); exact (Kd.N_mono (Kd.N_far (p := ⟨gb10020, 1, none⟩) (Kd.N_far (p := ⟨gb10020, 0, none⟩) (Kd.N_mono HO_3.out (fun k_ hk => (⟨hk, hk.2⟩ : _ ∧ k_ ≠ gb10020))) (fun _ hk => hk.2) (.string t10018)) (fun _ hk => hk.2) (.string t10019)) (fun _ h_ => h_.1)))) k_ hk, Kd.freshB (g := gb10001) (o := .cells #[.string a0_0, .string a0_1, .slice A0_2 l0_2.length c0_2, .slice A0_3 l0_3.length c0_3, .slice A0_4 l0_4.length c0_4, .slice A0_5 l0_5.length c0_5] 36 (0, 0)) (by (with_reducible repeat (first | refine blk_drewN ?_ _ | refine blk_drew ?_ | refine blk_alloc ?_ _)); refine blk_far ?_ NB10001_10020.out _; (with_reducible repeat (first | refine blk_drewN ?_ _ | refine blk_drew ?_ | refine blk_alloc ?_ _)); refine blk_far ?_ NB10001_10020.out _; (with_reducible repeat (first | refine blk_drewN ?_ _ | refine blk_drew ?_ | refine blk_alloc ?_ _)); exact BK10001.out) k_ hk, Kd.freshB (g := gb10020) (o := .cells #[.string t10018, .string t10019] 33 (0, 0)) (by (with_reducible repeat (first | refine blk_drewN ?_ _ | refine blk_drew ?_ | refine blk_alloc ?_ _)); refine blk_put (cs := #[.string t10018, .string (⟨#[]⟩ : ByteArray)]) ?_ 1 _ rfl; (with_reducible repeat (first | refine blk_drewN ?_ _ | refine blk_drew ?_ | refine blk_alloc ?_ _)); refine blk_put (cs := #[.string (⟨#[]⟩ : ByteArray), .string (⟨#[]⟩ : ByteArray)]) ?_ 0 _ rfl; (with_reducible repeat (first | refine blk_drewN ?_ _ | refine blk_drew ?_ | refine blk_alloc ?_ _)); exact BK10020.out) k_ hk⟩) _ (by first | exact Nat.le_refl _ | simp)) (Below.refl _ _) (Nat.le_refl _) (by simp) ?_; (case hd => rfl); (case hg => rfl); (case hr => first | (go_simp; done) | (go_simp; rfl)); (case hp => exact (Reps.none _ _)); intro v10022 w36 ho37 hb hg_ hnew_; clear hg_ hnew_; (first | rw [← Ny10021.out] at ho37 | (simp only [Int.reduceToNat] at ho37; rw [← Ny10021.out] at ho37)); have n0_ := Aside0.mk (Kd.N_elder' (by (with_reducible repeat (first | apply Kd.N_alloc | apply Kd.N_drewN | apply Kd.N_drew | apply Kd.S_alloc | apply Kd.S_drewN | apply Kd.S_drew)); exact (Kd.N_mono (Kd.N_far (p := ⟨gb10020, 1, none⟩) (Kd.N_far (p := ⟨gb10020, 0, none⟩) (Kd.N_mono HO_3.out (fun k_ hk => (⟨hk, hk.2⟩ : _ ∧ k_ ≠ gb10020))) (fun _ hk => hk.2) (.string t10018)) (fun _ hk => hk.2) (.string t10019)) (fun _ h_ => h_.1))) (Kd.S_base ho37) hb); have n1_ := Aside0.mk (Kd.V_elder' (by (with_reducible repeat (first | apply Kd.V_alloc | apply Kd.V_drewN | apply Kd.V_drew)); exact (Kd.V_mono (Kd.V_far (p := ⟨gb10020, 1, none⟩) (Kd.V_far (p := ⟨gb10020, 0, none⟩) (Kd.V_mono HO_21.out (fun k_ hk => (⟨hk, hk.2⟩ : _ ∧ k_ ≠ gb10020))) (fun _ hk => hk.2) (.string t10018)) (fun _ hk => hk.2) (.string t10019)) (fun _ h_ => h_.1))) (Kd.S_base ho37) hb); have n2_ := Aside0.mk (Kd.V_elder' (by (with_reducible repeat (first | apply Kd.V_alloc | apply Kd.V_drewN | apply Kd.V_drew)); exact (Kd.V_mono (Kd.V_far (p := ⟨gb10020, 1, none⟩) (Kd.V_far (p := ⟨gb10020, 0, none⟩) (Kd.V_mono HO_10002005.out (fun k_ hk => (⟨hk, hk.2⟩ : _ ∧ k_ ≠ gb10020))) (fun _ hk => hk.2) (.string t10018)) (fun _ hk => hk.2) (.string t10019)) (fun _ h_ => h_.1))) (Kd.S_base ho37) hb); have n3_ := Aside0.mk (Kd.S_lower ho37 (below_size (by repeat (first | (with_reducible first | exact HB.out | apply below_alloc | apply pw_below_drewN | apply below_drew1 | refine below_set ?_ GE10001.out | refine below_set ?_ GE10020.out) | exact HB.out)))); have n4_ := Aside0.mk (blk_below (g := gb10001) (o := .cells #[.string a0_0, .string a0_1, .slice A0_2 l0_2.length c0_2, .slice A0_3 l0_3.length c0_3, .slice A0_4 l0_4.length c0_4, .slice A0_5 l0_5.length c0_5] 36 (0, 0)) (by (with_reducible repeat (first | refine blk_drewN ?_ _ | refine blk_drew ?_ | refine blk_alloc ?_ _)); refine blk_far ?_ NB10001_10020.out _; (with_reducible repeat (first | refine blk_drewN ?_ _ | refine blk_drew ?_ | refine blk_alloc ?_ _)); refine blk_far ?_ NB10001_10020.out _; (with_reducible repeat (first | refine blk_drewN ?_ _ | refine blk_drew ?_ | refine blk_alloc ?_ _)); exact BK10001.out) hb); have n5_ := Aside0.mk (blk_below (g := gb10020) (o := .cells #[.string t10018, .string t10019] 33 (0, 0)) (by (with_reducible repeat (first | refine blk_drewN ?_ _ | refine blk_drew ?_ | refine blk_alloc ?_ _)); refine blk_put (cs := #[.string t10018, .string (⟨#[]⟩ : ByteArray)]) ?_ 1 _ rfl; (with_reducible repeat (first | refine blk_drewN ?_ _ | refine blk_drew ?_ | refine blk_alloc ?_ _)); refine blk_put (cs := #[.string (⟨#[]⟩ : ByteArray), .string (⟨#[]⟩ : ByteArray)]) ?_ 0 _ rfl; (with_reducible repeat (first | refine blk_drewN ?_ _ | refine blk_drew ?_ | refine blk_alloc ?_ _)); exact BK10020.out) hb); have n6_ := Aside0.mk (below_step (by repeat (first | (with_reducible first | exact HB.out | apply below_alloc | apply pw_below_drewN | apply below_drew1 | refine below_set ?_ GE10001.out | refine below_set ?_ GE10020.out) | exact HB.out)) hb); clear HO_3; clear HO_21; clear HO_10002005; clear BK10001; clear BK10020; clear HB; have HO_3 := n0_; have HO_21 := n1_; have HO_10002005 := n2_; have HO10023 := n3_; have BK10001 := n4_; have BK10020 := n5_; have HB := n6_; clear n0_ n1_ n2_ n3_ n4_ n5_ n6_; clear hb ho37; obtain ⟨Ao38, co38, eo38⟩ := Kd.N_slice HO_3.out; subst eo38; have p10024 : 0 ≤ (0 : Int) := (by omega); have q10024 : 0 < (x3_1.length : Int) := of_decide_eq_true (by first | (with_reducible assumption) | assumption); obtain ⟨ad10024, A10024_0, c10024_0, e10024, hx10024_0, hl10024_0, hi10024_0⟩ := at_L1 (Kd.N_reads' HO_3.out).2.2 0 p10024 q10024; cases e10024; obtain ⟨ce10024, hce10024, hMe10024, hcc10024⟩ := Kd.N_get HO_3.out [] 0 p10024 (by first | exact q10024 | exact of_decide_eq_true (by first | (with_reducible assumption) | assumption) | (have e_ := (Kd.N_reads' HO_3.out).1; omega)); obtain ⟨ua10024_0, uc10024_0, rfl, ul10024_0, ge10024_0⟩ := Kd.FK_slice_open hMe10024; have hv10024_0 := hcc10024 0 _ rfl; rw [Nat.add_zero, show ((Kd.slice 3 (Kd.int .i64))).sz = 1 from rfl, Nat.mul_one] at hv10024_0; replace hv10024_0 := Option.some.inj (hv10024_0.symm.trans hx10024_0); injection hv10024_0 with hva_ hvn_ hvc_; rw [hva_] at ge10024_0; rw [hvc_] at ul10024_0; have HL10024_0 := Aside0.mk (show Kd.V (Kd.int .i64) 3 _ w.heap.size _ _ (rd_L1 x3_1 0) from Kd.V_mk ul10024_0 ge10024_0); clear hva_ hvn_ hvc_ ge10024_0 ul10024_0; clear hcc10024 hce10024; have qi10024 : (0 < x3_1.length) = True := eq_true (by omega); (try rw [show ((0 : Int)).toNat = 0 from rfl] at hx10024_0); (try rw [Addr.add_zero'] at hx10024_0); have HR10024_0 := Aside0.mk hi10024_0; have HC10024_0 := Aside0.mk hl10024_0; clear hi10024_0 hl10024_0; replace p10024 := eq_true p10024; replace q10024 := eq_true q10024)); try go_wp2_with (first | (go_at_call 52; (with_reducible refine (impl_StripEquation.calls k1 a0_0 a0_1 t10018 t10019 _ A29.out).mono ?_); rintro e w32 ⟨rfl, hb⟩; have n0_ := Aside0.mk (Kd.N_below (by (with_reducible repeat (first | apply Kd.N_alloc | apply Kd.N_drewN | apply Kd.N_drew | apply Kd.S_alloc | apply Kd.S_drewN | apply Kd.S_drew)); exact HO_3.out) hb); have n1_ := Aside0.mk (Kd.V_below (by (with_reducible repeat (first | apply Kd.V_alloc | apply Kd.V_drewN | apply Kd.V_drew)); exact HO_21.out) hb); have n2_ := Aside0.mk (Kd.V_below (by (with_reducible repeat (first | apply Kd.V_alloc | apply Kd.V_drewN | apply Kd.V_drew)); exact HO_10002005.out) hb); have n3_ := Aside0.mk (blk_below (g := gb10001) (o := .cells #[.string a0_0, .string a0_1, .slice A0_2 l0_2.length c0_2, .slice A0_3 l0_3.length c0_3, .slice A0_4 l0_4.length c0_4, .slice A0_5 l0_5.length c0_5] 36 (0, 0)) (by (with_reducible repeat (first | refine blk_drewN ?_ _ | refine blk_drew ?_ | refine blk_alloc ?_ _)); exact BK10001.out) hb); have n4_ := Aside0.mk (below_step (by repeat (first | (with_reducible first | exact HB.out | apply below_alloc | apply pw_below_drewN | apply below_drew1 | refine below_set ?_ GE10001.out) | exact HB.out)) hb); clear HO_3; clear HO_21; clear HO_10002005; clear BK10001; clear HB; have HO_3 := n0_; have HO_21 := n1_; have HO_10002005 := n2_; have BK10001 := n3_; have HB := n4_; clear n0_ n1_ n2_ n3_ n4_; (try clear hb); (try clear hb2); (try clear hk); (try clear hi)) | ((with_reducible refine gate_dst (N := 7) rfl ?_); refine box_event ?hg (N := 7) ?hd (cs := #[.string (⟨#[]⟩ : ByteArray), .string (⟨#[]⟩ : ByteArray)]) (t := 33) ?hr ?_; (case hd => rfl); (case hg => rfl); (case hr => first | (go_simp; done) | (go_simp; rfl)); intro gb10020 hg w33 hbox hb; have n0_ := Aside0.mk (Kd.N_below (Kd.N_elderB (by (with_reducible repeat (first | apply Kd.N_alloc | apply Kd.N_drewN | apply Kd.N_drew | apply Kd.S_alloc | apply Kd.S_drewN | apply Kd.S_drew)); exact HO_3.out) gb10020 (Nat.le_of_eq hg.symm)) hb); have n1_ := Aside0.mk (Kd.V_below (Kd.V_elderB (by (with_reducible repeat (first | apply Kd.V_alloc | apply Kd.V_drewN | apply Kd.V_drew)); exact HO_21.out) gb10020 (Nat.le_of_eq hg.symm)) hb); have n2_ := Aside0.mk (Kd.V_below (Kd.V_elderB (by (with_reducible repeat (first | apply Kd.V_alloc | apply Kd.V_drewN | apply Kd.V_drew)); exact HO_10002005.out) gb10020 (Nat.le_of_eq hg.symm)) hb); have n3_ := Aside0.mk (blk_below (g := gb10001) (o := .cells #[.string a0_0, .string a0_1, .slice A0_2 l0_2.length c0_2, .slice A0_3 l0_3.length c0_3, .slice A0_4 l0_4.length c0_4, .slice A0_5 l0_5.length c0_5] 36 (0, 0)) (by (with_reducible repeat (first | refine blk_drewN ?_ _ | refine blk_drew ?_ | refine blk_alloc ?_ _)); exact BK10001.out) hb); have n4_ := Aside0.mk (below_step (by repeat (first | (with_reducible first | exact HB.out | apply below_alloc | apply pw_below_drewN | apply below_drew1 | refine below_set ?_ GE10001.out) | exact HB.out)) hb); have n5_ := Aside0.mk (hbox); have n6_ := Aside0.mk ((by rw [hg]; exact (below_size (by repeat (first | (with_reducible first | exact HB.out | apply below_alloc | apply pw_below_drewN | apply below_drew1 | refine below_set ?_ GE10001.out) | exact HB.out))) : w.heap.size ≤ gb10020)); have n7_ := Aside0.mk ((by rw [hg]; exact (below_size (by repeat (first | (with_reducible first | exact HB.out | apply below_alloc | apply pw_below_drewN | apply below_drew1 | refine below_set ?_ GE10001.out) | exact HB.out))) : w.heap.size ≤ gb10020)); have n8_ := Aside0.mk ((by rw [hg]; exact Nat.ne_of_lt (blk_lt (g := gb10001) (o := .cells #[.string a0_0, .string a0_1, .slice A0_2 l0_2.length c0_2, .slice A0_3 l0_3.length c0_3, .slice A0_4 l0_4.length c0_4, .slice A0_5 l0_5.length c0_5] 36 (0, 0)) (by (with_reducible repeat (first | refine blk_drewN ?_ _ | refine blk_drew ?_ | refine blk_alloc ?_ _)); exact BK10001.out)) : gb10001 ≠ gb10020)); have n9_ := Aside0.mk ((by rw [hg]; exact Nat.ne_of_gt (blk_lt (g := gb10001) (o := .cells #[.string a0_0, .string a0_1, .slice A0_2 l0_2.length c0_2, .slice A0_3 l0_3.length c0_3, .slice A0_4 l0_4.length c0_4, .slice A0_5 l0_5.length c0_5] 36 (0, 0)) (by (with_reducible repeat (first | refine blk_drewN ?_ _ | refine blk_drew ?_ | refine blk_alloc ?_ _)); exact BK10001.out)) : gb10020 ≠ gb10001)); clear HO_3; clear HO_21; clear HO_10002005; clear BK10001; clear HB; have HO_3 := n0_; have HO_21 := n1_; have HO_10002005 := n2_; have BK10001 := n3_; have HB := n4_; have BK10020 := n5_; have GW10020 := n6_; have GE10020 := n7_; have NB10001_10020 := n8_; have NB10020_10001 := n9_; clear n0_ n1_ n2_ n3_ n4_ n5_ n6_ n7_ n8_ n9_; clear hb hbox hg; have hnb34 := NB10020_10001.out; have hnc34 := NB10001_10020.out; have hcz35_0 : w33.cell? ⟨gb10020, 0, none⟩ = some (.string (⟨#[]⟩ : ByteArray)) := (blk_cell BK10020.out 0).trans rfl; have hcz35_1 : w33.cell? ⟨gb10020, 1, none⟩ = some (.string (⟨#[]⟩ : ByteArray)) := (blk_cell BK10020.out 1).trans rfl; have hfz35_0 := blk_frozen BK10020.out 0; have hfz35_1 := blk_frozen BK10020.out 1) | ((with_reducible refine gate_dst (N := 59) rfl ?_); refine Kd.S_lit k89 _ 89 ?hg (N := 59) ?hd (xs := ([] : List (S89))) (inner := []) (ok := (fun k_ => (P0_5_ k_ ∨ w.heap.size ≤ k_) ∧ some k_ ≠ (u3 : Value).ownBlock ∧ k_ ≠ gb10001 ∧ k_ ≠ gb10020)) (okp := (fun k_ => (P0_5_ k_ ∨ w.heap.size ≤ k_) ∧ some k_ ≠ (u3 : Value).ownBlock ∧ k_ ≠ gb10001 ∧ k_ ≠ gb10020)) ?hr ?hp (fun _ hk => hk) ((show ∀ k_, ((w33.setCell ⟨gb10020, 0, none⟩ (.string t10018)).setCell ⟨gb10020, 1, none⟩ (.string t10019)).heap.size ≤ k_ → (fun k_ => (P0_5_ k_ ∨ w.heap.size ≤ k_) ∧ some k_ ≠ (u3 : Value).ownBlock ∧ k_ ≠ gb10001 ∧ k_ ≠ gb10020) k_ from fun k_ hk => ⟨(.inr (Nat.le_trans (below_size (by repeat (first | (with_reducible first | exact HB.out | apply below_alloc | apply pw_below_drewN | apply below_drew1 | refine below_set ?_ GE10001.out | refine below_set ?_ GE10020.out) | exact HB.out))) hk)), Kd.fresh' (Kd.N_lt (by (with_reducible repeat (first | apply Kd.N_alloc | apply Kd.N_drewN | apply Kd.N_drew | apply Kd.S_alloc | apply Kd.S_drewN | apply Kd.S_drew)); exact (Kd.N_mono (Kd.N_far (p := ⟨gb10020, 1, none⟩) (Kd.N_far (p := ⟨gb10020, 0, none⟩) (Kd.N_mono HO_3.out (fun k_ hk => (⟨hk, hk.2⟩ : _ ∧ k_ ≠ gb10020))) (fun _ hk => hk.2) (.string t10018)) (fun _ hk => hk.2) (.string t10019)) (fun _ h_ => h_.1)))) k_ hk, Kd.freshB (g := gb10001) (o := .cells #[.string a0_0, .string a0_1, .slice A0_2 l0_2.length c0_2, .slice A0_3 l0_3.length c0_3, .slice A0_4 l0_4.length c0_4, .slice A0_5 l0_5.length c0_5] 36 (0, 0)) (by (with_reducible repeat (first | refine blk_drewN ?_ _ | refine blk_drew ?_ | refine blk_alloc ?_ _)); refine blk_far ?_ NB10001_10020.out _; (with_reducible repeat (first | refine blk_drewN ?_ _ | refine blk_drew ?_ | refine blk_alloc ?_ _)); refine blk_far ?_ NB10001_10020.out _; (with_reducible repeat (first | refine blk_drewN ?_ _ | refine blk_drew ?_ | refine blk_alloc ?_ _)); exact BK10001.out) k_ hk, Kd.freshB (g := gb10020) (o := .cells #[.string t10018, .string t10019] 33 (0, 0)) (by (with_reducible repeat (first | refine blk_drewN ?_ _ | refine blk_drew ?_ | refine blk_alloc ?_ _)); refine blk_put (cs := #[.string t10018, .string (⟨#[]⟩ : ByteArray)]) ?_ 1 _ rfl; (with_reducible repeat (first | refine blk_drewN ?_ _ | refine blk_drew ?_ | refine blk_alloc ?_ _)); refine blk_put (cs := #[.string (⟨#[]⟩ : ByteArray), .string (⟨#[]⟩ : ByteArray)]) ?_ 0 _ rfl; (with_reducible repeat (first | refine blk_drewN ?_ _ | refine blk_drew ?_ | refine blk_alloc ?_ _)); exact BK10020.out) k_ hk⟩) _ (by first | exact Nat.le_refl _ | simp)) (Below.refl _ _) (Nat.le_refl _) (by simp) ?_; (case hd => rfl); (case hg => rfl); (case hr => first | (go_simp; done) | (go_simp; rfl)); (case hp => exact (Reps.none _ _)); intro v10022 w36 ho37 hb hg_ hnew_; clear hg_ hnew_; (first | rw [← Ny10021.out] at ho37 | (simp only [Int.reduceToNat] at ho37; rw [← Ny10021.out] at ho37)); have n0_ := Aside0.mk (Kd.N_elder' (by (with_reducible repeat (first | apply Kd.N_alloc | apply Kd.N_drewN | apply Kd.N_drew | apply Kd.S_alloc | apply Kd.S_drewN | apply Kd.S_drew)); exact (Kd.N_mono (Kd.N_far (p := ⟨gb10020, 1, none⟩) (Kd.N_far (p := ⟨gb10020, 0, none⟩) (Kd.N_mono HO_3.out (fun k_ hk => (⟨hk, hk.2⟩ : _ ∧ k_ ≠ gb10020))) (fun _ hk => hk.2) (.string t10018)) (fun _ hk => hk.2) (.string t10019)) (fun _ h_ => h_.1))) (Kd.S_base ho37) hb); have n1_ := Aside0.mk (Kd.V_elder' (by (with_reducible repeat (first | apply Kd.V_alloc | apply Kd.V_drewN | apply Kd.V_drew)); exact (Kd.V_mono (Kd.V_far (p := ⟨gb10020, 1, none⟩) (Kd.V_far (p := ⟨gb10020, 0, none⟩) (Kd.V_mono HO_21.out (fun k_ hk => (⟨hk, hk.2⟩ : _ ∧ k_ ≠ gb10020))) (fun _ hk => hk.2) (.string t10018)) (fun _ hk => hk.2) (.string t10019)) (fun _ h_ => h_.1))) (Kd.S_base ho37) hb); have n2_ := Aside0.mk (Kd.V_elder' (by (with_reducible repeat (first | apply Kd.V_alloc | apply Kd.V_drewN | apply Kd.V_drew)); exact (Kd.V_mono (Kd.V_far (p := ⟨gb10020, 1, none⟩) (Kd.V_far (p := ⟨gb10020, 0, none⟩) (Kd.V_mono HO_10002005.out (fun k_ hk => (⟨hk, hk.2⟩ : _ ∧ k_ ≠ gb10020))) (fun _ hk => hk.2) (.string t10018)) (fun _ hk => hk.2) (.string t10019)) (fun _ h_ => h_.1))) (Kd.S_base ho37) hb); have n3_ := Aside0.mk (Kd.S_lower ho37 (below_size (by repeat (first | (with_reducible first | exact HB.out | apply below_alloc | apply pw_below_drewN | apply below_drew1 | refine below_set ?_ GE10001.out | refine below_set ?_ GE10020.out) | exact HB.out)))); have n4_ := Aside0.mk (blk_below (g := gb10001) (o := .cells #[.string a0_0, .string a0_1, .slice A0_2 l0_2.length c0_2, .slice A0_3 l0_3.length c0_3, .slice A0_4 l0_4.length c0_4, .slice A0_5 l0_5.length c0_5] 36 (0, 0)) (by (with_reducible repeat (first | refine blk_drewN ?_ _ | refine blk_drew ?_ | refine blk_alloc ?_ _)); refine blk_far ?_ NB10001_10020.out _; (with_reducible repeat (first | refine blk_drewN ?_ _ | refine blk_drew ?_ | refine blk_alloc ?_ _)); refine blk_far ?_ NB10001_10020.out _; (with_reducible repeat (first | refine blk_drewN ?_ _ | refine blk_drew ?_ | refine blk_alloc ?_ _)); exact BK10001.out) hb); have n5_ := Aside0.mk (blk_below (g := gb10020) (o := .cells #[.string t10018, .string t10019] 33 (0, 0)) (by (with_reducible repeat (first | refine blk_drewN ?_ _ | refine blk_drew ?_ | refine blk_alloc ?_ _)); refine blk_put (cs := #[.string t10018, .string (⟨#[]⟩ : ByteArray)]) ?_ 1 _ rfl; (with_reducible repeat (first | refine blk_drewN ?_ _ | refine blk_drew ?_ | refine blk_alloc ?_ _)); refine blk_put (cs := #[.string (⟨#[]⟩ : ByteArray), .string (⟨#[]⟩ : ByteArray)]) ?_ 0 _ rfl; (with_reducible repeat (first | refine blk_drewN ?_ _ | refine blk_drew ?_ | refine blk_alloc ?_ _)); exact BK10020.out) hb); have n6_ := Aside0.mk (below_step (by repeat (first | (with_reducible first | exact HB.out | apply below_alloc | apply pw_below_drewN | apply below_drew1 | refine below_set ?_ GE10001.out | refine below_set ?_ GE10020.out) | exact HB.out)) hb); clear HO_3; clear HO_21; clear HO_10002005; clear BK10001; clear BK10020; clear HB; have HO_3 := n0_; have HO_21 := n1_; have HO_10002005 := n2_; have HO10023 := n3_; have BK10001 := n4_; have BK10020 := n5_; have HB := n6_; clear n0_ n1_ n2_ n3_ n4_ n5_ n6_; clear hb ho37; obtain ⟨Ao38, co38, eo38⟩ := Kd.N_slice HO_3.out; subst eo38; have p10024 : 0 ≤ (0 : Int) := (by omega); have q10024 : 0 < (x3_1.length : Int) := of_decide_eq_true (by first | (with_reducible assumption) | assumption); obtain ⟨ad10024, A10024_0, c10024_0, e10024, hx10024_0, hl10024_0, hi10024_0⟩ := at_L1 (Kd.N_reads' HO_3.out).2.2 0 p10024 q10024; cases e10024; obtain ⟨ce10024, hce10024, hMe10024, hcc10024⟩ := Kd.N_get HO_3.out [] 0 p10024 (by first | exact q10024 | exact of_decide_eq_true (by first | (with_reducible assumption) | assumption) | (have e_ := (Kd.N_reads' HO_3.out).1; omega)); obtain ⟨ua10024_0, uc10024_0, rfl, ul10024_0, ge10024_0⟩ := Kd.FK_slice_open hMe10024; have hv10024_0 := hcc10024 0 _ rfl; rw [Nat.add_zero, show ((Kd.slice 3 (Kd.int .i64))).sz = 1 from rfl, Nat.mul_one] at hv10024_0; replace hv10024_0 := Option.some.inj (hv10024_0.symm.trans hx10024_0); injection hv10024_0 with hva_ hvn_ hvc_; rw [hva_] at ge10024_0; rw [hvc_] at ul10024_0; have HL10024_0 := Aside0.mk (show Kd.V (Kd.int .i64) 3 _ w.heap.size _ _ (rd_L1 x3_1 0) from Kd.V_mk ul10024_0 ge10024_0); clear hva_ hvn_ hvc_ ge10024_0 ul10024_0; clear hcc10024 hce10024; have qi10024 : (0 < x3_1.length) = True := eq_true (by omega); (try rw [show ((0 : Int)).toNat = 0 from rfl] at hx10024_0); (try rw [Addr.add_zero'] at hx10024_0); have HR10024_0 := Aside0.mk hi10024_0; have HC10024_0 := Aside0.mk hl10024_0; clear hi10024_0 hl10024_0; replace p10024 := eq_true p10024; replace q10024 := eq_true q10024)))
       first | go_loopg [8, 64] k1 (fun kq v8 v64 w' => ∃ (x8_2 : List (S89)) (x64_2 : Int), v64 = .int .i64 x64_2 ∧ Aside0 (impl_StartStates.l1 kq x3_1 x8_2 (rd_L1 x3_1 0) ((rd_L1 x3_1 0).length : Int) x64_2 t10018 t10019 = some r) ∧ Aside0 (kq ≤ k1) ∧ Aside0 (Kd.N (Kd.slice 3 (Kd.int .i64)) 25 w' w.heap.size (fun k_ => (P0_5_ k_ ∨ w.heap.size ≤ k_) ∧ some k_ ≠ (v8 : Value).ownBlock ∧ k_ ≠ gb10001 ∧ k_ ≠ gb10020) (.slice (some ad10024) x3_1.length co38) x3_1) ∧ Aside0 (Kd.S k89 89 w' w.heap.size (fun k_ => (P0_5_ k_ ∨ w.heap.size ≤ k_) ∧ some k_ ≠ ((.slice (some ad10024) x3_1.length co38) : Value).ownBlock ∧ k_ ≠ gb10001 ∧ k_ ≠ gb10020) v8 x8_2) ∧ Aside0 (Kd.V (Kd.slice 3 (Kd.int .i64)) 25 w' w.heap.size (fun k_ => (P0_5_ k_ ∨ w.heap.size ≤ k_) ∧ some k_ ≠ ((.slice (some ad10024) x3_1.length co38) : Value).ownBlock ∧ some k_ ≠ (v8 : Value).ownBlock ∧ k_ ≠ gb10001 ∧ k_ ≠ gb10020) (.slice A0_5 l0_5.length c0_5) l0_5) ∧ Aside0 (w'.heap[gb10001]? = some (.cells #[.string a0_0, .string a0_1, (.slice A0_2 l0_2.length c0_2), (.slice A0_3 l0_3.length c0_3), (.slice A0_4 l0_4.length c0_4), (.slice A0_5 l0_5.length c0_5)] 36 (0, 0))) ∧ Aside0 (w'.heap[gb10020]? = some (.cells #[.string t10018, .string t10019] 33 (0, 0))) ∧ Aside0 (Below w.heap.size w w') ∧ Aside0 (Kd.F (Kd.int .i64) w' (fun k_ => True ∧ some k_ ≠ (v8 : Value).ownBlock) A10024_0 (rd_L1 x3_1 0).length (rd_L1 x3_1 0))) | (simp only [Act.put, List.setIfInBounds_toArray, List.set_cons_succ, List.set_cons_zero]; go_loopg [8, 64] k1 (fun kq v8 v64 w' => ∃ (x8_2 : List (S89)) (x64_2 : Int), v64 = .int .i64 x64_2 ∧ Aside0 (impl_StartStates.l1 kq x3_1 x8_2 (rd_L1 x3_1 0) ((rd_L1 x3_1 0).length : Int) x64_2 t10018 t10019 = some r) ∧ Aside0 (kq ≤ k1) ∧ Aside0 (Kd.N (Kd.slice 3 (Kd.int .i64)) 25 w' w.heap.size (fun k_ => (P0_5_ k_ ∨ w.heap.size ≤ k_) ∧ some k_ ≠ (v8 : Value).ownBlock ∧ k_ ≠ gb10001 ∧ k_ ≠ gb10020) (.slice (some ad10024) x3_1.length co38) x3_1) ∧ Aside0 (Kd.S k89 89 w' w.heap.size (fun k_ => (P0_5_ k_ ∨ w.heap.size ≤ k_) ∧ some k_ ≠ ((.slice (some ad10024) x3_1.length co38) : Value).ownBlock ∧ k_ ≠ gb10001 ∧ k_ ≠ gb10020) v8 x8_2) ∧ Aside0 (Kd.V (Kd.slice 3 (Kd.int .i64)) 25 w' w.heap.size (fun k_ => (P0_5_ k_ ∨ w.heap.size ≤ k_) ∧ some k_ ≠ ((.slice (some ad10024) x3_1.length co38) : Value).ownBlock ∧ some k_ ≠ (v8 : Value).ownBlock ∧ k_ ≠ gb10001 ∧ k_ ≠ gb10020) (.slice A0_5 l0_5.length c0_5) l0_5) ∧ Aside0 (w'.heap[gb10001]? = some (.cells #[.string a0_0, .string a0_1, (.slice A0_2 l0_2.length c0_2), (.slice A0_3 l0_3.length c0_3), (.slice A0_4 l0_4.length c0_4), (.slice A0_5 l0_5.length c0_5)] 36 (0, 0))) ∧ Aside0 (w'.heap[gb10020]? = some (.cells #[.string t10018, .string t10019] 33 (0, 0))) ∧ Aside0 (Below w.heap.size w w') ∧ Aside0 (Kd.F (Kd.int .i64) w' (fun k_ => True ∧ some k_ ≠ (v8 : Value).ownBlock) A10024_0 (rd_L1 x3_1 0).length (rd_L1 x3_1 0))))
       case atStart => exact ⟨(y10021), (0), (by first | rfl | (simp; done) | (simp [*]; done)), H', ⟨Nat.le_refl _⟩, ⟨by (with_reducible repeat (first | apply Kd.N_alloc | apply Kd.N_drewN | apply Kd.N_drew | apply Kd.S_alloc | apply Kd.S_drewN | apply Kd.S_drew)); exact Kd.N_mono HO_3.out (fun _ hk => ⟨hk.1.1.1, ⟨hk.2, ⟨hk.1.1.2, hk.1.2⟩⟩⟩)⟩, ⟨by (with_reducible repeat (first | apply Kd.N_alloc | apply Kd.N_drewN | apply Kd.N_drew | apply Kd.S_alloc | apply Kd.S_drewN | apply Kd.S_drew)); exact HO10023.out⟩, ⟨by (with_reducible repeat (first | apply Kd.V_alloc | apply Kd.V_drewN | apply Kd.V_drew)); exact Kd.V_mono HO_10002005.out (fun _ hk => ⟨hk.1.1.1, ⟨hk.1.1.2.1, ⟨hk.2, ⟨hk.1.1.2.2, hk.1.2⟩⟩⟩⟩)⟩, ⟨by (with_reducible repeat (first | refine blk_drewN ?_ _ | refine blk_drew ?_ | refine blk_alloc ?_ _)); exact BK10001.out⟩, ⟨by (with_reducible repeat (first | refine blk_drewN ?_ _ | refine blk_drew ?_ | refine blk_alloc ?_ _)); exact BK10020.out⟩, ⟨by repeat (first | (with_reducible first | exact HB.out | apply below_alloc | apply pw_below_drewN | apply below_drew1 | refine below_set ?_ GE10001.out | refine below_set ?_ GE10020.out) | exact HB.out)⟩, ⟨by (with_reducible repeat (first | apply Kd.F_alloc | apply Kd.F_drewN | apply Kd.F_drew)); exact Kd.F_mono (Kd.V_at (base := w.heap.size) HL10024_0.out).2.2 (fun k_ hk => ⟨trivial, hk.1.2⟩)⟩⟩
       case round =>
        clear H'
        try clear c1
        try clear p1
        try clear q1
        try clear hx1
        try clear qi1
        try clear c2
        try clear c2b0
        try clear c2b1
        try clear p2
        try clear q2
        try clear c3
        try clear p6
        try clear c8
        try clear c8b0
        try clear c9
        try clear c9b0
        try clear c10
        try clear c10b0
        try clear p10
        try clear q10
        try clear hx10
        try clear qi10
        try clear c11
        try clear c11b0
        try clear c11b1
        try clear c11b2
        try clear c12
        try clear c12b0
        try clear p13
        try clear q13
        try clear hx13
        try clear c15
        try clear c15b0
        try clear c17
        try clear c17b0
        try clear c17b1
        try clear c18
        try clear c18b0
        try clear c18b1
        try clear c19
        try clear q22
        try clear c24
        try clear c28
        try clear c28b0
        try clear c30
        try clear c30b0
        try clear c30b1
        try clear c34
        try clear hcz21_0
        try clear hcz21_1
        try clear hcz21_2
        try clear hcz21_3
        try clear hcz21_4
        try clear hcz21_5
        try clear hcz26_0
        try clear hcz26_1
        try clear hcz26_2
        try clear hcz26_3
        try clear hcz26_4
        try clear hcz26_5
        try clear hcz31_0
        try clear hcz31_1
        try clear hcz31_2
        try clear hcz31_3
        try clear hcz31_4
        try clear hcz31_5
        try clear hcz35_0
        try clear hcz35_1
        try clear hcz4_0
        try clear hcz4_1
        try clear hcz4_2
        try clear hcz4_3
        try clear hcz4_4
        try clear hcz4_5
        try clear hcz7_0
        try clear hcz7_1
        try clear hcz7_2
        try clear hcz7_3
        try clear hcz7_4
        try clear hcz7_5
        try clear hfz21_0
        try clear hfz21_1
        try clear hfz21_2
        try clear hfz21_3
        try clear hfz21_4
        try clear hfz21_5
        try clear hfz26_0
        try clear hfz26_1
        try clear hfz26_2
        try clear hfz26_3
        try clear hfz26_4
        try clear hfz26_5
        try clear hfz31_0
        try clear hfz31_1
        try clear hfz31_2
        try clear hfz31_3
        try clear hfz31_4
        try clear hfz31_5
        try clear hfz35_0
        try clear hfz35_1
        try clear hfz4_0
        try clear hfz4_1
        try clear hfz4_2
        try clear hfz4_3
        try clear hfz4_4
        try clear hfz4_5
        try clear hfz7_0
        try clear hfz7_1
        try clear hfz7_2
        try clear hfz7_3
        try clear hfz7_4
        try clear hfz7_5
        try clear hx10005_0
        try clear hx10024_0
        try clear p10005
        try clear p10024
        try clear p13
        try clear p2
        try clear q10005
        try clear q10024
        try clear q13
        try clear q22
        obtain ⟨x8_2, x64_2, rfl, HA, HK2, HO_3, HO_8, HO_10002005, BK10001, BK10020, HB, HF0⟩ := hrel
        cases gk with
        | zero => exact absurd HA.out (by simp [impl_StartStates.l1])
        | succ k2 =>
         have H := HA.out
         clear HA
         simp only [impl_StartStates.l1] at H
         by_cases c39 : x64_2 < ((rd_L1 x3_1 0).length : Int)
         ·rw [if_pos c39] at H
          have c39b0 : decide (x64_2 < ((rd_L1 x3_1 0).length : Int)) = true := decide_eq_true c39
          clear c39
          by_cases c40 : 0 ≤ x64_2
          ·rw [if_pos c40] at H
           have c40b0 : decide (0 ≤ x64_2) = true := decide_eq_true c40
           clear c40
           by_cases c41 : x64_2 < ((rd_L1 x3_1 0).length : Int)
           ·rw [if_pos c41] at H
            have c41b0 : decide (x64_2 < ((rd_L1 x3_1 0).length : Int)) = true := decide_eq_true c41
            clear c41
            by_cases c42 : 1 < (x3_1.length : Int)
            ·rw [if_pos c42] at H
             have c42b0 : decide (1 < (x3_1.length : Int)) = true := decide_eq_true c42
             have c42b1 : decide (1 < x3_1.length) = true := decide_eq_true (by omega)
             clear c42
             have H' := Aside0.mk H
             clear H
             have p10025 : 0 ≤ (x64_2 : Int) := of_decide_eq_true (by first | (with_reducible assumption) | assumption)
             have q10025 : x64_2 < ((rd_L1 x3_1 0).length : Int) := of_decide_eq_true (by first | (with_reducible assumption) | assumption)
             obtain ⟨ad10025, e10025, hx10025_0⟩ := Kd.at_int (Kd.F_now HF0.out) x64_2 p10025 q10025
             cases e10025
             skip
             replace p10025 := eq_true p10025
             replace q10025 := eq_true q10025
             have p10026 : 0 ≤ (1 : Int) := (by omega)
             have q10026 : 1 < (x3_1.length : Int) := of_decide_eq_true (by first | (with_reducible assumption) | assumption)
             obtain ⟨ad10026, A10026_0, c10026_0, e10026, hx10026_0, hl10026_0, hi10026_0⟩ := at_L1 (Kd.N_reads' HO_3.out).2.2 1 p10026 q10026
             obtain rfl : ad10024 = ad10026 := (by injection e10026)
             obtain ⟨ce10026, hce10026, hMe10026, hcc10026⟩ := Kd.N_get HO_3.out [] 1 p10026 (by first | exact q10026 | exact of_decide_eq_true (by first | (with_reducible assumption) | assumption) | (have e_ := (Kd.N_reads' HO_3.out).1; omega))
             obtain ⟨ua10026_0, uc10026_0, rfl, ul10026_0, ge10026_0⟩ := Kd.FK_slice_open hMe10026
             have hv10026_0 := hcc10026 0 _ rfl
             rw [Nat.add_zero, show ((Kd.slice 3 (Kd.int .i64))).sz = 1 from rfl, Nat.mul_one] at hv10026_0
             replace hv10026_0 := Option.some.inj (hv10026_0.symm.trans hx10026_0)
             injection hv10026_0 with hva_ hvn_ hvc_
             rw [hva_] at ge10026_0
             rw [hvc_] at ul10026_0
             have HL10026_0 := Aside0.mk (show Kd.V (Kd.int .i64) 3 _ w.heap.size _ _ (rd_L1 x3_1 1) from Kd.V_mk ul10026_0 ge10026_0)
             clear hva_ hvn_ hvc_ ge10026_0 ul10026_0
             clear hcc10026 hce10026
             (try simp only [show (1 : Int).toNat = 1 from rfl, Nat.reduceMul, Nat.reduceEqDiff, Go.Addr.add, ↓reduceIte] at hx10026_0)
             have qi10026 : (1 < x3_1.length) = True := eq_true (by omega)
             (try rw [show ((1 : Int)).toNat = 1 from rfl] at hx10026_0)
             have HR10026_0 := Aside0.mk hi10026_0
             have HC10026_0 := Aside0.mk hl10026_0
             clear hi10026_0 hl10026_0
             replace p10026 := eq_true p10026
             replace q10026 := eq_true q10026
             go_wp2
             repeat (go_quiet (fail); try go_wp2)
             first | go_loopg [8, 72] k2 (fun kq v8 v72 w' => ∃ (x8_3 : List (S89)) (x72_3 : Int), v72 = .int .i64 x72_3 ∧ Aside0 (impl_StartStates.l2 kq x3_1 x8_3 (rd (rd_L1 x3_1 0) x64_2) (rd_L1 x3_1 0) ((rd_L1 x3_1 0).length : Int) x64_2 (rd_L1 x3_1 1) ((rd_L1 x3_1 1).length : Int) x72_3 t10018 t10019 = some r) ∧ Aside0 (kq ≤ k2) ∧ Aside0 (Kd.N (Kd.slice 3 (Kd.int .i64)) 25 w' w.heap.size (fun k_ => (P0_5_ k_ ∨ w.heap.size ≤ k_) ∧ some k_ ≠ (v8 : Value).ownBlock ∧ k_ ≠ gb10001 ∧ k_ ≠ gb10020) (.slice (some ad10024) x3_1.length co38) x3_1) ∧ Aside0 (Kd.S k89 89 w' w.heap.size (fun k_ => (P0_5_ k_ ∨ w.heap.size ≤ k_) ∧ some k_ ≠ ((.slice (some ad10024) x3_1.length co38) : Value).ownBlock ∧ k_ ≠ gb10001 ∧ k_ ≠ gb10020) v8 x8_3) ∧ Aside0 (Kd.V (Kd.slice 3 (Kd.int .i64)) 25 w' w.heap.size (fun k_ => (P0_5_ k_ ∨ w.heap.size ≤ k_) ∧ some k_ ≠ ((.slice (some ad10024) x3_1.length co38) : Value).ownBlock ∧ some k_ ≠ (v8 : Value).ownBlock ∧ k_ ≠ gb10001 ∧ k_ ≠ gb10020) (.slice A0_5 l0_5.length c0_5) l0_5) ∧ Aside0 (w'.heap[gb10001]? = some (.cells #[.string a0_0, .string a0_1, (.slice A0_2 l0_2.length c0_2), (.slice A0_3 l0_3.length c0_3), (.slice A0_4 l0_4.length c0_4), (.slice A0_5 l0_5.length c0_5)] 36 (0, 0))) ∧ Aside0 (w'.heap[gb10020]? = some (.cells #[.string t10018, .string t10019] 33 (0, 0))) ∧ Aside0 (Below w.heap.size w w') ∧ Aside0 (Kd.F (Kd.int .i64) w' (fun k_ => True ∧ some k_ ≠ (v8 : Value).ownBlock) (some ad10025) (rd_L1 x3_1 0).length (rd_L1 x3_1 0)) ∧ Aside0 (Kd.F (Kd.int .i64) w' (fun k_ => True ∧ some k_ ≠ (v8 : Value).ownBlock) A10026_0 (rd_L1 x3_1 1).length (rd_L1 x3_1 1))) | (simp only [Act.put, List.setIfInBounds_toArray, List.set_cons_succ, List.set_cons_zero]; go_loopg [8, 72] k2 (fun kq v8 v72 w' => ∃ (x8_3 : List (S89)) (x72_3 : Int), v72 = .int .i64 x72_3 ∧ Aside0 (impl_StartStates.l2 kq x3_1 x8_3 (rd (rd_L1 x3_1 0) x64_2) (rd_L1 x3_1 0) ((rd_L1 x3_1 0).length : Int) x64_2 (rd_L1 x3_1 1) ((rd_L1 x3_1 1).length : Int) x72_3 t10018 t10019 = some r) ∧ Aside0 (kq ≤ k2) ∧ Aside0 (Kd.N (Kd.slice 3 (Kd.int .i64)) 25 w' w.heap.size (fun k_ => (P0_5_ k_ ∨ w.heap.size ≤ k_) ∧ some k_ ≠ (v8 : Value).ownBlock ∧ k_ ≠ gb10001 ∧ k_ ≠ gb10020) (.slice (some ad10024) x3_1.length co38) x3_1) ∧ Aside0 (Kd.S k89 89 w' w.heap.size (fun k_ => (P0_5_ k_ ∨ w.heap.size ≤ k_) ∧ some k_ ≠ ((.slice (some ad10024) x3_1.length co38) : Value).ownBlock ∧ k_ ≠ gb10001 ∧ k_ ≠ gb10020) v8 x8_3) ∧ Aside0 (Kd.V (Kd.slice 3 (Kd.int .i64)) 25 w' w.heap.size (fun k_ => (P0_5_ k_ ∨ w.heap.size ≤ k_) ∧ some k_ ≠ ((.slice (some ad10024) x3_1.length co38) : Value).ownBlock ∧ some k_ ≠ (v8 : Value).ownBlock ∧ k_ ≠ gb10001 ∧ k_ ≠ gb10020) (.slice A0_5 l0_5.length c0_5) l0_5) ∧ Aside0 (w'.heap[gb10001]? = some (.cells #[.string a0_0, .string a0_1, (.slice A0_2 l0_2.length c0_2), (.slice A0_3 l0_3.length c0_3), (.slice A0_4 l0_4.length c0_4), (.slice A0_5 l0_5.length c0_5)] 36 (0, 0))) ∧ Aside0 (w'.heap[gb10020]? = some (.cells #[.string t10018, .string t10019] 33 (0, 0))) ∧ Aside0 (Below w.heap.size w w') ∧ Aside0 (Kd.F (Kd.int .i64) w' (fun k_ => True ∧ some k_ ≠ (v8 : Value).ownBlock) (some ad10025) (rd_L1 x3_1 0).length (rd_L1 x3_1 0)) ∧ Aside0 (Kd.F (Kd.int .i64) w' (fun k_ => True ∧ some k_ ≠ (v8 : Value).ownBlock) A10026_0 (rd_L1 x3_1 1).length (rd_L1 x3_1 1))))
             case atStart => exact ⟨(x8_2), (0), (by first | rfl | (simp; done) | (simp [*]; done)), H', ⟨Nat.le_refl _⟩, ⟨by (with_reducible repeat (first | apply Kd.N_alloc | apply Kd.N_drewN | apply Kd.N_drew | apply Kd.S_alloc | apply Kd.S_drewN | apply Kd.S_drew)); exact HO_3.out⟩, ⟨by (with_reducible repeat (first | apply Kd.N_alloc | apply Kd.N_drewN | apply Kd.N_drew | apply Kd.S_alloc | apply Kd.S_drewN | apply Kd.S_drew)); exact HO_8.out⟩, ⟨by (with_reducible repeat (first | apply Kd.V_alloc | apply Kd.V_drewN | apply Kd.V_drew)); exact HO_10002005.out⟩, ⟨by (with_reducible repeat (first | refine blk_drewN ?_ _ | refine blk_drew ?_ | refine blk_alloc ?_ _)); exact BK10001.out⟩, ⟨by (with_reducible repeat (first | refine blk_drewN ?_ _ | refine blk_drew ?_ | refine blk_alloc ?_ _)); exact BK10020.out⟩, ⟨by repeat (first | (with_reducible first | exact HB.out | apply below_alloc | apply pw_below_drewN | apply below_drew1 | refine below_set ?_ GE10001.out | refine below_set ?_ GE10020.out) | exact HB.out)⟩, ⟨by (with_reducible repeat (first | apply Kd.F_alloc | apply Kd.F_drewN | apply Kd.F_drew)); exact HF0.out⟩, ⟨by (with_reducible repeat (first | apply Kd.F_alloc | apply Kd.F_drewN | apply Kd.F_drew)); exact Kd.F_mono (Kd.V_at (base := w.heap.size) HL10026_0.out).2.2 (fun k_ hk => ⟨trivial, hk.1.2.1⟩)⟩⟩
             case round =>
              clear H'
              try clear c1
              try clear p1
              try clear q1
              try clear hx1
              try clear qi1
              try clear c2
              try clear c2b0
              try clear c2b1
              try clear p2
              try clear q2
              try clear c3
              try clear c4
              try clear p6
              try clear c8
              try clear c8b0
              try clear c9
              try clear c9b0
              try clear c10
              try clear c10b0
              try clear p10
              try clear q10
              try clear hx10
              try clear qi10
              try clear c11
              try clear c11b0
              try clear c11b1
              try clear c11b2
              try clear c12
              try clear c12b0
              try clear p13
              try clear q13
              try clear hx13
              try clear c15
              try clear c15b0
              try clear c17
              try clear c17b0
              try clear c17b1
              try clear c18
              try clear c18b0
              try clear c18b1
              try clear c19
              try clear q22
              try clear c24
              try clear c28
              try clear c28b0
              try clear c30
              try clear c30b0
              try clear c30b1
              try clear c34
              try clear c39
              try clear c39b0
              try clear c40
              try clear c40b0
              try clear c41
              try clear c41b0
              try clear c42
              try clear c42b0
              try clear c42b1
              try clear hcz21_0
              try clear hcz21_1
              try clear hcz21_2
              try clear hcz21_3
              try clear hcz21_4
              try clear hcz21_5
              try clear hcz26_0
              try clear hcz26_1
              try clear hcz26_2
              try clear hcz26_3
              try clear hcz26_4
              try clear hcz26_5
              try clear hcz31_0
              try clear hcz31_1
              try clear hcz31_2
              try clear hcz31_3
              try clear hcz31_4
              try clear hcz31_5
              try clear hcz35_0
              try clear hcz35_1
              try clear hcz4_0
              try clear hcz4_1
              try clear hcz4_2
              try clear hcz4_3
              try clear hcz4_4
              try clear hcz4_5
              try clear hcz7_0
              try clear hcz7_1
              try clear hcz7_2
              try clear hcz7_3
              try clear hcz7_4
              try clear hcz7_5
              try clear hfz21_0
              try clear hfz21_1
              try clear hfz21_2
              try clear hfz21_3
              try clear hfz21_4
              try clear hfz21_5
              try clear hfz26_0
              try clear hfz26_1
              try clear hfz26_2
              try clear hfz26_3
              try clear hfz26_4
              try clear hfz26_5
              try clear hfz31_0
              try clear hfz31_1
              try clear hfz31_2
              try clear hfz31_3
              try clear hfz31_4
              try clear hfz31_5
              try clear hfz35_0
              try clear hfz35_1
              try clear hfz4_0
              try clear hfz4_1
              try clear hfz4_2
              try clear hfz4_3
              try clear hfz4_4
              try clear hfz4_5
              try clear hfz7_0
              try clear hfz7_1
              try clear hfz7_2
              try clear hfz7_3
              try clear hfz7_4
              try clear hfz7_5
              try clear hx10005_0
              try clear hx10024_0
              try clear hx10025_0
              try clear hx10026_0
              try clear p1
              try clear p10
              try clear p10005
              try clear p10024
              try clear p10025
              try clear p10026
              try clear p13
              try clear p2
              try clear p6
              try clear q1
              try clear q10
              try clear q10005
              try clear q10024
              try clear q10025
              try clear q10026
              try clear q13
              try clear q2
              try clear q22
              obtain ⟨x8_3, x72_3, rfl, HA, HK3, HO_3, HO_8, HO_10002005, BK10001, BK10020, HB, HF0, HF1⟩ := hrel
              cases gk with
              | zero => exact absurd HA.out (by simp [impl_StartStates.l2])
              | succ k3 =>
               have H := HA.out
               clear HA
               simp only [impl_StartStates.l2] at H
               by_cases c43 : x72_3 < ((rd_L1 x3_1 1).length : Int)
               ·rw [if_pos c43] at H
                have c43b0 : decide (x72_3 < ((rd_L1 x3_1 1).length : Int)) = true := decide_eq_true c43
                clear c43
                by_cases c44 : 0 ≤ x72_3
                ·rw [if_pos c44] at H
                 have c44b0 : decide (0 ≤ x72_3) = true := decide_eq_true c44
                 clear c44
                 by_cases c45 : x72_3 < ((rd_L1 x3_1 1).length : Int)
                 ·rw [if_pos c45] at H
                  have c45b0 : decide (x72_3 < ((rd_L1 x3_1 1).length : Int)) = true := decide_eq_true c45
                  clear c45
                  by_cases c46 : 2 < (x3_1.length : Int)
                  ·rw [if_pos c46] at H
                   have c46b0 : decide (2 < (x3_1.length : Int)) = true := decide_eq_true c46
                   have c46b1 : decide (2 < x3_1.length) = true := decide_eq_true (by omega)
                   clear c46
                   have H' := Aside0.mk H
                   clear H
                   have p10027 : 0 ≤ (x72_3 : Int) := of_decide_eq_true (by first | (with_reducible assumption) | assumption)
                   have q10027 : x72_3 < ((rd_L1 x3_1 1).length : Int) := of_decide_eq_true (by first | (with_reducible assumption) | assumption)
                   obtain ⟨ad10027, e10027, hx10027_0⟩ := Kd.at_int (Kd.F_now HF1.out) x72_3 p10027 q10027
                   cases e10027
                   skip
                   replace p10027 := eq_true p10027
                   replace q10027 := eq_true q10027
                   have p10028 : 0 ≤ (2 : Int) := (by omega)
                   have q10028 : 2 < (x3_1.length : Int) := of_decide_eq_true (by first | (with_reducible assumption) | assumption)
                   obtain ⟨ad10028, A10028_0, c10028_0, e10028, hx10028_0, hl10028_0, hi10028_0⟩ := at_L1 (Kd.N_reads' HO_3.out).2.2 2 p10028 q10028
                   obtain rfl : ad10024 = ad10028 := (by injection e10028)
                   obtain ⟨ce10028, hce10028, hMe10028, hcc10028⟩ := Kd.N_get HO_3.out [] 2 p10028 (by first | exact q10028 | exact of_decide_eq_true (by first | (with_reducible assumption) | assumption) | (have e_ := (Kd.N_reads' HO_3.out).1; omega))
                   obtain ⟨ua10028_0, uc10028_0, rfl, ul10028_0, ge10028_0⟩ := Kd.FK_slice_open hMe10028
                   have hv10028_0 := hcc10028 0 _ rfl
                   rw [Nat.add_zero, show ((Kd.slice 3 (Kd.int .i64))).sz = 1 from rfl, Nat.mul_one] at hv10028_0
                   replace hv10028_0 := Option.some.inj (hv10028_0.symm.trans hx10028_0)
                   injection hv10028_0 with hva_ hvn_ hvc_
                   rw [hva_] at ge10028_0
                   rw [hvc_] at ul10028_0
                   have HL10028_0 := Aside0.mk (show Kd.V (Kd.int .i64) 3 _ w.heap.size _ _ (rd_L1 x3_1 2) from Kd.V_mk ul10028_0 ge10028_0)
                   clear hva_ hvn_ hvc_ ge10028_0 ul10028_0
                   clear hcc10028 hce10028
                   (try simp only [show (2 : Int).toNat = 2 from rfl, Nat.reduceMul, Nat.reduceEqDiff, Go.Addr.add, ↓reduceIte] at hx10028_0)
                   have qi10028 : (2 < x3_1.length) = True := eq_true (by omega)
                   (try rw [show ((2 : Int)).toNat = 2 from rfl] at hx10028_0)
                   have HR10028_0 := Aside0.mk hi10028_0
                   have HC10028_0 := Aside0.mk hl10028_0
                   clear hi10028_0 hl10028_0
                   replace p10028 := eq_true p10028
                   replace q10028 := eq_true q10028
                   go_wp2
                   repeat (go_quiet (fail); try go_wp2)
                   first | go_loopg [8, 80] k3 (fun kq v8 v80 w' => ∃ (x8_4 : List (S89)) (x80_4 : Int), v80 = .int .i64 x80_4 ∧ Aside0 (impl_StartStates.l3 kq x3_1 x8_4 (rd (rd_L1 x3_1 0) x64_2) (rd (rd_L1 x3_1 1) x72_3) (rd_L1 x3_1 0) ((rd_L1 x3_1 0).length : Int) x64_2 (rd_L1 x3_1 1) ((rd_L1 x3_1 1).length : Int) x72_3 (rd_L1 x3_1 2) ((rd_L1 x3_1 2).length : Int) x80_4 t10018 t10019 = some r) ∧ Aside0 (kq ≤ k3) ∧ Aside0 (Kd.N (Kd.slice 3 (Kd.int .i64)) 25 w' w.heap.size (fun k_ => (P0_5_ k_ ∨ w.heap.size ≤ k_) ∧ some k_ ≠ (v8 : Value).ownBlock ∧ k_ ≠ gb10001 ∧ k_ ≠ gb10020) (.slice (some ad10024) x3_1.length co38) x3_1) ∧ Aside0 (Kd.S k89 89 w' w.heap.size (fun k_ => (P0_5_ k_ ∨ w.heap.size ≤ k_) ∧ some k_ ≠ ((.slice (some ad10024) x3_1.length co38) : Value).ownBlock ∧ k_ ≠ gb10001 ∧ k_ ≠ gb10020) v8 x8_4) ∧ Aside0 (Kd.V (Kd.slice 3 (Kd.int .i64)) 25 w' w.heap.size (fun k_ => (P0_5_ k_ ∨ w.heap.size ≤ k_) ∧ some k_ ≠ ((.slice (some ad10024) x3_1.length co38) : Value).ownBlock ∧ some k_ ≠ (v8 : Value).ownBlock ∧ k_ ≠ gb10001 ∧ k_ ≠ gb10020) (.slice A0_5 l0_5.length c0_5) l0_5) ∧ Aside0 (w'.heap[gb10001]? = some (.cells #[.string a0_0, .string a0_1, (.slice A0_2 l0_2.length c0_2), (.slice A0_3 l0_3.length c0_3), (.slice A0_4 l0_4.length c0_4), (.slice A0_5 l0_5.length c0_5)] 36 (0, 0))) ∧ Aside0 (w'.heap[gb10020]? = some (.cells #[.string t10018, .string t10019] 33 (0, 0))) ∧ Aside0 (Below w.heap.size w w') ∧ Aside0 (Kd.F (Kd.int .i64) w' (fun k_ => True ∧ some k_ ≠ (v8 : Value).ownBlock) (some ad10025) (rd_L1 x3_1 0).length (rd_L1 x3_1 0)) ∧ Aside0 (Kd.F (Kd.int .i64) w' (fun k_ => True ∧ some k_ ≠ (v8 : Value).ownBlock) (some ad10027) (rd_L1 x3_1 1).length (rd_L1 x3_1 1)) ∧ Aside0 (Kd.F (Kd.int .i64) w' (fun k_ => True ∧ some k_ ≠ (v8 : Value).ownBlock) A10028_0 (rd_L1 x3_1 2).length (rd_L1 x3_1 2))) | (simp only [Act.put, List.setIfInBounds_toArray, List.set_cons_succ, List.set_cons_zero]; go_loopg [8, 80] k3 (fun kq v8 v80 w' => ∃ (x8_4 : List (S89)) (x80_4 : Int), v80 = .int .i64 x80_4 ∧ Aside0 (impl_StartStates.l3 kq x3_1 x8_4 (rd (rd_L1 x3_1 0) x64_2) (rd (rd_L1 x3_1 1) x72_3) (rd_L1 x3_1 0) ((rd_L1 x3_1 0).length : Int) x64_2 (rd_L1 x3_1 1) ((rd_L1 x3_1 1).length : Int) x72_3 (rd_L1 x3_1 2) ((rd_L1 x3_1 2).length : Int) x80_4 t10018 t10019 = some r) ∧ Aside0 (kq ≤ k3) ∧ Aside0 (Kd.N (Kd.slice 3 (Kd.int .i64)) 25 w' w.heap.size (fun k_ => (P0_5_ k_ ∨ w.heap.size ≤ k_) ∧ some k_ ≠ (v8 : Value).ownBlock ∧ k_ ≠ gb10001 ∧ k_ ≠ gb10020) (.slice (some ad10024) x3_1.length co38) x3_1) ∧ Aside0 (Kd.S k89 89 w' w.heap.size (fun k_ => (P0_5_ k_ ∨ w.heap.size ≤ k_) ∧ some k_ ≠ ((.slice (some ad10024) x3_1.length co38) : Value).ownBlock ∧ k_ ≠ gb10001 ∧ k_ ≠ gb10020) v8 x8_4) ∧ Aside0 (Kd.V (Kd.slice 3 (Kd.int .i64)) 25 w' w.heap.size (fun k_ => (P0_5_ k_ ∨ w.heap.size ≤ k_) ∧ some k_ ≠ ((.slice (some ad10024) x3_1.length co38) : Value).ownBlock ∧ some k_ ≠ (v8 : Value).ownBlock ∧ k_ ≠ gb10001 ∧ k_ ≠ gb10020) (.slice A0_5 l0_5.length c0_5) l0_5) ∧ Aside0 (w'.heap[gb10001]? = some (.cells #[.string a0_0, .string a0_1, (.slice A0_2 l0_2.length c0_2), (.slice A0_3 l0_3.length c0_3), (.slice A0_4 l0_4.length c0_4), (.slice A0_5 l0_5.length c0_5)] 36 (0, 0))) ∧ Aside0 (w'.heap[gb10020]? = some (.cells #[.string t10018, .string t10019] 33 (0, 0))) ∧ Aside0 (Below w.heap.size w w') ∧ Aside0 (Kd.F (Kd.int .i64) w' (fun k_ => True ∧ some k_ ≠ (v8 : Value).ownBlock) (some ad10025) (rd_L1 x3_1 0).length (rd_L1 x3_1 0)) ∧ Aside0 (Kd.F (Kd.int .i64) w' (fun k_ => True ∧ some k_ ≠ (v8 : Value).ownBlock) (some ad10027) (rd_L1 x3_1 1).length (rd_L1 x3_1 1)) ∧ Aside0 (Kd.F (Kd.int .i64) w' (fun k_ => True ∧ some k_ ≠ (v8 : Value).ownBlock) A10028_0 (rd_L1 x3_1 2).length (rd_L1 x3_1 2))))
                   case atStart => exact ⟨(x8_3), (0), (by first | rfl | (simp; done) | (simp [*]; done)), H', ⟨Nat.le_refl _⟩, ⟨by (with_reducible repeat (first | apply Kd.N_alloc | apply Kd.N_drewN | apply Kd.N_drew | apply Kd.S_alloc | apply Kd.S_drewN | apply Kd.S_drew)); exact HO_3.out⟩, ⟨by (with_reducible repeat (first | apply Kd.N_alloc | apply Kd.N_drewN | apply Kd.N_drew | apply Kd.S_alloc | apply Kd.S_drewN | apply Kd.S_drew)); exact HO_8.out⟩, ⟨by (with_reducible repeat (first | apply Kd.V_alloc | apply Kd.V_drewN | apply Kd.V_drew)); exact HO_10002005.out⟩, ⟨by (with_reducible repeat (first | refine blk_drewN ?_ _ | refine blk_drew ?_ | refine blk_alloc ?_ _)); exact BK10001.out⟩, ⟨by (with_reducible repeat (first | refine blk_drewN ?_ _ | refine blk_drew ?_ | refine blk_alloc ?_ _)); exact BK10020.out⟩, ⟨by repeat (first | (with_reducible first | exact HB.out | apply below_alloc | apply pw_below_drewN | apply below_drew1 | refine below_set ?_ GE10001.out | refine below_set ?_ GE10020.out) | exact HB.out)⟩, ⟨by (with_reducible repeat (first | apply Kd.F_alloc | apply Kd.F_drewN | apply Kd.F_drew)); exact HF0.out⟩, ⟨by (with_reducible repeat (first | apply Kd.F_alloc | apply Kd.F_drewN | apply Kd.F_drew)); exact HF1.out⟩, ⟨by (with_reducible repeat (first | apply Kd.F_alloc | apply Kd.F_drewN | apply Kd.F_drew)); exact Kd.F_mono (Kd.V_at (base := w.heap.size) HL10028_0.out).2.2 (fun k_ hk => ⟨trivial, hk.1.2.1⟩)⟩⟩
                   case round =>
                    clear H'
                    try clear c1
                    try clear p1
                    try clear q1
                    try clear hx1
                    try clear qi1
                    try clear c2
                    try clear c2b0
                    try clear c2b1
                    try clear p2
                    try clear q2
                    try clear c3
                    try clear c4
                    try clear p6
                    try clear c8
                    try clear c8b0
                    try clear c9
                    try clear c9b0
                    try clear c10
                    try clear c10b0
                    try clear p10
                    try clear q10
                    try clear hx10
                    try clear qi10
                    try clear c11
                    try clear c11b0
                    try clear c11b1
                    try clear c11b2
                    try clear c12
                    try clear c12b0
                    try clear p13
                    try clear q13
                    try clear hx13
                    try clear c15
                    try clear c15b0
                    try clear c17
                    try clear c17b0
                    try clear c17b1
                    try clear c18
                    try clear c18b0
                    try clear c18b1
                    try clear c19
                    try clear q22
                    try clear c24
                    try clear c28
                    try clear c28b0
                    try clear c30
                    try clear c30b0
                    try clear c30b1
                    try clear c34
                    try clear c39
                    try clear c39b0
                    try clear c40
                    try clear c40b0
                    try clear c41
                    try clear c41b0
                    try clear c42
                    try clear c42b0
                    try clear c42b1
                    try clear c43
                    try clear c43b0
                    try clear c44
                    try clear c44b0
                    try clear c45
                    try clear c45b0
                    try clear c46
                    try clear c46b0
                    try clear c46b1
                    try clear hcz21_0
                    try clear hcz21_1
                    try clear hcz21_2
                    try clear hcz21_3
                    try clear hcz21_4
                    try clear hcz21_5
                    try clear hcz26_0
                    try clear hcz26_1
                    try clear hcz26_2
                    try clear hcz26_3
                    try clear hcz26_4
                    try clear hcz26_5
                    try clear hcz31_0
                    try clear hcz31_1
                    try clear hcz31_2
                    try clear hcz31_3
                    try clear hcz31_4
                    try clear hcz31_5
                    try clear hcz35_0
                    try clear hcz35_1
                    try clear hcz4_0
                    try clear hcz4_1
                    try clear hcz4_2
                    try clear hcz4_3
                    try clear hcz4_4
                    try clear hcz4_5
                    try clear hcz7_0
                    try clear hcz7_1
                    try clear hcz7_2
                    try clear hcz7_3
                    try clear hcz7_4
                    try clear hcz7_5
                    try clear hfz21_0
                    try clear hfz21_1
                    try clear hfz21_2
                    try clear hfz21_3
                    try clear hfz21_4
                    try clear hfz21_5
                    try clear hfz26_0
                    try clear hfz26_1
                    try clear hfz26_2
                    try clear hfz26_3
                    try clear hfz26_4
                    try clear hfz26_5
                    try clear hfz31_0
                    try clear hfz31_1
                    try clear hfz31_2
                    try clear hfz31_3
                    try clear hfz31_4
                    try clear hfz31_5
                    try clear hfz35_0
                    try clear hfz35_1
                    try clear hfz4_0
                    try clear hfz4_1
                    try clear hfz4_2
                    try clear hfz4_3
                    try clear hfz4_4
                    try clear hfz4_5
                    try clear hfz7_0
                    try clear hfz7_1
                    try clear hfz7_2
                    try clear hfz7_3
                    try clear hfz7_4
                    try clear hfz7_5
                    try clear hx10005_0
                    try clear hx10024_0
                    try clear hx10025_0
                    try clear hx10026_0
                    try clear hx10027_0
                    try clear hx10028_0
                    try clear p1
                    try clear p10
                    try clear p10005
                    try clear p10024
                    try clear p10025
                    try clear p10026
                    try clear p10027
                    try clear p10028
                    try clear p13
                    try clear p2
                    try clear p6
                    try clear q1
                    try clear q10
                    try clear q10005
                    try clear q10024
                    try clear q10025
                    try clear q10026
                    try clear q10027
                    try clear q10028
                    try clear q13
                    try clear q2
                    try clear q22
                    obtain ⟨x8_4, x80_4, rfl, HA, HK4, HO_3, HO_8, HO_10002005, BK10001, BK10020, HB, HF0, HF1, HF2⟩ := hrel
                    cases gk with
                    | zero => exact absurd HA.out (by simp [impl_StartStates.l3])
                    | succ k4 =>
                     have H := HA.out
                     clear HA
                     simp only [impl_StartStates.l3] at H
                     by_cases c47 : x80_4 < ((rd_L1 x3_1 2).length : Int)
                     ·rw [if_pos c47] at H
                      have c47b0 : decide (x80_4 < ((rd_L1 x3_1 2).length : Int)) = true := decide_eq_true c47
                      clear c47
                      by_cases c48 : 0 ≤ x80_4
                      ·rw [if_pos c48] at H
                       have c48b0 : decide (0 ≤ x80_4) = true := decide_eq_true c48
                       clear c48
                       by_cases c49 : x80_4 < ((rd_L1 x3_1 2).length : Int)
                       ·rw [if_pos c49] at H
                        have c49b0 : decide (x80_4 < ((rd_L1 x3_1 2).length : Int)) = true := decide_eq_true c49
                        clear c49
                        obtain ⟨y10030, hy10030⟩ : ∃ y_ : List Int, y_ = (([(rd (rd_L1 x3_1 0) x64_2), (rd (rd_L1 x3_1 1) x72_3), rd (rd_L1 x3_1 2) x80_4] : List Int)) := ⟨_, rfl⟩
                        replace H : (if x8_4.length < 2513169434916 then (impl_StartStates.l3 k4 x3_1 (x8_4 ++ [(⟨t10018, t10019, y10030⟩ : S89)]) (rd (rd_L1 x3_1 0) x64_2) (rd (rd_L1 x3_1 1) x72_3) (rd_L1 x3_1 0) ((rd_L1 x3_1 0).length : Int) x64_2 (rd_L1 x3_1 1) ((rd_L1 x3_1 1).length : Int) x72_3 (rd_L1 x3_1 2) ((rd_L1 x3_1 2).length : Int) (wrap64 (x80_4 + 1)) t10018 t10019) else (none)) = some r := by first | (rw [hy10030]; with_reducible exact H) | (have H2_ := (Option.bind_some _ _).symm.trans H; rw [hy10030]; with_reducible exact H2_) | (have H2_ := (Option.bind_some _ _).symm.trans H; with_reducible exact H2_) | with_reducible exact H | (rw [hy10030]; exact H) | exact H
                        have Ny10030 := Aside0.mk hy10030
                        clear hy10030
                        by_cases c50 : x8_4.length < 2513169434916
                        ·rw [if_pos c50] at H
                         have LMc50 := Aside0.mk c50
                         clear c50
                         obtain ⟨y10033, hy10033⟩ : ∃ y_ : List (S89), y_ = (x8_4 ++ [(⟨t10018, t10019, y10030⟩ : S89)]) := ⟨_, rfl⟩
                         replace H : (impl_StartStates.l3 k4 x3_1 y10033 (rd (rd_L1 x3_1 0) x64_2) (rd (rd_L1 x3_1 1) x72_3) (rd_L1 x3_1 0) ((rd_L1 x3_1 0).length : Int) x64_2 (rd_L1 x3_1 1) ((rd_L1 x3_1 1).length : Int) x72_3 (rd_L1 x3_1 2) ((rd_L1 x3_1 2).length : Int) (wrap64 (x80_4 + 1)) t10018 t10019) = some r := by first | (rw [hy10033]; with_reducible exact H) | (have H2_ := (Option.bind_some _ _).symm.trans H; rw [hy10033]; with_reducible exact H2_) | (have H2_ := (Option.bind_some _ _).symm.trans H; with_reducible exact H2_) | with_reducible exact H | (rw [hy10033]; exact H) | exact H
                         have Ny10033 := Aside0.mk hy10033
                         clear hy10033
                         have H' := Aside0.mk H
                         clear H
                         have p10029 : 0 ≤ (x80_4 : Int) := of_decide_eq_true (by first | (with_reducible assumption) | assumption)
                         have q10029 : x80_4 < ((rd_L1 x3_1 2).length : Int) := of_decide_eq_true (by first | (with_reducible assumption) | assumption)
                         obtain ⟨ad10029, e10029, hx10029_0⟩ := Kd.at_int (Kd.F_now HF2.out) x80_4 p10029 q10029
                         cases e10029
                         skip
                         replace p10029 := eq_true p10029
                         replace q10029 := eq_true q10029
                         have hnb51 := NB10020_10001.out
                         have hnc51 := NB10001_10020.out
                         have hcz52_0 : wr.cell? ⟨gb10020, 0, none⟩ = some (.string t10018) := (blk_cell BK10020.out 0).trans rfl
                         have hcz52_1 : wr.cell? ⟨gb10020, 1, none⟩ = some (.string t10019) := (blk_cell BK10020.out 1).trans rfl
                         have hfz52_0 := blk_frozen BK10020.out 0
                         have hfz52_1 := blk_frozen BK10020.out 1
                         go_wp2_with (first | ((with_reducible refine gate_dst (N := 92) rfl ?_); refine Kd.R_lit (Kd.int .i64) _ 3 ?hg (N := 92) ?hd (xs := ([(rd (rd_L1 x3_1 0) x64_2), (rd (rd_L1 x3_1 1) x72_3), rd (rd_L1 x3_1 2) x80_4] : List Int)) (inner := [.int .i64 (rd (rd_L1 x3_1 0) x64_2), .int .i64 (rd (rd_L1 x3_1 1) x72_3), .int .i64 (rd (rd_L1 x3_1 2) x80_4)]) (ok := fun _ => True) (okp := fun _ => True) ?hr ?hp (fun _ hk => hk) trivial (Below.refl _ _) (Nat.le_refl _) (by simp) ?_; (case hd => rfl); (case hg => rfl); (case hr => first | (go_simp; done) | (go_simp; rfl)); (case hp => exact (Reps.one (show Kd.M (Kd.int .i64) _ _ _ (rd (rd_L1 x3_1 0) x64_2) [.int .i64 (rd (rd_L1 x3_1 0) x64_2)] from rfl) (Reps.one (show Kd.M (Kd.int .i64) _ _ _ (rd (rd_L1 x3_1 1) x72_3) [.int .i64 (rd (rd_L1 x3_1 1) x72_3)] from rfl) (Reps.one (show Kd.M (Kd.int .i64) _ _ _ (rd (rd_L1 x3_1 2) x80_4) [.int .i64 (rd (rd_L1 x3_1 2) x80_4)] from rfl) (Reps.none _ _))))); intro v10031 w53 ho54 hb hg_ hnew_; have f0_ := Aside0.mk (Kd.F_below (by (with_reducible repeat (first | apply Kd.F_alloc | apply Kd.F_drewN | apply Kd.F_drew)); exact HF0.out) hb); have f1_ := Aside0.mk (Kd.F_below (by (with_reducible repeat (first | apply Kd.F_alloc | apply Kd.F_drewN | apply Kd.F_drew)); exact HF1.out) hb); have f2_ := Aside0.mk (Kd.F_below (by (with_reducible repeat (first | apply Kd.F_alloc | apply Kd.F_drewN | apply Kd.F_drew)); exact HF2.out) hb); clear HF0 HF1 HF2; have HF0 := f0_; have HF1 := f1_; have HF2 := f2_; clear f0_ f1_ f2_; clear hg_ hnew_; (first | rw [← Ny10030.out] at ho54 | (simp only [Int.reduceToNat] at ho54; rw [← Ny10030.out] at ho54)); have n0_ := Aside0.mk (Kd.N_elder' (by (with_reducible repeat (first | apply Kd.N_alloc | apply Kd.N_drewN | apply Kd.N_drew | apply Kd.S_alloc | apply Kd.S_drewN | apply Kd.S_drew)); exact HO_3.out) (Kd.R_base ho54) hb); have n1_ := Aside0.mk (Kd.S_elder' (by (with_reducible repeat (first | apply Kd.N_alloc | apply Kd.N_drewN | apply Kd.N_drew | apply Kd.S_alloc | apply Kd.S_drewN | apply Kd.S_drew)); exact HO_8.out) (Kd.R_base ho54) hb); have n2_ := Aside0.mk (Kd.V_elder' (by (with_reducible repeat (first | apply Kd.V_alloc | apply Kd.V_drewN | apply Kd.V_drew)); exact HO_10002005.out) (Kd.R_base ho54) hb); have n3_ := Aside0.mk (Kd.R_lower (Kd.R_newM (M := fun k_ => (w.heap.size ≤ k_)) ho54 (below_size (by repeat (first | (with_reducible first | exact HB.out | apply below_alloc | apply pw_below_drewN | apply below_drew1 | refine below_set ?_ GE10001.out | refine below_set ?_ GE10020.out) | exact HB.out))) (fun k_ h_ => h_)) (below_size (by repeat (first | (with_reducible first | exact HB.out | apply below_alloc | apply pw_below_drewN | apply below_drew1 | refine below_set ?_ GE10001.out | refine below_set ?_ GE10020.out) | exact HB.out)))); have n4_ := Aside0.mk (blk_below (g := gb10001) (o := .cells #[.string a0_0, .string a0_1, .slice A0_2 l0_2.length c0_2, .slice A0_3 l0_3.length c0_3, .slice A0_4 l0_4.length c0_4, .slice A0_5 l0_5.length c0_5] 36 (0, 0)) (by (with_reducible repeat (first | refine blk_drewN ?_ _ | refine blk_drew ?_ | refine blk_alloc ?_ _)); exact BK10001.out) hb); have n5_ := Aside0.mk (blk_below (g := gb10020) (o := .cells #[.string t10018, .string t10019] 33 (0, 0)) (by (with_reducible repeat (first | refine blk_drewN ?_ _ | refine blk_drew ?_ | refine blk_alloc ?_ _)); exact BK10020.out) hb); have n6_ := Aside0.mk (below_step (by repeat (first | (with_reducible first | exact HB.out | apply below_alloc | apply pw_below_drewN | apply below_drew1 | refine below_set ?_ GE10001.out | refine below_set ?_ GE10020.out) | exact HB.out)) hb); clear HO_3; clear HO_8; clear HO_10002005; clear BK10001; clear BK10020; clear HB; have HO_3 := n0_; have HO_8 := n1_; have HO_10002005 := n2_; have HO10032 := n3_; have BK10001 := n4_; have BK10020 := n5_; have HB := n6_; clear n0_ n1_ n2_ n3_ n4_ n5_ n6_; clear hb ho54; obtain ⟨Ao55, co55, eo55⟩ := Kd.R_slice HO10032.out; subst eo55) | ((with_reducible refine gate_builtin (b := .append) (xs := #[.tmp 84, .tmp 94]) rfl ?_); at_builtin; refine Kd.S_append k89 (w0 := w) w.heap.size rfl (.tmp 84) (.tmp 94) 31 89 (.agg #[(.string ⟨#[]⟩), (.string ⟨#[]⟩), (.slice none 0 0)]) 56 rfl Try.underlying31 info89 rfl (by decide) (by omega) u8 x8_4 (⟨t10018, t10019, y10030⟩ : S89) [.string t10018, .string t10019, .slice Ao55 y10030.length co55] (fun k_ => (P0_5_ k_ ∨ w.heap.size ≤ k_) ∧ some k_ ≠ (.slice (some ad10024) x3_1.length co38 : Value).ownBlock ∧ k_ ≠ gb10001 ∧ k_ ≠ gb10020) (fun k_ => some k_ = (.slice Ao55 y10030.length co55 : Value).ownBlock) rfl rfl ?aP (fun k_ hk_ => ((Kd.R_mono (ok' := (fun k_ => ((fun k_ => (P0_5_ k_ ∨ w.heap.size ≤ k_) ∧ some k_ ≠ (.slice (some ad10024) x3_1.length co38 : Value).ownBlock ∧ k_ ≠ gb10001 ∧ k_ ≠ gb10020)) k_ ∧ some k_ ≠ (u8 : Value).ownBlock)) (Kd.R_types (Kd.R_types (Kd.R_apart' (Kd.R_apart' (HO10032.out) (Kd.N_typed HO_3.out) (by decide)) (Kd.S_typed HO_8.out) (by decide)) BK10001.out (by decide)) BK10020.out (by decide)) (fun k_ hk => ⟨⟨(.inr (hk.1.1.1.1.1)), ⟨hk.1.1.1.2, ⟨hk.1.2, hk.2⟩⟩⟩, hk.1.1.2⟩))).1 k_ hk_.symm) ?aF ?aO ?aB ?aS ?aL ?_; (case aP => exact k89_mkM _ _ _ (⟨t10018, t10019, y10030⟩ : S89) (Kd.R_mono (Kd.R_tight rfl (Kd.R_mono (ok' := (fun k_ => ((fun k_ => (P0_5_ k_ ∨ w.heap.size ≤ k_) ∧ some k_ ≠ (.slice (some ad10024) x3_1.length co38 : Value).ownBlock ∧ k_ ≠ gb10001 ∧ k_ ≠ gb10020)) k_ ∧ some k_ ≠ (u8 : Value).ownBlock)) (Kd.R_types (Kd.R_types (Kd.R_apart' (Kd.R_apart' (HO10032.out) (Kd.N_typed HO_3.out) (by decide)) (Kd.S_typed HO_8.out) (by decide)) BK10001.out (by decide)) BK10020.out (by decide)) (fun k_ hk => ⟨⟨(.inr (hk.1.1.1.1.1)), ⟨hk.1.1.1.2, ⟨hk.1.2, hk.2⟩⟩⟩, hk.1.1.2⟩))) (fun _ h_ => h_))); (case aB => exact (by repeat (first | (with_reducible first | exact HB.out | apply below_alloc | apply pw_below_drewN | apply below_drew1 | refine below_set ?_ GE10001.out | refine below_set ?_ GE10020.out) | exact HB.out))); (case aF => exact (fun k_ hk => ⟨(.inr (Nat.le_trans (below_size (by repeat (first | (with_reducible first | exact HB.out | apply below_alloc | apply pw_below_drewN | apply below_drew1 | refine below_set ?_ GE10001.out | refine below_set ?_ GE10020.out) | exact HB.out))) hk)), Kd.fresh' (Kd.N_lt (by (with_reducible repeat (first | apply Kd.N_alloc | apply Kd.N_drewN | apply Kd.N_drew | apply Kd.S_alloc | apply Kd.S_drewN | apply Kd.S_drew)); exact HO_3.out)) k_ hk, Kd.freshB (g := gb10001) (o := .cells #[.string a0_0, .string a0_1, .slice A0_2 l0_2.length c0_2, .slice A0_3 l0_3.length c0_3, .slice A0_4 l0_4.length c0_4, .slice A0_5 l0_5.length c0_5] 36 (0, 0)) (by (with_reducible repeat (first | refine blk_drewN ?_ _ | refine blk_drew ?_ | refine blk_alloc ?_ _)); exact BK10001.out) k_ hk, Kd.freshB (g := gb10020) (o := .cells #[.string t10018, .string t10019] 33 (0, 0)) (by (with_reducible repeat (first | refine blk_drewN ?_ _ | refine blk_drew ?_ | refine blk_alloc ?_ _)); exact BK10020.out) k_ hk⟩)); (case aO => exact (by (with_reducible repeat (first | apply Kd.N_alloc | apply Kd.N_drewN | apply Kd.N_drew | apply Kd.S_alloc | apply Kd.S_drewN | apply Kd.S_drew)); exact Kd.S_mono HO_8.out (fun _ hk => ⟨⟨hk.1.1, ⟨hk.1.2.1, ⟨hk.1.2.2.1, hk.1.2.2.2⟩⟩⟩, fun e_ => hk.2 e_⟩))); (case aS => exact (below_size (by repeat (first | (with_reducible first | exact HB.out | apply below_alloc | apply pw_below_drewN | apply below_drew1 | refine below_set ?_ GE10001.out | refine below_set ?_ GE10020.out) | exact HB.out)))); (case aL => have := LMc50.out; omega); intro v10034 w56 ho hb hg hat; have f0_ := Aside0.mk (Kd.F_after (by (with_reducible repeat (first | apply Kd.F_alloc | apply Kd.F_drewN | apply Kd.F_drew)); exact HF0.out) hg hat); have f1_ := Aside0.mk (Kd.F_after (by (with_reducible repeat (first | apply Kd.F_alloc | apply Kd.F_drewN | apply Kd.F_drew)); exact HF1.out) hg hat); have f2_ := Aside0.mk (Kd.F_after (by (with_reducible repeat (first | apply Kd.F_alloc | apply Kd.F_drewN | apply Kd.F_drew)); exact HF2.out) hg hat); clear HF0 HF1 HF2; have HF0 := f0_; have HF1 := f1_; have HF2 := f2_; clear f0_ f1_ f2_; rw [← Ny10033.out] at ho; have n0_ := Aside0.mk (Kd.N_afterv (ok := (fun k_ => (P0_5_ k_ ∨ w.heap.size ≤ k_) ∧ some k_ ≠ (.slice Ao55 y10030.length co55 : Value).ownBlock ∧ k_ ≠ gb10001 ∧ k_ ≠ gb10020)) (by (with_reducible repeat (first | apply Kd.N_alloc | apply Kd.N_drewN | apply Kd.N_drew | apply Kd.S_alloc | apply Kd.S_drewN | apply Kd.S_drew)); exact Kd.N_mono HO_3.out (fun _ hk => ⟨⟨hk.1.1, ⟨hk.2, ⟨hk.1.2.2.1, hk.1.2.2.2⟩⟩⟩, hk.1.2.1⟩)) hg hat); have n1_ := Aside0.mk (Kd.V_afterv (ok := (fun k_ => (P0_5_ k_ ∨ w.heap.size ≤ k_) ∧ some k_ ≠ (.slice (some ad10024) x3_1.length co38 : Value).ownBlock ∧ some k_ ≠ (.slice Ao55 y10030.length co55 : Value).ownBlock ∧ k_ ≠ gb10001 ∧ k_ ≠ gb10020)) (by (with_reducible repeat (first | apply Kd.V_alloc | apply Kd.V_drewN | apply Kd.V_drew)); exact Kd.V_mono HO_10002005.out (fun _ hk => ⟨⟨hk.1.1, ⟨hk.1.2.1, ⟨hk.2, ⟨hk.1.2.2.2.1, hk.1.2.2.2.2⟩⟩⟩⟩, hk.1.2.2.1⟩)) hg hat); have n2_ := Aside0.mk (blk_grown (g := gb10001) (o := .cells #[.string a0_0, .string a0_1, .slice A0_2 l0_2.length c0_2, .slice A0_3 l0_3.length c0_3, .slice A0_4 l0_4.length c0_4, .slice A0_5 l0_5.length c0_5] 36 (0, 0)) (by (with_reducible repeat (first | refine blk_drewN ?_ _ | refine blk_drew ?_ | refine blk_alloc ?_ _)); exact BK10001.out) hg (Kd.S_ne HO_8.out BK10001.out (by decide))); have n3_ := Aside0.mk (blk_grown (g := gb10020) (o := .cells #[.string t10018, .string t10019] 33 (0, 0)) (by (with_reducible repeat (first | refine blk_drewN ?_ _ | refine blk_drew ?_ | refine blk_alloc ?_ _)); exact BK10020.out) hg (Kd.S_ne HO_8.out BK10020.out (by decide))); have n4_ := Aside0.mk (hb); have n5_ := Aside0.mk (ho); clear HO_3; clear HO_10002005; clear BK10001; clear BK10020; clear HB; clear HO_8; clear HO10032; have HO_3 := n0_; have HO_10002005 := n1_; have BK10001 := n2_; have BK10020 := n3_; have HB := n4_; have HO10035 := n5_; clear n0_ n1_ n2_ n3_ n4_ n5_; clear ho hb hg hat))
                         repeat (go_quiet (first | ((with_reducible refine gate_dst (N := 92) rfl ?_); refine Kd.R_lit (Kd.int .i64) _ 3 ?hg (N := 92) ?hd (xs := ([(rd (rd_L1 x3_1 0) x64_2), (rd (rd_L1 x3_1 1) x72_3), rd (rd_L1 x3_1 2) x80_4] : List Int)) (inner := [.int .i64 (rd (rd_L1 x3_1 0) x64_2), .int .i64 (rd (rd_L1 x3_1 1) x72_3), .int .i64 (rd (rd_L1 x3_1 2) x80_4)]) (ok := fun _ => True) (okp := fun _ => True) ?hr ?hp (fun _ hk => hk) trivial (Below.refl _ _) (Nat.le_refl _) (by simp) ?_; (case hd => rfl); (case hg => rfl); (case hr => first | (go_simp; done) | (go_simp; rfl)); (case hp => exact (Reps.one (show Kd.M (Kd.int .i64) _ _ _ (rd (rd_L1 x3_1 0) x64_2) [.int .i64 (rd (rd_L1 x3_1 0) x64_2)] from rfl) (Reps.one (show Kd.M (Kd.int .i64) _ _ _ (rd (rd_L1 x3_1 1) x72_3) [.int .i64 (rd (rd_L1 x3_1 1) x72_3)] from rfl) (Reps.one (show Kd.M (Kd.int .i64) _ _ _ (rd (rd_L1 x3_1 2) x80_4) [.int .i64 (rd (rd_L1 x3_1 2) x80_4)] from rfl) (Reps.none _ _))))); intro v10031 w53 ho54 hb hg_ hnew_; have f0_ := Aside0.mk (Kd.F_below (by (with_reducible repeat (first | apply Kd.F_alloc | apply Kd.F_drewN | apply Kd.F_drew)); exact HF0.out) hb); have f1_ := Aside0.mk (Kd.F_below (by (with_reducible repeat (first | apply Kd.F_alloc | apply Kd.F_drewN | apply Kd.F_drew)); exact HF1.out) hb); have f2_ := Aside0.mk (Kd.F_below (by (with_reducible repeat (first | apply Kd.F_alloc | apply Kd.F_drewN | apply Kd.F_drew)); exact HF2.out) hb); clear HF0 HF1 HF2; have HF0 := f0_; have HF1 := f1_; have HF2 := f2_; clear f0_ f1_ f2_; clear hg_ hnew_; (first | rw [← Ny10030.out] at ho54 | (simp only [Int.reduceToNat] at ho54; rw [← Ny10030.out] at ho54)); have n0_ := Aside0.mk (Kd.N_elder' (by (with_reducible repeat (first | apply Kd.N_alloc | apply Kd.N_drewN | apply Kd.N_drew | apply Kd.S_alloc | apply Kd.S_drewN | apply Kd.S_drew)); exact HO_3.out) (Kd.R_base ho54) hb); have n1_ := Aside0.mk (Kd.S_elder' (by (with_reducible repeat (first | apply Kd.N_alloc | apply Kd.N_drewN | apply Kd.N_drew | apply Kd.S_alloc | apply Kd.S_drewN | apply Kd.S_drew)); exact HO_8.out) (Kd.R_base ho54) hb); have n2_ := Aside0.mk (Kd.V_elder' (by (with_reducible repeat (first | apply Kd.V_alloc | apply Kd.V_drewN | apply Kd.V_drew)); exact HO_10002005.out) (Kd.R_base ho54) hb); have n3_ := Aside0.mk (Kd.R_lower (Kd.R_newM (M := fun k_ => (w.heap.size ≤ k_)) ho54 (below_size (by repeat (first | (with_reducible first | exact HB.out | apply below_alloc | apply pw_below_drewN | apply below_drew1 | refine below_set ?_ GE10001.out | refine below_set ?_ GE10020.out) | exact HB.out))) (fun k_ h_ => h_)) (below_size (by repeat (first | (with_reducible first | exact HB.out | apply below_alloc | apply pw_below_drewN | apply below_drew1 | refine below_set ?_ GE10001.out | refine below_set ?_ GE10020.out) | exact HB.out)))); have n4_ := Aside0.mk (blk_below (g := gb10001) (o := .cells #[.string a0_0, .string a0_1, .slice A0_2 l0_2.length c0_2, .slice A0_3 l0_3.length c0_3, .slice A0_4 l0_4.length c0_4, .slice A0_5 l0_5.length c0_5] 36 (0, 0)) (by (with_reducible repeat (first | refine blk_drewN ?_ _ | refine blk_drew ?_ | refine blk_alloc ?_ _)); exact BK10001.out) hb); have n5_ := Aside0.mk (blk_below (g := gb10020) (o := .cells #[.string t10018, .string t10019] 33 (0, 0)) (by (with_reducible repeat (first | refine blk_drewN ?_ _ | refine blk_drew ?_ | refine blk_alloc ?_ _)); exact BK10020.out) hb); have n6_ := Aside0.mk (below_step (by repeat (first | (with_reducible first | exact HB.out | apply below_alloc | apply pw_below_drewN | apply below_drew1 | refine below_set ?_ GE10001.out | refine below_set ?_ GE10020.out) | exact HB.out)) hb); clear HO_3; clear HO_8; clear HO_10002005; clear BK10001; clear BK10020; clear HB; have HO_3 := n0_; have HO_8 := n1_; have HO_10002005 := n2_; have HO10032 := n3_; have BK10001 := n4_; have BK10020 := n5_; have HB := n6_; clear n0_ n1_ n2_ n3_ n4_ n5_ n6_; clear hb ho54; obtain ⟨Ao55, co55, eo55⟩ := Kd.R_slice HO10032.out; subst eo55) | ((with_reducible refine gate_builtin (b := .append) (xs := #[.tmp 84, .tmp 94]) rfl ?_); at_builtin; refine Kd.S_append k89 (w0 := w) w.heap.size rfl (.tmp 84) (.tmp 94) 31 89 (.agg #[(.string ⟨#[]⟩), (.string ⟨#[]⟩), (.slice none 0 0)]) 56 rfl Try.underlying31 info89 rfl (by decide) (by omega) u8 x8_4 (⟨t10018, t10019, y10030⟩ : S89) [.string t10018, .string t10019, .slice Ao55 y10030.length co55] (fun k_ => (P0_5_ k_ ∨ w.heap.size ≤ k_) ∧ some k_ ≠ (.slice (some ad10024) x3_1.length co38 : Value).ownBlock ∧ k_ ≠ gb10001 ∧ k_ ≠ gb10020) (fun k_ => some k_ = (.slice Ao55 y10030.length co55 : Value).ownBlock) rfl rfl ?aP (fun k_ hk_ => ((Kd.R_mono (ok' := (fun k_ => ((fun k_ => (P0_5_ k_ ∨ w.heap.size ≤ k_) ∧ some k_ ≠ (.slice (some ad10024) x3_1.length co38 : Value).ownBlock ∧ k_ ≠ gb10001 ∧ k_ ≠ gb10020)) k_ ∧ some k_ ≠ (u8 : Value).ownBlock)) (Kd.R_types (Kd.R_types (Kd.R_apart' (Kd.R_apart' (HO10032.out) (Kd.N_typed HO_3.out) (by decide)) (Kd.S_typed HO_8.out) (by decide)) BK10001.out (by decide)) BK10020.out (by decide)) (fun k_ hk => ⟨⟨(.inr (hk.1.1.1.1.1)), ⟨hk.1.1.1.2, ⟨hk.1.2, hk.2⟩⟩⟩, hk.1.1.2⟩))).1 k_ hk_.symm) ?aF ?aO ?aB ?aS ?aL ?_; (case aP => exact k89_mkM _ _ _ (⟨t10018, t10019, y10030⟩ : S89) (Kd.R_mono (Kd.R_tight rfl (Kd.R_mono (ok' := (fun k_ => ((fun k_ => (P0_5_ k_ ∨ w.heap.size ≤ k_) ∧ some k_ ≠ (.slice (some ad10024) x3_1.length co38 : Value).ownBlock ∧ k_ ≠ gb10001 ∧ k_ ≠ gb10020)) k_ ∧ some k_ ≠ (u8 : Value).ownBlock)) (Kd.R_types (Kd.R_types (Kd.R_apart' (Kd.R_apart' (HO10032.out) (Kd.N_typed HO_3.out) (by decide)) (Kd.S_typed HO_8.out) (by decide)) BK10001.out (by decide)) BK10020.out (by decide)) (fun k_ hk => ⟨⟨(.inr (hk.1.1.1.1.1)), ⟨hk.1.1.1.2, ⟨hk.1.2, hk.2⟩⟩⟩, hk.1.1.2⟩))) (fun _ h_ => h_))); (case aB => exact (by repeat (first | (with_reducible first | exact HB.out | apply below_alloc | apply pw_below_drewN | apply below_drew1 | refine below_set ?_ GE10001.out | refine below_set ?_ GE10020.out) | exact HB.out))); (case aF => exact (fun k_ hk => ⟨(.inr (Nat.le_trans (below_size (by repeat (first | (with_reducible first | exact HB.out | apply below_alloc | apply pw_below_drewN | apply below_drew1 | refine below_set ?_ GE10001.out | refine below_set ?_ GE10020.out) | exact HB.out))) hk)), Kd.fresh' (Kd.N_lt (by (with_reducible repeat (first | apply Kd.N_alloc | apply Kd.N_drewN | apply Kd.N_drew | apply Kd.S_alloc | apply Kd.S_drewN | apply Kd.S_drew)); exact HO_3.out)) k_ hk, Kd.freshB (g := gb10001) (o := .cells #[.string a0_0, .string a0_1, .slice A0_2 l0_2.length c0_2, .slice A0_3 l0_3.length c0_3, .slice A0_4 l0_4.length c0_4, .slice A0_5 l0_5.length c0_5] 36 (0, 0)) (by (with_reducible repeat (first | refine blk_drewN ?_ _ | refine blk_drew ?_ | refine blk_alloc ?_ _)); exact BK10001.out) k_ hk, Kd.freshB (g := gb10020) (o := .cells #[.string t10018, .string t10019] 33 (0, 0)) (by (with_reducible repeat (first | refine blk_drewN ?_ _ | refine blk_drew ?_ | refine blk_alloc ?_ _)); exact BK10020.out) k_ hk⟩)); (case aO => exact (by (with_reducible repeat (first | apply Kd.N_alloc | apply Kd.N_drewN | apply Kd.N_drew | apply Kd.S_alloc | apply Kd.S_drewN | apply Kd.S_drew)); exact Kd.S_mono HO_8.out (fun _ hk => ⟨⟨hk.1.1, ⟨hk.1.2.1, ⟨hk.1.2.2.1, hk.1.2.2.2⟩⟩⟩, fun e_ => hk.2 e_⟩))); (case aS => exact (below_size (by repeat (first | (with_reducible first | exact HB.out | apply below_alloc | apply pw_below_drewN | apply below_drew1 | refine below_set ?_ GE10001.out | refine below_set ?_ GE10020.out) | exact HB.out)))); (case aL => have := LMc50.out; omega); intro v10034 w56 ho hb hg hat; have f0_ := Aside0.mk (Kd.F_after (by (with_reducible repeat (first | apply Kd.F_alloc | apply Kd.F_drewN | apply Kd.F_drew)); exact HF0.out) hg hat); have f1_ := Aside0.mk (Kd.F_after (by (with_reducible repeat (first | apply Kd.F_alloc | apply Kd.F_drewN | apply Kd.F_drew)); exact HF1.out) hg hat); have f2_ := Aside0.mk (Kd.F_after (by (with_reducible repeat (first | apply Kd.F_alloc | apply Kd.F_drewN | apply Kd.F_drew)); exact HF2.out) hg hat); clear HF0 HF1 HF2; have HF0 := f0_; have HF1 := f1_; have HF2 := f2_; clear f0_ f1_ f2_; rw [← Ny10033.out] at ho; have n0_ := Aside0.mk (Kd.N_afterv (ok := (fun k_ => (P0_5_ k_ ∨ w.heap.size ≤ k_) ∧ some k_ ≠ (.slice Ao55 y10030.length co55 : Value).ownBlock ∧ k_ ≠ gb10001 ∧ k_ ≠ gb10020)) (by (with_reducible repeat (first | apply Kd.N_alloc | apply Kd.N_drewN | apply Kd.N_drew | apply Kd.S_alloc | apply Kd.S_drewN | apply Kd.S_drew)); exact Kd.N_mono HO_3.out (fun _ hk => ⟨⟨hk.1.1, ⟨hk.2, ⟨hk.1.2.2.1, hk.1.2.2.2⟩⟩⟩, hk.1.2.1⟩)) hg hat); have n1_ := Aside0.mk (Kd.V_afterv (ok := (fun k_ => (P0_5_ k_ ∨ w.heap.size ≤ k_) ∧ some k_ ≠ (.slice (some ad10024) x3_1.length co38 : Value).ownBlock ∧ some k_ ≠ (.slice Ao55 y10030.length co55 : Value).ownBlock ∧ k_ ≠ gb10001 ∧ k_ ≠ gb10020)) (by (with_reducible repeat (first | apply Kd.V_alloc | apply Kd.V_drewN | apply Kd.V_drew)); exact Kd.V_mono HO_10002005.out (fun _ hk => ⟨⟨hk.1.1, ⟨hk.1.2.1, ⟨hk.2, ⟨hk.1.2.2.2.1, hk.1.2.2.2.2⟩⟩⟩⟩, hk.1.2.2.1⟩)) hg hat); have n2_ := Aside0.mk (blk_grown (g := gb10001) (o := .cells #[.string a0_0, .string a0_1, .slice A0_2 l0_2.length c0_2, .slice A0_3 l0_3.length c0_3, .slice A0_4 l0_4.length c0_4, .slice A0_5 l0_5.length c0_5] 36 (0, 0)) (by (with_reducible repeat (first | refine blk_drewN ?_ _ | refine blk_drew ?_ | refine blk_alloc ?_ _)); exact BK10001.out) hg (Kd.S_ne HO_8.out BK10001.out (by decide))); have n3_ := Aside0.mk (blk_grown (g := gb10020) (o := .cells #[.string t10018, .string t10019] 33 (0, 0)) (by (with_reducible repeat (first | refine blk_drewN ?_ _ | refine blk_drew ?_ | refine blk_alloc ?_ _)); exact BK10020.out) hg (Kd.S_ne HO_8.out BK10020.out (by decide))); have n4_ := Aside0.mk (hb); have n5_ := Aside0.mk (ho); clear HO_3; clear HO_10002005; clear BK10001; clear BK10020; clear HB; clear HO_8; clear HO10032; have HO_3 := n0_; have HO_10002005 := n1_; have BK10001 := n2_; have BK10020 := n3_; have HB := n4_; have HO10035 := n5_; clear n0_ n1_ n2_ n3_ n4_ n5_; clear ho hb hg hat)); try go_wp2_with (first | ((with_reducible refine gate_dst (N := 92) rfl ?_); refine Kd.R_lit (Kd.int .i64) _ 3 ?hg (N := 92) ?hd (xs := ([(rd (rd_L1 x3_1 0) x64_2), (rd (rd_L1 x3_1 1) x72_3), rd (rd_L1 x3_1 2) x80_4] : List Int)) (inner := [.int .i64 (rd (rd_L1 x3_1 0) x64_2), .int .i64 (rd (rd_L1 x3_1 1) x72_3), .int .i64 (rd (rd_L1 x3_1 2) x80_4)]) (ok := fun _ => True) (okp := fun _ => True) ?hr ?hp (fun _ hk => hk) trivial (Below.refl _ _) (Nat.le_refl _) (by simp) ?_; (case hd => rfl); (case hg => rfl); (case hr => first | (go_simp; done) | (go_simp; rfl)); (case hp => exact (Reps.one (show Kd.M (Kd.int .i64) _ _ _ (rd (rd_L1 x3_1 0) x64_2) [.int .i64 (rd (rd_L1 x3_1 0) x64_2)] from rfl) (Reps.one (show Kd.M (Kd.int .i64) _ _ _ (rd (rd_L1 x3_1 1) x72_3) [.int .i64 (rd (rd_L1 x3_1 1) x72_3)] from rfl) (Reps.one (show Kd.M (Kd.int .i64) _ _ _ (rd (rd_L1 x3_1 2) x80_4) [.int .i64 (rd (rd_L1 x3_1 2) x80_4)] from rfl) (Reps.none _ _))))); intro v10031 w53 ho54 hb hg_ hnew_; have f0_ := Aside0.mk (Kd.F_below (by (with_reducible repeat (first | apply Kd.F_alloc | apply Kd.F_drewN | apply Kd.F_drew)); exact HF0.out) hb); have f1_ := Aside0.mk (Kd.F_below (by (with_reducible repeat (first | apply Kd.F_alloc | apply Kd.F_drewN | apply Kd.F_drew)); exact HF1.out) hb); have f2_ := Aside0.mk (Kd.F_below (by (with_reducible repeat (first | apply Kd.F_alloc | apply Kd.F_drewN | apply Kd.F_drew)); exact HF2.out) hb); clear HF0 HF1 HF2; have HF0 := f0_; have HF1 := f1_; have HF2 := f2_; clear f0_ f1_ f2_; clear hg_ hnew_; (first | rw [← Ny10030.out] at ho54 | (simp only [Int.reduceToNat] at ho54; rw [← Ny10030.out] at ho54)); have n0_ := Aside0.mk (Kd.N_elder' (by (with_reducible repeat (first | apply Kd.N_alloc | apply Kd.N_drewN | apply Kd.N_drew | apply Kd.S_alloc | apply Kd.S_drewN | apply Kd.S_drew)); exact HO_3.out) (Kd.R_base ho54) hb); have n1_ := Aside0.mk (Kd.S_elder' (by (with_reducible repeat (first | apply Kd.N_alloc | apply Kd.N_drewN | apply Kd.N_drew | apply Kd.S_alloc | apply Kd.S_drewN | apply Kd.S_drew)); exact HO_8.out) (Kd.R_base ho54) hb); have n2_ := Aside0.mk (Kd.V_elder' (by (with_reducible repeat (first | apply Kd.V_alloc | apply Kd.V_drewN | apply Kd.V_drew)); exact HO_10002005.out) (Kd.R_base ho54) hb); have n3_ := Aside0.mk (Kd.R_lower (Kd.R_newM (M := fun k_ => (w.heap.size ≤ k_)) ho54 (below_size (by repeat (first | (with_reducible first | exact HB.out | apply below_alloc | apply pw_below_drewN | apply below_drew1 | refine below_set ?_ GE10001.out | refine below_set ?_ GE10020.out) | exact HB.out))) (fun k_ h_ => h_)) (below_size (by repeat (first | (with_reducible first | exact HB.out | apply below_alloc | apply pw_below_drewN | apply below_drew1 | refine below_set ?_ GE10001.out | refine below_set ?_ GE10020.out) | exact HB.out)))); have n4_ := Aside0.mk (blk_below (g := gb10001) (o := .cells #[.string a0_0, .string a0_1, .slice A0_2 l0_2.length c0_2, .slice A0_3 l0_3.length c0_3, .slice A0_4 l0_4.length c0_4, .slice A0_5 l0_5.length c0_5] 36 (0, 0)) (by (with_reducible repeat (first | refine blk_drewN ?_ _ | refine blk_drew ?_ | refine blk_alloc ?_ _)); exact BK10001.out) hb); have n5_ := Aside0.mk (blk_below (g := gb10020) (o := .cells #[.string t10018, .string t10019] 33 (0, 0)) (by (with_reducible repeat (first | refine blk_drewN ?_ _ | refine blk_drew ?_ | refine blk_alloc ?_ _)); exact BK10020.out) hb); have n6_ := Aside0.mk (below_step (by repeat (first | (with_reducible first | exact HB.out | apply below_alloc | apply pw_below_drewN | apply below_drew1 | refine below_set ?_ GE10001.out | refine below_set ?_ GE10020.out) | exact HB.out)) hb); clear HO_3; clear HO_8; clear HO_10002005; clear BK10001; clear BK10020; clear HB; have HO_3 := n0_; have HO_8 := n1_; have HO_10002005 := n2_; have HO10032 := n3_; have BK10001 := n4_; have BK10020 := n5_; have HB := n6_; clear n0_ n1_ n2_ n3_ n4_ n5_ n6_; clear hb ho54; obtain ⟨Ao55, co55, eo55⟩ := Kd.R_slice HO10032.out; subst eo55) | ((with_reducible refine gate_builtin (b := .append) (xs := #[.tmp 84, .tmp 94]) rfl ?_); at_builtin; refine Kd.S_append k89 (w0 := w) w.heap.size rfl (.tmp 84) (.tmp 94) 31 89 (.agg #[(.string ⟨#[]⟩), (.string ⟨#[]⟩), (.slice none 0 0)]) 56 rfl Try.underlying31 info89 rfl (by decide) (by omega) u8 x8_4 (⟨t10018, t10019, y10030⟩ : S89) [.string t10018, .string t10019, .slice Ao55 y10030.length co55] (fun k_ => (P0_5_ k_ ∨ w.heap.size ≤ k_) ∧ some k_ ≠ (.slice (some ad10024) x3_1.length co38 : Value).ownBlock ∧ k_ ≠ gb10001 ∧ k_ ≠ gb10020) (fun k_ => some k_ = (.slice Ao55 y10030.length co55 : Value).ownBlock) rfl rfl ?aP (fun k_ hk_ => ((Kd.R_mono (ok' := (fun k_ => ((fun k_ => (P0_5_ k_ ∨ w.heap.size ≤ k_) ∧ some k_ ≠ (.slice (some ad10024) x3_1.length co38 : Value).ownBlock ∧ k_ ≠ gb10001 ∧ k_ ≠ gb10020)) k_ ∧ some k_ ≠ (u8 : Value).ownBlock)) (Kd.R_types (Kd.R_types (Kd.R_apart' (Kd.R_apart' (HO10032.out) (Kd.N_typed HO_3.out) (by decide)) (Kd.S_typed HO_8.out) (by decide)) BK10001.out (by decide)) BK10020.out (by decide)) (fun k_ hk => ⟨⟨(.inr (hk.1.1.1.1.1)), ⟨hk.1.1.1.2, ⟨hk.1.2, hk.2⟩⟩⟩, hk.1.1.2⟩))).1 k_ hk_.symm) ?aF ?aO ?aB ?aS ?aL ?_; (case aP => exact k89_mkM _ _ _ (⟨t10018, t10019, y10030⟩ : S89) (Kd.R_mono (Kd.R_tight rfl (Kd.R_mono (ok' := (fun k_ => ((fun k_ => (P0_5_ k_ ∨ w.heap.size ≤ k_) ∧ some k_ ≠ (.slice (some ad10024) x3_1.length co38 : Value).ownBlock ∧ k_ ≠ gb10001 ∧ k_ ≠ gb10020)) k_ ∧ some k_ ≠ (u8 : Value).ownBlock)) (Kd.R_types (Kd.R_types (Kd.R_apart' (Kd.R_apart' (HO10032.out) (Kd.N_typed HO_3.out) (by decide)) (Kd.S_typed HO_8.out) (by decide)) BK10001.out (by decide)) BK10020.out (by decide)) (fun k_ hk => ⟨⟨(.inr (hk.1.1.1.1.1)), ⟨hk.1.1.1.2, ⟨hk.1.2, hk.2⟩⟩⟩, hk.1.1.2⟩))) (fun _ h_ => h_))); (case aB => exact (by repeat (first | (with_reducible first | exact HB.out | apply below_alloc | apply pw_below_drewN | apply below_drew1 | refine below_set ?_ GE10001.out | refine below_set ?_ GE10020.out) | exact HB.out))); (case aF => exact (fun k_ hk => ⟨(.inr (Nat.le_trans (below_size (by repeat (first | (with_reducible first | exact HB.out | apply below_alloc | apply pw_below_drewN | apply below_drew1 | refine below_set ?_ GE10001.out | refine below_set ?_ GE10020.out) | exact HB.out))) hk)), Kd.fresh' (Kd.N_lt (by (with_reducible repeat (first | apply Kd.N_alloc | apply Kd.N_drewN | apply Kd.N_drew | apply Kd.S_alloc | apply Kd.S_drewN | apply Kd.S_drew)); exact HO_3.out)) k_ hk, Kd.freshB (g := gb10001) (o := .cells #[.string a0_0, .string a0_1, .slice A0_2 l0_2.length c0_2, .slice A0_3 l0_3.length c0_3, .slice A0_4 l0_4.length c0_4, .slice A0_5 l0_5.length c0_5] 36 (0, 0)) (by (with_reducible repeat (first | refine blk_drewN ?_ _ | refine blk_drew ?_ | refine blk_alloc ?_ _)); exact BK10001.out) k_ hk, Kd.freshB (g := gb10020) (o := .cells #[.string t10018, .string t10019] 33 (0, 0)) (by (with_reducible repeat (first | refine blk_drewN ?_ _ | refine blk_drew ?_ | refine blk_alloc ?_ _)); exact BK10020.out) k_ hk⟩)); (case aO => exact (by (with_reducible repeat (first | apply Kd.N_alloc | apply Kd.N_drewN | apply Kd.N_drew | apply Kd.S_alloc | apply Kd.S_drewN | apply Kd.S_drew)); exact Kd.S_mono HO_8.out (fun _ hk => ⟨⟨hk.1.1, ⟨hk.1.2.1, ⟨hk.1.2.2.1, hk.1.2.2.2⟩⟩⟩, fun e_ => hk.2 e_⟩))); (case aS => exact (below_size (by repeat (first | (with_reducible first | exact HB.out | apply below_alloc | apply pw_below_drewN | apply below_drew1 | refine below_set ?_ GE10001.out | refine below_set ?_ GE10020.out) | exact HB.out)))); (case aL => have := LMc50.out; omega); intro v10034 w56 ho hb hg hat; have f0_ := Aside0.mk (Kd.F_after (by (with_reducible repeat (first | apply Kd.F_alloc | apply Kd.F_drewN | apply Kd.F_drew)); exact HF0.out) hg hat); have f1_ := Aside0.mk (Kd.F_after (by (with_reducible repeat (first | apply Kd.F_alloc | apply Kd.F_drewN | apply Kd.F_drew)); exact HF1.out) hg hat); have f2_ := Aside0.mk (Kd.F_after (by (with_reducible repeat (first | apply Kd.F_alloc | apply Kd.F_drewN | apply Kd.F_drew)); exact HF2.out) hg hat); clear HF0 HF1 HF2; have HF0 := f0_; have HF1 := f1_; have HF2 := f2_; clear f0_ f1_ f2_; rw [← Ny10033.out] at ho; have n0_ := Aside0.mk (Kd.N_afterv (ok := (fun k_ => (P0_5_ k_ ∨ w.heap.size ≤ k_) ∧ some k_ ≠ (.slice Ao55 y10030.length co55 : Value).ownBlock ∧ k_ ≠ gb10001 ∧ k_ ≠ gb10020)) (by (with_reducible repeat (first | apply Kd.N_alloc | apply Kd.N_drewN | apply Kd.N_drew | apply Kd.S_alloc | apply Kd.S_drewN | apply Kd.S_drew)); exact Kd.N_mono HO_3.out (fun _ hk => ⟨⟨hk.1.1, ⟨hk.2, ⟨hk.1.2.2.1, hk.1.2.2.2⟩⟩⟩, hk.1.2.1⟩)) hg hat); have n1_ := Aside0.mk (Kd.V_afterv (ok := (fun k_ => (P0_5_ k_ ∨ w.heap.size ≤ k_) ∧ some k_ ≠ (.slice (some ad10024) x3_1.length co38 : Value).ownBlock ∧ some k_ ≠ (.slice Ao55 y10030.length co55 : Value).ownBlock ∧ k_ ≠ gb10001 ∧ k_ ≠ gb10020)) (by (with_reducible repeat (first | apply Kd.V_alloc | apply Kd.V_drewN | apply Kd.V_drew)); exact Kd.V_mono HO_10002005.out (fun _ hk => ⟨⟨hk.1.1, ⟨hk.1.2.1, ⟨hk.2, ⟨hk.1.2.2.2.1, hk.1.2.2.2.2⟩⟩⟩⟩, hk.1.2.2.1⟩)) hg hat); have n2_ := Aside0.mk (blk_grown (g := gb10001) (o := .cells #[.string a0_0, .string a0_1, .slice A0_2 l0_2.length c0_2, .slice A0_3 l0_3.length c0_3, .slice A0_4 l0_4.length c0_4, .slice A0_5 l0_5.length c0_5] 36 (0, 0)) (by (with_reducible repeat (first | refine blk_drewN ?_ _ | refine blk_drew ?_ | refine blk_alloc ?_ _)); exact BK10001.out) hg (Kd.S_ne HO_8.out BK10001.out (by decide))); have n3_ := Aside0.mk (blk_grown (g := gb10020) (o := .cells #[.string t10018, .string t10019] 33 (0, 0)) (by (with_reducible repeat (first | refine blk_drewN ?_ _ | refine blk_drew ?_ | refine blk_alloc ?_ _)); exact BK10020.out) hg (Kd.S_ne HO_8.out BK10020.out (by decide))); have n4_ := Aside0.mk (hb); have n5_ := Aside0.mk (ho); clear HO_3; clear HO_10002005; clear BK10001; clear BK10020; clear HB; clear HO_8; clear HO10032; have HO_3 := n0_; have HO_10002005 := n1_; have BK10001 := n2_; have BK10020 := n3_; have HB := n4_; have HO10035 := n5_; clear n0_ n1_ n2_ n3_ n4_ n5_; clear ho hb hg hat)))
                         go_roundg k4
                         case measure => have := HK1.out; have := HK2.out; have := HK3.out; have := HK4.out; omega
                         case rel => exact ⟨(y10033), (wrap64 (x80_4 + 1)), (by first | rfl | (simp; done) | (simp [*]; done)), H', ⟨by have := HK1.out; have := HK2.out; have := HK3.out; have := HK4.out; omega⟩, ⟨by (with_reducible repeat (first | apply Kd.N_alloc | apply Kd.N_drewN | apply Kd.N_drew | apply Kd.S_alloc | apply Kd.S_drewN | apply Kd.S_drew)); exact Kd.N_mono HO_3.out (fun _ hk => ⟨hk.1.1, ⟨hk.2, ⟨hk.1.2.2.1, hk.1.2.2.2⟩⟩⟩)⟩, ⟨by (with_reducible repeat (first | apply Kd.N_alloc | apply Kd.N_drewN | apply Kd.N_drew | apply Kd.S_alloc | apply Kd.S_drewN | apply Kd.S_drew)); exact HO10035.out⟩, ⟨by (with_reducible repeat (first | apply Kd.V_alloc | apply Kd.V_drewN | apply Kd.V_drew)); exact Kd.V_mono HO_10002005.out (fun _ hk => ⟨hk.1.1, ⟨hk.1.2.1, ⟨hk.2, ⟨hk.1.2.2.2.1, hk.1.2.2.2.2⟩⟩⟩⟩)⟩, ⟨by (with_reducible repeat (first | refine blk_drewN ?_ _ | refine blk_drew ?_ | refine blk_alloc ?_ _)); exact BK10001.out⟩, ⟨by (with_reducible repeat (first | refine blk_drewN ?_ _ | refine blk_drew ?_ | refine blk_alloc ?_ _)); exact BK10020.out⟩, ⟨by repeat (first | (with_reducible first | exact HB.out | apply below_alloc | apply pw_below_drewN | apply below_drew1 | refine below_set ?_ GE10001.out | refine below_set ?_ GE10020.out) | exact HB.out)⟩, ⟨by (with_reducible repeat (first | apply Kd.F_alloc | apply Kd.F_drewN | apply Kd.F_drew)); exact HF0.out⟩, ⟨by (with_reducible repeat (first | apply Kd.F_alloc | apply Kd.F_drewN | apply Kd.F_drew)); exact HF1.out⟩, ⟨by (with_reducible repeat (first | apply Kd.F_alloc | apply Kd.F_drewN | apply Kd.F_drew)); exact HF2.out⟩⟩
                        ·rw [if_neg c50] at H
                         exact absurd H (by simp)
                       ·rw [if_neg c49] at H
                        exact absurd H (by simp)
                      ·rw [if_neg c48] at H
                       exact absurd H (by simp)
                     ·rw [if_neg c47] at H
                      have c47b0 : decide (x80_4 < ((rd_L1 x3_1 2).length : Int)) = false := decide_eq_false c47
                      clear c47
                      have H' := Aside0.mk H
                      clear H
                      go_wp2
                      repeat (go_quiet (fail); try go_wp2)
                      go_roundg k4
                      case measure => have := HK1.out; have := HK2.out; have := HK3.out; have := HK4.out; omega
                      case rel => exact ⟨(x8_4), (wrap64 (x72_3 + 1)), (by first | rfl | (simp; done) | (simp [*]; done)), H', ⟨by have := HK1.out; have := HK2.out; have := HK3.out; have := HK4.out; omega⟩, ⟨by (with_reducible repeat (first | apply Kd.N_alloc | apply Kd.N_drewN | apply Kd.N_drew | apply Kd.S_alloc | apply Kd.S_drewN | apply Kd.S_drew)); exact HO_3.out⟩, ⟨by (with_reducible repeat (first | apply Kd.N_alloc | apply Kd.N_drewN | apply Kd.N_drew | apply Kd.S_alloc | apply Kd.S_drewN | apply Kd.S_drew)); exact HO_8.out⟩, ⟨by (with_reducible repeat (first | apply Kd.V_alloc | apply Kd.V_drewN | apply Kd.V_drew)); exact HO_10002005.out⟩, ⟨by (with_reducible repeat (first | refine blk_drewN ?_ _ | refine blk_drew ?_ | refine blk_alloc ?_ _)); exact BK10001.out⟩, ⟨by (with_reducible repeat (first | refine blk_drewN ?_ _ | refine blk_drew ?_ | refine blk_alloc ?_ _)); exact BK10020.out⟩, ⟨by repeat (first | (with_reducible first | exact HB.out | apply below_alloc | apply pw_below_drewN | apply below_drew1 | refine below_set ?_ GE10001.out | refine below_set ?_ GE10020.out) | exact HB.out)⟩, ⟨by (with_reducible repeat (first | apply Kd.F_alloc | apply Kd.F_drewN | apply Kd.F_drew)); exact HF0.out⟩, ⟨by (with_reducible repeat (first | apply Kd.F_alloc | apply Kd.F_drewN | apply Kd.F_drew)); exact HF1.out⟩⟩
                  ·rw [if_neg c46] at H
                   exact absurd H (by simp)
                 ·rw [if_neg c45] at H
                  exact absurd H (by simp)
                ·rw [if_neg c44] at H
                 exact absurd H (by simp)
               ·rw [if_neg c43] at H
                have c43b0 : decide (x72_3 < ((rd_L1 x3_1 1).length : Int)) = false := decide_eq_false c43
                clear c43
                have H' := Aside0.mk H
                clear H
                go_wp2
                repeat (go_quiet (fail); try go_wp2)
                go_roundg k3
                case measure => have := HK1.out; have := HK2.out; have := HK3.out; omega
                case rel => exact ⟨(x8_3), (wrap64 (x64_2 + 1)), (by first | rfl | (simp; done) | (simp [*]; done)), H', ⟨by have := HK1.out; have := HK2.out; have := HK3.out; omega⟩, ⟨by (with_reducible repeat (first | apply Kd.N_alloc | apply Kd.N_drewN | apply Kd.N_drew | apply Kd.S_alloc | apply Kd.S_drewN | apply Kd.S_drew)); exact HO_3.out⟩, ⟨by (with_reducible repeat (first | apply Kd.N_alloc | apply Kd.N_drewN | apply Kd.N_drew | apply Kd.S_alloc | apply Kd.S_drewN | apply Kd.S_drew)); exact HO_8.out⟩, ⟨by (with_reducible repeat (first | apply Kd.V_alloc | apply Kd.V_drewN | apply Kd.V_drew)); exact HO_10002005.out⟩, ⟨by (with_reducible repeat (first | refine blk_drewN ?_ _ | refine blk_drew ?_ | refine blk_alloc ?_ _)); exact BK10001.out⟩, ⟨by (with_reducible repeat (first | refine blk_drewN ?_ _ | refine blk_drew ?_ | refine blk_alloc ?_ _)); exact BK10020.out⟩, ⟨by repeat (first | (with_reducible first | exact HB.out | apply below_alloc | apply pw_below_drewN | apply below_drew1 | refine below_set ?_ GE10001.out | refine below_set ?_ GE10020.out) | exact HB.out)⟩, ⟨by (with_reducible repeat (first | apply Kd.F_alloc | apply Kd.F_drewN | apply Kd.F_drew)); exact HF0.out⟩⟩
            ·rw [if_neg c42] at H
             exact absurd H (by simp)
           ·rw [if_neg c41] at H
            exact absurd H (by simp)
          ·rw [if_neg c40] at H
           exact absurd H (by simp)
         ·rw [if_neg c39] at H
          have c39b0 : decide (x64_2 < ((rd_L1 x3_1 0).length : Int)) = false := decide_eq_false c39
          clear c39
          obtain rfl := Option.some.inj H
          go_wp2
          repeat (go_quiet (fail); try go_wp2)
          go_ret
          exact ⟨_, by first | rfl | (simp [errW_none, errW_some] <;> rfl) | (simp [*, errW_none, errW_some] <;> rfl), by (with_reducible repeat (first | apply Kd.N_alloc | apply Kd.N_drewN | apply Kd.N_drew | apply Kd.S_alloc | apply Kd.S_drewN | apply Kd.S_drew)); exact Kd.S_mono HO_8.out (fun _ hk => hk.1), by repeat (first | (with_reducible first | exact HB.out | apply below_alloc | apply pw_below_drewN | apply below_drew1 | refine below_set ?_ GE10001.out | refine below_set ?_ GE10020.out) | exact HB.out)⟩
      ·rw [if_neg c30] at H
       exact absurd H (by simp)
 ·rw [if_neg c2] at H
  have c2b0 : ((l0_5.length : Int) == 3) = false := beq_eq_false_iff_ne.mpr c2
  have c2b1 : ((l0_5.length : Int) != 3) = true := bne_iff_ne.mpr c2
  obtain rfl := Option.some.inj H
  go_enter Try.func10, Try.ntmps10
  go_wp2_with (first | ((with_reducible refine gate_dst (N := 1) rfl ?_); refine box_event ?hg (N := 1) ?hd (cs := #[.string a0_0, .string a0_1, .slice A0_2 l0_2.length c0_2, .slice A0_3 l0_3.length c0_3, .slice A0_4 l0_4.length c0_4, .slice A0_5 l0_5.length c0_5]) (t := 36) ?hr ?_; (case hd => rfl); (case hg => rfl); (case hr => first | (go_simp; done) | (go_simp; rfl)); intro gb10001 hg w57 hbox hb; have n0_ := Aside0.mk (Kd.V_below (Kd.V_elderB (by (with_reducible repeat (first | apply Kd.V_alloc | apply Kd.V_drewN | apply Kd.V_drew)); exact HO0_5.out) gb10001 (Nat.le_of_eq hg.symm)) hb); have n1_ := Aside0.mk (below_step (by repeat (first | (with_reducible first | exact HB.out | apply below_alloc | apply pw_below_drewN | apply below_drew1) | exact HB.out)) hb); have n2_ := Aside0.mk (hbox); have n3_ := Aside0.mk ((by rw [hg]; exact (below_size (by repeat (first | (with_reducible first | exact HB.out | apply below_alloc | apply pw_below_drewN | apply below_drew1) | exact HB.out))) : w.heap.size ≤ gb10001)); have n4_ := Aside0.mk ((by rw [hg]; exact (below_size (by repeat (first | (with_reducible first | exact HB.out | apply below_alloc | apply pw_below_drewN | apply below_drew1) | exact HB.out))) : w.heap.size ≤ gb10001)); clear HO0_5; clear HB; have HO0_5 := n0_; have HB := n1_; have BK10001 := n2_; have GW10001 := n3_; have GE10001 := n4_; clear n0_ n1_ n2_ n3_ n4_; clear hb hbox hg; have hcz58_0 : w57.cell? ⟨gb10001, 0, none⟩ = some (.string a0_0) := (blk_cell BK10001.out 0).trans rfl; have hcz58_1 : w57.cell? ⟨gb10001, 1, none⟩ = some (.string a0_1) := (blk_cell BK10001.out 1).trans rfl; have hcz58_2 : w57.cell? ⟨gb10001, 2, none⟩ = some (.slice A0_2 l0_2.length c0_2) := (blk_cell BK10001.out 2).trans rfl; have hcz58_3 : w57.cell? ⟨gb10001, 3, none⟩ = some (.slice A0_3 l0_3.length c0_3) := (blk_cell BK10001.out 3).trans rfl; have hcz58_4 : w57.cell? ⟨gb10001, 4, none⟩ = some (.slice A0_4 l0_4.length c0_4) := (blk_cell BK10001.out 4).trans rfl; have hcz58_5 : w57.cell? ⟨gb10001, 5, none⟩ = some (.slice A0_5 l0_5.length c0_5) := (blk_cell BK10001.out 5).trans rfl; have hfz58_0 := blk_frozen BK10001.out 0; have hfz58_1 := blk_frozen BK10001.out 1; have hfz58_2 := blk_frozen BK10001.out 2; have hfz58_3 := blk_frozen BK10001.out 3; have hfz58_4 := blk_frozen BK10001.out 4; have hfz58_5 := blk_frozen BK10001.out 5))
  repeat (go_quiet (first | ((with_reducible refine gate_dst (N := 1) rfl ?_); refine box_event ?hg (N := 1) ?hd (cs := #[.string a0_0, .string a0_1, .slice A0_2 l0_2.length c0_2, .slice A0_3 l0_3.length c0_3, .slice A0_4 l0_4.length c0_4, .slice A0_5 l0_5.length c0_5]) (t := 36) ?hr ?_; (case hd => rfl); (case hg => rfl); (case hr => first | (go_simp; done) | (go_simp; rfl)); intro gb10001 hg w57 hbox hb; have n0_ := Aside0.mk (Kd.V_below (Kd.V_elderB (by (with_reducible repeat (first | apply Kd.V_alloc | apply Kd.V_drewN | apply Kd.V_drew)); exact HO0_5.out) gb10001 (Nat.le_of_eq hg.symm)) hb); have n1_ := Aside0.mk (below_step (by repeat (first | (with_reducible first | exact HB.out | apply below_alloc | apply pw_below_drewN | apply below_drew1) | exact HB.out)) hb); have n2_ := Aside0.mk (hbox); have n3_ := Aside0.mk ((by rw [hg]; exact (below_size (by repeat (first | (with_reducible first | exact HB.out | apply below_alloc | apply pw_below_drewN | apply below_drew1) | exact HB.out))) : w.heap.size ≤ gb10001)); have n4_ := Aside0.mk ((by rw [hg]; exact (below_size (by repeat (first | (with_reducible first | exact HB.out | apply below_alloc | apply pw_below_drewN | apply below_drew1) | exact HB.out))) : w.heap.size ≤ gb10001)); clear HO0_5; clear HB; have HO0_5 := n0_; have HB := n1_; have BK10001 := n2_; have GW10001 := n3_; have GE10001 := n4_; clear n0_ n1_ n2_ n3_ n4_; clear hb hbox hg; have hcz58_0 : w57.cell? ⟨gb10001, 0, none⟩ = some (.string a0_0) := (blk_cell BK10001.out 0).trans rfl; have hcz58_1 : w57.cell? ⟨gb10001, 1, none⟩ = some (.string a0_1) := (blk_cell BK10001.out 1).trans rfl; have hcz58_2 : w57.cell? ⟨gb10001, 2, none⟩ = some (.slice A0_2 l0_2.length c0_2) := (blk_cell BK10001.out 2).trans rfl; have hcz58_3 : w57.cell? ⟨gb10001, 3, none⟩ = some (.slice A0_3 l0_3.length c0_3) := (blk_cell BK10001.out 3).trans rfl; have hcz58_4 : w57.cell? ⟨gb10001, 4, none⟩ = some (.slice A0_4 l0_4.length c0_4) := (blk_cell BK10001.out 4).trans rfl; have hcz58_5 : w57.cell? ⟨gb10001, 5, none⟩ = some (.slice A0_5 l0_5.length c0_5) := (blk_cell BK10001.out 5).trans rfl; have hfz58_0 := blk_frozen BK10001.out 0; have hfz58_1 := blk_frozen BK10001.out 1; have hfz58_2 := blk_frozen BK10001.out 2; have hfz58_3 := blk_frozen BK10001.out 3; have hfz58_4 := blk_frozen BK10001.out 4; have hfz58_5 := blk_frozen BK10001.out 5)); try go_wp2_with (first | ((with_reducible refine gate_dst (N := 1) rfl ?_); refine box_event ?hg (N := 1) ?hd (cs := #[.string a0_0, .string a0_1, .slice A0_2 l0_2.length c0_2, .slice A0_3 l0_3.length c0_3, .slice A0_4 l0_4.length c0_4, .slice A0_5 l0_5.length c0_5]) (t := 36) ?hr ?_; (case hd => rfl); (case hg => rfl); (case hr => first | (go_simp; done) | (go_simp; rfl)); intro gb10001 hg w57 hbox hb; have n0_ := Aside0.mk (Kd.V_below (Kd.V_elderB (by (with_reducible repeat (first | apply Kd.V_alloc | apply Kd.V_drewN | apply Kd.V_drew)); exact HO0_5.out) gb10001 (Nat.le_of_eq hg.symm)) hb); have n1_ := Aside0.mk (below_step (by repeat (first | (with_reducible first | exact HB.out | apply below_alloc | apply pw_below_drewN | apply below_drew1) | exact HB.out)) hb); have n2_ := Aside0.mk (hbox); have n3_ := Aside0.mk ((by rw [hg]; exact (below_size (by repeat (first | (with_reducible first | exact HB.out | apply below_alloc | apply pw_below_drewN | apply below_drew1) | exact HB.out))) : w.heap.size ≤ gb10001)); have n4_ := Aside0.mk ((by rw [hg]; exact (below_size (by repeat (first | (with_reducible first | exact HB.out | apply below_alloc | apply pw_below_drewN | apply below_drew1) | exact HB.out))) : w.heap.size ≤ gb10001)); clear HO0_5; clear HB; have HO0_5 := n0_; have HB := n1_; have BK10001 := n2_; have GW10001 := n3_; have GE10001 := n4_; clear n0_ n1_ n2_ n3_ n4_; clear hb hbox hg; have hcz58_0 : w57.cell? ⟨gb10001, 0, none⟩ = some (.string a0_0) := (blk_cell BK10001.out 0).trans rfl; have hcz58_1 : w57.cell? ⟨gb10001, 1, none⟩ = some (.string a0_1) := (blk_cell BK10001.out 1).trans rfl; have hcz58_2 : w57.cell? ⟨gb10001, 2, none⟩ = some (.slice A0_2 l0_2.length c0_2) := (blk_cell BK10001.out 2).trans rfl; have hcz58_3 : w57.cell? ⟨gb10001, 3, none⟩ = some (.slice A0_3 l0_3.length c0_3) := (blk_cell BK10001.out 3).trans rfl; have hcz58_4 : w57.cell? ⟨gb10001, 4, none⟩ = some (.slice A0_4 l0_4.length c0_4) := (blk_cell BK10001.out 4).trans rfl; have hcz58_5 : w57.cell? ⟨gb10001, 5, none⟩ = some (.slice A0_5 l0_5.length c0_5) := (blk_cell BK10001.out 5).trans rfl; have hfz58_0 := blk_frozen BK10001.out 0; have hfz58_1 := blk_frozen BK10001.out 1; have hfz58_2 := blk_frozen BK10001.out 2; have hfz58_3 := blk_frozen BK10001.out 3; have hfz58_4 := blk_frozen BK10001.out 4; have hfz58_5 := blk_frozen BK10001.out 5)))
  go_ret
  exact ⟨_, by first | rfl | (simp [errW_none, errW_some] <;> rfl) | (simp [*, errW_none, errW_some] <;> rfl), by first | exact Kd.S_nil _ _ _ _ _ | exact Kd.N_nil _ _ _ _ _ | exact Kd.V_nil _ _ _ _ _ | exact Kd.Q_nil _ _ _ _ _ | exact Kd.R_nil _ _ _ _ _, by repeat (first | (with_reducible first | exact HB.out | apply below_alloc | apply pw_below_drewN | apply below_drew1 | refine below_set ?_ GE10001.out) | exact HB.out)⟩
end Go.Proofs.Ytjmfpaalglbbhaa.A
namespace Go.Proofs.Ytjmfpaalglbbhaa.A
open Go.RowKit Go.Proofs.Ytjmfpaalglbbhaa.Ext Go.Proofs.YtjmfpaalglbbhaaW.PrintWords Go.Proofs.YtjmfpaalglbbhaaW.PrintLast Go.Proofs.YtjmfpaalglbbhaaW.PrintMore
attribute [local go_sem] max2_int min2_int max_two min_two max_three min_three max_four min_four
def laws_eqState.f (k : Nat) (a0_0 : ByteArray) (a0_1 : ByteArray) (l0_2 : List Int) (a1_0 : ByteArray) (a1_1 : ByteArray) (l1_2 : List Int) : Option (Bool) := if a0_0.toList = a1_0.toList then (if a0_1.toList = a1_1.toList then ((laws_eqIntS.f k l0_2 l1_2).bind fun t53003 => (if t53003 = true then (some true) else (some false))) else (some false)) else (some false)
theorem laws_eqState.mono : ∀ a0 a1 a2 a3 a4 a5 k, LeO (laws_eqState.f k a0 a1 a2 a3 a4 a5) (laws_eqState.f (k + 1) a0 a1 a2 a3 a4 a5) := by
 intro a0 a1 a2 a3 a4 a5 k
 unfold laws_eqState.f
 repeat' first
   | (with_reducible exact laws_eqIntS.mono _ _ _)
   | (with_reducible exact LeO.refl _)
   | (with_reducible exact LeO.none _)
   | (with_reducible refine LeO.ite ?_ ?_)
   | (with_reducible refine LeO.bind ?_ (fun _ => ?_))
theorem laws_eqState.calls (k : Nat) (a0_0 : ByteArray) (a0_1 : ByteArray) (A0_2 : Option Addr) (c0_2 : Nat) (l0_2 : List Int) (a1_0 : ByteArray) (a1_1 : ByteArray) (A1_2 : Option Addr) (c1_2 : Nat) (l1_2 : List Int) (r : Bool) (w : World) (hr0_2 : Kd.C (Kd.int .i64) w A0_2 l0_2.length l0_2) (hc0_2 : l0_2.length ≤ c0_2) (hr1_2 : Kd.C (Kd.int .i64) w A1_2 l1_2.length l1_2) (hc1_2 : l1_2.length ≤ c1_2) (h : laws_eqState.f k a0_0 a0_1 l0_2 a1_0 a1_1 l1_2 = some r) :
  Calls Try.prog 53 #[.agg #[.string a0_0, .string a0_1, .slice A0_2 l0_2.length c0_2], .agg #[.string a1_0, .string a1_1, .slice A1_2 l1_2.length c1_2]] w fun e w' => e = .returned (.bool r) ∧ Below w.heap.size w w' := by
 have hu89 := Try.underlying89
 have HR0_2 := Aside0.mk hr0_2
 have HC0_2 := Aside0.mk hc0_2
 clear hr0_2 hc0_2
 have HR1_2 := Aside0.mk hr1_2
 have HC1_2 := Aside0.mk hc1_2
 clear hr1_2 hc1_2
 have HB := Aside0.mk (Below.refl w.heap.size w)
 have H : (if a0_0.toList = a1_0.toList then (if a0_1.toList = a1_1.toList then ((laws_eqIntS.f k l0_2 l1_2).bind fun t53003 => (if t53003 = true then (some true) else (some false))) else (some false)) else (some false)) = some r := h
 clear h
 by_cases c3 : a0_0.toList = a1_0.toList
 ·rw [if_pos c3] at H
  have c3b0 : (a0_0.toList == a1_0.toList) = true := beq_iff_eq.mpr c3
  have c3b1 : (a0_0.toList != a1_0.toList) = false := bne_eq_false_iff_eq.mpr c3
  clear c3
  by_cases c4 : a0_1.toList = a1_1.toList
  ·rw [if_pos c4] at H
   have c4b0 : (a0_1.toList == a1_1.toList) = true := beq_iff_eq.mpr c4
   have c4b1 : (a0_1.toList != a1_1.toList) = false := bne_eq_false_iff_eq.mpr c4
   clear c4
   replace H := Option.bind_eq_some_iff.mp H
   obtain ⟨t53003, A50, H⟩ := H
   replace H : (if t53003 = true then (some true) else (some false)) = some r := H
   have A5 := Aside0.mk A50
   clear A50
   by_cases c6 : t53003 = true
   ·subst c6
    have H1 : (some true) = some r := by rw [if_pos rfl] at H; exact H
    clear H
    have H := H1
    clear H1
    obtain rfl := Option.some.inj H
    go_enter Try.func53, Try.ntmps53
    go_wp2_with (first | ((with_reducible refine gate_dst (N := 2) rfl ?_); refine box_event ?hg (N := 2) ?hd (cs := #[.string a0_0, .string a0_1, .slice A0_2 l0_2.length c0_2]) (t := 89) ?hr ?_; (case hd => rfl); (case hg => rfl); (case hr => first | (go_simp; done) | (go_simp; rfl)); intro gb53001 hg w7 hbox hb; have n0_ := Aside0.mk (below_step (by repeat (first | (with_reducible first | exact HB.out | apply below_alloc | apply pw_below_drewN | apply below_drew1) | exact HB.out)) hb); have n1_ := Aside0.mk (hbox); have n2_ := Aside0.mk ((by rw [hg]; exact (below_size (by repeat (first | (with_reducible first | exact HB.out | apply below_alloc | apply pw_below_drewN | apply below_drew1) | exact HB.out))) : w.heap.size ≤ gb53001)); have n3_ := Aside0.mk ((by rw [hg]; exact (below_size (by repeat (first | (with_reducible first | exact HB.out | apply below_alloc | apply pw_below_drewN | apply below_drew1) | exact HB.out))) : w.heap.size ≤ gb53001)); clear HB; have HB := n0_; have BK53001 := n1_; have GW53001 := n2_; have GE53001 := n3_; clear n0_ n1_ n2_ n3_; clear hb hbox hg) | ((with_reducible refine gate_dst (N := 3) rfl ?_); refine box_event ?hg (N := 3) ?hd (cs := #[.string a1_0, .string a1_1, .slice A1_2 l1_2.length c1_2]) (t := 89) ?hr ?_; (case hd => rfl); (case hg => rfl); (case hr => first | (go_simp; done) | (go_simp; rfl)); intro gb53002 hg w8 hbox hb; have n0_ := Aside0.mk (blk_below (g := gb53001) (o := .cells #[.string a0_0, .string a0_1, .slice A0_2 l0_2.length c0_2] 89 (0, 0)) (by (with_reducible repeat (first | refine blk_drewN ?_ _ | refine blk_drew ?_ | refine blk_alloc ?_ _)); exact BK53001.out) hb); have n1_ := Aside0.mk (below_step (by repeat (first | (with_reducible first | exact HB.out | apply below_alloc | apply pw_below_drewN | apply below_drew1 | refine below_set ?_ GE53001.out) | exact HB.out)) hb); have n2_ := Aside0.mk (hbox); have n3_ := Aside0.mk ((by rw [hg]; exact (below_size (by repeat (first | (with_reducible first | exact HB.out | apply below_alloc | apply pw_below_drewN | apply below_drew1 | refine below_set ?_ GE53001.out) | exact HB.out))) : w.heap.size ≤ gb53002)); have n4_ := Aside0.mk ((by rw [hg]; exact (below_size (by repeat (first | (with_reducible first | exact HB.out | apply below_alloc | apply pw_below_drewN | apply below_drew1 | refine below_set ?_ GE53001.out) | exact HB.out))) : w.heap.size ≤ gb53002)); have n5_ := Aside0.mk ((by rw [hg]; exact Nat.ne_of_lt (blk_lt (g := gb53001) (o := .cells #[.string a0_0, .string a0_1, .slice A0_2 l0_2.length c0_2] 89 (0, 0)) (by (with_reducible repeat (first | refine blk_drewN ?_ _ | refine blk_drew ?_ | refine blk_alloc ?_ _)); exact BK53001.out)) : gb53001 ≠ gb53002)); have n6_ := Aside0.mk ((by rw [hg]; exact Nat.ne_of_gt (blk_lt (g := gb53001) (o := .cells #[.string a0_0, .string a0_1, .slice A0_2 l0_2.length c0_2] 89 (0, 0)) (by (with_reducible repeat (first | refine blk_drewN ?_ _ | refine blk_drew ?_ | refine blk_alloc ?_ _)); exact BK53001.out)) : gb53002 ≠ gb53001)); clear BK53001; clear HB; have BK53001 := n0_; have HB := n1_; have BK53002 := n2_; have GW53002 := n3_; have GE53002 := n4_; have NB53001_53002 := n5_; have NB53002_53001 := n6_; clear n0_ n1_ n2_ n3_ n4_ n5_ n6_; clear hb hbox hg; have hnb9 := NB53001_53002.out; have hnc9 := NB53002_53001.out; have hcz10_0 : w8.cell? ⟨gb53001, 0, none⟩ = some (.string a0_0) := (blk_cell BK53001.out 0).trans rfl; have hcz10_1 : w8.cell? ⟨gb53001, 1, none⟩ = some (.string a0_1) := (blk_cell BK53001.out 1).trans rfl; have hcz10_2 : w8.cell? ⟨gb53001, 2, none⟩ = some (.slice A0_2 l0_2.length c0_2) := (blk_cell BK53001.out 2).trans rfl; have hfz10_0 := blk_frozen BK53001.out 0; have hfz10_1 := blk_frozen BK53001.out 1; have hfz10_2 := blk_frozen BK53001.out 2; have hcz11_0 : w8.cell? ⟨gb53002, 0, none⟩ = some (.string a1_0) := (blk_cell BK53002.out 0).trans rfl; have hcz11_1 : w8.cell? ⟨gb53002, 1, none⟩ = some (.string a1_1) := (blk_cell BK53002.out 1).trans rfl; have hcz11_2 : w8.cell? ⟨gb53002, 2, none⟩ = some (.slice A1_2 l1_2.length c1_2) := (blk_cell BK53002.out 2).trans rfl; have hfz11_0 := blk_frozen BK53002.out 0; have hfz11_1 := blk_frozen BK53002.out 1; have hfz11_2 := blk_frozen BK53002.out 2) | ((with_reducible refine gate_callee (f := 71) rfl ?_); refine goesL_ (some 19) rfl rfl Try.func71 (by kernel_rfl) rfl #[.slice A0_2 l0_2.length c0_2, .slice A1_2 l1_2.length c1_2] rfl (by (try simp only [List.map_toArray, List.map_cons, List.map_nil]); first | done | rfl | (simp only [List.length_drop, List.length_take]; rfl)) ?_; (with_reducible refine (laws_eqIntS.calls k _ _ l0_2 _ _ l1_2 true _ ?side1 ?side2 ?side3 ?side4 A5.out).mono ?_); (case side1 => repeat (first | exact (Kd.C_below HR0_2.out HB.out) | (with_reducible refine Kd.C_alloc ?_ _) | (with_reducible refine Kd.C_drewN ?_ _) | (with_reducible refine Kd.C_drew ?_))); (case side2 => exact HC0_2.out); (case side3 => repeat (first | exact (Kd.C_below HR1_2.out HB.out) | (with_reducible refine Kd.C_alloc ?_ _) | (with_reducible refine Kd.C_drewN ?_ _) | (with_reducible refine Kd.C_drew ?_))); (case side4 => exact HC1_2.out); rintro e w' ⟨rfl, ⟨nd, rfl⟩⟩; refine ⟨_, rfl, ?_⟩))
    go_ret
    exact ⟨by first | rfl | (simp [errW_none, errW_some] <;> rfl) | (simp [*, errW_none, errW_some] <;> rfl), by repeat (first | (with_reducible first | exact HB.out | apply below_alloc | apply pw_below_drewN | apply below_drew1 | refine below_set ?_ GE53001.out | refine below_set ?_ GE53002.out) | exact HB.out)⟩
   ·replace c6 := Bool.eq_false_iff.mpr c6
    subst c6
    have H1 : (some false) = some r := by rw [if_neg (show ¬ (false = true) by decide)] at H; exact H
    clear H
    have H := H1
    clear H1
    obtain rfl := Option.some.inj H
    go_enter Try.func53, Try.ntmps53
    go_wp2_with (first | ((with_reducible refine gate_dst (N := 2) rfl ?_); refine box_event ?hg (N := 2) ?hd (cs := #[.string a0_0, .string a0_1, .slice A0_2 l0_2.length c0_2]) (t := 89) ?hr ?_; (case hd => rfl); (case hg => rfl); (case hr => first | (go_simp; done) | (go_simp; rfl)); intro gb53001 hg w12 hbox hb; have n0_ := Aside0.mk (below_step (by repeat (first | (with_reducible first | exact HB.out | apply below_alloc | apply pw_below_drewN | apply below_drew1) | exact HB.out)) hb); have n1_ := Aside0.mk (hbox); have n2_ := Aside0.mk ((by rw [hg]; exact (below_size (by repeat (first | (with_reducible first | exact HB.out | apply below_alloc | apply pw_below_drewN | apply below_drew1) | exact HB.out))) : w.heap.size ≤ gb53001)); have n3_ := Aside0.mk ((by rw [hg]; exact (below_size (by repeat (first | (with_reducible first | exact HB.out | apply below_alloc | apply pw_below_drewN | apply below_drew1) | exact HB.out))) : w.heap.size ≤ gb53001)); clear HB; have HB := n0_; have BK53001 := n1_; have GW53001 := n2_; have GE53001 := n3_; clear n0_ n1_ n2_ n3_; clear hb hbox hg) | ((with_reducible refine gate_dst (N := 3) rfl ?_); refine box_event ?hg (N := 3) ?hd (cs := #[.string a1_0, .string a1_1, .slice A1_2 l1_2.length c1_2]) (t := 89) ?hr ?_; (case hd => rfl); (case hg => rfl); (case hr => first | (go_simp; done) | (go_simp; rfl)); intro gb53002 hg w13 hbox hb; have n0_ := Aside0.mk (blk_below (g := gb53001) (o := .cells #[.string a0_0, .string a0_1, .slice A0_2 l0_2.length c0_2] 89 (0, 0)) (by (with_reducible repeat (first | refine blk_drewN ?_ _ | refine blk_drew ?_ | refine blk_alloc ?_ _)); exact BK53001.out) hb); have n1_ := Aside0.mk (below_step (by repeat (first | (with_reducible first | exact HB.out | apply below_alloc | apply pw_below_drewN | apply below_drew1 | refine below_set ?_ GE53001.out) | exact HB.out)) hb); have n2_ := Aside0.mk (hbox); have n3_ := Aside0.mk ((by rw [hg]; exact (below_size (by repeat (first | (with_reducible first | exact HB.out | apply below_alloc | apply pw_below_drewN | apply below_drew1 | refine below_set ?_ GE53001.out) | exact HB.out))) : w.heap.size ≤ gb53002)); have n4_ := Aside0.mk ((by rw [hg]; exact (below_size (by repeat (first | (with_reducible first | exact HB.out | apply below_alloc | apply pw_below_drewN | apply below_drew1 | refine below_set ?_ GE53001.out) | exact HB.out))) : w.heap.size ≤ gb53002)); have n5_ := Aside0.mk ((by rw [hg]; exact Nat.ne_of_lt (blk_lt (g := gb53001) (o := .cells #[.string a0_0, .string a0_1, .slice A0_2 l0_2.length c0_2] 89 (0, 0)) (by (with_reducible repeat (first | refine blk_drewN ?_ _ | refine blk_drew ?_ | refine blk_alloc ?_ _)); exact BK53001.out)) : gb53001 ≠ gb53002)); have n6_ := Aside0.mk ((by rw [hg]; exact Nat.ne_of_gt (blk_lt (g := gb53001) (o := .cells #[.string a0_0, .string a0_1, .slice A0_2 l0_2.length c0_2] 89 (0, 0)) (by (with_reducible repeat (first | refine blk_drewN ?_ _ | refine blk_drew ?_ | refine blk_alloc ?_ _)); exact BK53001.out)) : gb53002 ≠ gb53001)); clear BK53001; clear HB; have BK53001 := n0_; have HB := n1_; have BK53002 := n2_; have GW53002 := n3_; have GE53002 := n4_; have NB53001_53002 := n5_; have NB53002_53001 := n6_; clear n0_ n1_ n2_ n3_ n4_ n5_ n6_; clear hb hbox hg; have hnb14 := NB53001_53002.out; have hnc14 := NB53002_53001.out; have hcz15_0 : w13.cell? ⟨gb53001, 0, none⟩ = some (.string a0_0) := (blk_cell BK53001.out 0).trans rfl; have hcz15_1 : w13.cell? ⟨gb53001, 1, none⟩ = some (.string a0_1) := (blk_cell BK53001.out 1).trans rfl; have hcz15_2 : w13.cell? ⟨gb53001, 2, none⟩ = some (.slice A0_2 l0_2.length c0_2) := (blk_cell BK53001.out 2).trans rfl; have hfz15_0 := blk_frozen BK53001.out 0; have hfz15_1 := blk_frozen BK53001.out 1; have hfz15_2 := blk_frozen BK53001.out 2; have hcz16_0 : w13.cell? ⟨gb53002, 0, none⟩ = some (.string a1_0) := (blk_cell BK53002.out 0).trans rfl; have hcz16_1 : w13.cell? ⟨gb53002, 1, none⟩ = some (.string a1_1) := (blk_cell BK53002.out 1).trans rfl; have hcz16_2 : w13.cell? ⟨gb53002, 2, none⟩ = some (.slice A1_2 l1_2.length c1_2) := (blk_cell BK53002.out 2).trans rfl; have hfz16_0 := blk_frozen BK53002.out 0; have hfz16_1 := blk_frozen BK53002.out 1; have hfz16_2 := blk_frozen BK53002.out 2) | ((with_reducible refine gate_callee (f := 71) rfl ?_); refine goesL_ (some 19) rfl rfl Try.func71 (by kernel_rfl) rfl #[.slice A0_2 l0_2.length c0_2, .slice A1_2 l1_2.length c1_2] rfl (by (try simp only [List.map_toArray, List.map_cons, List.map_nil]); first | done | rfl | (simp only [List.length_drop, List.length_take]; rfl)) ?_; (with_reducible refine (laws_eqIntS.calls k _ _ l0_2 _ _ l1_2 false _ ?side1 ?side2 ?side3 ?side4 A5.out).mono ?_); (case side1 => repeat (first | exact (Kd.C_below HR0_2.out HB.out) | (with_reducible refine Kd.C_alloc ?_ _) | (with_reducible refine Kd.C_drewN ?_ _) | (with_reducible refine Kd.C_drew ?_))); (case side2 => exact HC0_2.out); (case side3 => repeat (first | exact (Kd.C_below HR1_2.out HB.out) | (with_reducible refine Kd.C_alloc ?_ _) | (with_reducible refine Kd.C_drewN ?_ _) | (with_reducible refine Kd.C_drew ?_))); (case side4 => exact HC1_2.out); rintro e w' ⟨rfl, ⟨nd, rfl⟩⟩; refine ⟨_, rfl, ?_⟩))
    go_ret
    exact ⟨by first | rfl | (simp [errW_none, errW_some] <;> rfl) | (simp [*, errW_none, errW_some] <;> rfl), by repeat (first | (with_reducible first | exact HB.out | apply below_alloc | apply pw_below_drewN | apply below_drew1 | refine below_set ?_ GE53001.out | refine below_set ?_ GE53002.out) | exact HB.out)⟩
  ·rw [if_neg c4] at H
   have c4b0 : (a0_1.toList == a1_1.toList) = false := beq_eq_false_iff_ne.mpr c4
   have c4b1 : (a0_1.toList != a1_1.toList) = true := bne_iff_ne.mpr c4
   obtain rfl := Option.some.inj H
   go_enter Try.func53, Try.ntmps53
   go_wp2_with (first | ((with_reducible refine gate_dst (N := 2) rfl ?_); refine box_event ?hg (N := 2) ?hd (cs := #[.string a0_0, .string a0_1, .slice A0_2 l0_2.length c0_2]) (t := 89) ?hr ?_; (case hd => rfl); (case hg => rfl); (case hr => first | (go_simp; done) | (go_simp; rfl)); intro gb53001 hg w17 hbox hb; have n0_ := Aside0.mk (below_step (by repeat (first | (with_reducible first | exact HB.out | apply below_alloc | apply pw_below_drewN | apply below_drew1) | exact HB.out)) hb); have n1_ := Aside0.mk (hbox); have n2_ := Aside0.mk ((by rw [hg]; exact (below_size (by repeat (first | (with_reducible first | exact HB.out | apply below_alloc | apply pw_below_drewN | apply below_drew1) | exact HB.out))) : w.heap.size ≤ gb53001)); have n3_ := Aside0.mk ((by rw [hg]; exact (below_size (by repeat (first | (with_reducible first | exact HB.out | apply below_alloc | apply pw_below_drewN | apply below_drew1) | exact HB.out))) : w.heap.size ≤ gb53001)); clear HB; have HB := n0_; have BK53001 := n1_; have GW53001 := n2_; have GE53001 := n3_; clear n0_ n1_ n2_ n3_; clear hb hbox hg) | ((with_reducible refine gate_dst (N := 3) rfl ?_); refine box_event ?hg (N := 3) ?hd (cs := #[.string a1_0, .string a1_1, .slice A1_2 l1_2.length c1_2]) (t := 89) ?hr ?_; (case hd => rfl); (case hg => rfl); (case hr => first | (go_simp; done) | (go_simp; rfl)); intro gb53002 hg w18 hbox hb; have n0_ := Aside0.mk (blk_below (g := gb53001) (o := .cells #[.string a0_0, .string a0_1, .slice A0_2 l0_2.length c0_2] 89 (0, 0)) (by (with_reducible repeat (first | refine blk_drewN ?_ _ | refine blk_drew ?_ | refine blk_alloc ?_ _)); exact BK53001.out) hb); have n1_ := Aside0.mk (below_step (by repeat (first | (with_reducible first | exact HB.out | apply below_alloc | apply pw_below_drewN | apply below_drew1 | refine below_set ?_ GE53001.out) | exact HB.out)) hb); have n2_ := Aside0.mk (hbox); have n3_ := Aside0.mk ((by rw [hg]; exact (below_size (by repeat (first | (with_reducible first | exact HB.out | apply below_alloc | apply pw_below_drewN | apply below_drew1 | refine below_set ?_ GE53001.out) | exact HB.out))) : w.heap.size ≤ gb53002)); have n4_ := Aside0.mk ((by rw [hg]; exact (below_size (by repeat (first | (with_reducible first | exact HB.out | apply below_alloc | apply pw_below_drewN | apply below_drew1 | refine below_set ?_ GE53001.out) | exact HB.out))) : w.heap.size ≤ gb53002)); have n5_ := Aside0.mk ((by rw [hg]; exact Nat.ne_of_lt (blk_lt (g := gb53001) (o := .cells #[.string a0_0, .string a0_1, .slice A0_2 l0_2.length c0_2] 89 (0, 0)) (by (with_reducible repeat (first | refine blk_drewN ?_ _ | refine blk_drew ?_ | refine blk_alloc ?_ _)); exact BK53001.out)) : gb53001 ≠ gb53002)); have n6_ := Aside0.mk ((by rw [hg]; exact Nat.ne_of_gt (blk_lt (g := gb53001) (o := .cells #[.string a0_0, .string a0_1, .slice A0_2 l0_2.length c0_2] 89 (0, 0)) (by (with_reducible repeat (first | refine blk_drewN ?_ _ | refine blk_drew ?_ | refine blk_alloc ?_ _)); exact BK53001.out)) : gb53002 ≠ gb53001)); clear BK53001; clear HB; have BK53001 := n0_; have HB := n1_; have BK53002 := n2_; have GW53002 := n3_; have GE53002 := n4_; have NB53001_53002 := n5_; have NB53002_53001 := n6_; clear n0_ n1_ n2_ n3_ n4_ n5_ n6_; clear hb hbox hg; have hnb19 := NB53001_53002.out; have hnc19 := NB53002_53001.out; have hcz20_0 : w18.cell? ⟨gb53001, 0, none⟩ = some (.string a0_0) := (blk_cell BK53001.out 0).trans rfl; have hcz20_1 : w18.cell? ⟨gb53001, 1, none⟩ = some (.string a0_1) := (blk_cell BK53001.out 1).trans rfl; have hcz20_2 : w18.cell? ⟨gb53001, 2, none⟩ = some (.slice A0_2 l0_2.length c0_2) := (blk_cell BK53001.out 2).trans rfl; have hfz20_0 := blk_frozen BK53001.out 0; have hfz20_1 := blk_frozen BK53001.out 1; have hfz20_2 := blk_frozen BK53001.out 2; have hcz21_0 : w18.cell? ⟨gb53002, 0, none⟩ = some (.string a1_0) := (blk_cell BK53002.out 0).trans rfl; have hcz21_1 : w18.cell? ⟨gb53002, 1, none⟩ = some (.string a1_1) := (blk_cell BK53002.out 1).trans rfl; have hcz21_2 : w18.cell? ⟨gb53002, 2, none⟩ = some (.slice A1_2 l1_2.length c1_2) := (blk_cell BK53002.out 2).trans rfl; have hfz21_0 := blk_frozen BK53002.out 0; have hfz21_1 := blk_frozen BK53002.out 1; have hfz21_2 := blk_frozen BK53002.out 2))
   go_ret
   exact ⟨by first | rfl | (simp [errW_none, errW_some] <;> rfl) | (simp [*, errW_none, errW_some] <;> rfl), by repeat (first | (with_reducible first | exact HB.out | apply below_alloc | apply pw_below_drewN | apply below_drew1 | refine below_set ?_ GE53001.out | refine below_set ?_ GE53002.out) | exact HB.out)⟩
 ·rw [if_neg c3] at H
  have c3b0 : (a0_0.toList == a1_0.toList) = false := beq_eq_false_iff_ne.mpr c3
  have c3b1 : (a0_0.toList != a1_0.toList) = true := bne_iff_ne.mpr c3
  obtain rfl := Option.some.inj H
  go_enter Try.func53, Try.ntmps53
  go_wp2_with (first | ((with_reducible refine gate_dst (N := 2) rfl ?_); refine box_event ?hg (N := 2) ?hd (cs := #[.string a0_0, .string a0_1, .slice A0_2 l0_2.length c0_2]) (t := 89) ?hr ?_; (case hd => rfl); (case hg => rfl); (case hr => first | (go_simp; done) | (go_simp; rfl)); intro gb53001 hg w22 hbox hb; have n0_ := Aside0.mk (below_step (by repeat (first | (with_reducible first | exact HB.out | apply below_alloc | apply pw_below_drewN | apply below_drew1) | exact HB.out)) hb); have n1_ := Aside0.mk (hbox); have n2_ := Aside0.mk ((by rw [hg]; exact (below_size (by repeat (first | (with_reducible first | exact HB.out | apply below_alloc | apply pw_below_drewN | apply below_drew1) | exact HB.out))) : w.heap.size ≤ gb53001)); have n3_ := Aside0.mk ((by rw [hg]; exact (below_size (by repeat (first | (with_reducible first | exact HB.out | apply below_alloc | apply pw_below_drewN | apply below_drew1) | exact HB.out))) : w.heap.size ≤ gb53001)); clear HB; have HB := n0_; have BK53001 := n1_; have GW53001 := n2_; have GE53001 := n3_; clear n0_ n1_ n2_ n3_; clear hb hbox hg) | ((with_reducible refine gate_dst (N := 3) rfl ?_); refine box_event ?hg (N := 3) ?hd (cs := #[.string a1_0, .string a1_1, .slice A1_2 l1_2.length c1_2]) (t := 89) ?hr ?_; (case hd => rfl); (case hg => rfl); (case hr => first | (go_simp; done) | (go_simp; rfl)); intro gb53002 hg w23 hbox hb; have n0_ := Aside0.mk (blk_below (g := gb53001) (o := .cells #[.string a0_0, .string a0_1, .slice A0_2 l0_2.length c0_2] 89 (0, 0)) (by (with_reducible repeat (first | refine blk_drewN ?_ _ | refine blk_drew ?_ | refine blk_alloc ?_ _)); exact BK53001.out) hb); have n1_ := Aside0.mk (below_step (by repeat (first | (with_reducible first | exact HB.out | apply below_alloc | apply pw_below_drewN | apply below_drew1 | refine below_set ?_ GE53001.out) | exact HB.out)) hb); have n2_ := Aside0.mk (hbox); have n3_ := Aside0.mk ((by rw [hg]; exact (below_size (by repeat (first | (with_reducible first | exact HB.out | apply below_alloc | apply pw_below_drewN | apply below_drew1 | refine below_set ?_ GE53001.out) | exact HB.out))) : w.heap.size ≤ gb53002)); have n4_ := Aside0.mk ((by rw [hg]; exact (below_size (by repeat (first | (with_reducible first | exact HB.out | apply below_alloc | apply pw_below_drewN | apply below_drew1 | refine below_set ?_ GE53001.out) | exact HB.out))) : w.heap.size ≤ gb53002)); have n5_ := Aside0.mk ((by rw [hg]; exact Nat.ne_of_lt (blk_lt (g := gb53001) (o := .cells #[.string a0_0, .string a0_1, .slice A0_2 l0_2.length c0_2] 89 (0, 0)) (by (with_reducible repeat (first | refine blk_drewN ?_ _ | refine blk_drew ?_ | refine blk_alloc ?_ _)); exact BK53001.out)) : gb53001 ≠ gb53002)); have n6_ := Aside0.mk ((by rw [hg]; exact Nat.ne_of_gt (blk_lt (g := gb53001) (o := .cells #[.string a0_0, .string a0_1, .slice A0_2 l0_2.length c0_2] 89 (0, 0)) (by (with_reducible repeat (first | refine blk_drewN ?_ _ | refine blk_drew ?_ | refine blk_alloc ?_ _)); exact BK53001.out)) : gb53002 ≠ gb53001)); clear BK53001; clear HB; have BK53001 := n0_; have HB := n1_; have BK53002 := n2_; have GW53002 := n3_; have GE53002 := n4_; have NB53001_53002 := n5_; have NB53002_53001 := n6_; clear n0_ n1_ n2_ n3_ n4_ n5_ n6_; clear hb hbox hg; have hnb24 := NB53001_53002.out; have hnc24 := NB53002_53001.out; have hcz25_0 : w23.cell? ⟨gb53001, 0, none⟩ = some (.string a0_0) := (blk_cell BK53001.out 0).trans rfl; have hcz25_1 : w23.cell? ⟨gb53001, 1, none⟩ = some (.string a0_1) := (blk_cell BK53001.out 1).trans rfl; have hcz25_2 : w23.cell? ⟨gb53001, 2, none⟩ = some (.slice A0_2 l0_2.length c0_2) := (blk_cell BK53001.out 2).trans rfl; have hfz25_0 := blk_frozen BK53001.out 0; have hfz25_1 := blk_frozen BK53001.out 1; have hfz25_2 := blk_frozen BK53001.out 2; have hcz26_0 : w23.cell? ⟨gb53002, 0, none⟩ = some (.string a1_0) := (blk_cell BK53002.out 0).trans rfl; have hcz26_1 : w23.cell? ⟨gb53002, 1, none⟩ = some (.string a1_1) := (blk_cell BK53002.out 1).trans rfl; have hcz26_2 : w23.cell? ⟨gb53002, 2, none⟩ = some (.slice A1_2 l1_2.length c1_2) := (blk_cell BK53002.out 2).trans rfl; have hfz26_0 := blk_frozen BK53002.out 0; have hfz26_1 := blk_frozen BK53002.out 1; have hfz26_2 := blk_frozen BK53002.out 2))
  go_ret
  exact ⟨by first | rfl | (simp [errW_none, errW_some] <;> rfl) | (simp [*, errW_none, errW_some] <;> rfl), by repeat (first | (with_reducible first | exact HB.out | apply below_alloc | apply pw_below_drewN | apply below_drew1 | refine below_set ?_ GE53001.out | refine below_set ?_ GE53002.out) | exact HB.out)⟩
def laws_eqStateS.l0 : Nat → List (S89) → List (S89) → Int → Option (Bool)
 | 0, _, _, _ => none
 | k + 1, x0, x1, x5 => if x5 < (x0.length : Int) then (if 0 ≤ x5 then (if x5 < (x1.length : Int) then ((laws_eqState.f k ((rd_T89 x0 x5).f0) ((rd_T89 x0 x5).f1) ((rd_T89 x0 x5).f2) ((rd_T89 x1 x5).f0) ((rd_T89 x1 x5).f1) ((rd_T89 x1 x5).f2)).bind fun t11003 => (if t11003 = true then (laws_eqStateS.l0 k x0 x1 (wrap64 (x5 + 1))) else (some false))) else (none)) else (none)) else (some true)
def laws_eqStateS.f (k : Nat) (l0 : List (S89)) (l1 : List (S89)) : Option (Bool) := if (l0.length : Int) = (l1.length : Int) then (laws_eqStateS.l0 k l0 l1 0) else (some false)
theorem laws_eqStateS.mono_l : ∀ k, (∀ y0 y1 y2, LeO (laws_eqStateS.l0 k y0 y1 y2) (laws_eqStateS.l0 (k + 1) y0 y1 y2))
 | 0 => fun _ _ _ r h => by simp [laws_eqStateS.l0] at h
 | k + 1 => by
  have ih0 := laws_eqStateS.mono_l k
  ·intro y0 y1 y2
   unfold laws_eqStateS.l0
   repeat' first
   | (with_reducible exact ih0 _ _ _)
   | (with_reducible exact laws_eqState.mono _ _ _ _ _ _ _)
   | (with_reducible exact LeO.refl _)
   | (with_reducible exact LeO.none _)
   | (with_reducible refine LeO.ite ?_ ?_)
   | (with_reducible refine LeO.bind ?_ (fun _ => ?_))
theorem laws_eqStateS.mono : ∀ a0 a1 k, LeO (laws_eqStateS.f k a0 a1) (laws_eqStateS.f (k + 1) a0 a1) := by
 intro a0 a1 k
 have ih0 := laws_eqStateS.mono_l k
 unfold laws_eqStateS.f
 repeat' first
   | (with_reducible exact ih0 _ _ _)
   | (with_reducible exact laws_eqState.mono _ _ _ _ _ _ _)
   | (with_reducible exact LeO.refl _)
   | (with_reducible exact LeO.none _)
   | (with_reducible refine LeO.ite ?_ ?_)
   | (with_reducible refine LeO.bind ?_ (fun _ => ?_))
def laws_eqStateS.T6 : Bool × List (List Nat × List Nat) := (true, [([], []), ([], []), ([0, 1], [0, 1]), ([2], [2]), ([], []), ([], []), ([4, 5], [4, 5]), ([6], [6]), ([3, 7], [3, 7]), ([8], [8])])
def laws_eqStateS.B6 : List Nat := [0, 0, 3, 7, 0, 0, 48, 112, 255, 511]
theorem laws_eqStateS.tab6 : rtab .any (opsOf Try.f11 6) = laws_eqStateS.T6 := by kernel_rfl
theorem laws_eqStateS.bits6 : waitsOk laws_eqStateS.T6.2 laws_eqStateS.B6 = true := by kernel_rfl
theorem laws_eqStateS.calls (k : Nat) (A0 : Option Addr) (c0 : Nat) (l0 : List (S89)) (A1 : Option Addr) (c1 : Nat) (l1 : List (S89)) (r : Bool) (w : World) (hr0 : Kd.C k89 w A0 l0.length l0) (hc0 : l0.length ≤ c0) (hr1 : Kd.C k89 w A1 l1.length l1) (hc1 : l1.length ≤ c1) (h : laws_eqStateS.f k l0 l1 = some r) :
  Calls Try.prog 11 #[.slice A0 l0.length c0, .slice A1 l1.length c1] w fun e w' => e = .returned (.bool r) ∧ Below w.heap.size w w' := by
 have hu89 := Try.underlying89
 have HR0 := Aside0.mk hr0
 have HC0 := Aside0.mk hc0
 clear hr0 hc0
 have HR1 := Aside0.mk hr1
 have HC1 := Aside0.mk hc1
 clear hr1 hc1
 have HB := Aside0.mk (Below.refl w.heap.size w)
 have H : (if (l0.length : Int) = (l1.length : Int) then (laws_eqStateS.l0 k l0 l1 0) else (some false)) = some r := h
 clear h
 by_cases c3 : (l0.length : Int) = (l1.length : Int)
 ·rw [if_pos c3] at H
  have c3b0 : ((l0.length : Int) == (l1.length : Int)) = true := beq_iff_eq.mpr c3
  have c3b1 : ((l0.length : Int) != (l1.length : Int)) = false := bne_eq_false_iff_eq.mpr c3
  have c3b2 : (l0.length == l1.length) = true := by first | simpa using c3 | (simp at c3 ⊢; omega)
  clear c3
  have H' := Aside0.mk H
  clear H
  go_enter Try.func11, Try.ntmps11
  go_wp2
  first | go_loopg [5] k (fun kq v5 w' => ∃ (x5_1 : Int), v5 = .int .i64 x5_1 ∧ Aside0 (laws_eqStateS.l0 kq l0 l1 x5_1 = some r) ∧ Aside0 (kq ≤ k) ∧ Aside0 (Below w.heap.size w w')) | (simp only [Act.put, List.setIfInBounds_toArray, List.set_cons_succ, List.set_cons_zero]; go_loopg [5] k (fun kq v5 w' => ∃ (x5_1 : Int), v5 = .int .i64 x5_1 ∧ Aside0 (laws_eqStateS.l0 kq l0 l1 x5_1 = some r) ∧ Aside0 (kq ≤ k) ∧ Aside0 (Below w.heap.size w w')))
  case atStart => exact ⟨(0), (by first | rfl | (simp; done) | (simp [*]; done)), H', ⟨Nat.le_refl _⟩, ⟨by repeat (first | (with_reducible first | exact HB.out | apply below_alloc | apply pw_below_drewN | apply below_drew1) | exact HB.out)⟩⟩
  case round =>
   clear H'
   try clear c1
   try clear p2
   try clear c3
   try clear c3b0
   try clear c3b1
   try clear c3b2
   obtain ⟨x5_1, rfl, HA, HK1, HB⟩ := hrel
   cases gk with
   | zero => exact absurd HA.out (by simp [laws_eqStateS.l0])
   | succ k1 =>
    have H := HA.out
    clear HA
    simp only [laws_eqStateS.l0] at H
    by_cases c4 : x5_1 < (l0.length : Int)
    ·rw [if_pos c4] at H
     have c4b0 : decide (x5_1 < (l0.length : Int)) = true := decide_eq_true c4
     clear c4
     by_cases c5 : 0 ≤ x5_1
     ·rw [if_pos c5] at H
      have c5b0 : decide (0 ≤ x5_1) = true := decide_eq_true c5
      clear c5
      by_cases c6 : x5_1 < (l1.length : Int)
      ·rw [if_pos c6] at H
       have c6b0 : decide (x5_1 < (l1.length : Int)) = true := decide_eq_true c6
       clear c6
       replace H := Option.bind_eq_some_iff.mp H
       obtain ⟨t11003, A70, H⟩ := H
       replace H : (if t11003 = true then (laws_eqStateS.l0 k1 l0 l1 (wrap64 (x5_1 + 1))) else (some false)) = some r := H
       have A7 := Aside0.mk A70
       clear A70
       by_cases c8 : t11003 = true
       ·subst c8
        have H1 : (laws_eqStateS.l0 k1 l0 l1 (wrap64 (x5_1 + 1))) = some r := by rw [if_pos rfl] at H; exact H
        clear H
        have H := H1
        clear H1
        have H' := Aside0.mk H
        clear H
        try go_wp2
        have n0_ := Aside0.mk (below_drew1 HB.out)
        clear HB
        have HB := n0_
        clear n0_
        have p11001 : 0 ≤ (x5_1 : Int) := of_decide_eq_true (by first | (with_reducible assumption) | assumption)
        have q11001 : x5_1 < (l0.length : Int) := of_decide_eq_true (by first | (with_reducible assumption) | assumption)
        obtain ⟨ad11001, A11001_2, c11001_2, e11001, hx11001_0, hx11001_1, hx11001_2, hl11001_2, hi11001_2⟩ := at_T89 HR0.out x5_1 p11001 q11001
        have hw11001_2 := hx11001_2
        have hw11001_1 := hx11001_1
        have hw11001_0 := hx11001_0
        cases e11001
        replace hx11001_0 := (HB.out.cell (World.block_lt_of_cell? w _ hx11001_0)).trans hx11001_0
        replace hx11001_1 := (HB.out.cell (World.block_lt_of_cell? w _ hx11001_1)).trans hx11001_1
        replace hx11001_2 := (HB.out.cell (World.block_lt_of_cell? w _ hx11001_2)).trans hx11001_2
        have HR11001_2 := Aside0.mk hi11001_2
        have HC11001_2 := Aside0.mk hl11001_2
        clear hi11001_2 hl11001_2
        replace p11001 := eq_true p11001
        replace q11001 := eq_true q11001
        have p11002 : 0 ≤ (x5_1 : Int) := of_decide_eq_true (by first | (with_reducible assumption) | assumption)
        have q11002 : x5_1 < (l1.length : Int) := of_decide_eq_true (by first | (with_reducible assumption) | assumption)
        obtain ⟨ad11002, A11002_2, c11002_2, e11002, hx11002_0, hx11002_1, hx11002_2, hl11002_2, hi11002_2⟩ := at_T89 HR1.out x5_1 p11002 q11002
        have hw11002_2 := hx11002_2
        have hw11002_1 := hx11002_1
        have hw11002_0 := hx11002_0
        cases e11002
        replace hx11002_0 := (HB.out.cell (World.block_lt_of_cell? w _ hx11002_0)).trans hx11002_0
        replace hx11002_1 := (HB.out.cell (World.block_lt_of_cell? w _ hx11002_1)).trans hx11002_1
        replace hx11002_2 := (HB.out.cell (World.block_lt_of_cell? w _ hx11002_2)).trans hx11002_2
        have HR11002_2 := Aside0.mk hi11002_2
        have HC11002_2 := Aside0.mk hl11002_2
        clear hi11002_2 hl11002_2
        replace p11002 := eq_true p11002
        replace q11002 := eq_true q11002
        refine start_ (n := 10) (S := fun w' => w'.cell? (ad11001.add ((x5_1).toNat * 3)) = some (.string ((rd_T89 l0 x5_1).f0)) ∧ w'.cell? ⟨(ad11001.add ((x5_1).toNat * 3)).block, (ad11001.add ((x5_1).toNat * 3)).off + 1, none⟩ = some (.string ((rd_T89 l0 x5_1).f1)) ∧ w'.cell? ⟨(ad11001.add ((x5_1).toNat * 3)).block, (ad11001.add ((x5_1).toNat * 3)).off + 2, none⟩ = some (.slice A11001_2 ((rd_T89 l0 x5_1).f2).length c11001_2) ∧ w'.cell? (ad11002.add ((x5_1).toNat * 3)) = some (.string ((rd_T89 l1 x5_1).f0)) ∧ w'.cell? ⟨(ad11002.add ((x5_1).toNat * 3)).block, (ad11002.add ((x5_1).toNat * 3)).off + 1, none⟩ = some (.string ((rd_T89 l1 x5_1).f1)) ∧ w'.cell? ⟨(ad11002.add ((x5_1).toNat * 3)).block, (ad11002.add ((x5_1).toNat * 3)).off + 2, none⟩ = some (.slice A11002_2 ((rd_T89 l1 x5_1).f2).length c11002_2)) (ds := []) #[false, false, false, false, false, false, false, false, false, false] (by kernel_rfl) rfl rfl ⟨((HB.out.cell (World.block_lt_of_cell? w _ hw11001_0)).trans hw11001_0), ((HB.out.cell (World.block_lt_of_cell? w _ hw11001_1)).trans hw11001_1), ((HB.out.cell (World.block_lt_of_cell? w _ hw11001_2)).trans hw11001_2), ((HB.out.cell (World.block_lt_of_cell? w _ hw11002_0)).trans hw11002_0), ((HB.out.cell (World.block_lt_of_cell? w _ hw11002_1)).trans hw11002_1), ((HB.out.cell (World.block_lt_of_cell? w _ hw11002_2)).trans hw11002_2)⟩ (fun hHeld => ?_); refine with_tabW laws_eqStateS.tab6 laws_eqStateS.bits6 (fun HT_ HW_ => ?_)
        generalize wr.drew = w9 at HB HR11001_2 HR11002_2 hx11001_0 hx11001_1 hx11001_2 hx11002_0 hx11002_1 hx11002_2 hHeld ⊢
        refine pure_ (i := 0) (N := some 17) (v := ?_) (a' := ?_) #[true, false, false, false, false, false, false, false, false, false] rfl rfl (any_of HT_.out (by kernel_rfl)) (fun _ _ _ h => h) (Or.inl ⟨by rfl, ?_⟩) ?_ ?_
        rotate_left
        ·intro w'
         go_simp
         first | with_reducible rfl | (rw [if_neg (by omega)]; done)
        rotate_left
        ·simp only [Act.put, List.setIfInBounds_toArray, List.set_cons_zero, List.set_cons_succ, i64_w, i32_w]
         rfl
        refine pure_ (i := 1) (N := some 18) (v := ?_) (a' := ?_) #[true, true, false, false, false, false, false, false, false, false] rfl rfl (any_of HT_.out (by kernel_rfl)) (fun _ _ _ h => h) (Or.inl ⟨by rfl, ?_⟩) ?_ ?_
        rotate_left
        ·intro w'
         go_simp
         first | with_reducible rfl | (rw [if_neg (by omega)]; done)
        rotate_left
        ·simp only [Act.put, List.setIfInBounds_toArray, List.set_cons_zero, List.set_cons_succ, i64_w, i32_w]
         rfl
        refine pure_ (i := 2) (N := some 19) (v := ?_) (a' := ?_) #[true, true, true, false, false, false, false, false, false, false] rfl rfl (any_of HT_.out (by kernel_rfl)) (fun _ _ _ h => h) (Or.inl ⟨by rfl, ?_⟩) ?_ ?_
        rotate_left
        ·intro w'
         go_simp
         first | with_reducible rfl | (rw [if_neg (by omega)]; done)
        rotate_left
        ·simp only [Act.put, List.setIfInBounds_toArray, List.set_cons_zero, List.set_cons_succ, i64_w, i32_w]
         rfl
        refine pure_ (i := 4) (N := some 21) (v := ?_) (a' := ?_) #[true, true, true, false, true, false, false, false, false, false] rfl rfl (any_of HT_.out (by kernel_rfl)) (fun _ _ _ h => h) (Or.inl ⟨by rfl, ?_⟩) ?_ ?_
        rotate_left
        ·intro w'
         go_simp
         first | with_reducible rfl | (rw [if_neg (by omega)]; done)
        rotate_left
        ·simp only [Act.put, List.setIfInBounds_toArray, List.set_cons_zero, List.set_cons_succ, i64_w, i32_w]
         rfl
        refine pure_ (i := 5) (N := some 22) (v := ?_) (a' := ?_) #[true, true, true, false, true, true, false, false, false, false] rfl rfl (any_of HT_.out (by kernel_rfl)) (fun _ _ _ h => h) (Or.inl ⟨by rfl, ?_⟩) ?_ ?_
        rotate_left
        ·intro w'
         go_simp
         first | with_reducible rfl | (rw [if_neg (by omega)]; done)
        rotate_left
        ·simp only [Act.put, List.setIfInBounds_toArray, List.set_cons_zero, List.set_cons_succ, i64_w, i32_w]
         rfl
        refine pure_ (i := 6) (N := some 23) (v := ?_) (a' := ?_) #[true, true, true, false, true, true, true, false, false, false] rfl rfl (any_of HT_.out (by kernel_rfl)) (fun _ _ _ h => h) (Or.inl ⟨by rfl, ?_⟩) ?_ ?_
        rotate_left
        ·intro w'
         go_simp
         first | with_reducible rfl | (rw [if_neg (by omega)]; done)
        rotate_left
        ·simp only [Act.put, List.setIfInBounds_toArray, List.set_cons_zero, List.set_cons_succ, i64_w, i32_w]
         rfl
        refine take_ (i := 3) (N := some 20) (v := ?_) (a' := ?_) #[true, true, true, true, true, true, true, false, false, false] rfl rfl (take_ofW HT_.out HW_.out (by kernel_rfl)) (fun _ _ _ h => h) (Or.inl ⟨by rfl, ?_⟩) hHeld ?_ ?_
        rotate_left
        ·rintro w' ⟨s0, s1, s2, s3, s4, s5⟩
         go_simp
         first | with_reducible rfl | (rw [if_neg (by omega)]; done)
        rotate_left
        ·simp only [Act.put, List.setIfInBounds_toArray, List.set_cons_zero, List.set_cons_succ, i64_w, i32_w]
         rfl
        refine take_ (i := 7) (N := some 24) (v := ?_) (a' := ?_) #[true, true, true, true, true, true, true, true, false, false] rfl rfl (take_ofW HT_.out HW_.out (by kernel_rfl)) (fun _ _ _ h => h) (Or.inl ⟨by rfl, ?_⟩) hHeld ?_ ?_
        rotate_left
        ·rintro w' ⟨s0, s1, s2, s3, s4, s5⟩
         go_simp
         first | with_reducible rfl | (rw [if_neg (by omega)]; done)
        rotate_left
        ·simp only [Act.put, List.setIfInBounds_toArray, List.set_cons_zero, List.set_cons_succ, i64_w, i32_w]
         rfl
        refine one_ (i := 8) (N := some 25) #[true, true, true, true, true, true, true, true, true, false] rfl rfl (one_of HT_.out (by kernel_rfl)) (by decide) (fun K hK => ?_)
        refine goes_ Try.func53 (by kernel_rfl) rfl #[.agg #[.string ((rd_T89 l0 x5_1).f0), .string ((rd_T89 l0 x5_1).f1), .slice A11001_2 ((rd_T89 l0 x5_1).f2).length c11001_2], .agg #[.string ((rd_T89 l1 x5_1).f0), .string ((rd_T89 l1 x5_1).f1), .slice A11002_2 ((rd_T89 l1 x5_1).f2).length c11002_2]] (by rfl) rfl rfl (by (try simp only [List.map_toArray, List.map_cons, List.map_nil]); first | done | rfl | (simp only [List.length_drop, List.length_take]; rfl)) ?_
        with_reducible refine (laws_eqState.calls k1 ((rd_T89 l0 x5_1).f0) ((rd_T89 l0 x5_1).f1) _ _ ((rd_T89 l0 x5_1).f2) ((rd_T89 l1 x5_1).f0) ((rd_T89 l1 x5_1).f1) _ _ ((rd_T89 l1 x5_1).f2) true _ ?side1 ?side2 ?side3 ?side4 A7.out).mono ?_
        (case side1 => repeat (first | exact (Kd.C_below HR11001_2.out HB.out) | (with_reducible refine Kd.C_alloc ?_ _) | (with_reducible refine Kd.C_drewN ?_ _) | (with_reducible refine Kd.C_drew ?_)))
        (case side2 => exact HC11001_2.out)
        (case side3 => repeat (first | exact (Kd.C_below HR11002_2.out HB.out) | (with_reducible refine Kd.C_alloc ?_ _) | (with_reducible refine Kd.C_drewN ?_ _) | (with_reducible refine Kd.C_drew ?_)))
        (case side4 => exact HC11002_2.out)
        rintro e w10 ⟨rfl, hb⟩
        refine ⟨_, rfl, ?_⟩
        have n0_ := Aside0.mk (below_step (by repeat (first | (with_reducible first | exact HB.out | apply below_alloc | apply pw_below_drewN | apply below_drew1) | exact HB.out)) hb)
        clear HB
        have HB := n0_
        clear n0_
        (try clear hb)
        (try clear hb2)
        (try clear hk)
        (try clear hi)
        refine hK.out _ _ ⟨((HB.out.cell (World.block_lt_of_cell? w _ hw11001_0)).trans hw11001_0), ((HB.out.cell (World.block_lt_of_cell? w _ hw11001_1)).trans hw11001_1), ((HB.out.cell (World.block_lt_of_cell? w _ hw11001_2)).trans hw11001_2), ((HB.out.cell (World.block_lt_of_cell? w _ hw11002_0)).trans hw11002_0), ((HB.out.cell (World.block_lt_of_cell? w _ hw11002_1)).trans hw11002_1), ((HB.out.cell (World.block_lt_of_cell? w _ hw11002_2)).trans hw11002_2)⟩ (fun hHeld => ?_)
        clear hK K
        refine norm_ (a' := ?_) ?_ ?_
        rotate_left
        ·show Act.put _ (some 25) _ = _
         simp only [Act.put, List.setIfInBounds_toArray, List.set_cons_zero, List.set_cons_succ, i64_w, i32_w]
         rfl
        refine pure_ (i := 9) (N := some 26) (v := ?_) (a' := ?_) #[true, true, true, true, true, true, true, true, true, true] rfl rfl (any_of HT_.out (by kernel_rfl)) (fun _ _ _ h => h) (Or.inl ⟨by rfl, ?_⟩) ?_ ?_
        rotate_left
        ·intro w'
         go_simp
         first | with_reducible rfl | (rw [if_neg (by omega)]; done)
        rotate_left
        ·simp only [Act.put, List.setIfInBounds_toArray, List.set_cons_zero, List.set_cons_succ, i64_w, i32_w]
         rfl
        refine done_ (done_of HT_.out (by kernel_rfl)) ?_
        try go_wp2
        go_roundg k1
        case measure => have := HK1.out; omega
        case rel => exact ⟨(wrap64 (x5_1 + 1)), (by first | rfl | (simp; done) | (simp [*]; done)), H', ⟨by have := HK1.out; omega⟩, ⟨by repeat (first | (with_reducible first | exact HB.out | apply below_alloc | apply pw_below_drewN | apply below_drew1) | exact HB.out)⟩⟩
       ·replace c8 := Bool.eq_false_iff.mpr c8
        subst c8
        have H1 : (some false) = some r := by rw [if_neg (show ¬ (false = true) by decide)] at H; exact H
        clear H
        have H := H1
        clear H1
        obtain rfl := Option.some.inj H
        try go_wp2
        have n0_ := Aside0.mk (below_drew1 HB.out)
        clear HB
        have HB := n0_
        clear n0_
        have p11001 : 0 ≤ (x5_1 : Int) := of_decide_eq_true (by first | (with_reducible assumption) | assumption)
        have q11001 : x5_1 < (l0.length : Int) := of_decide_eq_true (by first | (with_reducible assumption) | assumption)
        obtain ⟨ad11001, A11001_2, c11001_2, e11001, hx11001_0, hx11001_1, hx11001_2, hl11001_2, hi11001_2⟩ := at_T89 HR0.out x5_1 p11001 q11001
        have hw11001_2 := hx11001_2
        have hw11001_1 := hx11001_1
        have hw11001_0 := hx11001_0
        cases e11001
        replace hx11001_0 := (HB.out.cell (World.block_lt_of_cell? w _ hx11001_0)).trans hx11001_0
        replace hx11001_1 := (HB.out.cell (World.block_lt_of_cell? w _ hx11001_1)).trans hx11001_1
        replace hx11001_2 := (HB.out.cell (World.block_lt_of_cell? w _ hx11001_2)).trans hx11001_2
        have HR11001_2 := Aside0.mk hi11001_2
        have HC11001_2 := Aside0.mk hl11001_2
        clear hi11001_2 hl11001_2
        replace p11001 := eq_true p11001
        replace q11001 := eq_true q11001
        have p11002 : 0 ≤ (x5_1 : Int) := of_decide_eq_true (by first | (with_reducible assumption) | assumption)
        have q11002 : x5_1 < (l1.length : Int) := of_decide_eq_true (by first | (with_reducible assumption) | assumption)
        obtain ⟨ad11002, A11002_2, c11002_2, e11002, hx11002_0, hx11002_1, hx11002_2, hl11002_2, hi11002_2⟩ := at_T89 HR1.out x5_1 p11002 q11002
        have hw11002_2 := hx11002_2
        have hw11002_1 := hx11002_1
        have hw11002_0 := hx11002_0
        cases e11002
        replace hx11002_0 := (HB.out.cell (World.block_lt_of_cell? w _ hx11002_0)).trans hx11002_0
        replace hx11002_1 := (HB.out.cell (World.block_lt_of_cell? w _ hx11002_1)).trans hx11002_1
        replace hx11002_2 := (HB.out.cell (World.block_lt_of_cell? w _ hx11002_2)).trans hx11002_2
        have HR11002_2 := Aside0.mk hi11002_2
        have HC11002_2 := Aside0.mk hl11002_2
        clear hi11002_2 hl11002_2
        replace p11002 := eq_true p11002
        replace q11002 := eq_true q11002
        refine start_ (n := 10) (S := fun w' => w'.cell? (ad11001.add ((x5_1).toNat * 3)) = some (.string ((rd_T89 l0 x5_1).f0)) ∧ w'.cell? ⟨(ad11001.add ((x5_1).toNat * 3)).block, (ad11001.add ((x5_1).toNat * 3)).off + 1, none⟩ = some (.string ((rd_T89 l0 x5_1).f1)) ∧ w'.cell? ⟨(ad11001.add ((x5_1).toNat * 3)).block, (ad11001.add ((x5_1).toNat * 3)).off + 2, none⟩ = some (.slice A11001_2 ((rd_T89 l0 x5_1).f2).length c11001_2) ∧ w'.cell? (ad11002.add ((x5_1).toNat * 3)) = some (.string ((rd_T89 l1 x5_1).f0)) ∧ w'.cell? ⟨(ad11002.add ((x5_1).toNat * 3)).block, (ad11002.add ((x5_1).toNat * 3)).off + 1, none⟩ = some (.string ((rd_T89 l1 x5_1).f1)) ∧ w'.cell? ⟨(ad11002.add ((x5_1).toNat * 3)).block, (ad11002.add ((x5_1).toNat * 3)).off + 2, none⟩ = some (.slice A11002_2 ((rd_T89 l1 x5_1).f2).length c11002_2)) (ds := []) #[false, false, false, false, false, false, false, false, false, false] (by kernel_rfl) rfl rfl ⟨((HB.out.cell (World.block_lt_of_cell? w _ hw11001_0)).trans hw11001_0), ((HB.out.cell (World.block_lt_of_cell? w _ hw11001_1)).trans hw11001_1), ((HB.out.cell (World.block_lt_of_cell? w _ hw11001_2)).trans hw11001_2), ((HB.out.cell (World.block_lt_of_cell? w _ hw11002_0)).trans hw11002_0), ((HB.out.cell (World.block_lt_of_cell? w _ hw11002_1)).trans hw11002_1), ((HB.out.cell (World.block_lt_of_cell? w _ hw11002_2)).trans hw11002_2)⟩ (fun hHeld => ?_); refine with_tabW laws_eqStateS.tab6 laws_eqStateS.bits6 (fun HT_ HW_ => ?_)
        generalize wr.drew = w11 at HB HR11001_2 HR11002_2 hx11001_0 hx11001_1 hx11001_2 hx11002_0 hx11002_1 hx11002_2 hHeld ⊢
        refine pure_ (i := 0) (N := some 17) (v := ?_) (a' := ?_) #[true, false, false, false, false, false, false, false, false, false] rfl rfl (any_of HT_.out (by kernel_rfl)) (fun _ _ _ h => h) (Or.inl ⟨by rfl, ?_⟩) ?_ ?_
        rotate_left
        ·intro w'
         go_simp
         first | with_reducible rfl | (rw [if_neg (by omega)]; done)
        rotate_left
        ·simp only [Act.put, List.setIfInBounds_toArray, List.set_cons_zero, List.set_cons_succ, i64_w, i32_w]
         rfl
        refine pure_ (i := 1) (N := some 18) (v := ?_) (a' := ?_) #[true, true, false, false, false, false, false, false, false, false] rfl rfl (any_of HT_.out (by kernel_rfl)) (fun _ _ _ h => h) (Or.inl ⟨by rfl, ?_⟩) ?_ ?_
        rotate_left
        ·intro w'
         go_simp
         first | with_reducible rfl | (rw [if_neg (by omega)]; done)
        rotate_left
        ·simp only [Act.put, List.setIfInBounds_toArray, List.set_cons_zero, List.set_cons_succ, i64_w, i32_w]
         rfl
        refine pure_ (i := 2) (N := some 19) (v := ?_) (a' := ?_) #[true, true, true, false, false, false, false, false, false, false] rfl rfl (any_of HT_.out (by kernel_rfl)) (fun _ _ _ h => h) (Or.inl ⟨by rfl, ?_⟩) ?_ ?_
        rotate_left
        ·intro w'
         go_simp
         first | with_reducible rfl | (rw [if_neg (by omega)]; done)
        rotate_left
        ·simp only [Act.put, List.setIfInBounds_toArray, List.set_cons_zero, List.set_cons_succ, i64_w, i32_w]
         rfl
        refine pure_ (i := 4) (N := some 21) (v := ?_) (a' := ?_) #[true, true, true, false, true, false, false, false, false, false] rfl rfl (any_of HT_.out (by kernel_rfl)) (fun _ _ _ h => h) (Or.inl ⟨by rfl, ?_⟩) ?_ ?_
        rotate_left
        ·intro w'
         go_simp
         first | with_reducible rfl | (rw [if_neg (by omega)]; done)
        rotate_left
        ·simp only [Act.put, List.setIfInBounds_toArray, List.set_cons_zero, List.set_cons_succ, i64_w, i32_w]
         rfl
        refine pure_ (i := 5) (N := some 22) (v := ?_) (a' := ?_) #[true, true, true, false, true, true, false, false, false, false] rfl rfl (any_of HT_.out (by kernel_rfl)) (fun _ _ _ h => h) (Or.inl ⟨by rfl, ?_⟩) ?_ ?_
        rotate_left
        ·intro w'
         go_simp
         first | with_reducible rfl | (rw [if_neg (by omega)]; done)
        rotate_left
        ·simp only [Act.put, List.setIfInBounds_toArray, List.set_cons_zero, List.set_cons_succ, i64_w, i32_w]
         rfl
        refine pure_ (i := 6) (N := some 23) (v := ?_) (a' := ?_) #[true, true, true, false, true, true, true, false, false, false] rfl rfl (any_of HT_.out (by kernel_rfl)) (fun _ _ _ h => h) (Or.inl ⟨by rfl, ?_⟩) ?_ ?_
        rotate_left
        ·intro w'
         go_simp
         first | with_reducible rfl | (rw [if_neg (by omega)]; done)
        rotate_left
        ·simp only [Act.put, List.setIfInBounds_toArray, List.set_cons_zero, List.set_cons_succ, i64_w, i32_w]
         rfl
        refine take_ (i := 3) (N := some 20) (v := ?_) (a' := ?_) #[true, true, true, true, true, true, true, false, false, false] rfl rfl (take_ofW HT_.out HW_.out (by kernel_rfl)) (fun _ _ _ h => h) (Or.inl ⟨by rfl, ?_⟩) hHeld ?_ ?_
        rotate_left
        ·rintro w' ⟨s0, s1, s2, s3, s4, s5⟩
         go_simp
         first | with_reducible rfl | (rw [if_neg (by omega)]; done)
        rotate_left
        ·simp only [Act.put, List.setIfInBounds_toArray, List.set_cons_zero, List.set_cons_succ, i64_w, i32_w]
         rfl
        refine take_ (i := 7) (N := some 24) (v := ?_) (a' := ?_) #[true, true, true, true, true, true, true, true, false, false] rfl rfl (take_ofW HT_.out HW_.out (by kernel_rfl)) (fun _ _ _ h => h) (Or.inl ⟨by rfl, ?_⟩) hHeld ?_ ?_
        rotate_left
        ·rintro w' ⟨s0, s1, s2, s3, s4, s5⟩
         go_simp
         first | with_reducible rfl | (rw [if_neg (by omega)]; done)
        rotate_left
        ·simp only [Act.put, List.setIfInBounds_toArray, List.set_cons_zero, List.set_cons_succ, i64_w, i32_w]
         rfl
        refine one_ (i := 8) (N := some 25) #[true, true, true, true, true, true, true, true, true, false] rfl rfl (one_of HT_.out (by kernel_rfl)) (by decide) (fun K hK => ?_)
        refine goes_ Try.func53 (by kernel_rfl) rfl #[.agg #[.string ((rd_T89 l0 x5_1).f0), .string ((rd_T89 l0 x5_1).f1), .slice A11001_2 ((rd_T89 l0 x5_1).f2).length c11001_2], .agg #[.string ((rd_T89 l1 x5_1).f0), .string ((rd_T89 l1 x5_1).f1), .slice A11002_2 ((rd_T89 l1 x5_1).f2).length c11002_2]] (by rfl) rfl rfl (by (try simp only [List.map_toArray, List.map_cons, List.map_nil]); first | done | rfl | (simp only [List.length_drop, List.length_take]; rfl)) ?_
        with_reducible refine (laws_eqState.calls k1 ((rd_T89 l0 x5_1).f0) ((rd_T89 l0 x5_1).f1) _ _ ((rd_T89 l0 x5_1).f2) ((rd_T89 l1 x5_1).f0) ((rd_T89 l1 x5_1).f1) _ _ ((rd_T89 l1 x5_1).f2) false _ ?side1 ?side2 ?side3 ?side4 A7.out).mono ?_
        (case side1 => repeat (first | exact (Kd.C_below HR11001_2.out HB.out) | (with_reducible refine Kd.C_alloc ?_ _) | (with_reducible refine Kd.C_drewN ?_ _) | (with_reducible refine Kd.C_drew ?_)))
        (case side2 => exact HC11001_2.out)
        (case side3 => repeat (first | exact (Kd.C_below HR11002_2.out HB.out) | (with_reducible refine Kd.C_alloc ?_ _) | (with_reducible refine Kd.C_drewN ?_ _) | (with_reducible refine Kd.C_drew ?_)))
        (case side4 => exact HC11002_2.out)
        rintro e w12 ⟨rfl, hb⟩
        refine ⟨_, rfl, ?_⟩
        have n0_ := Aside0.mk (below_step (by repeat (first | (with_reducible first | exact HB.out | apply below_alloc | apply pw_below_drewN | apply below_drew1) | exact HB.out)) hb)
        clear HB
        have HB := n0_
        clear n0_
        (try clear hb)
        (try clear hb2)
        (try clear hk)
        (try clear hi)
        refine hK.out _ _ ⟨((HB.out.cell (World.block_lt_of_cell? w _ hw11001_0)).trans hw11001_0), ((HB.out.cell (World.block_lt_of_cell? w _ hw11001_1)).trans hw11001_1), ((HB.out.cell (World.block_lt_of_cell? w _ hw11001_2)).trans hw11001_2), ((HB.out.cell (World.block_lt_of_cell? w _ hw11002_0)).trans hw11002_0), ((HB.out.cell (World.block_lt_of_cell? w _ hw11002_1)).trans hw11002_1), ((HB.out.cell (World.block_lt_of_cell? w _ hw11002_2)).trans hw11002_2)⟩ (fun hHeld => ?_)
        clear hK K
        refine norm_ (a' := ?_) ?_ ?_
        rotate_left
        ·show Act.put _ (some 25) _ = _
         simp only [Act.put, List.setIfInBounds_toArray, List.set_cons_zero, List.set_cons_succ, i64_w, i32_w]
         rfl
        refine pure_ (i := 9) (N := some 26) (v := ?_) (a' := ?_) #[true, true, true, true, true, true, true, true, true, true] rfl rfl (any_of HT_.out (by kernel_rfl)) (fun _ _ _ h => h) (Or.inl ⟨by rfl, ?_⟩) ?_ ?_
        rotate_left
        ·intro w'
         go_simp
         first | with_reducible rfl | (rw [if_neg (by omega)]; done)
        rotate_left
        ·simp only [Act.put, List.setIfInBounds_toArray, List.set_cons_zero, List.set_cons_succ, i64_w, i32_w]
         rfl
        refine done_ (done_of HT_.out (by kernel_rfl)) ?_
        try go_wp2
        go_ret
        exact ⟨by first | rfl | (simp [errW_none, errW_some] <;> rfl) | (simp [*, errW_none, errW_some] <;> rfl), by repeat (first | (with_reducible first | exact HB.out | apply below_alloc | apply pw_below_drewN | apply below_drew1) | exact HB.out)⟩
      ·rw [if_neg c6] at H
       exact absurd H (by simp)
     ·rw [if_neg c5] at H
      exact absurd H (by simp)
    ·rw [if_neg c4] at H
     have c4b0 : decide (x5_1 < (l0.length : Int)) = false := decide_eq_false c4
     clear c4
     obtain rfl := Option.some.inj H
     go_wp2
     go_ret
     exact ⟨by first | rfl | (simp [errW_none, errW_some] <;> rfl) | (simp [*, errW_none, errW_some] <;> rfl), by repeat (first | (with_reducible first | exact HB.out | apply below_alloc | apply pw_below_drewN | apply below_drew1) | exact HB.out)⟩
 ·rw [if_neg c3] at H
  have c3b0 : ((l0.length : Int) == (l1.length : Int)) = false := beq_eq_false_iff_ne.mpr c3
  have c3b1 : ((l0.length : Int) != (l1.length : Int)) = true := bne_iff_ne.mpr c3
  have c3b2 : (l0.length == l1.length) = false := by first | simpa using c3 | (simp at c3 ⊢; omega)
  obtain rfl := Option.some.inj H
  go_enter Try.func11, Try.ntmps11
  go_wp2
  go_ret
  exact ⟨by first | rfl | (simp [errW_none, errW_some] <;> rfl) | (simp [*, errW_none, errW_some] <;> rfl), by repeat (first | (with_reducible first | exact HB.out | apply below_alloc | apply pw_below_drewN | apply below_drew1) | exact HB.out)⟩
end Go.Proofs.Ytjmfpaalglbbhaa.A
