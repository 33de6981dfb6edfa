/- FnExactJoinEquations: what its proof needs, put together by this session's program wip/merge.py out of the texts that wip/xp.py printed and of this session's own. -/
import Derived.Test.YtpppopdmnejcfaaQFnExactJoinEquations2
set_option linter.unusedVariables false
set_option linter.unusedSimpArgs false
set_option maxHeartbeats 8000000
set_option maxRecDepth 100000
namespace Go.Proofs.Ytpppopdmnejcfaa.A
open Go.RowKit Go.Proofs.Ytpppopdmnejcfaa.Ext Go.Proofs.YtpppopdmnejcfaaW.PrintWords Go.Proofs.YtpppopdmnejcfaaW.PrintLast Go.Proofs.YtpppopdmnejcfaaW.PrintMore
attribute [local go_sem] max2_int min2_int max_two min_two max_three min_three max_four min_four
mutual
def spec_l3Left.l0 : Nat → Int → Int → Int → ByteArray → List (S42) → Option (Int)
 | 0, _, _, _, _, _ => none
 | k + 1, x1, x5, x164002000, x164002001, x164002002 => if x5 < (x164002002.length : Int) then (if x1 ≥ 0 then (if 0 ≤ x5 then ((spec_l3Left.f k ((rd_T42 x164002002 x5).f0) ((rd_T42 x164002002 x5).f1) ((rd_T42 x164002002 x5).f2) x1).bind fun t164003 => (spec_l3Left.l0 k t164003 (wrap64 (x5 + 1)) x164002000 x164002001 x164002002)) else (none)) else (some x1)) else (some x1)
def spec_l3Left.f : Nat → Int → ByteArray → List (S42) → Int → Option (Int)
 | 0, _, _, _, _ => none
 | k + 1, a0_0, a0_1, l0_2, a1 => spec_l3Left.l0 k (wrap64 (a1 - 1)) 0 a0_0 a0_1 l0_2
end
theorem spec_l3Left.mono_l : ∀ k, (∀ y0 y1 y2 y3, LeO (spec_l3Left.f k y0 y1 y2 y3) (spec_l3Left.f (k + 1) y0 y1 y2 y3)) ∧ (∀ y0 y1 y2 y3 y4, LeO (spec_l3Left.l0 k y0 y1 y2 y3 y4) (spec_l3Left.l0 (k + 1) y0 y1 y2 y3 y4))
 | 0 => ⟨fun _ _ _ _ r h => by simp [spec_l3Left.f] at h, fun _ _ _ _ _ r h => by simp [spec_l3Left.l0] at h⟩
 | k + 1 => by
  obtain ⟨ih0, ih1⟩ := spec_l3Left.mono_l k
  refine ⟨?_, ?_⟩
  ·intro y0 y1 y2 y3
   unfold spec_l3Left.f
   repeat' first
   | (with_reducible exact ih0 _ _ _ _)
   | (with_reducible exact ih1 _ _ _ _ _)
   | (with_reducible exact LeO.refl _)
   | (with_reducible exact LeO.none _)
   | (with_reducible refine LeO.ite ?_ ?_)
   | (with_reducible refine LeO.bind ?_ (fun _ => ?_))
  ·intro y0 y1 y2 y3 y4
   unfold spec_l3Left.l0
   repeat' first
   | (with_reducible exact ih0 _ _ _ _)
   | (with_reducible exact ih1 _ _ _ _ _)
   | (with_reducible exact LeO.refl _)
   | (with_reducible exact LeO.none _)
   | (with_reducible refine LeO.ite ?_ ?_)
   | (with_reducible refine LeO.bind ?_ (fun _ => ?_))
theorem spec_l3Left.mono : ∀ a0 a1 a2 a3 k, LeO (spec_l3Left.f k a0 a1 a2 a3) (spec_l3Left.f (k + 1) a0 a1 a2 a3) := by
 intro a0 a1 a2 a3 k
 obtain ⟨ih0, ih1⟩ := spec_l3Left.mono_l k
 exact ih0 a0 a1 a2 a3
theorem spec_l3Left.calls (k : Nat) : ∀ (a0_0 : Int) (a0_1 : ByteArray) (A0_2 : Option Addr) (c0_2 : Nat) (l0_2 : List (S42)) (a1 : Int) (r : Int) (w : World) (hr0_2 : Kd.C k42 w A0_2 l0_2.length l0_2) (hc0_2 : l0_2.length ≤ c0_2) (h : spec_l3Left.f k a0_0 a0_1 l0_2 a1 = some r),
  Calls Try.prog 164 #[.agg #[.int .i64 a0_0, .string a0_1, .slice A0_2 l0_2.length c0_2], .int .i64 a1] w fun e w' => e = .returned (.int .i64 r) ∧ Below w.heap.size w w' := by
 induction k using Nat.strongRecOn with
 | _ k ih =>
 intro a0_0 a0_1 A0_2 c0_2 l0_2 a1 r w hr0_2 hc0_2 h
 cases k with
 | zero => exact absurd h (by simp [spec_l3Left.f])
 | succ k =>
 simp only [spec_l3Left.f] at h
 have hu42 := Try.underlying42
 have HR0_2 := Aside0.mk hr0_2
 have HC0_2 := Aside0.mk hc0_2
 clear hr0_2 hc0_2
 have HB := Aside0.mk (Below.refl w.heap.size w)
 have H : (spec_l3Left.l0 k (wrap64 (a1 - 1)) 0 a0_0 a0_1 l0_2) = some r := h
 clear h
 have H' := Aside0.mk H
 clear H
 go_enter Try.func164, Try.ntmps164
 go_wp2_with (first | ((with_reducible refine gate_dst (N := 2) rfl ?_); refine box_event ?hg (N := 2) ?hd (cs := #[.int .i64 a0_0, .string a0_1, .slice A0_2 l0_2.length c0_2]) (t := 42) ?hr ?_; (case hd => rfl); (case hg => rfl); (case hr => first | (go_simp; done) | (go_simp; rfl)); intro gb164001 hg w3 hbox hb; have n0_ := Aside0.mk (below_step (by repeat (first | (with_reducible first | exact HB.out | apply below_alloc | apply pw_below_drewN | apply below_drew1) | exact HB.out)) hb); have n1_ := Aside0.mk (hbox); have n2_ := Aside0.mk ((by rw [hg]; exact (below_size (by repeat (first | (with_reducible first | exact HB.out | apply below_alloc | apply pw_below_drewN | apply below_drew1) | exact HB.out))) : w.heap.size ≤ gb164001)); have n3_ := Aside0.mk ((by rw [hg]; exact (below_size (by repeat (first | (with_reducible first | exact HB.out | apply below_alloc | apply pw_below_drewN | apply below_drew1) | exact HB.out))) : w.heap.size ≤ gb164001)); clear HB; have HB := n0_; have BK164001 := n1_; have GW164001 := n2_; have GE164001 := n3_; clear n0_ n1_ n2_ n3_; clear hb hbox hg))
 first | go_loopg [1, 5] k (fun kq v1 v5 w' => ∃ (x1_1 : Int) (x5_1 : Int), v1 = .int .i64 x1_1 ∧ v5 = .int .i64 x5_1 ∧ Aside0 (spec_l3Left.l0 kq x1_1 x5_1 a0_0 a0_1 l0_2 = some r) ∧ Aside0 (kq ≤ k) ∧ Aside0 (w'.heap[gb164001]? = some (.cells #[.int .i64 a0_0, .string a0_1, (.slice A0_2 l0_2.length c0_2)] 42 (0, 0))) ∧ Aside0 (Below w.heap.size w w')) | (simp only [Act.put, List.setIfInBounds_toArray, List.set_cons_succ, List.set_cons_zero]; go_loopg [1, 5] k (fun kq v1 v5 w' => ∃ (x1_1 : Int) (x5_1 : Int), v1 = .int .i64 x1_1 ∧ v5 = .int .i64 x5_1 ∧ Aside0 (spec_l3Left.l0 kq x1_1 x5_1 a0_0 a0_1 l0_2 = some r) ∧ Aside0 (kq ≤ k) ∧ Aside0 (w'.heap[gb164001]? = some (.cells #[.int .i64 a0_0, .string a0_1, (.slice A0_2 l0_2.length c0_2)] 42 (0, 0))) ∧ Aside0 (Below w.heap.size w w')))
 case atStart => exact ⟨(wrap64 (a1 - 1)), (0), (by first | rfl | (simp; done) | (simp [*]; done)), (by first | rfl | (simp; done) | (simp [*]; done)), H', ⟨Nat.le_refl _⟩, ⟨by (with_reducible repeat (first | refine blk_drewN ?_ _ | refine blk_drew ?_ | refine blk_alloc ?_ _)); exact BK164001.out⟩, ⟨by repeat (first | (with_reducible first | exact HB.out | apply below_alloc | apply pw_below_drewN | apply below_drew1 | refine below_set ?_ GE164001.out) | exact HB.out)⟩⟩
 case round =>
  clear H'
  try clear c1
  try clear p2
  obtain ⟨x1_1, x5_1, rfl, rfl, HA, HK1, BK164001, HB⟩ := hrel
  cases gk with
  | zero => exact absurd HA.out (by simp [spec_l3Left.l0])
  | succ k1 =>
   have H := HA.out
   clear HA
   simp only [spec_l3Left.l0] at H
   by_cases c4 : x5_1 < (l0_2.length : Int)
   ·rw [if_pos c4] at H
    have c4b0 : decide (x5_1 < (l0_2.length : Int)) = true := decide_eq_true c4
    clear c4
    by_cases c5 : x1_1 ≥ 0
    ·rw [if_pos c5] at H
     have c5b0 : decide (0 ≤ x1_1) = true := decide_eq_true c5
     clear c5
     by_cases c6 : 0 ≤ x5_1
     ·rw [if_pos c6] at H
      have c6b0 : decide (0 ≤ x5_1) = true := decide_eq_true c6
      clear c6
      replace H := Option.bind_eq_some_iff.mp H
      obtain ⟨t164003, A70, H⟩ := H
      replace H : (spec_l3Left.l0 k1 t164003 (wrap64 (x5_1 + 1)) a0_0 a0_1 l0_2) = some r := H
      have A7 := Aside0.mk A70
      clear A70
      have H' := Aside0.mk H
      clear H
      have hcz8_0 : wr.cell? ⟨gb164001, 0, none⟩ = some (.int .i64 a0_0) := (blk_cell BK164001.out 0).trans rfl
      have hcz8_1 : wr.cell? ⟨gb164001, 1, none⟩ = some (.string a0_1) := (blk_cell BK164001.out 1).trans rfl
      have hcz8_2 : wr.cell? ⟨gb164001, 2, none⟩ = some (.slice A0_2 l0_2.length c0_2) := (blk_cell BK164001.out 2).trans rfl
      have hfz8_0 := blk_frozen BK164001.out 0
      have hfz8_1 := blk_frozen BK164001.out 1
      have hfz8_2 := blk_frozen BK164001.out 2
      have p164002 : 0 ≤ (x5_1 : Int) := of_decide_eq_true (by first | (with_reducible assumption) | assumption)
      have q164002 : x5_1 < (l0_2.length : Int) := of_decide_eq_true (by first | (with_reducible assumption) | assumption)
      obtain ⟨ad164002, A164002_2, c164002_2, e164002, hx164002_0, hx164002_1, hx164002_2, hl164002_2, hi164002_2⟩ := at_T42 HR0_2.out x5_1 p164002 q164002
      cases e164002
      replace hx164002_0 := (HB.out.cell (World.block_lt_of_cell? w _ hx164002_0)).trans hx164002_0
      replace hx164002_1 := (HB.out.cell (World.block_lt_of_cell? w _ hx164002_1)).trans hx164002_1
      replace hx164002_2 := (HB.out.cell (World.block_lt_of_cell? w _ hx164002_2)).trans hx164002_2
      have HR164002_2 := Aside0.mk hi164002_2
      have HC164002_2 := Aside0.mk hl164002_2
      clear hi164002_2 hl164002_2
      replace p164002 := eq_true p164002
      replace q164002 := eq_true q164002
      go_wp2_with (first | ((with_reducible refine gate_callee (f := 164) rfl ?_); refine goesL_ (some 25) rfl rfl Try.func164 (by kernel_rfl) rfl #[.agg #[.int .i64 ((rd_T42 l0_2 x5_1).f0), .string ((rd_T42 l0_2 x5_1).f1), .slice A164002_2 ((rd_T42 l0_2 x5_1).f2).length c164002_2], .int .i64 x1_1] rfl (by (try simp only [List.map_toArray, List.map_cons, List.map_nil]); first | done | rfl | (simp only [List.length_drop, List.length_take]; rfl)) ?_; (with_reducible refine (ih k1 (by have := HK1.out; omega) ((rd_T42 l0_2 x5_1).f0) ((rd_T42 l0_2 x5_1).f1) _ _ ((rd_T42 l0_2 x5_1).f2) x1_1 t164003 _ ?side1 ?side2 A7.out).mono ?_); (case side1 => repeat (first | exact (Kd.C_below HR164002_2.out HB.out) | (with_reducible refine Kd.C_alloc ?_ _) | (with_reducible refine Kd.C_drewN ?_ _) | (with_reducible refine Kd.C_drew ?_))); (case side2 => exact HC164002_2.out); rintro e w9 ⟨rfl, hb⟩; refine ⟨_, rfl, ?_⟩; have n0_ := Aside0.mk (blk_below (g := gb164001) (o := .cells #[.int .i64 a0_0, .string a0_1, .slice (some ad164002) l0_2.length c0_2] 42 (0, 0)) (by (with_reducible repeat (first | refine blk_drewN ?_ _ | refine blk_drew ?_ | refine blk_alloc ?_ _)); exact BK164001.out) hb); have n1_ := Aside0.mk (below_step (by repeat (first | (with_reducible first | exact HB.out | apply below_alloc | apply pw_below_drewN | apply below_drew1 | refine below_set ?_ GE164001.out) | exact HB.out)) hb); clear BK164001; clear HB; have BK164001 := n0_; have HB := n1_; clear n0_ n1_; (try clear hb); (try clear hb2); (try clear hk); (try clear hi)))
      go_roundg k1
      case measure => have := HK1.out; omega
      case rel => exact ⟨(t164003), (wrap64 (x5_1 + 1)), (by first | rfl | (simp; done) | (simp [*]; done)), (by first | rfl | (simp; done) | (simp [*]; done)), H', ⟨by have := HK1.out; omega⟩, ⟨by (with_reducible repeat (first | refine blk_drewN ?_ _ | refine blk_drew ?_ | refine blk_alloc ?_ _)); exact BK164001.out⟩, ⟨by repeat (first | (with_reducible first | exact HB.out | apply below_alloc | apply pw_below_drewN | apply below_drew1 | refine below_set ?_ GE164001.out) | exact HB.out)⟩⟩
     ·rw [if_neg c6] at H
      exact absurd H (by simp)
    ·rw [if_neg c5] at H
     have c5b0 : decide (0 ≤ x1_1) = false := decide_eq_false c5
     clear c5
     obtain rfl := Option.some.inj H
     have hcz10_0 : wr.cell? ⟨gb164001, 0, none⟩ = some (.int .i64 a0_0) := (blk_cell BK164001.out 0).trans rfl
     have hcz10_1 : wr.cell? ⟨gb164001, 1, none⟩ = some (.string a0_1) := (blk_cell BK164001.out 1).trans rfl
     have hcz10_2 : wr.cell? ⟨gb164001, 2, none⟩ = some (.slice A0_2 l0_2.length c0_2) := (blk_cell BK164001.out 2).trans rfl
     have hfz10_0 := blk_frozen BK164001.out 0
     have hfz10_1 := blk_frozen BK164001.out 1
     have hfz10_2 := blk_frozen BK164001.out 2
     go_wp2
     go_ret
     exact ⟨by first | rfl | (simp [errW_none, errW_some] <;> rfl) | (simp [*, errW_none, errW_some] <;> rfl), by repeat (first | (with_reducible first | exact HB.out | apply below_alloc | apply pw_below_drewN | apply below_drew1 | refine below_set ?_ GE164001.out) | exact HB.out)⟩
   ·rw [if_neg c4] at H
    have c4b0 : decide (x5_1 < (l0_2.length : Int)) = false := decide_eq_false c4
    clear c4
    obtain rfl := Option.some.inj H
    have hcz11_0 : wr.cell? ⟨gb164001, 0, none⟩ = some (.int .i64 a0_0) := (blk_cell BK164001.out 0).trans rfl
    have hcz11_1 : wr.cell? ⟨gb164001, 1, none⟩ = some (.string a0_1) := (blk_cell BK164001.out 1).trans rfl
    have hcz11_2 : wr.cell? ⟨gb164001, 2, none⟩ = some (.slice A0_2 l0_2.length c0_2) := (blk_cell BK164001.out 2).trans rfl
    have hfz11_0 := blk_frozen BK164001.out 0
    have hfz11_1 := blk_frozen BK164001.out 1
    have hfz11_2 := blk_frozen BK164001.out 2
    go_wp2
    go_ret
    exact ⟨by first | rfl | (simp [errW_none, errW_some] <;> rfl) | (simp [*, errW_none, errW_some] <;> rfl), by repeat (first | (with_reducible first | exact HB.out | apply below_alloc | apply pw_below_drewN | apply below_drew1 | refine below_set ?_ GE164001.out) | exact HB.out)⟩
mutual
def spec_l3Depth.l0 : Nat → Int → Int → Int → ByteArray → List (S42) → Option (Int)
 | 0, _, _, _, _, _ => none
 | k + 1, x3, x4, x165002000, x165002001, x165002002 => if x4 < (x165002002.length : Int) then (if 0 ≤ x4 then ((spec_l3Depth.f k ((rd_T42 x165002002 x4).f0) ((rd_T42 x165002002 x4).f1) ((rd_T42 x165002002 x4).f2)).bind fun t165003 => ((spec_l1Max.f x3 t165003).bind fun t165004 => (spec_l3Depth.l0 k t165004 (wrap64 (x4 + 1)) x165002000 x165002001 x165002002))) else (none)) else (some (wrap64 (x3 + 1)))
def spec_l3Depth.f : Nat → Int → ByteArray → List (S42) → Option (Int)
 | 0, _, _, _ => none
 | k + 1, a0_0, a0_1, l0_2 => spec_l3Depth.l0 k 0 0 a0_0 a0_1 l0_2
end
theorem spec_l3Depth.mono_l : ∀ k, (∀ y0 y1 y2, LeO (spec_l3Depth.f k y0 y1 y2) (spec_l3Depth.f (k + 1) y0 y1 y2)) ∧ (∀ y0 y1 y2 y3 y4, LeO (spec_l3Depth.l0 k y0 y1 y2 y3 y4) (spec_l3Depth.l0 (k + 1) y0 y1 y2 y3 y4))
 | 0 => ⟨fun _ _ _ r h => by simp [spec_l3Depth.f] at h, fun _ _ _ _ _ r h => by simp [spec_l3Depth.l0] at h⟩
 | k + 1 => by
  obtain ⟨ih0, ih1⟩ := spec_l3Depth.mono_l k
  refine ⟨?_, ?_⟩
  ·intro y0 y1 y2
   unfold spec_l3Depth.f
   repeat' first
   | (with_reducible exact ih0 _ _ _)
   | (with_reducible exact ih1 _ _ _ _ _)
   | (with_reducible exact LeO.refl _)
   | (with_reducible exact LeO.none _)
   | (with_reducible refine LeO.ite ?_ ?_)
   | (with_reducible refine LeO.bind ?_ (fun _ => ?_))
  ·intro y0 y1 y2 y3 y4
   unfold spec_l3Depth.l0
   repeat' first
   | (with_reducible exact ih0 _ _ _)
   | (with_reducible exact ih1 _ _ _ _ _)
   | (with_reducible exact LeO.refl _)
   | (with_reducible exact LeO.none _)
   | (with_reducible refine LeO.ite ?_ ?_)
   | (with_reducible refine LeO.bind ?_ (fun _ => ?_))
theorem spec_l3Depth.mono : ∀ a0 a1 a2 k, LeO (spec_l3Depth.f k a0 a1 a2) (spec_l3Depth.f (k + 1) a0 a1 a2) := by
 intro a0 a1 a2 k
 obtain ⟨ih0, ih1⟩ := spec_l3Depth.mono_l k
 exact ih0 a0 a1 a2
theorem spec_l3Depth.calls (k : Nat) : ∀ (a0_0 : Int) (a0_1 : ByteArray) (A0_2 : Option Addr) (c0_2 : Nat) (l0_2 : List (S42)) (r : Int) (w : World) (hr0_2 : Kd.C k42 w A0_2 l0_2.length l0_2) (hc0_2 : l0_2.length ≤ c0_2) (h : spec_l3Depth.f k a0_0 a0_1 l0_2 = some r),
  Calls Try.prog 165 #[.agg #[.int .i64 a0_0, .string a0_1, .slice A0_2 l0_2.length c0_2]] w fun e w' => e = .returned (.int .i64 r) ∧ Below w.heap.size w w' := by
 induction k using Nat.strongRecOn with
 | _ k ih =>
 intro a0_0 a0_1 A0_2 c0_2 l0_2 r w hr0_2 hc0_2 h
 cases k with
 | zero => exact absurd h (by simp [spec_l3Depth.f])
 | succ k =>
 simp only [spec_l3Depth.f] at h
 have hu42 := Try.underlying42
 have HR0_2 := Aside0.mk hr0_2
 have HC0_2 := Aside0.mk hc0_2
 clear hr0_2 hc0_2
 have HB := Aside0.mk (Below.refl w.heap.size w)
 have H : (spec_l3Depth.l0 k 0 0 a0_0 a0_1 l0_2) = some r := h
 clear h
 have H' := Aside0.mk H
 clear H
 go_enter Try.func165, Try.ntmps165
 go_wp2_with (first | ((with_reducible refine gate_dst (N := 1) rfl ?_); refine box_event ?hg (N := 1) ?hd (cs := #[.int .i64 a0_0, .string a0_1, .slice A0_2 l0_2.length c0_2]) (t := 42) ?hr ?_; (case hd => rfl); (case hg => rfl); (case hr => first | (go_simp; done) | (go_simp; rfl)); intro gb165001 hg w2 hbox hb; have n0_ := Aside0.mk (below_step (by repeat (first | (with_reducible first | exact HB.out | apply below_alloc | apply pw_below_drewN | apply below_drew1) | exact HB.out)) hb); have n1_ := Aside0.mk (hbox); have n2_ := Aside0.mk ((by rw [hg]; exact (below_size (by repeat (first | (with_reducible first | exact HB.out | apply below_alloc | apply pw_below_drewN | apply below_drew1) | exact HB.out))) : w.heap.size ≤ gb165001)); have n3_ := Aside0.mk ((by rw [hg]; exact (below_size (by repeat (first | (with_reducible first | exact HB.out | apply below_alloc | apply pw_below_drewN | apply below_drew1) | exact HB.out))) : w.heap.size ≤ gb165001)); clear HB; have HB := n0_; have BK165001 := n1_; have GW165001 := n2_; have GE165001 := n3_; clear n0_ n1_ n2_ n3_; clear hb hbox hg))
 first | go_loopg [3, 4] k (fun kq v3 v4 w' => ∃ (x3_1 : Int) (x4_1 : Int), v3 = .int .i64 x3_1 ∧ v4 = .int .i64 x4_1 ∧ Aside0 (spec_l3Depth.l0 kq x3_1 x4_1 a0_0 a0_1 l0_2 = some r) ∧ Aside0 (kq ≤ k) ∧ Aside0 (w'.heap[gb165001]? = some (.cells #[.int .i64 a0_0, .string a0_1, (.slice A0_2 l0_2.length c0_2)] 42 (0, 0))) ∧ Aside0 (Below w.heap.size w w')) | (simp only [Act.put, List.setIfInBounds_toArray, List.set_cons_succ, List.set_cons_zero]; go_loopg [3, 4] k (fun kq v3 v4 w' => ∃ (x3_1 : Int) (x4_1 : Int), v3 = .int .i64 x3_1 ∧ v4 = .int .i64 x4_1 ∧ Aside0 (spec_l3Depth.l0 kq x3_1 x4_1 a0_0 a0_1 l0_2 = some r) ∧ Aside0 (kq ≤ k) ∧ Aside0 (w'.heap[gb165001]? = some (.cells #[.int .i64 a0_0, .string a0_1, (.slice A0_2 l0_2.length c0_2)] 42 (0, 0))) ∧ Aside0 (Below w.heap.size w w')))
 case atStart => exact ⟨(0), (0), (by first | rfl | (simp; done) | (simp [*]; done)), (by first | rfl | (simp; done) | (simp [*]; done)), H', ⟨Nat.le_refl _⟩, ⟨by (with_reducible repeat (first | refine blk_drewN ?_ _ | refine blk_drew ?_ | refine blk_alloc ?_ _)); exact BK165001.out⟩, ⟨by repeat (first | (with_reducible first | exact HB.out | apply below_alloc | apply pw_below_drewN | apply below_drew1 | refine below_set ?_ GE165001.out) | exact HB.out)⟩⟩
 case round =>
  clear H'
  try clear c1
  try clear p2
  obtain ⟨x3_1, x4_1, rfl, rfl, HA, HK1, BK165001, HB⟩ := hrel
  cases gk with
  | zero => exact absurd HA.out (by simp [spec_l3Depth.l0])
  | succ k1 =>
   have H := HA.out
   clear HA
   simp only [spec_l3Depth.l0] at H
   by_cases c3 : x4_1 < (l0_2.length : Int)
   ·rw [if_pos c3] at H
    have c3b0 : decide (x4_1 < (l0_2.length : Int)) = true := decide_eq_true c3
    clear c3
    by_cases c4 : 0 ≤ x4_1
    ·rw [if_pos c4] at H
     have c4b0 : decide (0 ≤ x4_1) = true := decide_eq_true c4
     clear c4
     replace H := Option.bind_eq_some_iff.mp H
     obtain ⟨t165003, A50, H⟩ := H
     replace H : ((spec_l1Max.f x3_1 t165003).bind fun t165004 => (spec_l3Depth.l0 k1 t165004 (wrap64 (x4_1 + 1)) a0_0 a0_1 l0_2)) = some r := H
     have A5 := Aside0.mk A50
     clear A50
     replace H := Option.bind_eq_some_iff.mp H
     obtain ⟨t165004, A60, H⟩ := H
     replace H : (spec_l3Depth.l0 k1 t165004 (wrap64 (x4_1 + 1)) a0_0 a0_1 l0_2) = some r := H
     have A6 := Aside0.mk A60
     clear A60
     have H' := Aside0.mk H
     clear H
     have hcz7_0 : wr.cell? ⟨gb165001, 0, none⟩ = some (.int .i64 a0_0) := (blk_cell BK165001.out 0).trans rfl
     have hcz7_1 : wr.cell? ⟨gb165001, 1, none⟩ = some (.string a0_1) := (blk_cell BK165001.out 1).trans rfl
     have hcz7_2 : wr.cell? ⟨gb165001, 2, none⟩ = some (.slice A0_2 l0_2.length c0_2) := (blk_cell BK165001.out 2).trans rfl
     have hfz7_0 := blk_frozen BK165001.out 0
     have hfz7_1 := blk_frozen BK165001.out 1
     have hfz7_2 := blk_frozen BK165001.out 2
     have p165002 : 0 ≤ (x4_1 : Int) := of_decide_eq_true (by first | (with_reducible assumption) | assumption)
     have q165002 : x4_1 < (l0_2.length : Int) := of_decide_eq_true (by first | (with_reducible assumption) | assumption)
     obtain ⟨ad165002, A165002_2, c165002_2, e165002, hx165002_0, hx165002_1, hx165002_2, hl165002_2, hi165002_2⟩ := at_T42 HR0_2.out x4_1 p165002 q165002
     cases e165002
     replace hx165002_0 := (HB.out.cell (World.block_lt_of_cell? w _ hx165002_0)).trans hx165002_0
     replace hx165002_1 := (HB.out.cell (World.block_lt_of_cell? w _ hx165002_1)).trans hx165002_1
     replace hx165002_2 := (HB.out.cell (World.block_lt_of_cell? w _ hx165002_2)).trans hx165002_2
     have HR165002_2 := Aside0.mk hi165002_2
     have HC165002_2 := Aside0.mk hl165002_2
     clear hi165002_2 hl165002_2
     replace p165002 := eq_true p165002
     replace q165002 := eq_true q165002
     go_wp2_with (first | ((with_reducible refine gate_callee (f := 165) rfl ?_); refine goesL_ (some 18) rfl rfl Try.func165 (by kernel_rfl) rfl #[.agg #[.int .i64 ((rd_T42 l0_2 x4_1).f0), .string ((rd_T42 l0_2 x4_1).f1), .slice A165002_2 ((rd_T42 l0_2 x4_1).f2).length c165002_2]] rfl (by (try simp only [List.map_toArray, List.map_cons, List.map_nil]); first | done | rfl | (simp only [List.length_drop, List.length_take]; rfl)) ?_; (with_reducible refine (ih k1 (by have := HK1.out; omega) ((rd_T42 l0_2 x4_1).f0) ((rd_T42 l0_2 x4_1).f1) _ _ ((rd_T42 l0_2 x4_1).f2) t165003 _ ?side1 ?side2 A5.out).mono ?_); (case side1 => repeat (first | exact (Kd.C_below HR165002_2.out HB.out) | (with_reducible refine Kd.C_alloc ?_ _) | (with_reducible refine Kd.C_drewN ?_ _) | (with_reducible refine Kd.C_drew ?_))); (case side2 => exact HC165002_2.out); rintro e w8 ⟨rfl, hb⟩; refine ⟨_, rfl, ?_⟩; have n0_ := Aside0.mk (blk_below (g := gb165001) (o := .cells #[.int .i64 a0_0, .string a0_1, .slice (some ad165002) l0_2.length c0_2] 42 (0, 0)) (by (with_reducible repeat (first | refine blk_drewN ?_ _ | refine blk_drew ?_ | refine blk_alloc ?_ _)); exact BK165001.out) hb); have n1_ := Aside0.mk (below_step (by repeat (first | (with_reducible first | exact HB.out | apply below_alloc | apply pw_below_drewN | apply below_drew1 | refine below_set ?_ GE165001.out) | exact HB.out)) hb); clear BK165001; clear HB; have BK165001 := n0_; have HB := n1_; clear n0_ n1_; (try clear hb); (try clear hb2); (try clear hk); (try clear hi)) | ((with_reducible refine gate_callee (f := 194) rfl ?_); refine goesL_ (some 19) rfl rfl Try.func194 (by kernel_rfl) rfl #[.int .i64 x3_1, .int .i64 t165003] rfl (by (try simp only [List.map_toArray, List.map_cons, List.map_nil]); first | done | rfl | (simp only [List.length_drop, List.length_take]; rfl)) ?_; (with_reducible refine (spec_l1Max.calls x3_1 t165003 t165004 _ A6.out).mono ?_); rintro e w' ⟨rfl, ⟨nd, rfl⟩⟩; refine ⟨_, rfl, ?_⟩))
     go_roundg k1
     case measure => have := HK1.out; omega
     case rel => exact ⟨(t165004), (wrap64 (x4_1 + 1)), (by first | rfl | (simp; done) | (simp [*]; done)), (by first | rfl | (simp; done) | (simp [*]; done)), H', ⟨by have := HK1.out; omega⟩, ⟨by (with_reducible repeat (first | refine blk_drewN ?_ _ | refine blk_drew ?_ | refine blk_alloc ?_ _)); exact BK165001.out⟩, ⟨by repeat (first | (with_reducible first | exact HB.out | apply below_alloc | apply pw_below_drewN | apply below_drew1 | refine below_set ?_ GE165001.out) | exact HB.out)⟩⟩
    ·rw [if_neg c4] at H
     exact absurd H (by simp)
   ·rw [if_neg c3] at H
    have c3b0 : decide (x4_1 < (l0_2.length : Int)) = false := decide_eq_false c3
    clear c3
    obtain rfl := Option.some.inj H
    have hcz9_0 : wr.cell? ⟨gb165001, 0, none⟩ = some (.int .i64 a0_0) := (blk_cell BK165001.out 0).trans rfl
    have hcz9_1 : wr.cell? ⟨gb165001, 1, none⟩ = some (.string a0_1) := (blk_cell BK165001.out 1).trans rfl
    have hcz9_2 : wr.cell? ⟨gb165001, 2, none⟩ = some (.slice A0_2 l0_2.length c0_2) := (blk_cell BK165001.out 2).trans rfl
    have hfz9_0 := blk_frozen BK165001.out 0
    have hfz9_1 := blk_frozen BK165001.out 1
    have hfz9_2 := blk_frozen BK165001.out 2
    go_wp2
    go_ret
    exact ⟨by first | rfl | (simp [errW_none, errW_some] <;> rfl) | (simp [*, errW_none, errW_some] <;> rfl), by repeat (first | (with_reducible first | exact HB.out | apply below_alloc | apply pw_below_drewN | apply below_drew1 | refine below_set ?_ GE165001.out) | exact HB.out)⟩
def spec_l3Args.j0 : Nat → Int → Bool → Option (Int)
 | 0, _, _ => none
 | k + 1, x3, x4 => if x4 = true then (some 2) else (if x3 = 8 then (some 1) else (if x3 = 9 then (some 1) else (some 0)))
def spec_l3Args.f (k : Nat) (a0 : Int) : Option (Int) := if a0 = 5 then (spec_l3Args.j0 k a0 (a0 == 5)) else (if a0 = 6 then (spec_l3Args.j0 k a0 (a0 == 6)) else (spec_l3Args.j0 k a0 (a0 == 7)))
theorem spec_l3Args.mono_l : ∀ k, (∀ y0 y1, LeO (spec_l3Args.j0 k y0 y1) (spec_l3Args.j0 (k + 1) y0 y1))
 | 0 => fun _ _ r h => by simp [spec_l3Args.j0] at h
 | k + 1 => by
  have ih0 := spec_l3Args.mono_l k
  ·intro y0 y1
   unfold spec_l3Args.j0
   repeat' first
   | (with_reducible exact ih0 _ _)
   | (with_reducible exact LeO.refl _)
   | (with_reducible exact LeO.none _)
   | (with_reducible refine LeO.ite ?_ ?_)
   | (with_reducible refine LeO.bind ?_ (fun _ => ?_))
theorem spec_l3Args.mono : ∀ a0 k, LeO (spec_l3Args.f k a0) (spec_l3Args.f (k + 1) a0) := by
 intro a0 k
 have ih0 := spec_l3Args.mono_l k
 unfold spec_l3Args.f
 repeat' first
   | (with_reducible exact ih0 _ _)
   | (with_reducible exact LeO.refl _)
   | (with_reducible exact LeO.none _)
   | (with_reducible refine LeO.ite ?_ ?_)
   | (with_reducible refine LeO.bind ?_ (fun _ => ?_))
theorem spec_l3Args.calls (k : Nat) (a0 : Int) (r : Int) (w : World) (h : spec_l3Args.f k a0 = some r) :
  Calls Try.prog 195 #[.int .i64 a0] w fun e w' => e = .returned (.int .i64 r) ∧ Drawn0 w w' := by
 have H : (if a0 = 5 then (spec_l3Args.j0 k a0 (a0 == 5)) else (if a0 = 6 then (spec_l3Args.j0 k a0 (a0 == 6)) else (spec_l3Args.j0 k a0 (a0 == 7)))) = some r := h
 clear h
 have HC2 := Aside0.mk H
 clear H
 go_enter Try.func195, Try.ntmps195
 go_upto_if 4 with (fail)
 go_cut [4] (fun v4 wc => ∃ (kq : Nat) (x4_1 : Bool), v4 = .bool x4_1 ∧ Aside0 (spec_l3Args.j0 kq a0 x4_1 = some r) ∧ Aside0 (kq ≤ k) ∧ Drawn0 w wc)
 case first =>
  have H := HC2.out
  clear HC2
  by_cases c3 : a0 = 5
  ·rw [if_pos c3] at H
   have c3b0 : (a0 == 5) = true := beq_iff_eq.mpr c3
   have c3b1 : (a0 != 5) = false := bne_eq_false_iff_eq.mpr c3
   clear c3
   (first | rw [c3b0] | (simp only [i64_w, i32_w]; rw [c3b0]) | skip)
   have H' := Aside0.mk H
   clear H
   go_wp2
   go_meet
   case rel => exact ⟨_, ((a0 == 5)), (by first | rfl | (simp; done) | (simp [*]; done)), H', ⟨by first | omega | exact Nat.le_refl _⟩, by repeat (first | exact Drawn0.refl _ | apply Drawn0.step)⟩
  ·rw [if_neg c3] at H
   have c3b0 : (a0 == 5) = false := beq_eq_false_iff_ne.mpr c3
   have c3b1 : (a0 != 5) = true := bne_iff_ne.mpr c3
   (first | rw [c3b0] | (simp only [i64_w, i32_w]; rw [c3b0]) | skip)
   by_cases c4 : a0 = 6
   ·rw [if_pos c4] at H
    have c4b0 : (a0 == 6) = true := beq_iff_eq.mpr c4
    have c4b1 : (a0 != 6) = false := bne_eq_false_iff_eq.mpr c4
    clear c4
    have H' := Aside0.mk H
    clear H
    go_wp2
    go_meet
    case rel => exact ⟨_, ((a0 == 6)), (by first | rfl | (simp; done) | (simp [*]; done)), H', ⟨by first | omega | exact Nat.le_refl _⟩, by repeat (first | exact Drawn0.refl _ | apply Drawn0.step)⟩
   ·rw [if_neg c4] at H
    have c4b0 : (a0 == 6) = false := beq_eq_false_iff_ne.mpr c4
    have c4b1 : (a0 != 6) = true := bne_iff_ne.mpr c4
    have H' := Aside0.mk H
    clear H
    go_wp2
    go_meet
    case rel => exact ⟨_, ((a0 == 7)), (by first | rfl | (simp; done) | (simp [*]; done)), H', ⟨by first | omega | exact Nat.le_refl _⟩, by repeat (first | exact Drawn0.refl _ | apply Drawn0.step)⟩
 case rest =>
  clear HC2
  try clear c1
  try clear p2
  try clear c3
  try clear c3b0
  try clear c3b1
  try clear c4
  try clear c4b0
  try clear c4b1
  obtain ⟨kq, x4_1, rfl, HA, HJ1, ⟨mc1, rfl⟩⟩ := hcut
  cases kq with
  | zero => exact absurd HA.out (by simp [spec_l3Args.j0])
  | succ kj1 =>
   have H := HA.out
   clear HA
   simp only [spec_l3Args.j0] at H
   by_cases c5 : x4_1 = true
   ·subst c5
    have H1 : (some 2) = some r := by rw [if_pos rfl] at H; exact H
    clear H
    have H := H1
    clear H1
    obtain rfl := Option.some.inj H
    go_wp2
    go_ret
    exact ⟨by first | rfl | (simp; done) | (simp [*]; done), by repeat (first | exact Drawn0.refl _ | apply Drawn0.step)⟩
   ·replace c5 := Bool.eq_false_iff.mpr c5
    subst c5
    have H1 : (if a0 = 8 then (some 1) else (if a0 = 9 then (some 1) else (some 0))) = some r := by rw [if_neg (show ¬ (false = true) by decide)] at H; exact H
    clear H
    have H := H1
    clear H1
    by_cases c6 : a0 = 8
    ·rw [if_pos c6] at H
     have c6b0 : (a0 == 8) = true := beq_iff_eq.mpr c6
     have c6b1 : (a0 != 8) = false := bne_eq_false_iff_eq.mpr c6
     clear c6
     obtain rfl := Option.some.inj H
     go_wp2
     go_ret
     exact ⟨by first | rfl | (simp; done) | (simp [*]; done), by repeat (first | exact Drawn0.refl _ | apply Drawn0.step)⟩
    ·rw [if_neg c6] at H
     have c6b0 : (a0 == 8) = false := beq_eq_false_iff_ne.mpr c6
     have c6b1 : (a0 != 8) = true := bne_iff_ne.mpr c6
     by_cases c7 : a0 = 9
     ·rw [if_pos c7] at H
      have c7b0 : (a0 == 9) = true := beq_iff_eq.mpr c7
      have c7b1 : (a0 != 9) = false := bne_eq_false_iff_eq.mpr c7
      clear c7
      obtain rfl := Option.some.inj H
      go_wp2
      go_ret
      exact ⟨by first | rfl | (simp; done) | (simp [*]; done), by repeat (first | exact Drawn0.refl _ | apply Drawn0.step)⟩
     ·rw [if_neg c7] at H
      have c7b0 : (a0 == 9) = false := beq_eq_false_iff_ne.mpr c7
      have c7b1 : (a0 != 9) = true := bne_iff_ne.mpr c7
      obtain rfl := Option.some.inj H
      go_wp2
      go_ret
      exact ⟨by first | rfl | (simp; done) | (simp [*]; done), by repeat (first | exact Drawn0.refl _ | apply Drawn0.step)⟩
mutual
def spec_l3All.l0 : Nat → Int → Int → ByteArray → List (S42) → Option (Bool)
 | 0, _, _, _, _ => none
 | k + 1, x3, x166002000, x166002001, x166002002 => if x3 < (x166002002.length : Int) then (if 0 ≤ x3 then ((spec_l3All.f k ((rd_T42 x166002002 x3).f0) ((rd_T42 x166002002 x3).f1) ((rd_T42 x166002002 x3).f2)).bind fun t166003 => (if t166003 = true then (spec_l3All.l0 k (wrap64 (x3 + 1)) x166002000 x166002001 x166002002) else (some false))) else (none)) else (if x166002000 = 3 then (if (x166002001.size : Int) = 1 then ((spec_IsWord.f k x166002001).bind fun t166004 => (if t166004 = true then (some ((x166002002.length : Int) == 0)) else (some false))) else (some false)) else ((spec_l1In.f x166002000 1 9).bind fun t166005 => (if t166005 = true then (if x166002001.toList = ([] : List UInt8) then ((spec_l3Args.f k x166002000).bind fun t166006 => (some ((x166002002.length : Int) == t166006))) else (some false)) else (some false))))
def spec_l3All.f : Nat → Int → ByteArray → List (S42) → Option (Bool)
 | 0, _, _, _ => none
 | k + 1, a0_0, a0_1, l0_2 => spec_l3All.l0 k 0 a0_0 a0_1 l0_2
end
theorem spec_l3All.mono_l : ∀ k, (∀ y0 y1 y2, LeO (spec_l3All.f k y0 y1 y2) (spec_l3All.f (k + 1) y0 y1 y2)) ∧ (∀ y0 y1 y2 y3, LeO (spec_l3All.l0 k y0 y1 y2 y3) (spec_l3All.l0 (k + 1) y0 y1 y2 y3))
 | 0 => ⟨fun _ _ _ r h => by simp [spec_l3All.f] at h, fun _ _ _ _ r h => by simp [spec_l3All.l0] at h⟩
 | k + 1 => by
  obtain ⟨ih0, ih1⟩ := spec_l3All.mono_l k
  refine ⟨?_, ?_⟩
  ·intro y0 y1 y2
   unfold spec_l3All.f
   repeat' first
   | (with_reducible exact ih0 _ _ _)
   | (with_reducible exact ih1 _ _ _ _)
   | (with_reducible exact spec_IsWord.mono _ _)
   | (with_reducible exact spec_l3Args.mono _ _)
   | (with_reducible exact LeO.refl _)
   | (with_reducible exact LeO.none _)
   | (with_reducible refine LeO.ite ?_ ?_)
   | (with_reducible refine LeO.bind ?_ (fun _ => ?_))
  ·intro y0 y1 y2 y3
   unfold spec_l3All.l0
   repeat' first
   | (with_reducible exact ih0 _ _ _)
   | (with_reducible exact ih1 _ _ _ _)
   | (with_reducible exact spec_IsWord.mono _ _)
   | (with_reducible exact spec_l3Args.mono _ _)
   | (with_reducible exact LeO.refl _)
   | (with_reducible exact LeO.none _)
   | (with_reducible refine LeO.ite ?_ ?_)
   | (with_reducible refine LeO.bind ?_ (fun _ => ?_))
theorem spec_l3All.mono : ∀ a0 a1 a2 k, LeO (spec_l3All.f k a0 a1 a2) (spec_l3All.f (k + 1) a0 a1 a2) := by
 intro a0 a1 a2 k
 obtain ⟨ih0, ih1⟩ := spec_l3All.mono_l k
 exact ih0 a0 a1 a2
theorem spec_l3All.calls (k : Nat) : ∀ (a0_0 : Int) (a0_1 : ByteArray) (A0_2 : Option Addr) (c0_2 : Nat) (l0_2 : List (S42)) (r : Bool) (w : World) (hr0_2 : Kd.C k42 w A0_2 l0_2.length l0_2) (hc0_2 : l0_2.length ≤ c0_2) (h : spec_l3All.f k a0_0 a0_1 l0_2 = some r),
  Calls Try.prog 166 #[.agg #[.int .i64 a0_0, .string a0_1, .slice A0_2 l0_2.length c0_2]] w fun e w' => e = .returned (.bool r) ∧ Below w.heap.size w w' := by
 induction k using Nat.strongRecOn with
 | _ k ih =>
 intro a0_0 a0_1 A0_2 c0_2 l0_2 r w hr0_2 hc0_2 h
 cases k with
 | zero => exact absurd h (by simp [spec_l3All.f])
 | succ k =>
 simp only [spec_l3All.f] at h
 have hu42 := Try.underlying42
 have HR0_2 := Aside0.mk hr0_2
 have HC0_2 := Aside0.mk hc0_2
 clear hr0_2 hc0_2
 have HB := Aside0.mk (Below.refl w.heap.size w)
 have H : (spec_l3All.l0 k 0 a0_0 a0_1 l0_2) = some r := h
 clear h
 have H' := Aside0.mk H
 clear H
 go_enter Try.func166, Try.ntmps166
 go_wp2_with (first | ((with_reducible refine gate_dst (N := 1) rfl ?_); (try (refine gate_guard (by rfl) ?_; dsimp only)); refine box_event ?hg (N := 1) ?hd (cs := #[.int .i64 a0_0, .string a0_1, .slice A0_2 l0_2.length c0_2]) (t := 42) ?hr ?_; (case hd => rfl); (case hg => rfl); (case hr => first | (go_simp; done) | (go_simp; rfl)); intro gb166001 hg w2 hbox hb; have n0_ := Aside0.mk (below_step (by repeat (first | (with_reducible first | exact HB.out | apply below_alloc | apply pw_below_drewN | apply below_drew1) | exact HB.out)) hb); have n1_ := Aside0.mk (hbox); have n2_ := Aside0.mk ((by rw [hg]; exact (below_size (by repeat (first | (with_reducible first | exact HB.out | apply below_alloc | apply pw_below_drewN | apply below_drew1) | exact HB.out))) : w.heap.size ≤ gb166001)); have n3_ := Aside0.mk ((by rw [hg]; exact (below_size (by repeat (first | (with_reducible first | exact HB.out | apply below_alloc | apply pw_below_drewN | apply below_drew1) | exact HB.out))) : w.heap.size ≤ gb166001)); clear HB; have HB := n0_; have BK166001 := n1_; have GW166001 := n2_; have GE166001 := n3_; clear n0_ n1_ n2_ n3_; clear hb hbox hg))
 repeat (go_quiet (first | ((with_reducible refine gate_dst (N := 1) rfl ?_); (try (refine gate_guard (by rfl) ?_; dsimp only)); refine box_event ?hg (N := 1) ?hd (cs := #[.int .i64 a0_0, .string a0_1, .slice A0_2 l0_2.length c0_2]) (t := 42) ?hr ?_; (case hd => rfl); (case hg => rfl); (case hr => first | (go_simp; done) | (go_simp; rfl)); intro gb166001 hg w2 hbox hb; have n0_ := Aside0.mk (below_step (by repeat (first | (with_reducible first | exact HB.out | apply below_alloc | apply pw_below_drewN | apply below_drew1) | exact HB.out)) hb); have n1_ := Aside0.mk (hbox); have n2_ := Aside0.mk ((by rw [hg]; exact (below_size (by repeat (first | (with_reducible first | exact HB.out | apply below_alloc | apply pw_below_drewN | apply below_drew1) | exact HB.out))) : w.heap.size ≤ gb166001)); have n3_ := Aside0.mk ((by rw [hg]; exact (below_size (by repeat (first | (with_reducible first | exact HB.out | apply below_alloc | apply pw_below_drewN | apply below_drew1) | exact HB.out))) : w.heap.size ≤ gb166001)); clear HB; have HB := n0_; have BK166001 := n1_; have GW166001 := n2_; have GE166001 := n3_; clear n0_ n1_ n2_ n3_; clear hb hbox hg)); try go_wp2_with (first | ((with_reducible refine gate_dst (N := 1) rfl ?_); (try (refine gate_guard (by rfl) ?_; dsimp only)); refine box_event ?hg (N := 1) ?hd (cs := #[.int .i64 a0_0, .string a0_1, .slice A0_2 l0_2.length c0_2]) (t := 42) ?hr ?_; (case hd => rfl); (case hg => rfl); (case hr => first | (go_simp; done) | (go_simp; rfl)); intro gb166001 hg w2 hbox hb; have n0_ := Aside0.mk (below_step (by repeat (first | (with_reducible first | exact HB.out | apply below_alloc | apply pw_below_drewN | apply below_drew1) | exact HB.out)) hb); have n1_ := Aside0.mk (hbox); have n2_ := Aside0.mk ((by rw [hg]; exact (below_size (by repeat (first | (with_reducible first | exact HB.out | apply below_alloc | apply pw_below_drewN | apply below_drew1) | exact HB.out))) : w.heap.size ≤ gb166001)); have n3_ := Aside0.mk ((by rw [hg]; exact (below_size (by repeat (first | (with_reducible first | exact HB.out | apply below_alloc | apply pw_below_drewN | apply below_drew1) | exact HB.out))) : w.heap.size ≤ gb166001)); clear HB; have HB := n0_; have BK166001 := n1_; have GW166001 := n2_; have GE166001 := n3_; clear n0_ n1_ n2_ n3_; clear hb hbox hg)))
 first | go_loopg [3] k (fun kq v3 w' => ∃ (x3_1 : Int), v3 = .int .i64 x3_1 ∧ Aside0 (spec_l3All.l0 kq x3_1 a0_0 a0_1 l0_2 = some r) ∧ Aside0 (kq ≤ k) ∧ Aside0 (w'.heap[gb166001]? = some (.cells #[.int .i64 a0_0, .string a0_1, (.slice A0_2 l0_2.length c0_2)] 42 (0, 0))) ∧ Aside0 (Below w.heap.size w w')) | (simp only [Act.put, List.setIfInBounds_toArray, List.set_cons_succ, List.set_cons_zero]; go_loopg [3] k (fun kq v3 w' => ∃ (x3_1 : Int), v3 = .int .i64 x3_1 ∧ Aside0 (spec_l3All.l0 kq x3_1 a0_0 a0_1 l0_2 = some r) ∧ Aside0 (kq ≤ k) ∧ Aside0 (w'.heap[gb166001]? = some (.cells #[.int .i64 a0_0, .string a0_1, (.slice A0_2 l0_2.length c0_2)] 42 (0, 0))) ∧ Aside0 (Below w.heap.size w w')))
 case atStart => exact ⟨(0), (by first | rfl | (simp; done) | (simp [*]; done)), H', ⟨Nat.le_refl _⟩, ⟨by (with_reducible repeat (first | refine blk_drewN ?_ _ | refine blk_drew ?_ | refine blk_alloc ?_ _)); exact BK166001.out⟩, ⟨by repeat (first | (with_reducible first | exact HB.out | apply below_alloc | apply pw_below_drewN | apply below_drew1 | refine below_set ?_ GE166001.out) | exact HB.out)⟩⟩
 case round =>
  clear H'
  try clear c1
  try clear p2
  obtain ⟨x3_1, rfl, HA, HK1, BK166001, HB⟩ := hrel
  cases gk with
  | zero => exact absurd HA.out (by simp [spec_l3All.l0])
  | succ k1 =>
   have H := HA.out
   clear HA
   simp only [spec_l3All.l0] at H
   by_cases c3 : x3_1 < (l0_2.length : Int)
   ·rw [if_pos c3] at H
    have c3b0 : decide (x3_1 < (l0_2.length : Int)) = true := decide_eq_true c3
    clear c3
    by_cases c4 : 0 ≤ x3_1
    ·rw [if_pos c4] at H
     have c4b0 : decide (0 ≤ x3_1) = true := decide_eq_true c4
     clear c4
     replace H := Option.bind_eq_some_iff.mp H
     obtain ⟨t166003, A50, H⟩ := H
     replace H : (if t166003 = true then (spec_l3All.l0 k1 (wrap64 (x3_1 + 1)) a0_0 a0_1 l0_2) else (some false)) = some r := H
     have A5 := Aside0.mk A50
     clear A50
     by_cases c6 : t166003 = true
     ·subst c6
      have H1 : (spec_l3All.l0 k1 (wrap64 (x3_1 + 1)) a0_0 a0_1 l0_2) = some r := by rw [if_pos rfl] at H; exact H
      clear H
      have H := H1
      clear H1
      have H' := Aside0.mk H
      clear H
      have hcz7_0 : wr.cell? ⟨gb166001, 0, none⟩ = some (.int .i64 a0_0) := (blk_cell BK166001.out 0).trans rfl
      have hcz7_1 : wr.cell? ⟨gb166001, 1, none⟩ = some (.string a0_1) := (blk_cell BK166001.out 1).trans rfl
      have hcz7_2 : wr.cell? ⟨gb166001, 2, none⟩ = some (.slice A0_2 l0_2.length c0_2) := (blk_cell BK166001.out 2).trans rfl
      have hfz7_0 := blk_frozen BK166001.out 0
      have hfz7_1 := blk_frozen BK166001.out 1
      have hfz7_2 := blk_frozen BK166001.out 2
      have p166002 : 0 ≤ (x3_1 : Int) := of_decide_eq_true (by first | (with_reducible assumption) | assumption)
      have q166002 : x3_1 < (l0_2.length : Int) := of_decide_eq_true (by first | (with_reducible assumption) | assumption)
      obtain ⟨ad166002, A166002_2, c166002_2, e166002, hx166002_0, hx166002_1, hx166002_2, hl166002_2, hi166002_2⟩ := at_T42 HR0_2.out x3_1 p166002 q166002
      cases e166002
      replace hx166002_0 := (HB.out.cell (World.block_lt_of_cell? w _ hx166002_0)).trans hx166002_0
      replace hx166002_1 := (HB.out.cell (World.block_lt_of_cell? w _ hx166002_1)).trans hx166002_1
      replace hx166002_2 := (HB.out.cell (World.block_lt_of_cell? w _ hx166002_2)).trans hx166002_2
      have HR166002_2 := Aside0.mk hi166002_2
      have HC166002_2 := Aside0.mk hl166002_2
      clear hi166002_2 hl166002_2
      replace p166002 := eq_true p166002
      replace q166002 := eq_true q166002
      go_wp2_with (first | (go_at_call 166; (with_reducible refine (ih k1 (by have := HK1.out; omega) ((rd_T42 l0_2 x3_1).f0) ((rd_T42 l0_2 x3_1).f1) _ _ ((rd_T42 l0_2 x3_1).f2) true _ ?side1 ?side2 A5.out).mono ?_); (case side1 => repeat (first | exact (Kd.C_below HR166002_2.out HB.out) | (with_reducible refine Kd.C_alloc ?_ _) | (with_reducible refine Kd.C_drewN ?_ _) | (with_reducible refine Kd.C_drew ?_))); (case side2 => exact HC166002_2.out); rintro e w8 ⟨rfl, hb⟩; have n0_ := Aside0.mk (blk_below (g := gb166001) (o := .cells #[.int .i64 a0_0, .string a0_1, .slice (some ad166002) l0_2.length c0_2] 42 (0, 0)) (by (with_reducible repeat (first | refine blk_drewN ?_ _ | refine blk_drew ?_ | refine blk_alloc ?_ _)); exact BK166001.out) hb); have n1_ := Aside0.mk (below_step (by repeat (first | (with_reducible first | exact HB.out | apply below_alloc | apply pw_below_drewN | apply below_drew1 | refine below_set ?_ GE166001.out) | exact HB.out)) hb); clear BK166001; clear HB; have BK166001 := n0_; have HB := n1_; clear n0_ n1_; (try clear hb); (try clear hb2); (try clear hk); (try clear hi)))
      repeat (go_quiet (first | (go_at_call 166; (with_reducible refine (ih k1 (by have := HK1.out; omega) ((rd_T42 l0_2 x3_1).f0) ((rd_T42 l0_2 x3_1).f1) _ _ ((rd_T42 l0_2 x3_1).f2) true _ ?side1 ?side2 A5.out).mono ?_); (case side1 => repeat (first | exact (Kd.C_below HR166002_2.out HB.out) | (with_reducible refine Kd.C_alloc ?_ _) | (with_reducible refine Kd.C_drewN ?_ _) | (with_reducible refine Kd.C_drew ?_))); (case side2 => exact HC166002_2.out); rintro e w8 ⟨rfl, hb⟩; have n0_ := Aside0.mk (blk_below (g := gb166001) (o := .cells #[.int .i64 a0_0, .string a0_1, .slice (some ad166002) l0_2.length c0_2] 42 (0, 0)) (by (with_reducible repeat (first | refine blk_drewN ?_ _ | refine blk_drew ?_ | refine blk_alloc ?_ _)); exact BK166001.out) hb); have n1_ := Aside0.mk (below_step (by repeat (first | (with_reducible first | exact HB.out | apply below_alloc | apply pw_below_drewN | apply below_drew1 | refine below_set ?_ GE166001.out) | exact HB.out)) hb); clear BK166001; clear HB; have BK166001 := n0_; have HB := n1_; clear n0_ n1_; (try clear hb); (try clear hb2); (try clear hk); (try clear hi))); try go_wp2_with (first | (go_at_call 166; (with_reducible refine (ih k1 (by have := HK1.out; omega) ((rd_T42 l0_2 x3_1).f0) ((rd_T42 l0_2 x3_1).f1) _ _ ((rd_T42 l0_2 x3_1).f2) true _ ?side1 ?side2 A5.out).mono ?_); (case side1 => repeat (first | exact (Kd.C_below HR166002_2.out HB.out) | (with_reducible refine Kd.C_alloc ?_ _) | (with_reducible refine Kd.C_drewN ?_ _) | (with_reducible refine Kd.C_drew ?_))); (case side2 => exact HC166002_2.out); rintro e w8 ⟨rfl, hb⟩; have n0_ := Aside0.mk (blk_below (g := gb166001) (o := .cells #[.int .i64 a0_0, .string a0_1, .slice (some ad166002) l0_2.length c0_2] 42 (0, 0)) (by (with_reducible repeat (first | refine blk_drewN ?_ _ | refine blk_drew ?_ | refine blk_alloc ?_ _)); exact BK166001.out) hb); have n1_ := Aside0.mk (below_step (by repeat (first | (with_reducible first | exact HB.out | apply below_alloc | apply pw_below_drewN | apply below_drew1 | refine below_set ?_ GE166001.out) | exact HB.out)) hb); clear BK166001; clear HB; have BK166001 := n0_; have HB := n1_; clear n0_ n1_; (try clear hb); (try clear hb2); (try clear hk); (try clear hi))))
      go_roundg k1
      case measure => have := HK1.out; omega
      case rel => exact ⟨(wrap64 (x3_1 + 1)), (by first | rfl | (simp; done) | (simp [*]; done)), H', ⟨by have := HK1.out; omega⟩, ⟨by (with_reducible repeat (first | refine blk_drewN ?_ _ | refine blk_drew ?_ | refine blk_alloc ?_ _)); exact BK166001.out⟩, ⟨by repeat (first | (with_reducible first | exact HB.out | apply below_alloc | apply pw_below_drewN | apply below_drew1 | refine below_set ?_ GE166001.out) | exact HB.out)⟩⟩
     ·replace c6 := Bool.eq_false_iff.mpr c6
      subst c6
      have H1 : (some false) = some r := by rw [if_neg (show ¬ (false = true) by decide)] at H; exact H
      clear H
      have H := H1
      clear H1
      obtain rfl := Option.some.inj H
      have hcz9_0 : wr.cell? ⟨gb166001, 0, none⟩ = some (.int .i64 a0_0) := (blk_cell BK166001.out 0).trans rfl
      have hcz9_1 : wr.cell? ⟨gb166001, 1, none⟩ = some (.string a0_1) := (blk_cell BK166001.out 1).trans rfl
      have hcz9_2 : wr.cell? ⟨gb166001, 2, none⟩ = some (.slice A0_2 l0_2.length c0_2) := (blk_cell BK166001.out 2).trans rfl
      have hfz9_0 := blk_frozen BK166001.out 0
      have hfz9_1 := blk_frozen BK166001.out 1
      have hfz9_2 := blk_frozen BK166001.out 2
      have p166002 : 0 ≤ (x3_1 : Int) := of_decide_eq_true (by first | (with_reducible assumption) | assumption)
      have q166002 : x3_1 < (l0_2.length : Int) := of_decide_eq_true (by first | (with_reducible assumption) | assumption)
      obtain ⟨ad166002, A166002_2, c166002_2, e166002, hx166002_0, hx166002_1, hx166002_2, hl166002_2, hi166002_2⟩ := at_T42 HR0_2.out x3_1 p166002 q166002
      cases e166002
      replace hx166002_0 := (HB.out.cell (World.block_lt_of_cell? w _ hx166002_0)).trans hx166002_0
      replace hx166002_1 := (HB.out.cell (World.block_lt_of_cell? w _ hx166002_1)).trans hx166002_1
      replace hx166002_2 := (HB.out.cell (World.block_lt_of_cell? w _ hx166002_2)).trans hx166002_2
      have HR166002_2 := Aside0.mk hi166002_2
      have HC166002_2 := Aside0.mk hl166002_2
      clear hi166002_2 hl166002_2
      replace p166002 := eq_true p166002
      replace q166002 := eq_true q166002
      go_wp2_with (first | (go_at_call 166; (with_reducible refine (ih k1 (by have := HK1.out; omega) ((rd_T42 l0_2 x3_1).f0) ((rd_T42 l0_2 x3_1).f1) _ _ ((rd_T42 l0_2 x3_1).f2) false _ ?side1 ?side2 A5.out).mono ?_); (case side1 => repeat (first | exact (Kd.C_below HR166002_2.out HB.out) | (with_reducible refine Kd.C_alloc ?_ _) | (with_reducible refine Kd.C_drewN ?_ _) | (with_reducible refine Kd.C_drew ?_))); (case side2 => exact HC166002_2.out); rintro e w10 ⟨rfl, hb⟩; have n0_ := Aside0.mk (blk_below (g := gb166001) (o := .cells #[.int .i64 a0_0, .string a0_1, .slice (some ad166002) l0_2.length c0_2] 42 (0, 0)) (by (with_reducible repeat (first | refine blk_drewN ?_ _ | refine blk_drew ?_ | refine blk_alloc ?_ _)); exact BK166001.out) hb); have n1_ := Aside0.mk (below_step (by repeat (first | (with_reducible first | exact HB.out | apply below_alloc | apply pw_below_drewN | apply below_drew1 | refine below_set ?_ GE166001.out) | exact HB.out)) hb); clear BK166001; clear HB; have BK166001 := n0_; have HB := n1_; clear n0_ n1_; (try clear hb); (try clear hb2); (try clear hk); (try clear hi)))
      repeat (go_quiet (first | (go_at_call 166; (with_reducible refine (ih k1 (by have := HK1.out; omega) ((rd_T42 l0_2 x3_1).f0) ((rd_T42 l0_2 x3_1).f1) _ _ ((rd_T42 l0_2 x3_1).f2) false _ ?side1 ?side2 A5.out).mono ?_); (case side1 => repeat (first | exact (Kd.C_below HR166002_2.out HB.out) | (with_reducible refine Kd.C_alloc ?_ _) | (with_reducible refine Kd.C_drewN ?_ _) | (with_reducible refine Kd.C_drew ?_))); (case side2 => exact HC166002_2.out); rintro e w10 ⟨rfl, hb⟩; have n0_ := Aside0.mk (blk_below (g := gb166001) (o := .cells #[.int .i64 a0_0, .string a0_1, .slice (some ad166002) l0_2.length c0_2] 42 (0, 0)) (by (with_reducible repeat (first | refine blk_drewN ?_ _ | refine blk_drew ?_ | refine blk_alloc ?_ _)); exact BK166001.out) hb); have n1_ := Aside0.mk (below_step (by repeat (first | (with_reducible first | exact HB.out | apply below_alloc | apply pw_below_drewN | apply below_drew1 | refine below_set ?_ GE166001.out) | exact HB.out)) hb); clear BK166001; clear HB; have BK166001 := n0_; have HB := n1_; clear n0_ n1_; (try clear hb); (try clear hb2); (try clear hk); (try clear hi))); try go_wp2_with (first | (go_at_call 166; (with_reducible refine (ih k1 (by have := HK1.out; omega) ((rd_T42 l0_2 x3_1).f0) ((rd_T42 l0_2 x3_1).f1) _ _ ((rd_T42 l0_2 x3_1).f2) false _ ?side1 ?side2 A5.out).mono ?_); (case side1 => repeat (first | exact (Kd.C_below HR166002_2.out HB.out) | (with_reducible refine Kd.C_alloc ?_ _) | (with_reducible refine Kd.C_drewN ?_ _) | (with_reducible refine Kd.C_drew ?_))); (case side2 => exact HC166002_2.out); rintro e w10 ⟨rfl, hb⟩; have n0_ := Aside0.mk (blk_below (g := gb166001) (o := .cells #[.int .i64 a0_0, .string a0_1, .slice (some ad166002) l0_2.length c0_2] 42 (0, 0)) (by (with_reducible repeat (first | refine blk_drewN ?_ _ | refine blk_drew ?_ | refine blk_alloc ?_ _)); exact BK166001.out) hb); have n1_ := Aside0.mk (below_step (by repeat (first | (with_reducible first | exact HB.out | apply below_alloc | apply pw_below_drewN | apply below_drew1 | refine below_set ?_ GE166001.out) | exact HB.out)) hb); clear BK166001; clear HB; have BK166001 := n0_; have HB := n1_; clear n0_ n1_; (try clear hb); (try clear hb2); (try clear hk); (try clear hi))))
      go_ret
      exact ⟨by first | rfl | (simp [errW_none, errW_some] <;> rfl) | (simp [*, errW_none, errW_some] <;> rfl), by repeat (first | (with_reducible first | exact HB.out | apply below_alloc | apply pw_below_drewN | apply below_drew1 | refine below_set ?_ GE166001.out) | exact HB.out)⟩
    ·rw [if_neg c4] at H
     exact absurd H (by simp)
   ·rw [if_neg c3] at H
    have c3b0 : decide (x3_1 < (l0_2.length : Int)) = false := decide_eq_false c3
    clear c3
    by_cases c11 : a0_0 = 3
    ·rw [if_pos c11] at H
     have c11b0 : (a0_0 == 3) = true := beq_iff_eq.mpr c11
     have c11b1 : (a0_0 != 3) = false := bne_eq_false_iff_eq.mpr c11
     clear c11
     by_cases c12 : (a0_1.size : Int) = 1
     ·rw [if_pos c12] at H
      have c12b0 : ((a0_1.size : Int) == 1) = true := beq_iff_eq.mpr c12
      have c12b1 : ((a0_1.size : Int) != 1) = false := bne_eq_false_iff_eq.mpr c12
      clear c12
      replace H := Option.bind_eq_some_iff.mp H
      obtain ⟨t166004, A130, H⟩ := H
      replace H : (if t166004 = true then (some ((l0_2.length : Int) == 0)) else (some false)) = some r := H
      have A13 := Aside0.mk A130
      clear A130
      by_cases c14 : t166004 = true
      ·subst c14
       have H1 : (some ((l0_2.length : Int) == 0)) = some r := by rw [if_pos rfl] at H; exact H
       clear H
       have H := H1
       clear H1
       obtain rfl := Option.some.inj H
       have hcz15_0 : wr.cell? ⟨gb166001, 0, none⟩ = some (.int .i64 a0_0) := (blk_cell BK166001.out 0).trans rfl
       have hcz15_1 : wr.cell? ⟨gb166001, 1, none⟩ = some (.string a0_1) := (blk_cell BK166001.out 1).trans rfl
       have hcz15_2 : wr.cell? ⟨gb166001, 2, none⟩ = some (.slice A0_2 l0_2.length c0_2) := (blk_cell BK166001.out 2).trans rfl
       have hfz15_0 := blk_frozen BK166001.out 0
       have hfz15_1 := blk_frozen BK166001.out 1
       have hfz15_2 := blk_frozen BK166001.out 2
       go_wp2_with (first | (go_at_call 143; (with_reducible refine (spec_IsWord.calls k1 a0_1 true _ A13.out).mono ?_); rintro e w' ⟨rfl, ⟨nd, rfl⟩⟩; (try first | exact ⟨rfl, _, World.drewN_drewN _ _ _⟩ | exact ⟨rfl, _, Eq.trans (World.drewN_drewN _ _ _) (congrArg (World.drewN _) (Nat.add_assoc _ _ _))⟩)))
       repeat (go_quiet (first | (go_at_call 143; (with_reducible refine (spec_IsWord.calls k1 a0_1 true _ A13.out).mono ?_); rintro e w' ⟨rfl, ⟨nd, rfl⟩⟩; (try first | exact ⟨rfl, _, World.drewN_drewN _ _ _⟩ | exact ⟨rfl, _, Eq.trans (World.drewN_drewN _ _ _) (congrArg (World.drewN _) (Nat.add_assoc _ _ _))⟩))); try go_wp2_with (first | (go_at_call 143; (with_reducible refine (spec_IsWord.calls k1 a0_1 true _ A13.out).mono ?_); rintro e w' ⟨rfl, ⟨nd, rfl⟩⟩; (try first | exact ⟨rfl, _, World.drewN_drewN _ _ _⟩ | exact ⟨rfl, _, Eq.trans (World.drewN_drewN _ _ _) (congrArg (World.drewN _) (Nat.add_assoc _ _ _))⟩))))
       go_ret
       exact ⟨by first | rfl | (simp [errW_none, errW_some] <;> rfl) | (simp [*, errW_none, errW_some] <;> rfl), by repeat (first | (with_reducible first | exact HB.out | apply below_alloc | apply pw_below_drewN | apply below_drew1 | refine below_set ?_ GE166001.out) | exact HB.out)⟩
      ·replace c14 := Bool.eq_false_iff.mpr c14
       subst c14
       have H1 : (some false) = some r := by rw [if_neg (show ¬ (false = true) by decide)] at H; exact H
       clear H
       have H := H1
       clear H1
       obtain rfl := Option.some.inj H
       have hcz16_0 : wr.cell? ⟨gb166001, 0, none⟩ = some (.int .i64 a0_0) := (blk_cell BK166001.out 0).trans rfl
       have hcz16_1 : wr.cell? ⟨gb166001, 1, none⟩ = some (.string a0_1) := (blk_cell BK166001.out 1).trans rfl
       have hcz16_2 : wr.cell? ⟨gb166001, 2, none⟩ = some (.slice A0_2 l0_2.length c0_2) := (blk_cell BK166001.out 2).trans rfl
       have hfz16_0 := blk_frozen BK166001.out 0
       have hfz16_1 := blk_frozen BK166001.out 1
       have hfz16_2 := blk_frozen BK166001.out 2
       go_wp2_with (first | (go_at_call 143; (with_reducible refine (spec_IsWord.calls k1 a0_1 false _ A13.out).mono ?_); rintro e w' ⟨rfl, ⟨nd, rfl⟩⟩; (try first | exact ⟨rfl, _, World.drewN_drewN _ _ _⟩ | exact ⟨rfl, _, Eq.trans (World.drewN_drewN _ _ _) (congrArg (World.drewN _) (Nat.add_assoc _ _ _))⟩)))
       repeat (go_quiet (first | (go_at_call 143; (with_reducible refine (spec_IsWord.calls k1 a0_1 false _ A13.out).mono ?_); rintro e w' ⟨rfl, ⟨nd, rfl⟩⟩; (try first | exact ⟨rfl, _, World.drewN_drewN _ _ _⟩ | exact ⟨rfl, _, Eq.trans (World.drewN_drewN _ _ _) (congrArg (World.drewN _) (Nat.add_assoc _ _ _))⟩))); try go_wp2_with (first | (go_at_call 143; (with_reducible refine (spec_IsWord.calls k1 a0_1 false _ A13.out).mono ?_); rintro e w' ⟨rfl, ⟨nd, rfl⟩⟩; (try first | exact ⟨rfl, _, World.drewN_drewN _ _ _⟩ | exact ⟨rfl, _, Eq.trans (World.drewN_drewN _ _ _) (congrArg (World.drewN _) (Nat.add_assoc _ _ _))⟩))))
       go_ret
       exact ⟨by first | rfl | (simp [errW_none, errW_some] <;> rfl) | (simp [*, errW_none, errW_some] <;> rfl), by repeat (first | (with_reducible first | exact HB.out | apply below_alloc | apply pw_below_drewN | apply below_drew1 | refine below_set ?_ GE166001.out) | exact HB.out)⟩
     ·rw [if_neg c12] at H
      have c12b0 : ((a0_1.size : Int) == 1) = false := beq_eq_false_iff_ne.mpr c12
      have c12b1 : ((a0_1.size : Int) != 1) = true := bne_iff_ne.mpr c12
      obtain rfl := Option.some.inj H
      have hcz17_0 : wr.cell? ⟨gb166001, 0, none⟩ = some (.int .i64 a0_0) := (blk_cell BK166001.out 0).trans rfl
      have hcz17_1 : wr.cell? ⟨gb166001, 1, none⟩ = some (.string a0_1) := (blk_cell BK166001.out 1).trans rfl
      have hcz17_2 : wr.cell? ⟨gb166001, 2, none⟩ = some (.slice A0_2 l0_2.length c0_2) := (blk_cell BK166001.out 2).trans rfl
      have hfz17_0 := blk_frozen BK166001.out 0
      have hfz17_1 := blk_frozen BK166001.out 1
      have hfz17_2 := blk_frozen BK166001.out 2
      go_wp2
      repeat (go_quiet (fail); try go_wp2)
      go_ret
      exact ⟨by first | rfl | (simp [errW_none, errW_some] <;> rfl) | (simp [*, errW_none, errW_some] <;> rfl), by repeat (first | (with_reducible first | exact HB.out | apply below_alloc | apply pw_below_drewN | apply below_drew1 | refine below_set ?_ GE166001.out) | exact HB.out)⟩
    ·rw [if_neg c11] at H
     have c11b0 : (a0_0 == 3) = false := beq_eq_false_iff_ne.mpr c11
     have c11b1 : (a0_0 != 3) = true := bne_iff_ne.mpr c11
     replace H := Option.bind_eq_some_iff.mp H
     obtain ⟨t166005, A180, H⟩ := H
     replace H : (if t166005 = true then (if a0_1.toList = ([] : List UInt8) then ((spec_l3Args.f k1 a0_0).bind fun t166006 => (some ((l0_2.length : Int) == t166006))) else (some false)) else (some false)) = some r := H
     have A18 := Aside0.mk A180
     clear A180
     by_cases c19 : t166005 = true
     ·subst c19
      have H1 : (if a0_1.toList = ([] : List UInt8) then ((spec_l3Args.f k1 a0_0).bind fun t166006 => (some ((l0_2.length : Int) == t166006))) else (some false)) = some r := by rw [if_pos rfl] at H; exact H
      clear H
      have H := H1
      clear H1
      by_cases c20 : a0_1.toList = ([] : List UInt8)
      ·rw [if_pos c20] at H
       have c20b0 : (a0_1.toList == ([] : List UInt8)) = true := beq_iff_eq.mpr c20
       have c20b1 : (a0_1.toList != ([] : List UInt8)) = false := bne_eq_false_iff_eq.mpr c20
       clear c20
       replace H := Option.bind_eq_some_iff.mp H
       obtain ⟨t166006, A210, H⟩ := H
       replace H : (some ((l0_2.length : Int) == t166006)) = some r := H
       have A21 := Aside0.mk A210
       clear A210
       obtain rfl := Option.some.inj H
       have hcz22_0 : wr.cell? ⟨gb166001, 0, none⟩ = some (.int .i64 a0_0) := (blk_cell BK166001.out 0).trans rfl
       have hcz22_1 : wr.cell? ⟨gb166001, 1, none⟩ = some (.string a0_1) := (blk_cell BK166001.out 1).trans rfl
       have hcz22_2 : wr.cell? ⟨gb166001, 2, none⟩ = some (.slice A0_2 l0_2.length c0_2) := (blk_cell BK166001.out 2).trans rfl
       have hfz22_0 := blk_frozen BK166001.out 0
       have hfz22_1 := blk_frozen BK166001.out 1
       have hfz22_2 := blk_frozen BK166001.out 2
       go_wp2_with (first | (go_at_call 91; (with_reducible refine (spec_l1In.calls a0_0 1 9 true _ A18.out).mono ?_); rintro e w' ⟨rfl, ⟨nd, rfl⟩⟩; (try first | exact ⟨rfl, _, World.drewN_drewN _ _ _⟩ | exact ⟨rfl, _, Eq.trans (World.drewN_drewN _ _ _) (congrArg (World.drewN _) (Nat.add_assoc _ _ _))⟩)) | (go_at_call 195; (with_reducible refine (spec_l3Args.calls k1 a0_0 t166006 _ A21.out).mono ?_); rintro e w' ⟨rfl, ⟨nd, rfl⟩⟩; (try first | exact ⟨rfl, _, World.drewN_drewN _ _ _⟩ | exact ⟨rfl, _, Eq.trans (World.drewN_drewN _ _ _) (congrArg (World.drewN _) (Nat.add_assoc _ _ _))⟩)))
       repeat (go_quiet (first | (go_at_call 91; (with_reducible refine (spec_l1In.calls a0_0 1 9 true _ A18.out).mono ?_); rintro e w' ⟨rfl, ⟨nd, rfl⟩⟩; (try first | exact ⟨rfl, _, World.drewN_drewN _ _ _⟩ | exact ⟨rfl, _, Eq.trans (World.drewN_drewN _ _ _) (congrArg (World.drewN _) (Nat.add_assoc _ _ _))⟩)) | (go_at_call 195; (with_reducible refine (spec_l3Args.calls k1 a0_0 t166006 _ A21.out).mono ?_); rintro e w' ⟨rfl, ⟨nd, rfl⟩⟩; (try first | exact ⟨rfl, _, World.drewN_drewN _ _ _⟩ | exact ⟨rfl, _, Eq.trans (World.drewN_drewN _ _ _) (congrArg (World.drewN _) (Nat.add_assoc _ _ _))⟩))); try go_wp2_with (first | (go_at_call 91; (with_reducible refine (spec_l1In.calls a0_0 1 9 true _ A18.out).mono ?_); rintro e w' ⟨rfl, ⟨nd, rfl⟩⟩; (try first | exact ⟨rfl, _, World.drewN_drewN _ _ _⟩ | exact ⟨rfl, _, Eq.trans (World.drewN_drewN _ _ _) (congrArg (World.drewN _) (Nat.add_assoc _ _ _))⟩)) | (go_at_call 195; (with_reducible refine (spec_l3Args.calls k1 a0_0 t166006 _ A21.out).mono ?_); rintro e w' ⟨rfl, ⟨nd, rfl⟩⟩; (try first | exact ⟨rfl, _, World.drewN_drewN _ _ _⟩ | exact ⟨rfl, _, Eq.trans (World.drewN_drewN _ _ _) (congrArg (World.drewN _) (Nat.add_assoc _ _ _))⟩))))
       go_ret
       exact ⟨by first | rfl | (simp [errW_none, errW_some] <;> rfl) | (simp [*, errW_none, errW_some] <;> rfl), by repeat (first | (with_reducible first | exact HB.out | apply below_alloc | apply pw_below_drewN | apply below_drew1 | refine below_set ?_ GE166001.out) | exact HB.out)⟩
      ·rw [if_neg c20] at H
       have c20b0 : (a0_1.toList == ([] : List UInt8)) = false := beq_eq_false_iff_ne.mpr c20
       have c20b1 : (a0_1.toList != ([] : List UInt8)) = true := bne_iff_ne.mpr c20
       obtain rfl := Option.some.inj H
       have hcz23_0 : wr.cell? ⟨gb166001, 0, none⟩ = some (.int .i64 a0_0) := (blk_cell BK166001.out 0).trans rfl
       have hcz23_1 : wr.cell? ⟨gb166001, 1, none⟩ = some (.string a0_1) := (blk_cell BK166001.out 1).trans rfl
       have hcz23_2 : wr.cell? ⟨gb166001, 2, none⟩ = some (.slice A0_2 l0_2.length c0_2) := (blk_cell BK166001.out 2).trans rfl
       have hfz23_0 := blk_frozen BK166001.out 0
       have hfz23_1 := blk_frozen BK166001.out 1
       have hfz23_2 := blk_frozen BK166001.out 2
       go_wp2_with (first | (go_at_call 91; (with_reducible refine (spec_l1In.calls a0_0 1 9 true _ A18.out).mono ?_); rintro e w' ⟨rfl, ⟨nd, rfl⟩⟩; (try first | exact ⟨rfl, _, World.drewN_drewN _ _ _⟩ | exact ⟨rfl, _, Eq.trans (World.drewN_drewN _ _ _) (congrArg (World.drewN _) (Nat.add_assoc _ _ _))⟩)))
       repeat (go_quiet (first | (go_at_call 91; (with_reducible refine (spec_l1In.calls a0_0 1 9 true _ A18.out).mono ?_); rintro e w' ⟨rfl, ⟨nd, rfl⟩⟩; (try first | exact ⟨rfl, _, World.drewN_drewN _ _ _⟩ | exact ⟨rfl, _, Eq.trans (World.drewN_drewN _ _ _) (congrArg (World.drewN _) (Nat.add_assoc _ _ _))⟩))); try go_wp2_with (first | (go_at_call 91; (with_reducible refine (spec_l1In.calls a0_0 1 9 true _ A18.out).mono ?_); rintro e w' ⟨rfl, ⟨nd, rfl⟩⟩; (try first | exact ⟨rfl, _, World.drewN_drewN _ _ _⟩ | exact ⟨rfl, _, Eq.trans (World.drewN_drewN _ _ _) (congrArg (World.drewN _) (Nat.add_assoc _ _ _))⟩))))
       go_ret
       exact ⟨by first | rfl | (simp [errW_none, errW_some] <;> rfl) | (simp [*, errW_none, errW_some] <;> rfl), by repeat (first | (with_reducible first | exact HB.out | apply below_alloc | apply pw_below_drewN | apply below_drew1 | refine below_set ?_ GE166001.out) | exact HB.out)⟩
     ·replace c19 := Bool.eq_false_iff.mpr c19
      subst c19
      have H1 : (some false) = some r := by rw [if_neg (show ¬ (false = true) by decide)] at H; exact H
      clear H
      have H := H1
      clear H1
      obtain rfl := Option.some.inj H
      have hcz24_0 : wr.cell? ⟨gb166001, 0, none⟩ = some (.int .i64 a0_0) := (blk_cell BK166001.out 0).trans rfl
      have hcz24_1 : wr.cell? ⟨gb166001, 1, none⟩ = some (.string a0_1) := (blk_cell BK166001.out 1).trans rfl
      have hcz24_2 : wr.cell? ⟨gb166001, 2, none⟩ = some (.slice A0_2 l0_2.length c0_2) := (blk_cell BK166001.out 2).trans rfl
      have hfz24_0 := blk_frozen BK166001.out 0
      have hfz24_1 := blk_frozen BK166001.out 1
      have hfz24_2 := blk_frozen BK166001.out 2
      go_wp2_with (first | (go_at_call 91; (with_reducible refine (spec_l1In.calls a0_0 1 9 false _ A18.out).mono ?_); rintro e w' ⟨rfl, ⟨nd, rfl⟩⟩; (try first | exact ⟨rfl, _, World.drewN_drewN _ _ _⟩ | exact ⟨rfl, _, Eq.trans (World.drewN_drewN _ _ _) (congrArg (World.drewN _) (Nat.add_assoc _ _ _))⟩)))
      repeat (go_quiet (first | (go_at_call 91; (with_reducible refine (spec_l1In.calls a0_0 1 9 false _ A18.out).mono ?_); rintro e w' ⟨rfl, ⟨nd, rfl⟩⟩; (try first | exact ⟨rfl, _, World.drewN_drewN _ _ _⟩ | exact ⟨rfl, _, Eq.trans (World.drewN_drewN _ _ _) (congrArg (World.drewN _) (Nat.add_assoc _ _ _))⟩))); try go_wp2_with (first | (go_at_call 91; (with_reducible refine (spec_l1In.calls a0_0 1 9 false _ A18.out).mono ?_); rintro e w' ⟨rfl, ⟨nd, rfl⟩⟩; (try first | exact ⟨rfl, _, World.drewN_drewN _ _ _⟩ | exact ⟨rfl, _, Eq.trans (World.drewN_drewN _ _ _) (congrArg (World.drewN _) (Nat.add_assoc _ _ _))⟩))))
      go_ret
      exact ⟨by first | rfl | (simp [errW_none, errW_some] <;> rfl) | (simp [*, errW_none, errW_some] <;> rfl), by repeat (first | (with_reducible first | exact HB.out | apply below_alloc | apply pw_below_drewN | apply below_drew1 | refine below_set ?_ GE166001.out) | exact HB.out)⟩
def spec_IsValidRegex.f (k : Nat) (a0_0 : Int) (a0_1 : ByteArray) (l0_2 : List (S42)) : Option (Bool) := (spec_l3Left.f k a0_0 a0_1 l0_2 16).bind fun t89002 => (if t89002 ≥ 0 then ((spec_l3Depth.f k a0_0 a0_1 l0_2).bind fun t89003 => (if t89003 ≤ 6 then ((spec_l3All.f k a0_0 a0_1 l0_2).bind fun t89004 => (some t89004)) else (some false))) else (some false))
theorem spec_IsValidRegex.mono : ∀ a0 a1 a2 k, LeO (spec_IsValidRegex.f k a0 a1 a2) (spec_IsValidRegex.f (k + 1) a0 a1 a2) := by
 intro a0 a1 a2 k
 unfold spec_IsValidRegex.f
 repeat' first
   | (with_reducible exact spec_l3All.mono _ _ _ _)
   | (with_reducible exact spec_l3Depth.mono _ _ _ _)
   | (with_reducible exact spec_l3Left.mono _ _ _ _ _)
   | (with_reducible exact LeO.refl _)
   | (with_reducible exact LeO.none _)
   | (with_reducible refine LeO.ite ?_ ?_)
   | (with_reducible refine LeO.bind ?_ (fun _ => ?_))
theorem spec_IsValidRegex.calls (k : Nat) (a0_0 : Int) (a0_1 : ByteArray) (A0_2 : Option Addr) (c0_2 : Nat) (l0_2 : List (S42)) (r : Bool) (w : World) (hr0_2 : Kd.C k42 w A0_2 l0_2.length l0_2) (hc0_2 : l0_2.length ≤ c0_2) (h : spec_IsValidRegex.f k a0_0 a0_1 l0_2 = some r) :
  Calls Try.prog 89 #[.agg #[.int .i64 a0_0, .string a0_1, .slice A0_2 l0_2.length c0_2]] w fun e w' => e = .returned (.bool r) ∧ Below w.heap.size w w' := by
 have hu42 := Try.underlying42
 have HR0_2 := Aside0.mk hr0_2
 have HC0_2 := Aside0.mk hc0_2
 clear hr0_2 hc0_2
 have HB := Aside0.mk (Below.refl w.heap.size w)
 have H : ((spec_l3Left.f k a0_0 a0_1 l0_2 16).bind fun t89002 => (if t89002 ≥ 0 then ((spec_l3Depth.f k a0_0 a0_1 l0_2).bind fun t89003 => (if t89003 ≤ 6 then ((spec_l3All.f k a0_0 a0_1 l0_2).bind fun t89004 => (some t89004)) else (some false))) else (some false))) = some r := h
 clear h
 replace H := Option.bind_eq_some_iff.mp H
 obtain ⟨t89002, A20, H⟩ := H
 replace H : (if t89002 ≥ 0 then ((spec_l3Depth.f k a0_0 a0_1 l0_2).bind fun t89003 => (if t89003 ≤ 6 then ((spec_l3All.f k a0_0 a0_1 l0_2).bind fun t89004 => (some t89004)) else (some false))) else (some false)) = some r := H
 have A2 := Aside0.mk A20
 clear A20
 by_cases c3 : t89002 ≥ 0
 ·rw [if_pos c3] at H
  have c3b0 : decide (0 ≤ t89002) = true := decide_eq_true c3
  clear c3
  replace H := Option.bind_eq_some_iff.mp H
  obtain ⟨t89003, A40, H⟩ := H
  replace H : (if t89003 ≤ 6 then ((spec_l3All.f k a0_0 a0_1 l0_2).bind fun t89004 => (some t89004)) else (some false)) = some r := H
  have A4 := Aside0.mk A40
  clear A40
  by_cases c5 : t89003 ≤ 6
  ·rw [if_pos c5] at H
   have c5b0 : decide (t89003 ≤ 6) = true := decide_eq_true c5
   clear c5
   replace H := Option.bind_eq_some_iff.mp H
   obtain ⟨t89004, A60, H⟩ := H
   replace H : (some t89004) = some r := H
   have A6 := Aside0.mk A60
   clear A60
   obtain rfl := Option.some.inj H
   go_enter Try.func89, Try.ntmps89
   go_wp2_with (first | ((with_reducible refine gate_dst (N := 1) rfl ?_); refine box_event ?hg (N := 1) ?hd (cs := #[.int .i64 a0_0, .string a0_1, .slice A0_2 l0_2.length c0_2]) (t := 42) ?hr ?_; (case hd => rfl); (case hg => rfl); (case hr => first | (go_simp; done) | (go_simp; rfl)); intro gb89001 hg w7 hbox hb; have n0_ := Aside0.mk (below_step (by repeat (first | (with_reducible first | exact HB.out | apply below_alloc | apply pw_below_drewN | apply below_drew1) | exact HB.out)) hb); have n1_ := Aside0.mk (hbox); have n2_ := Aside0.mk ((by rw [hg]; exact (below_size (by repeat (first | (with_reducible first | exact HB.out | apply below_alloc | apply pw_below_drewN | apply below_drew1) | exact HB.out))) : w.heap.size ≤ gb89001)); have n3_ := Aside0.mk ((by rw [hg]; exact (below_size (by repeat (first | (with_reducible first | exact HB.out | apply below_alloc | apply pw_below_drewN | apply below_drew1) | exact HB.out))) : w.heap.size ≤ gb89001)); clear HB; have HB := n0_; have BK89001 := n1_; have GW89001 := n2_; have GE89001 := n3_; clear n0_ n1_ n2_ n3_; clear hb hbox hg; have hcz8_0 : w7.cell? ⟨gb89001, 0, none⟩ = some (.int .i64 a0_0) := (blk_cell BK89001.out 0).trans rfl; have hcz8_1 : w7.cell? ⟨gb89001, 1, none⟩ = some (.string a0_1) := (blk_cell BK89001.out 1).trans rfl; have hcz8_2 : w7.cell? ⟨gb89001, 2, none⟩ = some (.slice A0_2 l0_2.length c0_2) := (blk_cell BK89001.out 2).trans rfl; have hfz8_0 := blk_frozen BK89001.out 0; have hfz8_1 := blk_frozen BK89001.out 1; have hfz8_2 := blk_frozen BK89001.out 2) | ((with_reducible refine gate_callee (f := 164) rfl ?_); refine goesL_ (some 4) rfl rfl Try.func164 (by kernel_rfl) rfl #[.agg #[.int .i64 a0_0, .string a0_1, .slice A0_2 l0_2.length c0_2], .int .i64 16] rfl (by (try simp only [List.map_toArray, List.map_cons, List.map_nil]); first | done | rfl | (simp only [List.length_drop, List.length_take]; rfl)) ?_; (with_reducible refine (spec_l3Left.calls k a0_0 a0_1 _ _ l0_2 16 t89002 _ ?side1 ?side2 A2.out).mono ?_); (case side1 => repeat (first | exact (Kd.C_below HR0_2.out HB.out) | (with_reducible refine Kd.C_alloc ?_ _) | (with_reducible refine Kd.C_drewN ?_ _) | (with_reducible refine Kd.C_drew ?_))); (case side2 => exact HC0_2.out); rintro e w9 ⟨rfl, hb⟩; refine ⟨_, rfl, ?_⟩; have n0_ := Aside0.mk (blk_below (g := gb89001) (o := .cells #[.int .i64 a0_0, .string a0_1, .slice A0_2 l0_2.length c0_2] 42 (0, 0)) (by (with_reducible repeat (first | refine blk_drewN ?_ _ | refine blk_drew ?_ | refine blk_alloc ?_ _)); exact BK89001.out) hb); have n1_ := Aside0.mk (below_step (by repeat (first | (with_reducible first | exact HB.out | apply below_alloc | apply pw_below_drewN | apply below_drew1 | refine below_set ?_ GE89001.out) | exact HB.out)) hb); clear BK89001; clear HB; have BK89001 := n0_; have HB := n1_; clear n0_ n1_; (try clear hb); (try clear hb2); (try clear hk); (try clear hi); have hcz10_0 : w9.cell? ⟨gb89001, 0, none⟩ = some (.int .i64 a0_0) := (blk_cell BK89001.out 0).trans rfl; have hcz10_1 : w9.cell? ⟨gb89001, 1, none⟩ = some (.string a0_1) := (blk_cell BK89001.out 1).trans rfl; have hcz10_2 : w9.cell? ⟨gb89001, 2, none⟩ = some (.slice A0_2 l0_2.length c0_2) := (blk_cell BK89001.out 2).trans rfl; have hfz10_0 := blk_frozen BK89001.out 0; have hfz10_1 := blk_frozen BK89001.out 1; have hfz10_2 := blk_frozen BK89001.out 2) | (go_at_call 165; (with_reducible refine (spec_l3Depth.calls k a0_0 a0_1 _ _ l0_2 t89003 _ ?side1 ?side2 A4.out).mono ?_); (case side1 => repeat (first | exact (Kd.C_below HR0_2.out HB.out) | (with_reducible refine Kd.C_alloc ?_ _) | (with_reducible refine Kd.C_drewN ?_ _) | (with_reducible refine Kd.C_drew ?_))); (case side2 => exact HC0_2.out); rintro e w11 ⟨rfl, hb⟩; have n0_ := Aside0.mk (blk_below (g := gb89001) (o := .cells #[.int .i64 a0_0, .string a0_1, .slice A0_2 l0_2.length c0_2] 42 (0, 0)) (by (with_reducible repeat (first | refine blk_drewN ?_ _ | refine blk_drew ?_ | refine blk_alloc ?_ _)); exact BK89001.out) hb); have n1_ := Aside0.mk (below_step (by repeat (first | (with_reducible first | exact HB.out | apply below_alloc | apply pw_below_drewN | apply below_drew1 | refine below_set ?_ GE89001.out) | exact HB.out)) hb); clear BK89001; clear HB; have BK89001 := n0_; have HB := n1_; clear n0_ n1_; (try clear hb); (try clear hb2); (try clear hk); (try clear hi); have hcz12_0 : w11.cell? ⟨gb89001, 0, none⟩ = some (.int .i64 a0_0) := (blk_cell BK89001.out 0).trans rfl; have hcz12_1 : w11.cell? ⟨gb89001, 1, none⟩ = some (.string a0_1) := (blk_cell BK89001.out 1).trans rfl; have hcz12_2 : w11.cell? ⟨gb89001, 2, none⟩ = some (.slice A0_2 l0_2.length c0_2) := (blk_cell BK89001.out 2).trans rfl; have hfz12_0 := blk_frozen BK89001.out 0; have hfz12_1 := blk_frozen BK89001.out 1; have hfz12_2 := blk_frozen BK89001.out 2) | (go_at_call 166; (with_reducible refine (spec_l3All.calls k a0_0 a0_1 _ _ l0_2 t89004 _ ?side1 ?side2 A6.out).mono ?_); (case side1 => repeat (first | exact (Kd.C_below HR0_2.out HB.out) | (with_reducible refine Kd.C_alloc ?_ _) | (with_reducible refine Kd.C_drewN ?_ _) | (with_reducible refine Kd.C_drew ?_))); (case side2 => exact HC0_2.out); rintro e w13 ⟨rfl, hb⟩; have n0_ := Aside0.mk (blk_below (g := gb89001) (o := .cells #[.int .i64 a0_0, .string a0_1, .slice A0_2 l0_2.length c0_2] 42 (0, 0)) (by (with_reducible repeat (first | refine blk_drewN ?_ _ | refine blk_drew ?_ | refine blk_alloc ?_ _)); exact BK89001.out) hb); have n1_ := Aside0.mk (below_step (by repeat (first | (with_reducible first | exact HB.out | apply below_alloc | apply pw_below_drewN | apply below_drew1 | refine below_set ?_ GE89001.out) | exact HB.out)) hb); clear BK89001; clear HB; have BK89001 := n0_; have HB := n1_; clear n0_ n1_; (try clear hb); (try clear hb2); (try clear hk); (try clear hi)))
   go_ret
   exact ⟨by first | rfl | (simp [errW_none, errW_some] <;> rfl) | (simp [*, errW_none, errW_some] <;> rfl), by repeat (first | (with_reducible first | exact HB.out | apply below_alloc | apply pw_below_drewN | apply below_drew1 | refine below_set ?_ GE89001.out) | exact HB.out)⟩
  ·rw [if_neg c5] at H
   have c5b0 : decide (t89003 ≤ 6) = false := decide_eq_false c5
   clear c5
   obtain rfl := Option.some.inj H
   go_enter Try.func89, Try.ntmps89
   go_wp2_with (first | ((with_reducible refine gate_dst (N := 1) rfl ?_); refine box_event ?hg (N := 1) ?hd (cs := #[.int .i64 a0_0, .string a0_1, .slice A0_2 l0_2.length c0_2]) (t := 42) ?hr ?_; (case hd => rfl); (case hg => rfl); (case hr => first | (go_simp; done) | (go_simp; rfl)); intro gb89001 hg w14 hbox hb; have n0_ := Aside0.mk (below_step (by repeat (first | (with_reducible first | exact HB.out | apply below_alloc | apply pw_below_drewN | apply below_drew1) | exact HB.out)) hb); have n1_ := Aside0.mk (hbox); have n2_ := Aside0.mk ((by rw [hg]; exact (below_size (by repeat (first | (with_reducible first | exact HB.out | apply below_alloc | apply pw_below_drewN | apply below_drew1) | exact HB.out))) : w.heap.size ≤ gb89001)); have n3_ := Aside0.mk ((by rw [hg]; exact (below_size (by repeat (first | (with_reducible first | exact HB.out | apply below_alloc | apply pw_below_drewN | apply below_drew1) | exact HB.out))) : w.heap.size ≤ gb89001)); clear HB; have HB := n0_; have BK89001 := n1_; have GW89001 := n2_; have GE89001 := n3_; clear n0_ n1_ n2_ n3_; clear hb hbox hg; have hcz15_0 : w14.cell? ⟨gb89001, 0, none⟩ = some (.int .i64 a0_0) := (blk_cell BK89001.out 0).trans rfl; have hcz15_1 : w14.cell? ⟨gb89001, 1, none⟩ = some (.string a0_1) := (blk_cell BK89001.out 1).trans rfl; have hcz15_2 : w14.cell? ⟨gb89001, 2, none⟩ = some (.slice A0_2 l0_2.length c0_2) := (blk_cell BK89001.out 2).trans rfl; have hfz15_0 := blk_frozen BK89001.out 0; have hfz15_1 := blk_frozen BK89001.out 1; have hfz15_2 := blk_frozen BK89001.out 2) | ((with_reducible refine gate_callee (f := 164) rfl ?_); refine goesL_ (some 4) rfl rfl Try.func164 (by kernel_rfl) rfl #[.agg #[.int .i64 a0_0, .string a0_1, .slice A0_2 l0_2.length c0_2], .int .i64 16] rfl (by (try simp only [List.map_toArray, List.map_cons, List.map_nil]); first | done | rfl | (simp only [List.length_drop, List.length_take]; rfl)) ?_; (with_reducible refine (spec_l3Left.calls k a0_0 a0_1 _ _ l0_2 16 t89002 _ ?side1 ?side2 A2.out).mono ?_); (case side1 => repeat (first | exact (Kd.C_below HR0_2.out HB.out) | (with_reducible refine Kd.C_alloc ?_ _) | (with_reducible refine Kd.C_drewN ?_ _) | (with_reducible refine Kd.C_drew ?_))); (case side2 => exact HC0_2.out); rintro e w16 ⟨rfl, hb⟩; refine ⟨_, rfl, ?_⟩; have n0_ := Aside0.mk (blk_below (g := gb89001) (o := .cells #[.int .i64 a0_0, .string a0_1, .slice A0_2 l0_2.length c0_2] 42 (0, 0)) (by (with_reducible repeat (first | refine blk_drewN ?_ _ | refine blk_drew ?_ | refine blk_alloc ?_ _)); exact BK89001.out) hb); have n1_ := Aside0.mk (below_step (by repeat (first | (with_reducible first | exact HB.out | apply below_alloc | apply pw_below_drewN | apply below_drew1 | refine below_set ?_ GE89001.out) | exact HB.out)) hb); clear BK89001; clear HB; have BK89001 := n0_; have HB := n1_; clear n0_ n1_; (try clear hb); (try clear hb2); (try clear hk); (try clear hi); have hcz17_0 : w16.cell? ⟨gb89001, 0, none⟩ = some (.int .i64 a0_0) := (blk_cell BK89001.out 0).trans rfl; have hcz17_1 : w16.cell? ⟨gb89001, 1, none⟩ = some (.string a0_1) := (blk_cell BK89001.out 1).trans rfl; have hcz17_2 : w16.cell? ⟨gb89001, 2, none⟩ = some (.slice A0_2 l0_2.length c0_2) := (blk_cell BK89001.out 2).trans rfl; have hfz17_0 := blk_frozen BK89001.out 0; have hfz17_1 := blk_frozen BK89001.out 1; have hfz17_2 := blk_frozen BK89001.out 2) | (go_at_call 165; (with_reducible refine (spec_l3Depth.calls k a0_0 a0_1 _ _ l0_2 t89003 _ ?side1 ?side2 A4.out).mono ?_); (case side1 => repeat (first | exact (Kd.C_below HR0_2.out HB.out) | (with_reducible refine Kd.C_alloc ?_ _) | (with_reducible refine Kd.C_drewN ?_ _) | (with_reducible refine Kd.C_drew ?_))); (case side2 => exact HC0_2.out); rintro e w18 ⟨rfl, hb⟩; have n0_ := Aside0.mk (blk_below (g := gb89001) (o := .cells #[.int .i64 a0_0, .string a0_1, .slice A0_2 l0_2.length c0_2] 42 (0, 0)) (by (with_reducible repeat (first | refine blk_drewN ?_ _ | refine blk_drew ?_ | refine blk_alloc ?_ _)); exact BK89001.out) hb); have n1_ := Aside0.mk (below_step (by repeat (first | (with_reducible first | exact HB.out | apply below_alloc | apply pw_below_drewN | apply below_drew1 | refine below_set ?_ GE89001.out) | exact HB.out)) hb); clear BK89001; clear HB; have BK89001 := n0_; have HB := n1_; clear n0_ n1_; (try clear hb); (try clear hb2); (try clear hk); (try clear hi)))
   go_ret
   exact ⟨by first | rfl | (simp [errW_none, errW_some] <;> rfl) | (simp [*, errW_none, errW_some] <;> rfl), by repeat (first | (with_reducible first | exact HB.out | apply below_alloc | apply pw_below_drewN | apply below_drew1 | refine below_set ?_ GE89001.out) | exact HB.out)⟩
 ·rw [if_neg c3] at H
  have c3b0 : decide (0 ≤ t89002) = false := decide_eq_false c3
  clear c3
  obtain rfl := Option.some.inj H
  go_enter Try.func89, Try.ntmps89
  go_wp2_with (first | ((with_reducible refine gate_dst (N := 1) rfl ?_); refine box_event ?hg (N := 1) ?hd (cs := #[.int .i64 a0_0, .string a0_1, .slice A0_2 l0_2.length c0_2]) (t := 42) ?hr ?_; (case hd => rfl); (case hg => rfl); (case hr => first | (go_simp; done) | (go_simp; rfl)); intro gb89001 hg w19 hbox hb; have n0_ := Aside0.mk (below_step (by repeat (first | (with_reducible first | exact HB.out | apply below_alloc | apply pw_below_drewN | apply below_drew1) | exact HB.out)) hb); have n1_ := Aside0.mk (hbox); have n2_ := Aside0.mk ((by rw [hg]; exact (below_size (by repeat (first | (with_reducible first | exact HB.out | apply below_alloc | apply pw_below_drewN | apply below_drew1) | exact HB.out))) : w.heap.size ≤ gb89001)); have n3_ := Aside0.mk ((by rw [hg]; exact (below_size (by repeat (first | (with_reducible first | exact HB.out | apply below_alloc | apply pw_below_drewN | apply below_drew1) | exact HB.out))) : w.heap.size ≤ gb89001)); clear HB; have HB := n0_; have BK89001 := n1_; have GW89001 := n2_; have GE89001 := n3_; clear n0_ n1_ n2_ n3_; clear hb hbox hg; have hcz20_0 : w19.cell? ⟨gb89001, 0, none⟩ = some (.int .i64 a0_0) := (blk_cell BK89001.out 0).trans rfl; have hcz20_1 : w19.cell? ⟨gb89001, 1, none⟩ = some (.string a0_1) := (blk_cell BK89001.out 1).trans rfl; have hcz20_2 : w19.cell? ⟨gb89001, 2, none⟩ = some (.slice A0_2 l0_2.length c0_2) := (blk_cell BK89001.out 2).trans rfl; have hfz20_0 := blk_frozen BK89001.out 0; have hfz20_1 := blk_frozen BK89001.out 1; have hfz20_2 := blk_frozen BK89001.out 2) | ((with_reducible refine gate_callee (f := 164) rfl ?_); refine goesL_ (some 4) rfl rfl Try.func164 (by kernel_rfl) rfl #[.agg #[.int .i64 a0_0, .string a0_1, .slice A0_2 l0_2.length c0_2], .int .i64 16] rfl (by (try simp only [List.map_toArray, List.map_cons, List.map_nil]); first | done | rfl | (simp only [List.length_drop, List.length_take]; rfl)) ?_; (with_reducible refine (spec_l3Left.calls k a0_0 a0_1 _ _ l0_2 16 t89002 _ ?side1 ?side2 A2.out).mono ?_); (case side1 => repeat (first | exact (Kd.C_below HR0_2.out HB.out) | (with_reducible refine Kd.C_alloc ?_ _) | (with_reducible refine Kd.C_drewN ?_ _) | (with_reducible refine Kd.C_drew ?_))); (case side2 => exact HC0_2.out); rintro e w21 ⟨rfl, hb⟩; refine ⟨_, rfl, ?_⟩; have n0_ := Aside0.mk (blk_below (g := gb89001) (o := .cells #[.int .i64 a0_0, .string a0_1, .slice A0_2 l0_2.length c0_2] 42 (0, 0)) (by (with_reducible repeat (first | refine blk_drewN ?_ _ | refine blk_drew ?_ | refine blk_alloc ?_ _)); exact BK89001.out) hb); have n1_ := Aside0.mk (below_step (by repeat (first | (with_reducible first | exact HB.out | apply below_alloc | apply pw_below_drewN | apply below_drew1 | refine below_set ?_ GE89001.out) | exact HB.out)) hb); clear BK89001; clear HB; have BK89001 := n0_; have HB := n1_; clear n0_ n1_; (try clear hb); (try clear hb2); (try clear hk); (try clear hi)))
  go_ret
  exact ⟨by first | rfl | (simp [errW_none, errW_some] <;> rfl) | (simp [*, errW_none, errW_some] <;> rfl), by repeat (first | (with_reducible first | exact HB.out | apply below_alloc | apply pw_below_drewN | apply below_drew1 | refine below_set ?_ GE89001.out) | exact HB.out)⟩
end Go.Proofs.Ytpppopdmnejcfaa.A
namespace Go.Proofs.Ytpppopdmnejcfaa.A
open Go.RowKit Go.Proofs.Ytpppopdmnejcfaa.Ext Go.Proofs.YtpppopdmnejcfaaW.PrintWords Go.Proofs.YtpppopdmnejcfaaW.PrintLast Go.Proofs.YtpppopdmnejcfaaW.PrintMore
attribute [local go_sem] max2_int min2_int max_two min_two max_three min_three max_four min_four
def spec_l8Var.f (a0 : Int) : Option (Bool) := if a0 ≥ 88 then (some (decide (a0 ≤ 90))) else (some false)
theorem spec_l8Var.calls (a0 : Int) (r : Bool) (w : World) (h : spec_l8Var.f a0 = some r) :
  Calls Try.prog 137 #[.int .u8 a0] w fun e w' => e = .returned (.bool r) ∧ Drawn0 w w' := by
 have H : (if a0 ≥ 88 then (some (decide (a0 ≤ 90))) else (some false)) = some r := h
 clear h
 by_cases c2 : a0 ≥ 88
 ·rw [if_pos c2] at H
  have c2b0 : decide (88 ≤ a0) = true := decide_eq_true c2
  clear c2
  obtain rfl := Option.some.inj H
  go_enter Try.func137, Try.ntmps137
  go_wp2
  go_ret
  exact ⟨by first | rfl | (simp; done) | (simp [*]; done), by repeat (first | exact Drawn0.refl _ | apply Drawn0.step)⟩
 ·rw [if_neg c2] at H
  have c2b0 : decide (88 ≤ a0) = false := decide_eq_false c2
  clear c2
  obtain rfl := Option.some.inj H
  go_enter Try.func137, Try.ntmps137
  go_wp2
  go_ret
  exact ⟨by first | rfl | (simp; done) | (simp [*]; done), by repeat (first | exact Drawn0.refl _ | apply Drawn0.step)⟩
def spec_IsTerm.l0 : Nat → ByteArray → Int → Option (Bool)
 | 0, _, _ => none
 | k + 1, x0, x3 => if x3 < (x0.size : Int) then (if 0 ≤ x3 then ((spec_LetterIndex.f k (bt x0 x3)).bind fun t50001 => (if t50001 < 0 then ((spec_l8Var.f (bt x0 x3)).bind fun t50002 => (if t50002 = true then (spec_IsTerm.l0 k x0 (wrap64 (x3 + 1))) else (some false))) else (spec_IsTerm.l0 k x0 (wrap64 (x3 + 1))))) else (none)) else (some (decide ((x0.size : Int) ≤ 12)))
def spec_IsTerm.f (k : Nat) (a0 : ByteArray) : Option (Bool) := spec_IsTerm.l0 k a0 0
theorem spec_IsTerm.mono_l : ∀ k, (∀ y0 y1, LeO (spec_IsTerm.l0 k y0 y1) (spec_IsTerm.l0 (k + 1) y0 y1))
 | 0 => fun _ _ r h => by simp [spec_IsTerm.l0] at h
 | k + 1 => by
  have ih0 := spec_IsTerm.mono_l k
  ·intro y0 y1
   unfold spec_IsTerm.l0
   repeat' first
   | (with_reducible exact ih0 _ _)
   | (with_reducible exact spec_LetterIndex.mono _ _)
   | (with_reducible exact LeO.refl _)
   | (with_reducible exact LeO.none _)
   | (with_reducible refine LeO.ite ?_ ?_)
   | (with_reducible refine LeO.bind ?_ (fun _ => ?_))
theorem spec_IsTerm.mono : ∀ a0 k, LeO (spec_IsTerm.f k a0) (spec_IsTerm.f (k + 1) a0) := by
 intro a0 k
 have ih0 := spec_IsTerm.mono_l k
 unfold spec_IsTerm.f
 repeat' first
   | (with_reducible exact ih0 _ _)
   | (with_reducible exact spec_LetterIndex.mono _ _)
   | (with_reducible exact LeO.refl _)
   | (with_reducible exact LeO.none _)
   | (with_reducible refine LeO.ite ?_ ?_)
   | (with_reducible refine LeO.bind ?_ (fun _ => ?_))
theorem spec_IsTerm.calls (k : Nat) (a0 : ByteArray) (r : Bool) (w : World) (h : spec_IsTerm.f k a0 = some r) :
  Calls Try.prog 50 #[.string a0] w fun e w' => e = .returned (.bool r) ∧ Drawn0 w w' := by
 have H : (spec_IsTerm.l0 k a0 0) = some r := h
 clear h
 have H' := Aside0.mk H
 clear H
 go_enter Try.func50, Try.ntmps50
 go_wp2
 first | go_loopg [3] k (fun kq v3 w' => ∃ (x3_1 : Int), v3 = .int .i64 x3_1 ∧ Aside0 (spec_IsTerm.l0 kq a0 x3_1 = some r) ∧ Aside0 (kq ≤ k) ∧ Drawn0 w w') | (simp only [Act.put, List.setIfInBounds_toArray, List.set_cons_succ, List.set_cons_zero]; go_loopg [3] k (fun kq v3 w' => ∃ (x3_1 : Int), v3 = .int .i64 x3_1 ∧ Aside0 (spec_IsTerm.l0 kq a0 x3_1 = some r) ∧ Aside0 (kq ≤ k) ∧ Drawn0 w w'))
 case atStart => exact ⟨(0), (by first | rfl | (simp; done) | (simp [*]; done)), H', ⟨Nat.le_refl _⟩, by repeat (first | exact Drawn0.refl _ | apply Drawn0.step)⟩
 case round =>
  clear H'
  obtain ⟨x3_1, rfl, HA, HK1, ⟨m1, rfl⟩⟩ := hrel
  cases gk with
  | zero => exact absurd HA.out (by simp [spec_IsTerm.l0])
  | succ k1 =>
   have H := HA.out
   clear HA
   simp only [spec_IsTerm.l0] at H
   by_cases c2 : x3_1 < (a0.size : Int)
   ·rw [if_pos c2] at H
    have c2b0 : decide (x3_1 < (a0.size : Int)) = true := decide_eq_true c2
    clear c2
    by_cases c3 : 0 ≤ x3_1
    ·rw [if_pos c3] at H
     have c3b0 : decide (0 ≤ x3_1) = true := decide_eq_true c3
     clear c3
     replace H := Option.bind_eq_some_iff.mp H
     obtain ⟨t50001, A50, H⟩ := H
     replace H : (if t50001 < 0 then ((spec_l8Var.f (bt a0 x3_1)).bind fun t50002 => (if t50002 = true then (spec_IsTerm.l0 k1 a0 (wrap64 (x3_1 + 1))) else (some false))) else (spec_IsTerm.l0 k1 a0 (wrap64 (x3_1 + 1)))) = some r := H
     have A5 := Aside0.mk A50
     clear A50
     by_cases c6 : t50001 < 0
     ·rw [if_pos c6] at H
      have c6b0 : decide (t50001 < 0) = true := decide_eq_true c6
      clear c6
      replace H := Option.bind_eq_some_iff.mp H
      obtain ⟨t50002, A80, H⟩ := H
      replace H : (if t50002 = true then (spec_IsTerm.l0 k1 a0 (wrap64 (x3_1 + 1))) else (some false)) = some r := H
      have A8 := Aside0.mk A80
      clear A80
      by_cases c9 : t50002 = true
      ·subst c9
       have H1 : (spec_IsTerm.l0 k1 a0 (wrap64 (x3_1 + 1))) = some r := by rw [if_pos rfl] at H; exact H
       clear H
       have H := H1
       clear H1
       have H' := Aside0.mk H
       clear H
       have p4 : 0 ≤ (x3_1 : Int) := of_decide_eq_true (by first | (with_reducible assumption) | assumption)
       have q4 : x3_1 < (a0.size : Int) := of_decide_eq_true (by first | (with_reducible assumption) | assumption)
       have hx4 := bt_at a0 x3_1
       replace p4 := eq_true p4
       replace q4 := eq_true q4
       go_wp2_with (first | ((with_reducible refine gate_callee (f := 141) rfl ?_); refine goesL_ (some 13) rfl rfl Try.func141 (by kernel_rfl) rfl #[.int .u8 (bt a0 x3_1)] rfl (by (try simp only [List.map_toArray, List.map_cons, List.map_nil]); first | done | rfl | (simp only [List.length_drop, List.length_take]; rfl)) ?_; (with_reducible refine (spec_LetterIndex.calls k1 (bt a0 x3_1) t50001 _ A5.out).mono ?_); rintro e w' ⟨rfl, ⟨nd, rfl⟩⟩; refine ⟨_, rfl, ?_⟩; have p7 : 0 ≤ (x3_1 : Int) := of_decide_eq_true (by first | (with_reducible assumption) | assumption); have q7 : x3_1 < (a0.size : Int) := of_decide_eq_true (by first | (with_reducible assumption) | assumption); have hx7 := bt_at a0 x3_1; replace p7 := eq_true p7; replace q7 := eq_true q7) | (go_at_call 137; (with_reducible refine (spec_l8Var.calls (bt a0 x3_1) true _ A8.out).mono ?_); rintro e w' ⟨rfl, ⟨nd, rfl⟩⟩))
       go_roundg k1
       case measure => have := HK1.out; omega
       case rel => exact ⟨(wrap64 (x3_1 + 1)), (by first | rfl | (simp; done) | (simp [*]; done)), H', ⟨by have := HK1.out; omega⟩, by repeat (first | exact Drawn0.refl _ | apply Drawn0.step)⟩
      ·replace c9 := Bool.eq_false_iff.mpr c9
       subst c9
       have H1 : (some false) = some r := by rw [if_neg (show ¬ (false = true) by decide)] at H; exact H
       clear H
       have H := H1
       clear H1
       obtain rfl := Option.some.inj H
       have p4 : 0 ≤ (x3_1 : Int) := of_decide_eq_true (by first | (with_reducible assumption) | assumption)
       have q4 : x3_1 < (a0.size : Int) := of_decide_eq_true (by first | (with_reducible assumption) | assumption)
       have hx4 := bt_at a0 x3_1
       replace p4 := eq_true p4
       replace q4 := eq_true q4
       go_wp2_with (first | ((with_reducible refine gate_callee (f := 141) rfl ?_); refine goesL_ (some 13) rfl rfl Try.func141 (by kernel_rfl) rfl #[.int .u8 (bt a0 x3_1)] rfl (by (try simp only [List.map_toArray, List.map_cons, List.map_nil]); first | done | rfl | (simp only [List.length_drop, List.length_take]; rfl)) ?_; (with_reducible refine (spec_LetterIndex.calls k1 (bt a0 x3_1) t50001 _ A5.out).mono ?_); rintro e w' ⟨rfl, ⟨nd, rfl⟩⟩; refine ⟨_, rfl, ?_⟩; have p7 : 0 ≤ (x3_1 : Int) := of_decide_eq_true (by first | (with_reducible assumption) | assumption); have q7 : x3_1 < (a0.size : Int) := of_decide_eq_true (by first | (with_reducible assumption) | assumption); have hx7 := bt_at a0 x3_1; replace p7 := eq_true p7; replace q7 := eq_true q7) | (go_at_call 137; (with_reducible refine (spec_l8Var.calls (bt a0 x3_1) false _ A8.out).mono ?_); rintro e w' ⟨rfl, ⟨nd, rfl⟩⟩))
       go_ret
       exact ⟨by first | rfl | (simp; done) | (simp [*]; done), by repeat (first | exact Drawn0.refl _ | apply Drawn0.step)⟩
     ·rw [if_neg c6] at H
      have c6b0 : decide (t50001 < 0) = false := decide_eq_false c6
      clear c6
      have H' := Aside0.mk H
      clear H
      have p4 : 0 ≤ (x3_1 : Int) := of_decide_eq_true (by first | (with_reducible assumption) | assumption)
      have q4 : x3_1 < (a0.size : Int) := of_decide_eq_true (by first | (with_reducible assumption) | assumption)
      have hx4 := bt_at a0 x3_1
      replace p4 := eq_true p4
      replace q4 := eq_true q4
      go_wp2_with (first | ((with_reducible refine gate_callee (f := 141) rfl ?_); refine goesL_ (some 13) rfl rfl Try.func141 (by kernel_rfl) rfl #[.int .u8 (bt a0 x3_1)] rfl (by (try simp only [List.map_toArray, List.map_cons, List.map_nil]); first | done | rfl | (simp only [List.length_drop, List.length_take]; rfl)) ?_; (with_reducible refine (spec_LetterIndex.calls k1 (bt a0 x3_1) t50001 _ A5.out).mono ?_); rintro e w' ⟨rfl, ⟨nd, rfl⟩⟩; refine ⟨_, rfl, ?_⟩))
      go_roundg k1
      case measure => have := HK1.out; omega
      case rel => exact ⟨(wrap64 (x3_1 + 1)), (by first | rfl | (simp; done) | (simp [*]; done)), H', ⟨by have := HK1.out; omega⟩, by repeat (first | exact Drawn0.refl _ | apply Drawn0.step)⟩
    ·rw [if_neg c3] at H
     exact absurd H (by simp)
   ·rw [if_neg c2] at H
    have c2b0 : decide (x3_1 < (a0.size : Int)) = false := decide_eq_false c2
    clear c2
    obtain rfl := Option.some.inj H
    go_wp2
    go_ret
    exact ⟨by first | rfl | (simp; done) | (simp [*]; done), by repeat (first | exact Drawn0.refl _ | apply Drawn0.step)⟩
end Go.Proofs.Ytpppopdmnejcfaa.A
namespace Go.Proofs.Ytpppopdmnejcfaa.A
open Go.RowKit Go.Proofs.Ytpppopdmnejcfaa.Ext Go.Proofs.YtpppopdmnejcfaaW.PrintWords Go.Proofs.YtpppopdmnejcfaaW.PrintLast Go.Proofs.YtpppopdmnejcfaaW.PrintMore
attribute [local go_sem] max2_int min2_int max_two min_two max_three min_three max_four min_four
def spec_l9Zero.f (a0_0 : Int) (a0_1 : ByteArray) (l0_2 : List (S42)) : Option (Bool) := if a0_0 = 0 then (if a0_1.toList = ([] : List UInt8) then (some ((l0_2.length : Int) == 0)) else (some false)) else (some false)
theorem spec_l9Zero.calls (a0_0 : Int) (a0_1 : ByteArray) (A0_2 : Option Addr) (c0_2 : Nat) (l0_2 : List (S42)) (r : Bool) (w : World) (hr0_2 : Kd.C k42 w A0_2 l0_2.length l0_2) (hc0_2 : l0_2.length ≤ c0_2) (h : spec_l9Zero.f a0_0 a0_1 l0_2 = some r) :
  Calls Try.prog 88 #[.agg #[.int .i64 a0_0, .string a0_1, .slice A0_2 l0_2.length c0_2]] w fun e w' => e = .returned (.bool r) ∧ Below w.heap.size w w' := by
 have hu42 := Try.underlying42
 have HR0_2 := Aside0.mk hr0_2
 have HC0_2 := Aside0.mk hc0_2
 clear hr0_2 hc0_2
 have HB := Aside0.mk (Below.refl w.heap.size w)
 have H : (if a0_0 = 0 then (if a0_1.toList = ([] : List UInt8) then (some ((l0_2.length : Int) == 0)) else (some false)) else (some false)) = some r := h
 clear h
 by_cases c2 : a0_0 = 0
 ·rw [if_pos c2] at H
  have c2b0 : (a0_0 == 0) = true := beq_iff_eq.mpr c2
  have c2b1 : (a0_0 != 0) = false := bne_eq_false_iff_eq.mpr c2
  clear c2
  by_cases c3 : a0_1.toList = ([] : List UInt8)
  ·rw [if_pos c3] at H
   have c3b0 : (a0_1.toList == ([] : List UInt8)) = true := beq_iff_eq.mpr c3
   have c3b1 : (a0_1.toList != ([] : List UInt8)) = false := bne_eq_false_iff_eq.mpr c3
   clear c3
   obtain rfl := Option.some.inj H
   go_enter Try.func88, Try.ntmps88
   go_wp2_with (first | ((with_reducible refine gate_dst (N := 1) rfl ?_); (try (refine gate_guard (by rfl) ?_; dsimp only)); refine box_event ?hg (N := 1) ?hd (cs := #[.int .i64 a0_0, .string a0_1, .slice A0_2 l0_2.length c0_2]) (t := 42) ?hr ?_; (case hd => rfl); (case hg => rfl); (case hr => first | (go_simp; done) | (go_simp; rfl)); intro gb88001 hg w4 hbox hb; have n0_ := Aside0.mk (below_step (by repeat (first | (with_reducible first | exact HB.out | apply below_alloc | apply pw_below_drewN | apply below_drew1) | exact HB.out)) hb); have n1_ := Aside0.mk (hbox); have n2_ := Aside0.mk ((by rw [hg]; exact (below_size (by repeat (first | (with_reducible first | exact HB.out | apply below_alloc | apply pw_below_drewN | apply below_drew1) | exact HB.out))) : w.heap.size ≤ gb88001)); have n3_ := Aside0.mk ((by rw [hg]; exact (below_size (by repeat (first | (with_reducible first | exact HB.out | apply below_alloc | apply pw_below_drewN | apply below_drew1) | exact HB.out))) : w.heap.size ≤ gb88001)); clear HB; have HB := n0_; have BK88001 := n1_; have GW88001 := n2_; have GE88001 := n3_; clear n0_ n1_ n2_ n3_; clear hb hbox hg; have hcz5_0 : w4.cell? ⟨gb88001, 0, none⟩ = some (.int .i64 a0_0) := (blk_cell BK88001.out 0).trans rfl; have hcz5_1 : w4.cell? ⟨gb88001, 1, none⟩ = some (.string a0_1) := (blk_cell BK88001.out 1).trans rfl; have hcz5_2 : w4.cell? ⟨gb88001, 2, none⟩ = some (.slice A0_2 l0_2.length c0_2) := (blk_cell BK88001.out 2).trans rfl; have hfz5_0 := blk_frozen BK88001.out 0; have hfz5_1 := blk_frozen BK88001.out 1; have hfz5_2 := blk_frozen BK88001.out 2))
   go_ret
   exact ⟨by first | rfl | (simp [errW_none, errW_some] <;> rfl) | (simp [*, errW_none, errW_some] <;> rfl), by repeat (first | (with_reducible first | exact HB.out | apply below_alloc | apply pw_below_drewN | apply below_drew1 | refine below_set ?_ GE88001.out) | exact HB.out)⟩
  ·rw [if_neg c3] at H
   have c3b0 : (a0_1.toList == ([] : List UInt8)) = false := beq_eq_false_iff_ne.mpr c3
   have c3b1 : (a0_1.toList != ([] : List UInt8)) = true := bne_iff_ne.mpr c3
   obtain rfl := Option.some.inj H
   go_enter Try.func88, Try.ntmps88
   go_wp2_with (first | ((with_reducible refine gate_dst (N := 1) rfl ?_); (try (refine gate_guard (by rfl) ?_; dsimp only)); refine box_event ?hg (N := 1) ?hd (cs := #[.int .i64 a0_0, .string a0_1, .slice A0_2 l0_2.length c0_2]) (t := 42) ?hr ?_; (case hd => rfl); (case hg => rfl); (case hr => first | (go_simp; done) | (go_simp; rfl)); intro gb88001 hg w6 hbox hb; have n0_ := Aside0.mk (below_step (by repeat (first | (with_reducible first | exact HB.out | apply below_alloc | apply pw_below_drewN | apply below_drew1) | exact HB.out)) hb); have n1_ := Aside0.mk (hbox); have n2_ := Aside0.mk ((by rw [hg]; exact (below_size (by repeat (first | (with_reducible first | exact HB.out | apply below_alloc | apply pw_below_drewN | apply below_drew1) | exact HB.out))) : w.heap.size ≤ gb88001)); have n3_ := Aside0.mk ((by rw [hg]; exact (below_size (by repeat (first | (with_reducible first | exact HB.out | apply below_alloc | apply pw_below_drewN | apply below_drew1) | exact HB.out))) : w.heap.size ≤ gb88001)); clear HB; have HB := n0_; have BK88001 := n1_; have GW88001 := n2_; have GE88001 := n3_; clear n0_ n1_ n2_ n3_; clear hb hbox hg; have hcz7_0 : w6.cell? ⟨gb88001, 0, none⟩ = some (.int .i64 a0_0) := (blk_cell BK88001.out 0).trans rfl; have hcz7_1 : w6.cell? ⟨gb88001, 1, none⟩ = some (.string a0_1) := (blk_cell BK88001.out 1).trans rfl; have hcz7_2 : w6.cell? ⟨gb88001, 2, none⟩ = some (.slice A0_2 l0_2.length c0_2) := (blk_cell BK88001.out 2).trans rfl; have hfz7_0 := blk_frozen BK88001.out 0; have hfz7_1 := blk_frozen BK88001.out 1; have hfz7_2 := blk_frozen BK88001.out 2))
   go_ret
   exact ⟨by first | rfl | (simp [errW_none, errW_some] <;> rfl) | (simp [*, errW_none, errW_some] <;> rfl), by repeat (first | (with_reducible first | exact HB.out | apply below_alloc | apply pw_below_drewN | apply below_drew1 | refine below_set ?_ GE88001.out) | exact HB.out)⟩
 ·rw [if_neg c2] at H
  have c2b0 : (a0_0 == 0) = false := beq_eq_false_iff_ne.mpr c2
  have c2b1 : (a0_0 != 0) = true := bne_iff_ne.mpr c2
  obtain rfl := Option.some.inj H
  go_enter Try.func88, Try.ntmps88
  go_wp2_with (first | ((with_reducible refine gate_dst (N := 1) rfl ?_); (try (refine gate_guard (by rfl) ?_; dsimp only)); refine box_event ?hg (N := 1) ?hd (cs := #[.int .i64 a0_0, .string a0_1, .slice A0_2 l0_2.length c0_2]) (t := 42) ?hr ?_; (case hd => rfl); (case hg => rfl); (case hr => first | (go_simp; done) | (go_simp; rfl)); intro gb88001 hg w8 hbox hb; have n0_ := Aside0.mk (below_step (by repeat (first | (with_reducible first | exact HB.out | apply below_alloc | apply pw_below_drewN | apply below_drew1) | exact HB.out)) hb); have n1_ := Aside0.mk (hbox); have n2_ := Aside0.mk ((by rw [hg]; exact (below_size (by repeat (first | (with_reducible first | exact HB.out | apply below_alloc | apply pw_below_drewN | apply below_drew1) | exact HB.out))) : w.heap.size ≤ gb88001)); have n3_ := Aside0.mk ((by rw [hg]; exact (below_size (by repeat (first | (with_reducible first | exact HB.out | apply below_alloc | apply pw_below_drewN | apply below_drew1) | exact HB.out))) : w.heap.size ≤ gb88001)); clear HB; have HB := n0_; have BK88001 := n1_; have GW88001 := n2_; have GE88001 := n3_; clear n0_ n1_ n2_ n3_; clear hb hbox hg; have hcz9_0 : w8.cell? ⟨gb88001, 0, none⟩ = some (.int .i64 a0_0) := (blk_cell BK88001.out 0).trans rfl; have hcz9_1 : w8.cell? ⟨gb88001, 1, none⟩ = some (.string a0_1) := (blk_cell BK88001.out 1).trans rfl; have hcz9_2 : w8.cell? ⟨gb88001, 2, none⟩ = some (.slice A0_2 l0_2.length c0_2) := (blk_cell BK88001.out 2).trans rfl; have hfz9_0 := blk_frozen BK88001.out 0; have hfz9_1 := blk_frozen BK88001.out 1; have hfz9_2 := blk_frozen BK88001.out 2))
  go_ret
  exact ⟨by first | rfl | (simp [errW_none, errW_some] <;> rfl) | (simp [*, errW_none, errW_some] <;> rfl), by repeat (first | (with_reducible first | exact HB.out | apply below_alloc | apply pw_below_drewN | apply below_drew1 | refine below_set ?_ GE88001.out) | exact HB.out)⟩
def spec_l9Coeffs.l0 : Nat → List Int → Int → Option (Bool)
 | 0, _, _ => none
 | k + 1, x0, x3 => if x3 < (x0.length : Int) then (if 0 ≤ x3 then ((spec_l1In.f (rd x0 x3) (-9) 9).bind fun t90002 => (if t90002 = true then (spec_l9Coeffs.l0 k x0 (wrap64 (x3 + 1))) else (some false))) else (none)) else (some ((x0.length : Int) == 3))
def spec_l9Coeffs.f (k : Nat) (l0 : List Int) : Option (Bool) := spec_l9Coeffs.l0 k l0 0
theorem spec_l9Coeffs.mono_l : ∀ k, (∀ y0 y1, LeO (spec_l9Coeffs.l0 k y0 y1) (spec_l9Coeffs.l0 (k + 1) y0 y1))
 | 0 => fun _ _ r h => by simp [spec_l9Coeffs.l0] at h
 | k + 1 => by
  have ih0 := spec_l9Coeffs.mono_l k
  ·intro y0 y1
   unfold spec_l9Coeffs.l0
   repeat' first
   | (with_reducible exact ih0 _ _)
   | (with_reducible exact LeO.refl _)
   | (with_reducible exact LeO.none _)
   | (with_reducible refine LeO.ite ?_ ?_)
   | (with_reducible refine LeO.bind ?_ (fun _ => ?_))
theorem spec_l9Coeffs.mono : ∀ a0 k, LeO (spec_l9Coeffs.f k a0) (spec_l9Coeffs.f (k + 1) a0) := by
 intro a0 k
 have ih0 := spec_l9Coeffs.mono_l k
 unfold spec_l9Coeffs.f
 repeat' first
   | (with_reducible exact ih0 _ _)
   | (with_reducible exact LeO.refl _)
   | (with_reducible exact LeO.none _)
   | (with_reducible refine LeO.ite ?_ ?_)
   | (with_reducible refine LeO.bind ?_ (fun _ => ?_))
theorem spec_l9Coeffs.calls (k : Nat) (A0 : Option Addr) (c0 : Nat) (l0 : List Int) (r : Bool) (w : World) (hr0 : Kd.C (Kd.int .i64) w A0 l0.length l0) (hc0 : l0.length ≤ c0) (h : spec_l9Coeffs.f k l0 = some r) :
  Calls Try.prog 90 #[.slice A0 l0.length c0] w fun e w' => e = .returned (.bool r) ∧ Drawn0 w w' := by
 have HR0 := Aside0.mk hr0
 have HC0 := Aside0.mk hc0
 clear hr0 hc0
 have H : (spec_l9Coeffs.l0 k l0 0) = some r := h
 clear h
 have H' := Aside0.mk H
 clear H
 go_enter Try.func90, Try.ntmps90
 go_wp2
 first | go_loopg [3] k (fun kq v3 w' => ∃ (x3_1 : Int), v3 = .int .i64 x3_1 ∧ Aside0 (spec_l9Coeffs.l0 kq l0 x3_1 = some r) ∧ Aside0 (kq ≤ k) ∧ Drawn0 w w') | (simp only [Act.put, List.setIfInBounds_toArray, List.set_cons_succ, List.set_cons_zero]; go_loopg [3] k (fun kq v3 w' => ∃ (x3_1 : Int), v3 = .int .i64 x3_1 ∧ Aside0 (spec_l9Coeffs.l0 kq l0 x3_1 = some r) ∧ Aside0 (kq ≤ k) ∧ Drawn0 w w'))
 case atStart => exact ⟨(0), (by first | rfl | (simp; done) | (simp [*]; done)), H', ⟨Nat.le_refl _⟩, by repeat (first | exact Drawn0.refl _ | apply Drawn0.step)⟩
 case round =>
  clear H'
  obtain ⟨x3_1, rfl, HA, HK1, ⟨m1, rfl⟩⟩ := hrel
  cases gk with
  | zero => exact absurd HA.out (by simp [spec_l9Coeffs.l0])
  | succ k1 =>
   have H := HA.out
   clear HA
   simp only [spec_l9Coeffs.l0] at H
   by_cases c2 : x3_1 < (l0.length : Int)
   ·rw [if_pos c2] at H
    have c2b0 : decide (x3_1 < (l0.length : Int)) = true := decide_eq_true c2
    clear c2
    by_cases c3 : 0 ≤ x3_1
    ·rw [if_pos c3] at H
     have c3b0 : decide (0 ≤ x3_1) = true := decide_eq_true c3
     clear c3
     replace H := Option.bind_eq_some_iff.mp H
     obtain ⟨t90002, A40, H⟩ := H
     replace H : (if t90002 = true then (spec_l9Coeffs.l0 k1 l0 (wrap64 (x3_1 + 1))) else (some false)) = some r := H
     have A4 := Aside0.mk A40
     clear A40
     by_cases c5 : t90002 = true
     ·subst c5
      have H1 : (spec_l9Coeffs.l0 k1 l0 (wrap64 (x3_1 + 1))) = some r := by rw [if_pos rfl] at H; exact H
      clear H
      have H := H1
      clear H1
      have H' := Aside0.mk H
      clear H
      have p90001 : 0 ≤ (x3_1 : Int) := of_decide_eq_true (by first | (with_reducible assumption) | assumption)
      have q90001 : x3_1 < (l0.length : Int) := of_decide_eq_true (by first | (with_reducible assumption) | assumption)
      obtain ⟨ad90001, e90001, hx90001_0⟩ := Kd.at_int HR0.out x3_1 p90001 q90001
      cases e90001
      replace p90001 := eq_true p90001
      replace q90001 := eq_true q90001
      go_wp2_with (first | ((with_reducible refine gate_callee (f := 91) rfl ?_); refine goesL_ (some 14) rfl rfl Try.func91 (by kernel_rfl) rfl #[.int .i64 (rd l0 x3_1), .int .i64 (-9), .int .i64 9] rfl (by (try simp only [List.map_toArray, List.map_cons, List.map_nil]); first | done | rfl | (simp only [List.length_drop, List.length_take]; rfl)) ?_; (with_reducible refine (spec_l1In.calls (rd l0 x3_1) (-9) 9 true _ A4.out).mono ?_); rintro e w' ⟨rfl, ⟨nd, rfl⟩⟩; refine ⟨_, rfl, ?_⟩))
      go_roundg k1
      case measure => have := HK1.out; omega
      case rel => exact ⟨(wrap64 (x3_1 + 1)), (by first | rfl | (simp; done) | (simp [*]; done)), H', ⟨by have := HK1.out; omega⟩, by repeat (first | exact Drawn0.refl _ | apply Drawn0.step)⟩
     ·replace c5 := Bool.eq_false_iff.mpr c5
      subst c5
      have H1 : (some false) = some r := by rw [if_neg (show ¬ (false = true) by decide)] at H; exact H
      clear H
      have H := H1
      clear H1
      obtain rfl := Option.some.inj H
      have p90001 : 0 ≤ (x3_1 : Int) := of_decide_eq_true (by first | (with_reducible assumption) | assumption)
      have q90001 : x3_1 < (l0.length : Int) := of_decide_eq_true (by first | (with_reducible assumption) | assumption)
      obtain ⟨ad90001, e90001, hx90001_0⟩ := Kd.at_int HR0.out x3_1 p90001 q90001
      cases e90001
      replace p90001 := eq_true p90001
      replace q90001 := eq_true q90001
      go_wp2_with (first | ((with_reducible refine gate_callee (f := 91) rfl ?_); refine goesL_ (some 14) rfl rfl Try.func91 (by kernel_rfl) rfl #[.int .i64 (rd l0 x3_1), .int .i64 (-9), .int .i64 9] rfl (by (try simp only [List.map_toArray, List.map_cons, List.map_nil]); first | done | rfl | (simp only [List.length_drop, List.length_take]; rfl)) ?_; (with_reducible refine (spec_l1In.calls (rd l0 x3_1) (-9) 9 false _ A4.out).mono ?_); rintro e w' ⟨rfl, ⟨nd, rfl⟩⟩; refine ⟨_, rfl, ?_⟩))
      go_ret
      exact ⟨by first | rfl | (simp; done) | (simp [*]; done), by repeat (first | exact Drawn0.refl _ | apply Drawn0.step)⟩
    ·rw [if_neg c3] at H
     exact absurd H (by simp)
   ·rw [if_neg c2] at H
    have c2b0 : decide (x3_1 < (l0.length : Int)) = false := decide_eq_false c2
    clear c2
    obtain rfl := Option.some.inj H
    go_wp2
    go_ret
    exact ⟨by first | rfl | (simp; done) | (simp [*]; done), by repeat (first | exact Drawn0.refl _ | apply Drawn0.step)⟩
mutual
def spec_IsValidConstraint.j0 : Nat → Bool → Int → ByteArray → ByteArray → Int → ByteArray → List (S42) → List Int → Int → Option (Bool)
 | 0, _, _, _, _, _, _, _, _, _ => none
 | k + 1, x3, x21002000, x21002001, x21002002, x21002003, x21002004, x21002005, x21002006, x21002007 => if x21002000 = 1 then (spec_IsValidConstraint.j1 k x3 x21002000 (x21002000 == 1) x21002000 x21002001 x21002002 x21002003 x21002004 x21002005 x21002006 x21002007) else (spec_IsValidConstraint.j1 k x3 x21002000 (x21002000 == 2) x21002000 x21002001 x21002002 x21002003 x21002004 x21002005 x21002006 x21002007)
def spec_IsValidConstraint.j1 : Nat → Bool → Int → Bool → Int → ByteArray → ByteArray → Int → ByteArray → List (S42) → List Int → Int → Option (Bool)
 | 0, _, _, _, _, _, _, _, _, _, _, _ => none
 | k + 1, x3, x14, x15, x21002000, x21002001, x21002002, x21002003, x21002004, x21002005, x21002006, x21002007 => if x15 = true then ((spec_IsTerm.f k x21002001).bind fun t21002 => (if t21002 = true then ((spec_IsTerm.f k x21002002).bind fun t21003 => (if t21003 = true then ((spec_l9Zero.f x21002003 x21002004 x21002005).bind fun t21004 => (if t21004 = true then (some x3) else (some false))) else (some false))) else (some false))) else (if x14 = 3 then (spec_IsValidConstraint.j2 k x3 x14 (x14 == 3) x21002000 x21002001 x21002002 x21002003 x21002004 x21002005 x21002006 x21002007) else (spec_IsValidConstraint.j2 k x3 x14 (x14 == 4) x21002000 x21002001 x21002002 x21002003 x21002004 x21002005 x21002006 x21002007))
def spec_IsValidConstraint.j2 : Nat → Bool → Int → Bool → Int → ByteArray → ByteArray → Int → ByteArray → List (S42) → List Int → Int → Option (Bool)
 | 0, _, _, _, _, _, _, _, _, _, _, _ => none
 | k + 1, x3, x14, x34, x21002000, x21002001, x21002002, x21002003, x21002004, x21002005, x21002006, x21002007 => if x34 = true then ((spec_IsTerm.f k x21002001).bind fun t21005 => (if t21005 = true then (if x21002002.toList = ([] : List UInt8) then ((spec_IsValidRegex.f k x21002003 x21002004 x21002005).bind fun t21006 => (if t21006 = true then (some x3) else (some false))) else (some false)) else (some false))) else (if x14 = 5 then (if x21002001.toList = ([] : List UInt8) then (if x21002002.toList = ([] : List UInt8) then ((spec_l9Zero.f x21002003 x21002004 x21002005).bind fun t21007 => (if t21007 = true then ((spec_l9Coeffs.f k x21002006).bind fun t21008 => (if t21008 = true then ((spec_l1In.f x21002007 (-99) 99).bind fun t21009 => (some t21009)) else (some false))) else (some false))) else (some false)) else (some false)) else (some false))
end
def spec_IsValidConstraint.f (k : Nat) (a0_0 : Int) (a0_1 : ByteArray) (a0_2 : ByteArray) (a0_3 : Int) (a0_4 : ByteArray) (l0_5 : List (S42)) (l0_6 : List Int) (a0_7 : Int) : Option (Bool) := if (l0_6.length : Int) = 0 then (spec_IsValidConstraint.j0 k (a0_7 == 0) a0_0 a0_1 a0_2 a0_3 a0_4 l0_5 l0_6 a0_7) else (spec_IsValidConstraint.j0 k false a0_0 a0_1 a0_2 a0_3 a0_4 l0_5 l0_6 a0_7)
theorem spec_IsValidConstraint.mono_l : ∀ k, (∀ y0 y1 y2 y3 y4 y5 y6 y7 y8, LeO (spec_IsValidConstraint.j0 k y0 y1 y2 y3 y4 y5 y6 y7 y8) (spec_IsValidConstraint.j0 (k + 1) y0 y1 y2 y3 y4 y5 y6 y7 y8)) ∧ (∀ y0 y1 y2 y3 y4 y5 y6 y7 y8 y9 y10, LeO (spec_IsValidConstraint.j1 k y0 y1 y2 y3 y4 y5 y6 y7 y8 y9 y10) (spec_IsValidConstraint.j1 (k + 1) y0 y1 y2 y3 y4 y5 y6 y7 y8 y9 y10)) ∧ (∀ y0 y1 y2 y3 y4 y5 y6 y7 y8 y9 y10, LeO (spec_IsValidConstraint.j2 k y0 y1 y2 y3 y4 y5 y6 y7 y8 y9 y10) (spec_IsValidConstraint.j2 (k + 1) y0 y1 y2 y3 y4 y5 y6 y7 y8 y9 y10))
 | 0 => ⟨fun _ _ _ _ _ _ _ _ _ r h => by simp [spec_IsValidConstraint.j0] at h, fun _ _ _ _ _ _ _ _ _ _ _ r h => by simp [spec_IsValidConstraint.j1] at h, fun _ _ _ _ _ _ _ _ _ _ _ r h => by simp [spec_IsValidConstraint.j2] at h⟩
 | k + 1 => by
  obtain ⟨ih0, ih1, ih2⟩ := spec_IsValidConstraint.mono_l k
  refine ⟨?_, ?_, ?_⟩
  ·intro y0 y1 y2 y3 y4 y5 y6 y7 y8
   unfold spec_IsValidConstraint.j0
   repeat' first
   | (with_reducible exact ih0 _ _ _ _ _ _ _ _ _)
   | (with_reducible exact ih1 _ _ _ _ _ _ _ _ _ _ _)
   | (with_reducible exact ih2 _ _ _ _ _ _ _ _ _ _ _)
   | (with_reducible exact spec_IsTerm.mono _ _)
   | (with_reducible exact spec_IsValidRegex.mono _ _ _ _)
   | (with_reducible exact spec_l9Coeffs.mono _ _)
   | (with_reducible exact LeO.refl _)
   | (with_reducible exact LeO.none _)
   | (with_reducible refine LeO.ite ?_ ?_)
   | (with_reducible refine LeO.bind ?_ (fun _ => ?_))
  ·intro y0 y1 y2 y3 y4 y5 y6 y7 y8 y9 y10
   unfold spec_IsValidConstraint.j1
   repeat' first
   | (with_reducible exact ih0 _ _ _ _ _ _ _ _ _)
   | (with_reducible exact ih1 _ _ _ _ _ _ _ _ _ _ _)
   | (with_reducible exact ih2 _ _ _ _ _ _ _ _ _ _ _)
   | (with_reducible exact spec_IsTerm.mono _ _)
   | (with_reducible exact spec_IsValidRegex.mono _ _ _ _)
   | (with_reducible exact spec_l9Coeffs.mono _ _)
   | (with_reducible exact LeO.refl _)
   | (with_reducible exact LeO.none _)
   | (with_reducible refine LeO.ite ?_ ?_)
   | (with_reducible refine LeO.bind ?_ (fun _ => ?_))
  ·intro y0 y1 y2 y3 y4 y5 y6 y7 y8 y9 y10
   unfold spec_IsValidConstraint.j2
   repeat' first
   | (with_reducible exact ih0 _ _ _ _ _ _ _ _ _)
   | (with_reducible exact ih1 _ _ _ _ _ _ _ _ _ _ _)
   | (with_reducible exact ih2 _ _ _ _ _ _ _ _ _ _ _)
   | (with_reducible exact spec_IsTerm.mono _ _)
   | (with_reducible exact spec_IsValidRegex.mono _ _ _ _)
   | (with_reducible exact spec_l9Coeffs.mono _ _)
   | (with_reducible exact LeO.refl _)
   | (with_reducible exact LeO.none _)
   | (with_reducible refine LeO.ite ?_ ?_)
   | (with_reducible refine LeO.bind ?_ (fun _ => ?_))
theorem spec_IsValidConstraint.mono : ∀ a0 a1 a2 a3 a4 a5 a6 a7 k, LeO (spec_IsValidConstraint.f k a0 a1 a2 a3 a4 a5 a6 a7) (spec_IsValidConstraint.f (k + 1) a0 a1 a2 a3 a4 a5 a6 a7) := by
 intro a0 a1 a2 a3 a4 a5 a6 a7 k
 obtain ⟨ih0, ih1, ih2⟩ := spec_IsValidConstraint.mono_l k
 unfold spec_IsValidConstraint.f
 repeat' first
   | (with_reducible exact ih0 _ _ _ _ _ _ _ _ _)
   | (with_reducible exact ih1 _ _ _ _ _ _ _ _ _ _ _)
   | (with_reducible exact ih2 _ _ _ _ _ _ _ _ _ _ _)
   | (with_reducible exact spec_IsTerm.mono _ _)
   | (with_reducible exact spec_IsValidRegex.mono _ _ _ _)
   | (with_reducible exact spec_l9Coeffs.mono _ _)
   | (with_reducible exact LeO.refl _)
   | (with_reducible exact LeO.none _)
   | (with_reducible refine LeO.ite ?_ ?_)
   | (with_reducible refine LeO.bind ?_ (fun _ => ?_))
theorem spec_IsValidConstraint.calls (k : Nat) (a0_0 : Int) (a0_1 : ByteArray) (a0_2 : ByteArray) (a0_3 : Int) (a0_4 : ByteArray) (A0_5 : Option Addr) (c0_5 : Nat) (l0_5 : List (S42)) (A0_6 : Option Addr) (c0_6 : Nat) (l0_6 : List Int) (a0_7 : Int) (r : Bool) (w : World) (hr0_5 : Kd.C k42 w A0_5 l0_5.length l0_5) (hc0_5 : l0_5.length ≤ c0_5) (hr0_6 : Kd.C (Kd.int .i64) w A0_6 l0_6.length l0_6) (hc0_6 : l0_6.length ≤ c0_6) (h : spec_IsValidConstraint.f k a0_0 a0_1 a0_2 a0_3 a0_4 l0_5 l0_6 a0_7 = some r) :
  Calls Try.prog 21 #[.agg #[.int .i64 a0_0, .string a0_1, .string a0_2, .int .i64 a0_3, .string a0_4, .slice A0_5 l0_5.length c0_5, .slice A0_6 l0_6.length c0_6, .int .i64 a0_7]] w fun e w' => e = .returned (.bool r) ∧ Below w.heap.size w w' := by
 have hu44 := Try.underlying44
 have hu42 := Try.underlying42
 have HR0_5 := Aside0.mk hr0_5
 have HC0_5 := Aside0.mk hc0_5
 clear hr0_5 hc0_5
 have HR0_6 := Aside0.mk hr0_6
 have HC0_6 := Aside0.mk hc0_6
 clear hr0_6 hc0_6
 have HB := Aside0.mk (Below.refl w.heap.size w)
 have H : (if (l0_6.length : Int) = 0 then (spec_IsValidConstraint.j0 k (a0_7 == 0) a0_0 a0_1 a0_2 a0_3 a0_4 l0_5 l0_6 a0_7) else (spec_IsValidConstraint.j0 k false a0_0 a0_1 a0_2 a0_3 a0_4 l0_5 l0_6 a0_7)) = some r := h
 clear h
 have HC2 := Aside0.mk H
 clear H
 go_enter Try.func21, Try.ntmps21
 go_upto_region 1 with (first | ((with_reducible refine gate_dst (N := 1) rfl ?_); refine box_event ?hg (N := 1) ?hd (cs := #[.int .i64 a0_0, .string a0_1, .string a0_2, .int .i64 a0_3, .string a0_4, .slice A0_5 l0_5.length c0_5, .slice A0_6 l0_6.length c0_6, .int .i64 a0_7]) (t := 44) ?hr ?_; (case hd => rfl); (case hg => rfl); (case hr => first | (go_simp; done) | (go_simp; rfl)); intro gb21001 hg w3 hbox hb; have n0_ := Aside0.mk (below_step (by repeat (first | (with_reducible first | exact HB.out | apply below_alloc | apply pw_below_drewN | apply below_drew1) | exact HB.out)) hb); have n1_ := Aside0.mk (hbox); have n2_ := Aside0.mk ((by rw [hg]; exact (below_size (by repeat (first | (with_reducible first | exact HB.out | apply below_alloc | apply pw_below_drewN | apply below_drew1) | exact HB.out))) : w.heap.size ≤ gb21001)); have n3_ := Aside0.mk ((by rw [hg]; exact (below_size (by repeat (first | (with_reducible first | exact HB.out | apply below_alloc | apply pw_below_drewN | apply below_drew1) | exact HB.out))) : w.heap.size ≤ gb21001)); clear HB; have HB := n0_; have BK21001 := n1_; have GW21001 := n2_; have GE21001 := n3_; clear n0_ n1_ n2_ n3_; clear hb hbox hg))
 (try simp only [Act.put, List.setIfInBounds_toArray, List.set_cons_zero, List.set_cons_succ])
 go_cut [3] (fun v3 wc => ∃ (kq : Nat) (x3_1 : Bool), v3 = .bool x3_1 ∧ Aside0 (spec_IsValidConstraint.j0 kq x3_1 a0_0 a0_1 a0_2 a0_3 a0_4 l0_5 l0_6 a0_7 = some r) ∧ Aside0 (kq ≤ k) ∧ Aside0 (wc.heap[gb21001]? = some (.cells #[.int .i64 a0_0, .string a0_1, .string a0_2, .int .i64 a0_3, .string a0_4, (.slice A0_5 l0_5.length c0_5), (.slice A0_6 l0_6.length c0_6), .int .i64 a0_7] 44 (0, 0))) ∧ Aside0 (Below w.heap.size w wc))
 case first =>
  have H := HC2.out
  clear HC2
  by_cases c4 : (l0_6.length : Int) = 0
  ·rw [if_pos c4] at H
   have c4b0 : ((l0_6.length : Int) == 0) = true := beq_iff_eq.mpr c4
   have c4b1 : ((l0_6.length : Int) != 0) = false := bne_eq_false_iff_eq.mpr c4
   clear c4
   (first | rw [c4b0] | (simp only [i64_w, i32_w]; rw [c4b0]) | skip)
   have H' := Aside0.mk H
   clear H
   have hcz5_0 : w3.cell? ⟨gb21001, 0, none⟩ = some (.int .i64 a0_0) := (blk_cell BK21001.out 0).trans rfl
   have hcz5_1 : w3.cell? ⟨gb21001, 1, none⟩ = some (.string a0_1) := (blk_cell BK21001.out 1).trans rfl
   have hcz5_2 : w3.cell? ⟨gb21001, 2, none⟩ = some (.string a0_2) := (blk_cell BK21001.out 2).trans rfl
   have hcz5_3 : w3.cell? ⟨gb21001, 3, none⟩ = some (.int .i64 a0_3) := (blk_cell BK21001.out 3).trans rfl
   have hcz5_4 : w3.cell? ⟨gb21001, 4, none⟩ = some (.string a0_4) := (blk_cell BK21001.out 4).trans rfl
   have hcz5_5 : w3.cell? ⟨gb21001, 5, none⟩ = some (.slice A0_5 l0_5.length c0_5) := (blk_cell BK21001.out 5).trans rfl
   have hcz5_6 : w3.cell? ⟨gb21001, 6, none⟩ = some (.slice A0_6 l0_6.length c0_6) := (blk_cell BK21001.out 6).trans rfl
   have hcz5_7 : w3.cell? ⟨gb21001, 7, none⟩ = some (.int .i64 a0_7) := (blk_cell BK21001.out 7).trans rfl
   have hfz5_0 := blk_frozen BK21001.out 0
   have hfz5_1 := blk_frozen BK21001.out 1
   have hfz5_2 := blk_frozen BK21001.out 2
   have hfz5_3 := blk_frozen BK21001.out 3
   have hfz5_4 := blk_frozen BK21001.out 4
   have hfz5_5 := blk_frozen BK21001.out 5
   have hfz5_6 := blk_frozen BK21001.out 6
   have hfz5_7 := blk_frozen BK21001.out 7
   go_wp2
   go_meet
   case rel => exact ⟨_, ((a0_7 == 0)), (by first | rfl | (simp; done) | (simp [*]; done)), H', ⟨by first | omega | exact Nat.le_refl _⟩, ⟨by (with_reducible repeat (first | refine blk_drewN ?_ _ | refine blk_drew ?_ | refine blk_alloc ?_ _)); exact BK21001.out⟩, ⟨by repeat (first | (with_reducible first | exact HB.out | apply below_alloc | apply pw_below_drewN | apply below_drew1 | refine below_set ?_ GE21001.out) | exact HB.out)⟩⟩
  ·rw [if_neg c4] at H
   have c4b0 : ((l0_6.length : Int) == 0) = false := beq_eq_false_iff_ne.mpr c4
   have c4b1 : ((l0_6.length : Int) != 0) = true := bne_iff_ne.mpr c4
   have c4b2 : ¬ (l0_6 = []) := fun h_ => c4 (by rw [h_]; rfl)
   (first | rw [c4b0] | (simp only [i64_w, i32_w]; rw [c4b0]) | skip)
   have H' := Aside0.mk H
   clear H
   have hcz6_0 : w3.cell? ⟨gb21001, 0, none⟩ = some (.int .i64 a0_0) := (blk_cell BK21001.out 0).trans rfl
   have hcz6_1 : w3.cell? ⟨gb21001, 1, none⟩ = some (.string a0_1) := (blk_cell BK21001.out 1).trans rfl
   have hcz6_2 : w3.cell? ⟨gb21001, 2, none⟩ = some (.string a0_2) := (blk_cell BK21001.out 2).trans rfl
   have hcz6_3 : w3.cell? ⟨gb21001, 3, none⟩ = some (.int .i64 a0_3) := (blk_cell BK21001.out 3).trans rfl
   have hcz6_4 : w3.cell? ⟨gb21001, 4, none⟩ = some (.string a0_4) := (blk_cell BK21001.out 4).trans rfl
   have hcz6_5 : w3.cell? ⟨gb21001, 5, none⟩ = some (.slice A0_5 l0_5.length c0_5) := (blk_cell BK21001.out 5).trans rfl
   have hcz6_6 : w3.cell? ⟨gb21001, 6, none⟩ = some (.slice A0_6 l0_6.length c0_6) := (blk_cell BK21001.out 6).trans rfl
   have hcz6_7 : w3.cell? ⟨gb21001, 7, none⟩ = some (.int .i64 a0_7) := (blk_cell BK21001.out 7).trans rfl
   have hfz6_0 := blk_frozen BK21001.out 0
   have hfz6_1 := blk_frozen BK21001.out 1
   have hfz6_2 := blk_frozen BK21001.out 2
   have hfz6_3 := blk_frozen BK21001.out 3
   have hfz6_4 := blk_frozen BK21001.out 4
   have hfz6_5 := blk_frozen BK21001.out 5
   have hfz6_6 := blk_frozen BK21001.out 6
   have hfz6_7 := blk_frozen BK21001.out 7
   go_wp2
   go_meet
   case rel => exact ⟨_, (false), (by first | rfl | (simp; done) | (simp [*]; done)), H', ⟨by first | omega | exact Nat.le_refl _⟩, ⟨by (with_reducible repeat (first | refine blk_drewN ?_ _ | refine blk_drew ?_ | refine blk_alloc ?_ _)); exact BK21001.out⟩, ⟨by repeat (first | (with_reducible first | exact HB.out | apply below_alloc | apply pw_below_drewN | apply below_drew1 | refine below_set ?_ GE21001.out) | exact HB.out)⟩⟩
 case rest =>
  clear HC2
  try clear c2
  try clear p2
  try clear c4
  try clear c4b0
  try clear c4b1
  try clear c4b2
  try clear hcz5_0
  try clear hcz5_1
  try clear hcz5_2
  try clear hcz5_3
  try clear hcz5_4
  try clear hcz5_5
  try clear hcz5_6
  try clear hcz5_7
  try clear hcz6_0
  try clear hcz6_1
  try clear hcz6_2
  try clear hcz6_3
  try clear hcz6_4
  try clear hcz6_5
  try clear hcz6_6
  try clear hcz6_7
  try clear hfz5_0
  try clear hfz5_1
  try clear hfz5_2
  try clear hfz5_3
  try clear hfz5_4
  try clear hfz5_5
  try clear hfz5_6
  try clear hfz5_7
  try clear hfz6_0
  try clear hfz6_1
  try clear hfz6_2
  try clear hfz6_3
  try clear hfz6_4
  try clear hfz6_5
  try clear hfz6_6
  try clear hfz6_7
  obtain ⟨kq, x3_1, rfl, HA, HJ1, BK21001, HB⟩ := hcut
  cases kq with
  | zero => exact absurd HA.out (by simp [spec_IsValidConstraint.j0])
  | succ kj1 =>
   have H := HA.out
   clear HA
   simp only [spec_IsValidConstraint.j0] at H
   have HC7 := Aside0.mk H
   clear H
   have hcz8_0 : wc.cell? ⟨gb21001, 0, none⟩ = some (.int .i64 a0_0) := (blk_cell BK21001.out 0).trans rfl
   have hcz8_1 : wc.cell? ⟨gb21001, 1, none⟩ = some (.string a0_1) := (blk_cell BK21001.out 1).trans rfl
   have hcz8_2 : wc.cell? ⟨gb21001, 2, none⟩ = some (.string a0_2) := (blk_cell BK21001.out 2).trans rfl
   have hcz8_3 : wc.cell? ⟨gb21001, 3, none⟩ = some (.int .i64 a0_3) := (blk_cell BK21001.out 3).trans rfl
   have hcz8_4 : wc.cell? ⟨gb21001, 4, none⟩ = some (.string a0_4) := (blk_cell BK21001.out 4).trans rfl
   have hcz8_5 : wc.cell? ⟨gb21001, 5, none⟩ = some (.slice A0_5 l0_5.length c0_5) := (blk_cell BK21001.out 5).trans rfl
   have hcz8_6 : wc.cell? ⟨gb21001, 6, none⟩ = some (.slice A0_6 l0_6.length c0_6) := (blk_cell BK21001.out 6).trans rfl
   have hcz8_7 : wc.cell? ⟨gb21001, 7, none⟩ = some (.int .i64 a0_7) := (blk_cell BK21001.out 7).trans rfl
   have hfz8_0 := blk_frozen BK21001.out 0
   have hfz8_1 := blk_frozen BK21001.out 1
   have hfz8_2 := blk_frozen BK21001.out 2
   have hfz8_3 := blk_frozen BK21001.out 3
   have hfz8_4 := blk_frozen BK21001.out 4
   have hfz8_5 := blk_frozen BK21001.out 5
   have hfz8_6 := blk_frozen BK21001.out 6
   have hfz8_7 := blk_frozen BK21001.out 7
   go_upto_if 15 with (fail)
   go_cut [15] (fun v15 wc => ∃ (kq : Nat) (x15_6 : Bool), v15 = .bool x15_6 ∧ Aside0 (spec_IsValidConstraint.j1 kq x3_1 a0_0 x15_6 a0_0 a0_1 a0_2 a0_3 a0_4 l0_5 l0_6 a0_7 = some r) ∧ Aside0 (kq ≤ kj1) ∧ Aside0 (wc.heap[gb21001]? = some (.cells #[.int .i64 a0_0, .string a0_1, .string a0_2, .int .i64 a0_3, .string a0_4, (.slice A0_5 l0_5.length c0_5), (.slice A0_6 l0_6.length c0_6), .int .i64 a0_7] 44 (0, 0))) ∧ Aside0 (Below w.heap.size w wc))
   case first =>
    have H := HC7.out
    clear HC7
    by_cases c9 : a0_0 = 1
    ·rw [if_pos c9] at H
     have c9b0 : (a0_0 == 1) = true := beq_iff_eq.mpr c9
     have c9b1 : (a0_0 != 1) = false := bne_eq_false_iff_eq.mpr c9
     clear c9
     (first | rw [c9b0] | (simp only [i64_w, i32_w]; rw [c9b0]) | skip)
     have H' := Aside0.mk H
     clear H
     go_wp2
     go_meet
     case rel => exact ⟨_, ((a0_0 == 1)), (by first | rfl | (simp; done) | (simp [*]; done)), H', ⟨by have := HJ1.out; first | omega | exact Nat.le_refl _⟩, ⟨by (with_reducible repeat (first | refine blk_drewN ?_ _ | refine blk_drew ?_ | refine blk_alloc ?_ _)); exact BK21001.out⟩, ⟨by repeat (first | (with_reducible first | exact HB.out | apply below_alloc | apply pw_below_drewN | apply below_drew1 | refine below_set ?_ GE21001.out) | exact HB.out)⟩⟩
    ·rw [if_neg c9] at H
     have c9b0 : (a0_0 == 1) = false := beq_eq_false_iff_ne.mpr c9
     have c9b1 : (a0_0 != 1) = true := bne_iff_ne.mpr c9
     (first | rw [c9b0] | (simp only [i64_w, i32_w]; rw [c9b0]) | skip)
     have H' := Aside0.mk H
     clear H
     go_wp2
     go_meet
     case rel => exact ⟨_, ((a0_0 == 2)), (by first | rfl | (simp; done) | (simp [*]; done)), H', ⟨by have := HJ1.out; first | omega | exact Nat.le_refl _⟩, ⟨by (with_reducible repeat (first | refine blk_drewN ?_ _ | refine blk_drew ?_ | refine blk_alloc ?_ _)); exact BK21001.out⟩, ⟨by repeat (first | (with_reducible first | exact HB.out | apply below_alloc | apply pw_below_drewN | apply below_drew1 | refine below_set ?_ GE21001.out) | exact HB.out)⟩⟩
   case rest =>
    clear HC7
    try clear c2
    try clear p2
    try clear c4
    try clear c4b0
    try clear c4b1
    try clear c4b2
    try clear c9
    try clear c9b0
    try clear c9b1
    try clear hcz5_0
    try clear hcz5_1
    try clear hcz5_2
    try clear hcz5_3
    try clear hcz5_4
    try clear hcz5_5
    try clear hcz5_6
    try clear hcz5_7
    try clear hcz6_0
    try clear hcz6_1
    try clear hcz6_2
    try clear hcz6_3
    try clear hcz6_4
    try clear hcz6_5
    try clear hcz6_6
    try clear hcz6_7
    try clear hcz8_0
    try clear hcz8_1
    try clear hcz8_2
    try clear hcz8_3
    try clear hcz8_4
    try clear hcz8_5
    try clear hcz8_6
    try clear hcz8_7
    try clear hfz5_0
    try clear hfz5_1
    try clear hfz5_2
    try clear hfz5_3
    try clear hfz5_4
    try clear hfz5_5
    try clear hfz5_6
    try clear hfz5_7
    try clear hfz6_0
    try clear hfz6_1
    try clear hfz6_2
    try clear hfz6_3
    try clear hfz6_4
    try clear hfz6_5
    try clear hfz6_6
    try clear hfz6_7
    try clear hfz8_0
    try clear hfz8_1
    try clear hfz8_2
    try clear hfz8_3
    try clear hfz8_4
    try clear hfz8_5
    try clear hfz8_6
    try clear hfz8_7
    try clear p2
    obtain ⟨kq, x15_6, rfl, HA, HJ6, BK21001, HB⟩ := hcut
    cases kq with
    | zero => exact absurd HA.out (by simp [spec_IsValidConstraint.j1])
    | succ kj6 =>
     have H := HA.out
     clear HA
     simp only [spec_IsValidConstraint.j1] at H
     by_cases c10 : x15_6 = true
     ·subst c10
      have H1 : ((spec_IsTerm.f kj6 a0_1).bind fun t21002 => (if t21002 = true then ((spec_IsTerm.f kj6 a0_2).bind fun t21003 => (if t21003 = true then ((spec_l9Zero.f a0_3 a0_4 l0_5).bind fun t21004 => (if t21004 = true then (some x3_1) else (some false))) else (some false))) else (some false))) = some r := by rw [if_pos rfl] at H; exact H
      clear H
      have H := H1
      clear H1
      replace H := Option.bind_eq_some_iff.mp H
      obtain ⟨t21002, A110, H⟩ := H
      replace H : (if t21002 = true then ((spec_IsTerm.f kj6 a0_2).bind fun t21003 => (if t21003 = true then ((spec_l9Zero.f a0_3 a0_4 l0_5).bind fun t21004 => (if t21004 = true then (some x3_1) else (some false))) else (some false))) else (some false)) = some r := H
      have A11 := Aside0.mk A110
      clear A110
      by_cases c12 : t21002 = true
      ·subst c12
       have H1 : ((spec_IsTerm.f kj6 a0_2).bind fun t21003 => (if t21003 = true then ((spec_l9Zero.f a0_3 a0_4 l0_5).bind fun t21004 => (if t21004 = true then (some x3_1) else (some false))) else (some false))) = some r := by rw [if_pos rfl] at H; exact H
       clear H
       have H := H1
       clear H1
       replace H := Option.bind_eq_some_iff.mp H
       obtain ⟨t21003, A130, H⟩ := H
       replace H : (if t21003 = true then ((spec_l9Zero.f a0_3 a0_4 l0_5).bind fun t21004 => (if t21004 = true then (some x3_1) else (some false))) else (some false)) = some r := H
       have A13 := Aside0.mk A130
       clear A130
       by_cases c14 : t21003 = true
       ·subst c14
        have H1 : ((spec_l9Zero.f a0_3 a0_4 l0_5).bind fun t21004 => (if t21004 = true then (some x3_1) else (some false))) = some r := by rw [if_pos rfl] at H; exact H
        clear H
        have H := H1
        clear H1
        replace H := Option.bind_eq_some_iff.mp H
        obtain ⟨t21004, A150, H⟩ := H
        replace H : (if t21004 = true then (some x3_1) else (some false)) = some r := H
        have A15 := Aside0.mk A150
        clear A150
        by_cases c16 : t21004 = true
        ·subst c16
         have H1 : (some x3_1) = some r := by rw [if_pos rfl] at H; exact H
         clear H
         have H := H1
         clear H1
         obtain rfl := Option.some.inj H
         have hcz17_0 : wc.cell? ⟨gb21001, 0, none⟩ = some (.int .i64 a0_0) := (blk_cell BK21001.out 0).trans rfl
         have hcz17_1 : wc.cell? ⟨gb21001, 1, none⟩ = some (.string a0_1) := (blk_cell BK21001.out 1).trans rfl
         have hcz17_2 : wc.cell? ⟨gb21001, 2, none⟩ = some (.string a0_2) := (blk_cell BK21001.out 2).trans rfl
         have hcz17_3 : wc.cell? ⟨gb21001, 3, none⟩ = some (.int .i64 a0_3) := (blk_cell BK21001.out 3).trans rfl
         have hcz17_4 : wc.cell? ⟨gb21001, 4, none⟩ = some (.string a0_4) := (blk_cell BK21001.out 4).trans rfl
         have hcz17_5 : wc.cell? ⟨gb21001, 5, none⟩ = some (.slice A0_5 l0_5.length c0_5) := (blk_cell BK21001.out 5).trans rfl
         have hcz17_6 : wc.cell? ⟨gb21001, 6, none⟩ = some (.slice A0_6 l0_6.length c0_6) := (blk_cell BK21001.out 6).trans rfl
         have hcz17_7 : wc.cell? ⟨gb21001, 7, none⟩ = some (.int .i64 a0_7) := (blk_cell BK21001.out 7).trans rfl
         have hfz17_0 := blk_frozen BK21001.out 0
         have hfz17_1 := blk_frozen BK21001.out 1
         have hfz17_2 := blk_frozen BK21001.out 2
         have hfz17_3 := blk_frozen BK21001.out 3
         have hfz17_4 := blk_frozen BK21001.out 4
         have hfz17_5 := blk_frozen BK21001.out 5
         have hfz17_6 := blk_frozen BK21001.out 6
         have hfz17_7 := blk_frozen BK21001.out 7
         go_wp2_with (first | ((with_reducible refine gate_callee (f := 50) rfl ?_); refine goesL_ (some 20) rfl rfl Try.func50 (by kernel_rfl) rfl #[.string a0_1] rfl (by (try simp only [List.map_toArray, List.map_cons, List.map_nil]); first | done | rfl | (simp only [List.length_drop, List.length_take]; rfl)) ?_; (with_reducible refine (spec_IsTerm.calls kj6 a0_1 true _ A11.out).mono ?_); rintro e w' ⟨rfl, ⟨nd, rfl⟩⟩; refine ⟨_, rfl, ?_⟩) | (go_at_call 50; (with_reducible refine (spec_IsTerm.calls kj6 a0_2 true _ A13.out).mono ?_); rintro e w' ⟨rfl, ⟨nd, rfl⟩⟩) | (go_at_call 88; (with_reducible refine (spec_l9Zero.calls a0_3 a0_4 _ _ l0_5 true _ ?side1 ?side2 A15.out).mono ?_); (case side1 => repeat (first | exact (Kd.C_below HR0_5.out (by repeat (first | (with_reducible first | exact HB.out | apply below_alloc | apply pw_below_drewN | apply below_drew1 | refine below_set ?_ GE21001.out) | exact HB.out))) | (with_reducible refine Kd.C_alloc ?_ _) | (with_reducible refine Kd.C_drewN ?_ _) | (with_reducible refine Kd.C_drew ?_))); (case side2 => exact HC0_5.out); rintro e w18 ⟨rfl, hb⟩; have n0_ := Aside0.mk (blk_below (g := gb21001) (o := .cells #[.int .i64 a0_0, .string a0_1, .string a0_2, .int .i64 a0_3, .string a0_4, .slice A0_5 l0_5.length c0_5, .slice A0_6 l0_6.length c0_6, .int .i64 a0_7] 44 (0, 0)) (by (with_reducible repeat (first | refine blk_drewN ?_ _ | refine blk_drew ?_ | refine blk_alloc ?_ _)); exact BK21001.out) hb); have n1_ := Aside0.mk (below_step (by repeat (first | (with_reducible first | exact HB.out | apply below_alloc | apply pw_below_drewN | apply below_drew1 | refine below_set ?_ GE21001.out) | exact HB.out)) hb); clear BK21001; clear HB; have BK21001 := n0_; have HB := n1_; clear n0_ n1_; (try clear hb); (try clear hb2); (try clear hk); (try clear hi)))
         go_ret
         exact ⟨by first | rfl | (simp [errW_none, errW_some] <;> rfl) | (simp [*, errW_none, errW_some] <;> rfl), by repeat (first | (with_reducible first | exact HB.out | apply below_alloc | apply pw_below_drewN | apply below_drew1 | refine below_set ?_ GE21001.out) | exact HB.out)⟩
        ·replace c16 := Bool.eq_false_iff.mpr c16
         subst c16
         have H1 : (some false) = some r := by rw [if_neg (show ¬ (false = true) by decide)] at H; exact H
         clear H
         have H := H1
         clear H1
         obtain rfl := Option.some.inj H
         have hcz19_0 : wc.cell? ⟨gb21001, 0, none⟩ = some (.int .i64 a0_0) := (blk_cell BK21001.out 0).trans rfl
         have hcz19_1 : wc.cell? ⟨gb21001, 1, none⟩ = some (.string a0_1) := (blk_cell BK21001.out 1).trans rfl
         have hcz19_2 : wc.cell? ⟨gb21001, 2, none⟩ = some (.string a0_2) := (blk_cell BK21001.out 2).trans rfl
         have hcz19_3 : wc.cell? ⟨gb21001, 3, none⟩ = some (.int .i64 a0_3) := (blk_cell BK21001.out 3).trans rfl
         have hcz19_4 : wc.cell? ⟨gb21001, 4, none⟩ = some (.string a0_4) := (blk_cell BK21001.out 4).trans rfl
         have hcz19_5 : wc.cell? ⟨gb21001, 5, none⟩ = some (.slice A0_5 l0_5.length c0_5) := (blk_cell BK21001.out 5).trans rfl
         have hcz19_6 : wc.cell? ⟨gb21001, 6, none⟩ = some (.slice A0_6 l0_6.length c0_6) := (blk_cell BK21001.out 6).trans rfl
         have hcz19_7 : wc.cell? ⟨gb21001, 7, none⟩ = some (.int .i64 a0_7) := (blk_cell BK21001.out 7).trans rfl
         have hfz19_0 := blk_frozen BK21001.out 0
         have hfz19_1 := blk_frozen BK21001.out 1
         have hfz19_2 := blk_frozen BK21001.out 2
         have hfz19_3 := blk_frozen BK21001.out 3
         have hfz19_4 := blk_frozen BK21001.out 4
         have hfz19_5 := blk_frozen BK21001.out 5
         have hfz19_6 := blk_frozen BK21001.out 6
         have hfz19_7 := blk_frozen BK21001.out 7
         go_wp2_with (first | ((with_reducible refine gate_callee (f := 50) rfl ?_); refine goesL_ (some 20) rfl rfl Try.func50 (by kernel_rfl) rfl #[.string a0_1] rfl (by (try simp only [List.map_toArray, List.map_cons, List.map_nil]); first | done | rfl | (simp only [List.length_drop, List.length_take]; rfl)) ?_; (with_reducible refine (spec_IsTerm.calls kj6 a0_1 true _ A11.out).mono ?_); rintro e w' ⟨rfl, ⟨nd, rfl⟩⟩; refine ⟨_, rfl, ?_⟩) | (go_at_call 50; (with_reducible refine (spec_IsTerm.calls kj6 a0_2 true _ A13.out).mono ?_); rintro e w' ⟨rfl, ⟨nd, rfl⟩⟩) | (go_at_call 88; (with_reducible refine (spec_l9Zero.calls a0_3 a0_4 _ _ l0_5 false _ ?side1 ?side2 A15.out).mono ?_); (case side1 => repeat (first | exact (Kd.C_below HR0_5.out (by repeat (first | (with_reducible first | exact HB.out | apply below_alloc | apply pw_below_drewN | apply below_drew1 | refine below_set ?_ GE21001.out) | exact HB.out))) | (with_reducible refine Kd.C_alloc ?_ _) | (with_reducible refine Kd.C_drewN ?_ _) | (with_reducible refine Kd.C_drew ?_))); (case side2 => exact HC0_5.out); rintro e w20 ⟨rfl, hb⟩; have n0_ := Aside0.mk (blk_below (g := gb21001) (o := .cells #[.int .i64 a0_0, .string a0_1, .string a0_2, .int .i64 a0_3, .string a0_4, .slice A0_5 l0_5.length c0_5, .slice A0_6 l0_6.length c0_6, .int .i64 a0_7] 44 (0, 0)) (by (with_reducible repeat (first | refine blk_drewN ?_ _ | refine blk_drew ?_ | refine blk_alloc ?_ _)); exact BK21001.out) hb); have n1_ := Aside0.mk (below_step (by repeat (first | (with_reducible first | exact HB.out | apply below_alloc | apply pw_below_drewN | apply below_drew1 | refine below_set ?_ GE21001.out) | exact HB.out)) hb); clear BK21001; clear HB; have BK21001 := n0_; have HB := n1_; clear n0_ n1_; (try clear hb); (try clear hb2); (try clear hk); (try clear hi)))
         go_ret
         exact ⟨by first | rfl | (simp [errW_none, errW_some] <;> rfl) | (simp [*, errW_none, errW_some] <;> rfl), by repeat (first | (with_reducible first | exact HB.out | apply below_alloc | apply pw_below_drewN | apply below_drew1 | refine below_set ?_ GE21001.out) | exact HB.out)⟩
       ·replace c14 := Bool.eq_false_iff.mpr c14
        subst c14
        have H1 : (some false) = some r := by rw [if_neg (show ¬ (false = true) by decide)] at H; exact H
        clear H
        have H := H1
        clear H1
        obtain rfl := Option.some.inj H
        have hcz21_0 : wc.cell? ⟨gb21001, 0, none⟩ = some (.int .i64 a0_0) := (blk_cell BK21001.out 0).trans rfl
        have hcz21_1 : wc.cell? ⟨gb21001, 1, none⟩ = some (.string a0_1) := (blk_cell BK21001.out 1).trans rfl
        have hcz21_2 : wc.cell? ⟨gb21001, 2, none⟩ = some (.string a0_2) := (blk_cell BK21001.out 2).trans rfl
        have hcz21_3 : wc.cell? ⟨gb21001, 3, none⟩ = some (.int .i64 a0_3) := (blk_cell BK21001.out 3).trans rfl
        have hcz21_4 : wc.cell? ⟨gb21001, 4, none⟩ = some (.string a0_4) := (blk_cell BK21001.out 4).trans rfl
        have hcz21_5 : wc.cell? ⟨gb21001, 5, none⟩ = some (.slice A0_5 l0_5.length c0_5) := (blk_cell BK21001.out 5).trans rfl
        have hcz21_6 : wc.cell? ⟨gb21001, 6, none⟩ = some (.slice A0_6 l0_6.length c0_6) := (blk_cell BK21001.out 6).trans rfl
        have hcz21_7 : wc.cell? ⟨gb21001, 7, none⟩ = some (.int .i64 a0_7) := (blk_cell BK21001.out 7).trans rfl
        have hfz21_0 := blk_frozen BK21001.out 0
        have hfz21_1 := blk_frozen BK21001.out 1
        have hfz21_2 := blk_frozen BK21001.out 2
        have hfz21_3 := blk_frozen BK21001.out 3
        have hfz21_4 := blk_frozen BK21001.out 4
        have hfz21_5 := blk_frozen BK21001.out 5
        have hfz21_6 := blk_frozen BK21001.out 6
        have hfz21_7 := blk_frozen BK21001.out 7
        go_wp2_with (first | ((with_reducible refine gate_callee (f := 50) rfl ?_); refine goesL_ (some 20) rfl rfl Try.func50 (by kernel_rfl) rfl #[.string a0_1] rfl (by (try simp only [List.map_toArray, List.map_cons, List.map_nil]); first | done | rfl | (simp only [List.length_drop, List.length_take]; rfl)) ?_; (with_reducible refine (spec_IsTerm.calls kj6 a0_1 true _ A11.out).mono ?_); rintro e w' ⟨rfl, ⟨nd, rfl⟩⟩; refine ⟨_, rfl, ?_⟩) | (go_at_call 50; (with_reducible refine (spec_IsTerm.calls kj6 a0_2 false _ A13.out).mono ?_); rintro e w' ⟨rfl, ⟨nd, rfl⟩⟩))
        go_ret
        exact ⟨by first | rfl | (simp [errW_none, errW_some] <;> rfl) | (simp [*, errW_none, errW_some] <;> rfl), by repeat (first | (with_reducible first | exact HB.out | apply below_alloc | apply pw_below_drewN | apply below_drew1 | refine below_set ?_ GE21001.out) | exact HB.out)⟩
      ·replace c12 := Bool.eq_false_iff.mpr c12
       subst c12
       have H1 : (some false) = some r := by rw [if_neg (show ¬ (false = true) by decide)] at H; exact H
       clear H
       have H := H1
       clear H1
       obtain rfl := Option.some.inj H
       have hcz22_0 : wc.cell? ⟨gb21001, 0, none⟩ = some (.int .i64 a0_0) := (blk_cell BK21001.out 0).trans rfl
       have hcz22_1 : wc.cell? ⟨gb21001, 1, none⟩ = some (.string a0_1) := (blk_cell BK21001.out 1).trans rfl
       have hcz22_2 : wc.cell? ⟨gb21001, 2, none⟩ = some (.string a0_2) := (blk_cell BK21001.out 2).trans rfl
       have hcz22_3 : wc.cell? ⟨gb21001, 3, none⟩ = some (.int .i64 a0_3) := (blk_cell BK21001.out 3).trans rfl
       have hcz22_4 : wc.cell? ⟨gb21001, 4, none⟩ = some (.string a0_4) := (blk_cell BK21001.out 4).trans rfl
       have hcz22_5 : wc.cell? ⟨gb21001, 5, none⟩ = some (.slice A0_5 l0_5.length c0_5) := (blk_cell BK21001.out 5).trans rfl
       have hcz22_6 : wc.cell? ⟨gb21001, 6, none⟩ = some (.slice A0_6 l0_6.length c0_6) := (blk_cell BK21001.out 6).trans rfl
       have hcz22_7 : wc.cell? ⟨gb21001, 7, none⟩ = some (.int .i64 a0_7) := (blk_cell BK21001.out 7).trans rfl
       have hfz22_0 := blk_frozen BK21001.out 0
       have hfz22_1 := blk_frozen BK21001.out 1
       have hfz22_2 := blk_frozen BK21001.out 2
       have hfz22_3 := blk_frozen BK21001.out 3
       have hfz22_4 := blk_frozen BK21001.out 4
       have hfz22_5 := blk_frozen BK21001.out 5
       have hfz22_6 := blk_frozen BK21001.out 6
       have hfz22_7 := blk_frozen BK21001.out 7
       go_wp2_with (first | ((with_reducible refine gate_callee (f := 50) rfl ?_); refine goesL_ (some 20) rfl rfl Try.func50 (by kernel_rfl) rfl #[.string a0_1] rfl (by (try simp only [List.map_toArray, List.map_cons, List.map_nil]); first | done | rfl | (simp only [List.length_drop, List.length_take]; rfl)) ?_; (with_reducible refine (spec_IsTerm.calls kj6 a0_1 false _ A11.out).mono ?_); rintro e w' ⟨rfl, ⟨nd, rfl⟩⟩; refine ⟨_, rfl, ?_⟩))
       go_ret
       exact ⟨by first | rfl | (simp [errW_none, errW_some] <;> rfl) | (simp [*, errW_none, errW_some] <;> rfl), by repeat (first | (with_reducible first | exact HB.out | apply below_alloc | apply pw_below_drewN | apply below_drew1 | refine below_set ?_ GE21001.out) | exact HB.out)⟩
     ·replace c10 := Bool.eq_false_iff.mpr c10
      subst c10
      have H1 : (if a0_0 = 3 then (spec_IsValidConstraint.j2 kj6 x3_1 a0_0 (a0_0 == 3) a0_0 a0_1 a0_2 a0_3 a0_4 l0_5 l0_6 a0_7) else (spec_IsValidConstraint.j2 kj6 x3_1 a0_0 (a0_0 == 4) a0_0 a0_1 a0_2 a0_3 a0_4 l0_5 l0_6 a0_7)) = some r := by rw [if_neg (show ¬ (false = true) by decide)] at H; exact H
      clear H
      have H := H1
      clear H1
      have HC23 := Aside0.mk H
      clear H
      go_upto_if 34 with (fail)
      go_cut [34] (fun v34 wc => ∃ (kq : Nat) (x34_22 : Bool), v34 = .bool x34_22 ∧ Aside0 (spec_IsValidConstraint.j2 kq x3_1 a0_0 x34_22 a0_0 a0_1 a0_2 a0_3 a0_4 l0_5 l0_6 a0_7 = some r) ∧ Aside0 (kq ≤ kj6) ∧ Aside0 (wc.heap[gb21001]? = some (.cells #[.int .i64 a0_0, .string a0_1, .string a0_2, .int .i64 a0_3, .string a0_4, (.slice A0_5 l0_5.length c0_5), (.slice A0_6 l0_6.length c0_6), .int .i64 a0_7] 44 (0, 0))) ∧ Aside0 (Below w.heap.size w wc))
      case first =>
       have H := HC23.out
       clear HC23
       by_cases c24 : a0_0 = 3
       ·rw [if_pos c24] at H
        have c24b0 : (a0_0 == 3) = true := beq_iff_eq.mpr c24
        have c24b1 : (a0_0 != 3) = false := bne_eq_false_iff_eq.mpr c24
        clear c24
        (first | rw [c24b0] | (simp only [i64_w, i32_w]; rw [c24b0]) | skip)
        have H' := Aside0.mk H
        clear H
        go_wp2
        go_meet
        case rel => exact ⟨_, ((a0_0 == 3)), (by first | rfl | (simp; done) | (simp [*]; done)), H', ⟨by have := HJ1.out; have := HJ6.out; first | omega | exact Nat.le_refl _⟩, ⟨by (with_reducible repeat (first | refine blk_drewN ?_ _ | refine blk_drew ?_ | refine blk_alloc ?_ _)); exact BK21001.out⟩, ⟨by repeat (first | (with_reducible first | exact HB.out | apply below_alloc | apply pw_below_drewN | apply below_drew1 | refine below_set ?_ GE21001.out) | exact HB.out)⟩⟩
       ·rw [if_neg c24] at H
        have c24b0 : (a0_0 == 3) = false := beq_eq_false_iff_ne.mpr c24
        have c24b1 : (a0_0 != 3) = true := bne_iff_ne.mpr c24
        (first | rw [c24b0] | (simp only [i64_w, i32_w]; rw [c24b0]) | skip)
        have H' := Aside0.mk H
        clear H
        go_wp2
        go_meet
        case rel => exact ⟨_, ((a0_0 == 4)), (by first | rfl | (simp; done) | (simp [*]; done)), H', ⟨by have := HJ1.out; have := HJ6.out; first | omega | exact Nat.le_refl _⟩, ⟨by (with_reducible repeat (first | refine blk_drewN ?_ _ | refine blk_drew ?_ | refine blk_alloc ?_ _)); exact BK21001.out⟩, ⟨by repeat (first | (with_reducible first | exact HB.out | apply below_alloc | apply pw_below_drewN | apply below_drew1 | refine below_set ?_ GE21001.out) | exact HB.out)⟩⟩
      case rest =>
       clear HC23
       try clear c1
       try clear c2
       try clear p2
       try clear c4
       try clear c4b0
       try clear c4b1
       try clear c4b2
       try clear c5
       try clear c9
       try clear c9b0
       try clear c9b1
       try clear c10
       try clear c12
       try clear c14
       try clear c16
       try clear c21
       try clear c24
       try clear c24b0
       try clear c24b1
       try clear hcz17_0
       try clear hcz17_1
       try clear hcz17_2
       try clear hcz17_3
       try clear hcz17_4
       try clear hcz17_5
       try clear hcz17_6
       try clear hcz17_7
       try clear hcz19_0
       try clear hcz19_1
       try clear hcz19_2
       try clear hcz19_3
       try clear hcz19_4
       try clear hcz19_5
       try clear hcz19_6
       try clear hcz19_7
       try clear hcz21_0
       try clear hcz21_1
       try clear hcz21_2
       try clear hcz21_3
       try clear hcz21_4
       try clear hcz21_5
       try clear hcz21_6
       try clear hcz21_7
       try clear hcz22_0
       try clear hcz22_1
       try clear hcz22_2
       try clear hcz22_3
       try clear hcz22_4
       try clear hcz22_5
       try clear hcz22_6
       try clear hcz22_7
       try clear hcz5_0
       try clear hcz5_1
       try clear hcz5_2
       try clear hcz5_3
       try clear hcz5_4
       try clear hcz5_5
       try clear hcz5_6
       try clear hcz5_7
       try clear hcz6_0
       try clear hcz6_1
       try clear hcz6_2
       try clear hcz6_3
       try clear hcz6_4
       try clear hcz6_5
       try clear hcz6_6
       try clear hcz6_7
       try clear hcz8_0
       try clear hcz8_1
       try clear hcz8_2
       try clear hcz8_3
       try clear hcz8_4
       try clear hcz8_5
       try clear hcz8_6
       try clear hcz8_7
       try clear hfz17_0
       try clear hfz17_1
       try clear hfz17_2
       try clear hfz17_3
       try clear hfz17_4
       try clear hfz17_5
       try clear hfz17_6
       try clear hfz17_7
       try clear hfz19_0
       try clear hfz19_1
       try clear hfz19_2
       try clear hfz19_3
       try clear hfz19_4
       try clear hfz19_5
       try clear hfz19_6
       try clear hfz19_7
       try clear hfz21_0
       try clear hfz21_1
       try clear hfz21_2
       try clear hfz21_3
       try clear hfz21_4
       try clear hfz21_5
       try clear hfz21_6
       try clear hfz21_7
       try clear hfz22_0
       try clear hfz22_1
       try clear hfz22_2
       try clear hfz22_3
       try clear hfz22_4
       try clear hfz22_5
       try clear hfz22_6
       try clear hfz22_7
       try clear hfz5_0
       try clear hfz5_1
       try clear hfz5_2
       try clear hfz5_3
       try clear hfz5_4
       try clear hfz5_5
       try clear hfz5_6
       try clear hfz5_7
       try clear hfz6_0
       try clear hfz6_1
       try clear hfz6_2
       try clear hfz6_3
       try clear hfz6_4
       try clear hfz6_5
       try clear hfz6_6
       try clear hfz6_7
       try clear hfz8_0
       try clear hfz8_1
       try clear hfz8_2
       try clear hfz8_3
       try clear hfz8_4
       try clear hfz8_5
       try clear hfz8_6
       try clear hfz8_7
       try clear p2
       obtain ⟨kq, x34_22, rfl, HA, HJ22, BK21001, HB⟩ := hcut
       cases kq with
       | zero => exact absurd HA.out (by simp [spec_IsValidConstraint.j2])
       | succ kj22 =>
        have H := HA.out
        clear HA
        simp only [spec_IsValidConstraint.j2] at H
        by_cases c25 : x34_22 = true
        ·subst c25
         have H1 : ((spec_IsTerm.f kj22 a0_1).bind fun t21005 => (if t21005 = true then (if a0_2.toList = ([] : List UInt8) then ((spec_IsValidRegex.f kj22 a0_3 a0_4 l0_5).bind fun t21006 => (if t21006 = true then (some x3_1) else (some false))) else (some false)) else (some false))) = some r := by rw [if_pos rfl] at H; exact H
         clear H
         have H := H1
         clear H1
         replace H := Option.bind_eq_some_iff.mp H
         obtain ⟨t21005, A260, H⟩ := H
         replace H : (if t21005 = true then (if a0_2.toList = ([] : List UInt8) then ((spec_IsValidRegex.f kj22 a0_3 a0_4 l0_5).bind fun t21006 => (if t21006 = true then (some x3_1) else (some false))) else (some false)) else (some false)) = some r := H
         have A26 := Aside0.mk A260
         clear A260
         by_cases c27 : t21005 = true
         ·subst c27
          have H1 : (if a0_2.toList = ([] : List UInt8) then ((spec_IsValidRegex.f kj22 a0_3 a0_4 l0_5).bind fun t21006 => (if t21006 = true then (some x3_1) else (some false))) else (some false)) = some r := by rw [if_pos rfl] at H; exact H
          clear H
          have H := H1
          clear H1
          by_cases c28 : a0_2.toList = ([] : List UInt8)
          ·rw [if_pos c28] at H
           have c28b0 : (a0_2.toList == ([] : List UInt8)) = true := beq_iff_eq.mpr c28
           have c28b1 : (a0_2.toList != ([] : List UInt8)) = false := bne_eq_false_iff_eq.mpr c28
           clear c28
           replace H := Option.bind_eq_some_iff.mp H
           obtain ⟨t21006, A290, H⟩ := H
           replace H : (if t21006 = true then (some x3_1) else (some false)) = some r := H
           have A29 := Aside0.mk A290
           clear A290
           by_cases c30 : t21006 = true
           ·subst c30
            have H1 : (some x3_1) = some r := by rw [if_pos rfl] at H; exact H
            clear H
            have H := H1
            clear H1
            obtain rfl := Option.some.inj H
            have hcz31_0 : wc.cell? ⟨gb21001, 0, none⟩ = some (.int .i64 a0_0) := (blk_cell BK21001.out 0).trans rfl
            have hcz31_1 : wc.cell? ⟨gb21001, 1, none⟩ = some (.string a0_1) := (blk_cell BK21001.out 1).trans rfl
            have hcz31_2 : wc.cell? ⟨gb21001, 2, none⟩ = some (.string a0_2) := (blk_cell BK21001.out 2).trans rfl
            have hcz31_3 : wc.cell? ⟨gb21001, 3, none⟩ = some (.int .i64 a0_3) := (blk_cell BK21001.out 3).trans rfl
            have hcz31_4 : wc.cell? ⟨gb21001, 4, none⟩ = some (.string a0_4) := (blk_cell BK21001.out 4).trans rfl
            have hcz31_5 : wc.cell? ⟨gb21001, 5, none⟩ = some (.slice A0_5 l0_5.length c0_5) := (blk_cell BK21001.out 5).trans rfl
            have hcz31_6 : wc.cell? ⟨gb21001, 6, none⟩ = some (.slice A0_6 l0_6.length c0_6) := (blk_cell BK21001.out 6).trans rfl
            have hcz31_7 : wc.cell? ⟨gb21001, 7, none⟩ = some (.int .i64 a0_7) := (blk_cell BK21001.out 7).trans rfl
            have hfz31_0 := blk_frozen BK21001.out 0
            have hfz31_1 := blk_frozen BK21001.out 1
            have hfz31_2 := blk_frozen BK21001.out 2
            have hfz31_3 := blk_frozen BK21001.out 3
            have hfz31_4 := blk_frozen BK21001.out 4
            have hfz31_5 := blk_frozen BK21001.out 5
            have hfz31_6 := blk_frozen BK21001.out 6
            have hfz31_7 := blk_frozen BK21001.out 7
            go_wp2_with (first | ((with_reducible refine gate_callee (f := 50) rfl ?_); refine goesL_ (some 39) rfl rfl Try.func50 (by kernel_rfl) rfl #[.string a0_1] rfl (by (try simp only [List.map_toArray, List.map_cons, List.map_nil]); first | done | rfl | (simp only [List.length_drop, List.length_take]; rfl)) ?_; (with_reducible refine (spec_IsTerm.calls kj22 a0_1 true _ A26.out).mono ?_); rintro e w' ⟨rfl, ⟨nd, rfl⟩⟩; refine ⟨_, rfl, ?_⟩) | (go_at_call 89; (with_reducible refine (spec_IsValidRegex.calls kj22 a0_3 a0_4 _ _ l0_5 true _ ?side1 ?side2 A29.out).mono ?_); (case side1 => repeat (first | exact (Kd.C_below HR0_5.out (by repeat (first | (with_reducible first | exact HB.out | apply below_alloc | apply pw_below_drewN | apply below_drew1 | refine below_set ?_ GE21001.out) | exact HB.out))) | (with_reducible refine Kd.C_alloc ?_ _) | (with_reducible refine Kd.C_drewN ?_ _) | (with_reducible refine Kd.C_drew ?_))); (case side2 => exact HC0_5.out); rintro e w32 ⟨rfl, hb⟩; have n0_ := Aside0.mk (blk_below (g := gb21001) (o := .cells #[.int .i64 a0_0, .string a0_1, .string a0_2, .int .i64 a0_3, .string a0_4, .slice A0_5 l0_5.length c0_5, .slice A0_6 l0_6.length c0_6, .int .i64 a0_7] 44 (0, 0)) (by (with_reducible repeat (first | refine blk_drewN ?_ _ | refine blk_drew ?_ | refine blk_alloc ?_ _)); exact BK21001.out) hb); have n1_ := Aside0.mk (below_step (by repeat (first | (with_reducible first | exact HB.out | apply below_alloc | apply pw_below_drewN | apply below_drew1 | refine below_set ?_ GE21001.out) | exact HB.out)) hb); clear BK21001; clear HB; have BK21001 := n0_; have HB := n1_; clear n0_ n1_; (try clear hb); (try clear hb2); (try clear hk); (try clear hi)))
            go_ret
            exact ⟨by first | rfl | (simp [errW_none, errW_some] <;> rfl) | (simp [*, errW_none, errW_some] <;> rfl), by repeat (first | (with_reducible first | exact HB.out | apply below_alloc | apply pw_below_drewN | apply below_drew1 | refine below_set ?_ GE21001.out) | exact HB.out)⟩
           ·replace c30 := Bool.eq_false_iff.mpr c30
            subst c30
            have H1 : (some false) = some r := by rw [if_neg (show ¬ (false = true) by decide)] at H; exact H
            clear H
            have H := H1
            clear H1
            obtain rfl := Option.some.inj H
            have hcz33_0 : wc.cell? ⟨gb21001, 0, none⟩ = some (.int .i64 a0_0) := (blk_cell BK21001.out 0).trans rfl
            have hcz33_1 : wc.cell? ⟨gb21001, 1, none⟩ = some (.string a0_1) := (blk_cell BK21001.out 1).trans rfl
            have hcz33_2 : wc.cell? ⟨gb21001, 2, none⟩ = some (.string a0_2) := (blk_cell BK21001.out 2).trans rfl
            have hcz33_3 : wc.cell? ⟨gb21001, 3, none⟩ = some (.int .i64 a0_3) := (blk_cell BK21001.out 3).trans rfl
            have hcz33_4 : wc.cell? ⟨gb21001, 4, none⟩ = some (.string a0_4) := (blk_cell BK21001.out 4).trans rfl
            have hcz33_5 : wc.cell? ⟨gb21001, 5, none⟩ = some (.slice A0_5 l0_5.length c0_5) := (blk_cell BK21001.out 5).trans rfl
            have hcz33_6 : wc.cell? ⟨gb21001, 6, none⟩ = some (.slice A0_6 l0_6.length c0_6) := (blk_cell BK21001.out 6).trans rfl
            have hcz33_7 : wc.cell? ⟨gb21001, 7, none⟩ = some (.int .i64 a0_7) := (blk_cell BK21001.out 7).trans rfl
            have hfz33_0 := blk_frozen BK21001.out 0
            have hfz33_1 := blk_frozen BK21001.out 1
            have hfz33_2 := blk_frozen BK21001.out 2
            have hfz33_3 := blk_frozen BK21001.out 3
            have hfz33_4 := blk_frozen BK21001.out 4
            have hfz33_5 := blk_frozen BK21001.out 5
            have hfz33_6 := blk_frozen BK21001.out 6
            have hfz33_7 := blk_frozen BK21001.out 7
            go_wp2_with (first | ((with_reducible refine gate_callee (f := 50) rfl ?_); refine goesL_ (some 39) rfl rfl Try.func50 (by kernel_rfl) rfl #[.string a0_1] rfl (by (try simp only [List.map_toArray, List.map_cons, List.map_nil]); first | done | rfl | (simp only [List.length_drop, List.length_take]; rfl)) ?_; (with_reducible refine (spec_IsTerm.calls kj22 a0_1 true _ A26.out).mono ?_); rintro e w' ⟨rfl, ⟨nd, rfl⟩⟩; refine ⟨_, rfl, ?_⟩) | (go_at_call 89; (with_reducible refine (spec_IsValidRegex.calls kj22 a0_3 a0_4 _ _ l0_5 false _ ?side1 ?side2 A29.out).mono ?_); (case side1 => repeat (first | exact (Kd.C_below HR0_5.out (by repeat (first | (with_reducible first | exact HB.out | apply below_alloc | apply pw_below_drewN | apply below_drew1 | refine below_set ?_ GE21001.out) | exact HB.out))) | (with_reducible refine Kd.C_alloc ?_ _) | (with_reducible refine Kd.C_drewN ?_ _) | (with_reducible refine Kd.C_drew ?_))); (case side2 => exact HC0_5.out); rintro e w34 ⟨rfl, hb⟩; have n0_ := Aside0.mk (blk_below (g := gb21001) (o := .cells #[.int .i64 a0_0, .string a0_1, .string a0_2, .int .i64 a0_3, .string a0_4, .slice A0_5 l0_5.length c0_5, .slice A0_6 l0_6.length c0_6, .int .i64 a0_7] 44 (0, 0)) (by (with_reducible repeat (first | refine blk_drewN ?_ _ | refine blk_drew ?_ | refine blk_alloc ?_ _)); exact BK21001.out) hb); have n1_ := Aside0.mk (below_step (by repeat (first | (with_reducible first | exact HB.out | apply below_alloc | apply pw_below_drewN | apply below_drew1 | refine below_set ?_ GE21001.out) | exact HB.out)) hb); clear BK21001; clear HB; have BK21001 := n0_; have HB := n1_; clear n0_ n1_; (try clear hb); (try clear hb2); (try clear hk); (try clear hi)))
            go_ret
            exact ⟨by first | rfl | (simp [errW_none, errW_some] <;> rfl) | (simp [*, errW_none, errW_some] <;> rfl), by repeat (first | (with_reducible first | exact HB.out | apply below_alloc | apply pw_below_drewN | apply below_drew1 | refine below_set ?_ GE21001.out) | exact HB.out)⟩
          ·rw [if_neg c28] at H
           have c28b0 : (a0_2.toList == ([] : List UInt8)) = false := beq_eq_false_iff_ne.mpr c28
           have c28b1 : (a0_2.toList != ([] : List UInt8)) = true := bne_iff_ne.mpr c28
           obtain rfl := Option.some.inj H
           have hcz35_0 : wc.cell? ⟨gb21001, 0, none⟩ = some (.int .i64 a0_0) := (blk_cell BK21001.out 0).trans rfl
           have hcz35_1 : wc.cell? ⟨gb21001, 1, none⟩ = some (.string a0_1) := (blk_cell BK21001.out 1).trans rfl
           have hcz35_2 : wc.cell? ⟨gb21001, 2, none⟩ = some (.string a0_2) := (blk_cell BK21001.out 2).trans rfl
           have hcz35_3 : wc.cell? ⟨gb21001, 3, none⟩ = some (.int .i64 a0_3) := (blk_cell BK21001.out 3).trans rfl
           have hcz35_4 : wc.cell? ⟨gb21001, 4, none⟩ = some (.string a0_4) := (blk_cell BK21001.out 4).trans rfl
           have hcz35_5 : wc.cell? ⟨gb21001, 5, none⟩ = some (.slice A0_5 l0_5.length c0_5) := (blk_cell BK21001.out 5).trans rfl
           have hcz35_6 : wc.cell? ⟨gb21001, 6, none⟩ = some (.slice A0_6 l0_6.length c0_6) := (blk_cell BK21001.out 6).trans rfl
           have hcz35_7 : wc.cell? ⟨gb21001, 7, none⟩ = some (.int .i64 a0_7) := (blk_cell BK21001.out 7).trans rfl
           have hfz35_0 := blk_frozen BK21001.out 0
           have hfz35_1 := blk_frozen BK21001.out 1
           have hfz35_2 := blk_frozen BK21001.out 2
           have hfz35_3 := blk_frozen BK21001.out 3
           have hfz35_4 := blk_frozen BK21001.out 4
           have hfz35_5 := blk_frozen BK21001.out 5
           have hfz35_6 := blk_frozen BK21001.out 6
           have hfz35_7 := blk_frozen BK21001.out 7
           go_wp2_with (first | ((with_reducible refine gate_callee (f := 50) rfl ?_); refine goesL_ (some 39) rfl rfl Try.func50 (by kernel_rfl) rfl #[.string a0_1] rfl (by (try simp only [List.map_toArray, List.map_cons, List.map_nil]); first | done | rfl | (simp only [List.length_drop, List.length_take]; rfl)) ?_; (with_reducible refine (spec_IsTerm.calls kj22 a0_1 true _ A26.out).mono ?_); rintro e w' ⟨rfl, ⟨nd, rfl⟩⟩; refine ⟨_, rfl, ?_⟩))
           go_ret
           exact ⟨by first | rfl | (simp [errW_none, errW_some] <;> rfl) | (simp [*, errW_none, errW_some] <;> rfl), by repeat (first | (with_reducible first | exact HB.out | apply below_alloc | apply pw_below_drewN | apply below_drew1 | refine below_set ?_ GE21001.out) | exact HB.out)⟩
         ·replace c27 := Bool.eq_false_iff.mpr c27
          subst c27
          have H1 : (some false) = some r := by rw [if_neg (show ¬ (false = true) by decide)] at H; exact H
          clear H
          have H := H1
          clear H1
          obtain rfl := Option.some.inj H
          have hcz36_0 : wc.cell? ⟨gb21001, 0, none⟩ = some (.int .i64 a0_0) := (blk_cell BK21001.out 0).trans rfl
          have hcz36_1 : wc.cell? ⟨gb21001, 1, none⟩ = some (.string a0_1) := (blk_cell BK21001.out 1).trans rfl
          have hcz36_2 : wc.cell? ⟨gb21001, 2, none⟩ = some (.string a0_2) := (blk_cell BK21001.out 2).trans rfl
          have hcz36_3 : wc.cell? ⟨gb21001, 3, none⟩ = some (.int .i64 a0_3) := (blk_cell BK21001.out 3).trans rfl
          have hcz36_4 : wc.cell? ⟨gb21001, 4, none⟩ = some (.string a0_4) := (blk_cell BK21001.out 4).trans rfl
          have hcz36_5 : wc.cell? ⟨gb21001, 5, none⟩ = some (.slice A0_5 l0_5.length c0_5) := (blk_cell BK21001.out 5).trans rfl
          have hcz36_6 : wc.cell? ⟨gb21001, 6, none⟩ = some (.slice A0_6 l0_6.length c0_6) := (blk_cell BK21001.out 6).trans rfl
          have hcz36_7 : wc.cell? ⟨gb21001, 7, none⟩ = some (.int .i64 a0_7) := (blk_cell BK21001.out 7).trans rfl
          have hfz36_0 := blk_frozen BK21001.out 0
          have hfz36_1 := blk_frozen BK21001.out 1
          have hfz36_2 := blk_frozen BK21001.out 2
          have hfz36_3 := blk_frozen BK21001.out 3
          have hfz36_4 := blk_frozen BK21001.out 4
          have hfz36_5 := blk_frozen BK21001.out 5
          have hfz36_6 := blk_frozen BK21001.out 6
          have hfz36_7 := blk_frozen BK21001.out 7
          go_wp2_with (first | ((with_reducible refine gate_callee (f := 50) rfl ?_); refine goesL_ (some 39) rfl rfl Try.func50 (by kernel_rfl) rfl #[.string a0_1] rfl (by (try simp only [List.map_toArray, List.map_cons, List.map_nil]); first | done | rfl | (simp only [List.length_drop, List.length_take]; rfl)) ?_; (with_reducible refine (spec_IsTerm.calls kj22 a0_1 false _ A26.out).mono ?_); rintro e w' ⟨rfl, ⟨nd, rfl⟩⟩; refine ⟨_, rfl, ?_⟩))
          go_ret
          exact ⟨by first | rfl | (simp [errW_none, errW_some] <;> rfl) | (simp [*, errW_none, errW_some] <;> rfl), by repeat (first | (with_reducible first | exact HB.out | apply below_alloc | apply pw_below_drewN | apply below_drew1 | refine below_set ?_ GE21001.out) | exact HB.out)⟩
        ·replace c25 := Bool.eq_false_iff.mpr c25
         subst c25
         have H1 : (if a0_0 = 5 then (if a0_1.toList = ([] : List UInt8) then (if a0_2.toList = ([] : List UInt8) then ((spec_l9Zero.f a0_3 a0_4 l0_5).bind fun t21007 => (if t21007 = true then ((spec_l9Coeffs.f kj22 l0_6).bind fun t21008 => (if t21008 = true then ((spec_l1In.f a0_7 (-99) 99).bind fun t21009 => (some t21009)) else (some false))) else (some false))) else (some false)) else (some false)) else (some false)) = some r := by rw [if_neg (show ¬ (false = true) by decide)] at H; exact H
         clear H
         have H := H1
         clear H1
         by_cases c37 : a0_0 = 5
         ·rw [if_pos c37] at H
          have c37b0 : (a0_0 == 5) = true := beq_iff_eq.mpr c37
          have c37b1 : (a0_0 != 5) = false := bne_eq_false_iff_eq.mpr c37
          clear c37
          by_cases c38 : a0_1.toList = ([] : List UInt8)
          ·rw [if_pos c38] at H
           have c38b0 : (a0_1.toList == ([] : List UInt8)) = true := beq_iff_eq.mpr c38
           have c38b1 : (a0_1.toList != ([] : List UInt8)) = false := bne_eq_false_iff_eq.mpr c38
           clear c38
           by_cases c39 : a0_2.toList = ([] : List UInt8)
           ·rw [if_pos c39] at H
            have c39b0 : (a0_2.toList == ([] : List UInt8)) = true := beq_iff_eq.mpr c39
            have c39b1 : (a0_2.toList != ([] : List UInt8)) = false := bne_eq_false_iff_eq.mpr c39
            clear c39
            replace H := Option.bind_eq_some_iff.mp H
            obtain ⟨t21007, A400, H⟩ := H
            replace H : (if t21007 = true then ((spec_l9Coeffs.f kj22 l0_6).bind fun t21008 => (if t21008 = true then ((spec_l1In.f a0_7 (-99) 99).bind fun t21009 => (some t21009)) else (some false))) else (some false)) = some r := H
            have A40 := Aside0.mk A400
            clear A400
            by_cases c41 : t21007 = true
            ·subst c41
             have H1 : ((spec_l9Coeffs.f kj22 l0_6).bind fun t21008 => (if t21008 = true then ((spec_l1In.f a0_7 (-99) 99).bind fun t21009 => (some t21009)) else (some false))) = some r := by rw [if_pos rfl] at H; exact H
             clear H
             have H := H1
             clear H1
             replace H := Option.bind_eq_some_iff.mp H
             obtain ⟨t21008, A420, H⟩ := H
             replace H : (if t21008 = true then ((spec_l1In.f a0_7 (-99) 99).bind fun t21009 => (some t21009)) else (some false)) = some r := H
             have A42 := Aside0.mk A420
             clear A420
             by_cases c43 : t21008 = true
             ·subst c43
              have H1 : ((spec_l1In.f a0_7 (-99) 99).bind fun t21009 => (some t21009)) = some r := by rw [if_pos rfl] at H; exact H
              clear H
              have H := H1
              clear H1
              replace H := Option.bind_eq_some_iff.mp H
              obtain ⟨t21009, A440, H⟩ := H
              replace H : (some t21009) = some r := H
              have A44 := Aside0.mk A440
              clear A440
              obtain rfl := Option.some.inj H
              have hcz45_0 : wc.cell? ⟨gb21001, 0, none⟩ = some (.int .i64 a0_0) := (blk_cell BK21001.out 0).trans rfl
              have hcz45_1 : wc.cell? ⟨gb21001, 1, none⟩ = some (.string a0_1) := (blk_cell BK21001.out 1).trans rfl
              have hcz45_2 : wc.cell? ⟨gb21001, 2, none⟩ = some (.string a0_2) := (blk_cell BK21001.out 2).trans rfl
              have hcz45_3 : wc.cell? ⟨gb21001, 3, none⟩ = some (.int .i64 a0_3) := (blk_cell BK21001.out 3).trans rfl
              have hcz45_4 : wc.cell? ⟨gb21001, 4, none⟩ = some (.string a0_4) := (blk_cell BK21001.out 4).trans rfl
              have hcz45_5 : wc.cell? ⟨gb21001, 5, none⟩ = some (.slice A0_5 l0_5.length c0_5) := (blk_cell BK21001.out 5).trans rfl
              have hcz45_6 : wc.cell? ⟨gb21001, 6, none⟩ = some (.slice A0_6 l0_6.length c0_6) := (blk_cell BK21001.out 6).trans rfl
              have hcz45_7 : wc.cell? ⟨gb21001, 7, none⟩ = some (.int .i64 a0_7) := (blk_cell BK21001.out 7).trans rfl
              have hfz45_0 := blk_frozen BK21001.out 0
              have hfz45_1 := blk_frozen BK21001.out 1
              have hfz45_2 := blk_frozen BK21001.out 2
              have hfz45_3 := blk_frozen BK21001.out 3
              have hfz45_4 := blk_frozen BK21001.out 4
              have hfz45_5 := blk_frozen BK21001.out 5
              have hfz45_6 := blk_frozen BK21001.out 6
              have hfz45_7 := blk_frozen BK21001.out 7
              go_wp2_with (first | (go_at_call 88; (with_reducible refine (spec_l9Zero.calls a0_3 a0_4 _ _ l0_5 true _ ?side1 ?side2 A40.out).mono ?_); (case side1 => repeat (first | exact (Kd.C_below HR0_5.out HB.out) | (with_reducible refine Kd.C_alloc ?_ _) | (with_reducible refine Kd.C_drewN ?_ _) | (with_reducible refine Kd.C_drew ?_))); (case side2 => exact HC0_5.out); rintro e w46 ⟨rfl, hb⟩; have n0_ := Aside0.mk (blk_below (g := gb21001) (o := .cells #[.int .i64 a0_0, .string a0_1, .string a0_2, .int .i64 a0_3, .string a0_4, .slice A0_5 l0_5.length c0_5, .slice A0_6 l0_6.length c0_6, .int .i64 a0_7] 44 (0, 0)) (by (with_reducible repeat (first | refine blk_drewN ?_ _ | refine blk_drew ?_ | refine blk_alloc ?_ _)); exact BK21001.out) hb); have n1_ := Aside0.mk (below_step (by repeat (first | (with_reducible first | exact HB.out | apply below_alloc | apply pw_below_drewN | apply below_drew1 | refine below_set ?_ GE21001.out) | exact HB.out)) hb); clear BK21001; clear HB; have BK21001 := n0_; have HB := n1_; clear n0_ n1_; (try clear hb); (try clear hb2); (try clear hk); (try clear hi); have hcz47_0 : w46.cell? ⟨gb21001, 0, none⟩ = some (.int .i64 a0_0) := (blk_cell BK21001.out 0).trans rfl; have hcz47_1 : w46.cell? ⟨gb21001, 1, none⟩ = some (.string a0_1) := (blk_cell BK21001.out 1).trans rfl; have hcz47_2 : w46.cell? ⟨gb21001, 2, none⟩ = some (.string a0_2) := (blk_cell BK21001.out 2).trans rfl; have hcz47_3 : w46.cell? ⟨gb21001, 3, none⟩ = some (.int .i64 a0_3) := (blk_cell BK21001.out 3).trans rfl; have hcz47_4 : w46.cell? ⟨gb21001, 4, none⟩ = some (.string a0_4) := (blk_cell BK21001.out 4).trans rfl; have hcz47_5 : w46.cell? ⟨gb21001, 5, none⟩ = some (.slice A0_5 l0_5.length c0_5) := (blk_cell BK21001.out 5).trans rfl; have hcz47_6 : w46.cell? ⟨gb21001, 6, none⟩ = some (.slice A0_6 l0_6.length c0_6) := (blk_cell BK21001.out 6).trans rfl; have hcz47_7 : w46.cell? ⟨gb21001, 7, none⟩ = some (.int .i64 a0_7) := (blk_cell BK21001.out 7).trans rfl; have hfz47_0 := blk_frozen BK21001.out 0; have hfz47_1 := blk_frozen BK21001.out 1; have hfz47_2 := blk_frozen BK21001.out 2; have hfz47_3 := blk_frozen BK21001.out 3; have hfz47_4 := blk_frozen BK21001.out 4; have hfz47_5 := blk_frozen BK21001.out 5; have hfz47_6 := blk_frozen BK21001.out 6; have hfz47_7 := blk_frozen BK21001.out 7) | (go_at_call 90; (with_reducible refine (spec_l9Coeffs.calls kj22 _ _ l0_6 true _ ?side1 ?side2 A42.out).mono ?_); (case side1 => repeat (first | exact (Kd.C_below HR0_6.out HB.out) | (with_reducible refine Kd.C_alloc ?_ _) | (with_reducible refine Kd.C_drewN ?_ _) | (with_reducible refine Kd.C_drew ?_))); (case side2 => exact HC0_6.out); rintro e w' ⟨rfl, ⟨nd, rfl⟩⟩) | (go_at_call 91; (with_reducible refine (spec_l1In.calls a0_7 (-99) 99 t21009 _ A44.out).mono ?_); rintro e w' ⟨rfl, ⟨nd, rfl⟩⟩))
              go_ret
              exact ⟨by first | rfl | (simp [errW_none, errW_some] <;> rfl) | (simp [*, errW_none, errW_some] <;> rfl), by repeat (first | (with_reducible first | exact HB.out | apply below_alloc | apply pw_below_drewN | apply below_drew1 | refine below_set ?_ GE21001.out) | exact HB.out)⟩
             ·replace c43 := Bool.eq_false_iff.mpr c43
              subst c43
              have H1 : (some false) = some r := by rw [if_neg (show ¬ (false = true) by decide)] at H; exact H
              clear H
              have H := H1
              clear H1
              obtain rfl := Option.some.inj H
              have hcz48_0 : wc.cell? ⟨gb21001, 0, none⟩ = some (.int .i64 a0_0) := (blk_cell BK21001.out 0).trans rfl
              have hcz48_1 : wc.cell? ⟨gb21001, 1, none⟩ = some (.string a0_1) := (blk_cell BK21001.out 1).trans rfl
              have hcz48_2 : wc.cell? ⟨gb21001, 2, none⟩ = some (.string a0_2) := (blk_cell BK21001.out 2).trans rfl
              have hcz48_3 : wc.cell? ⟨gb21001, 3, none⟩ = some (.int .i64 a0_3) := (blk_cell BK21001.out 3).trans rfl
              have hcz48_4 : wc.cell? ⟨gb21001, 4, none⟩ = some (.string a0_4) := (blk_cell BK21001.out 4).trans rfl
              have hcz48_5 : wc.cell? ⟨gb21001, 5, none⟩ = some (.slice A0_5 l0_5.length c0_5) := (blk_cell BK21001.out 5).trans rfl
              have hcz48_6 : wc.cell? ⟨gb21001, 6, none⟩ = some (.slice A0_6 l0_6.length c0_6) := (blk_cell BK21001.out 6).trans rfl
              have hcz48_7 : wc.cell? ⟨gb21001, 7, none⟩ = some (.int .i64 a0_7) := (blk_cell BK21001.out 7).trans rfl
              have hfz48_0 := blk_frozen BK21001.out 0
              have hfz48_1 := blk_frozen BK21001.out 1
              have hfz48_2 := blk_frozen BK21001.out 2
              have hfz48_3 := blk_frozen BK21001.out 3
              have hfz48_4 := blk_frozen BK21001.out 4
              have hfz48_5 := blk_frozen BK21001.out 5
              have hfz48_6 := blk_frozen BK21001.out 6
              have hfz48_7 := blk_frozen BK21001.out 7
              go_wp2_with (first | (go_at_call 88; (with_reducible refine (spec_l9Zero.calls a0_3 a0_4 _ _ l0_5 true _ ?side1 ?side2 A40.out).mono ?_); (case side1 => repeat (first | exact (Kd.C_below HR0_5.out HB.out) | (with_reducible refine Kd.C_alloc ?_ _) | (with_reducible refine Kd.C_drewN ?_ _) | (with_reducible refine Kd.C_drew ?_))); (case side2 => exact HC0_5.out); rintro e w49 ⟨rfl, hb⟩; have n0_ := Aside0.mk (blk_below (g := gb21001) (o := .cells #[.int .i64 a0_0, .string a0_1, .string a0_2, .int .i64 a0_3, .string a0_4, .slice A0_5 l0_5.length c0_5, .slice A0_6 l0_6.length c0_6, .int .i64 a0_7] 44 (0, 0)) (by (with_reducible repeat (first | refine blk_drewN ?_ _ | refine blk_drew ?_ | refine blk_alloc ?_ _)); exact BK21001.out) hb); have n1_ := Aside0.mk (below_step (by repeat (first | (with_reducible first | exact HB.out | apply below_alloc | apply pw_below_drewN | apply below_drew1 | refine below_set ?_ GE21001.out) | exact HB.out)) hb); clear BK21001; clear HB; have BK21001 := n0_; have HB := n1_; clear n0_ n1_; (try clear hb); (try clear hb2); (try clear hk); (try clear hi); have hcz50_0 : w49.cell? ⟨gb21001, 0, none⟩ = some (.int .i64 a0_0) := (blk_cell BK21001.out 0).trans rfl; have hcz50_1 : w49.cell? ⟨gb21001, 1, none⟩ = some (.string a0_1) := (blk_cell BK21001.out 1).trans rfl; have hcz50_2 : w49.cell? ⟨gb21001, 2, none⟩ = some (.string a0_2) := (blk_cell BK21001.out 2).trans rfl; have hcz50_3 : w49.cell? ⟨gb21001, 3, none⟩ = some (.int .i64 a0_3) := (blk_cell BK21001.out 3).trans rfl; have hcz50_4 : w49.cell? ⟨gb21001, 4, none⟩ = some (.string a0_4) := (blk_cell BK21001.out 4).trans rfl; have hcz50_5 : w49.cell? ⟨gb21001, 5, none⟩ = some (.slice A0_5 l0_5.length c0_5) := (blk_cell BK21001.out 5).trans rfl; have hcz50_6 : w49.cell? ⟨gb21001, 6, none⟩ = some (.slice A0_6 l0_6.length c0_6) := (blk_cell BK21001.out 6).trans rfl; have hcz50_7 : w49.cell? ⟨gb21001, 7, none⟩ = some (.int .i64 a0_7) := (blk_cell BK21001.out 7).trans rfl; have hfz50_0 := blk_frozen BK21001.out 0; have hfz50_1 := blk_frozen BK21001.out 1; have hfz50_2 := blk_frozen BK21001.out 2; have hfz50_3 := blk_frozen BK21001.out 3; have hfz50_4 := blk_frozen BK21001.out 4; have hfz50_5 := blk_frozen BK21001.out 5; have hfz50_6 := blk_frozen BK21001.out 6; have hfz50_7 := blk_frozen BK21001.out 7) | (go_at_call 90; (with_reducible refine (spec_l9Coeffs.calls kj22 _ _ l0_6 false _ ?side1 ?side2 A42.out).mono ?_); (case side1 => repeat (first | exact (Kd.C_below HR0_6.out HB.out) | (with_reducible refine Kd.C_alloc ?_ _) | (with_reducible refine Kd.C_drewN ?_ _) | (with_reducible refine Kd.C_drew ?_))); (case side2 => exact HC0_6.out); rintro e w' ⟨rfl, ⟨nd, rfl⟩⟩))
              go_ret
              exact ⟨by first | rfl | (simp [errW_none, errW_some] <;> rfl) | (simp [*, errW_none, errW_some] <;> rfl), by repeat (first | (with_reducible first | exact HB.out | apply below_alloc | apply pw_below_drewN | apply below_drew1 | refine below_set ?_ GE21001.out) | exact HB.out)⟩
            ·replace c41 := Bool.eq_false_iff.mpr c41
             subst c41
             have H1 : (some false) = some r := by rw [if_neg (show ¬ (false = true) by decide)] at H; exact H
             clear H
             have H := H1
             clear H1
             obtain rfl := Option.some.inj H
             have hcz51_0 : wc.cell? ⟨gb21001, 0, none⟩ = some (.int .i64 a0_0) := (blk_cell BK21001.out 0).trans rfl
             have hcz51_1 : wc.cell? ⟨gb21001, 1, none⟩ = some (.string a0_1) := (blk_cell BK21001.out 1).trans rfl
             have hcz51_2 : wc.cell? ⟨gb21001, 2, none⟩ = some (.string a0_2) := (blk_cell BK21001.out 2).trans rfl
             have hcz51_3 : wc.cell? ⟨gb21001, 3, none⟩ = some (.int .i64 a0_3) := (blk_cell BK21001.out 3).trans rfl
             have hcz51_4 : wc.cell? ⟨gb21001, 4, none⟩ = some (.string a0_4) := (blk_cell BK21001.out 4).trans rfl
             have hcz51_5 : wc.cell? ⟨gb21001, 5, none⟩ = some (.slice A0_5 l0_5.length c0_5) := (blk_cell BK21001.out 5).trans rfl
             have hcz51_6 : wc.cell? ⟨gb21001, 6, none⟩ = some (.slice A0_6 l0_6.length c0_6) := (blk_cell BK21001.out 6).trans rfl
             have hcz51_7 : wc.cell? ⟨gb21001, 7, none⟩ = some (.int .i64 a0_7) := (blk_cell BK21001.out 7).trans rfl
             have hfz51_0 := blk_frozen BK21001.out 0
             have hfz51_1 := blk_frozen BK21001.out 1
             have hfz51_2 := blk_frozen BK21001.out 2
             have hfz51_3 := blk_frozen BK21001.out 3
             have hfz51_4 := blk_frozen BK21001.out 4
             have hfz51_5 := blk_frozen BK21001.out 5
             have hfz51_6 := blk_frozen BK21001.out 6
             have hfz51_7 := blk_frozen BK21001.out 7
             go_wp2_with (first | (go_at_call 88; (with_reducible refine (spec_l9Zero.calls a0_3 a0_4 _ _ l0_5 false _ ?side1 ?side2 A40.out).mono ?_); (case side1 => repeat (first | exact (Kd.C_below HR0_5.out HB.out) | (with_reducible refine Kd.C_alloc ?_ _) | (with_reducible refine Kd.C_drewN ?_ _) | (with_reducible refine Kd.C_drew ?_))); (case side2 => exact HC0_5.out); rintro e w52 ⟨rfl, hb⟩; have n0_ := Aside0.mk (blk_below (g := gb21001) (o := .cells #[.int .i64 a0_0, .string a0_1, .string a0_2, .int .i64 a0_3, .string a0_4, .slice A0_5 l0_5.length c0_5, .slice A0_6 l0_6.length c0_6, .int .i64 a0_7] 44 (0, 0)) (by (with_reducible repeat (first | refine blk_drewN ?_ _ | refine blk_drew ?_ | refine blk_alloc ?_ _)); exact BK21001.out) hb); have n1_ := Aside0.mk (below_step (by repeat (first | (with_reducible first | exact HB.out | apply below_alloc | apply pw_below_drewN | apply below_drew1 | refine below_set ?_ GE21001.out) | exact HB.out)) hb); clear BK21001; clear HB; have BK21001 := n0_; have HB := n1_; clear n0_ n1_; (try clear hb); (try clear hb2); (try clear hk); (try clear hi)))
             go_ret
             exact ⟨by first | rfl | (simp [errW_none, errW_some] <;> rfl) | (simp [*, errW_none, errW_some] <;> rfl), by repeat (first | (with_reducible first | exact HB.out | apply below_alloc | apply pw_below_drewN | apply below_drew1 | refine below_set ?_ GE21001.out) | exact HB.out)⟩
           ·rw [if_neg c39] at H
            have c39b0 : (a0_2.toList == ([] : List UInt8)) = false := beq_eq_false_iff_ne.mpr c39
            have c39b1 : (a0_2.toList != ([] : List UInt8)) = true := bne_iff_ne.mpr c39
            obtain rfl := Option.some.inj H
            have hcz53_0 : wc.cell? ⟨gb21001, 0, none⟩ = some (.int .i64 a0_0) := (blk_cell BK21001.out 0).trans rfl
            have hcz53_1 : wc.cell? ⟨gb21001, 1, none⟩ = some (.string a0_1) := (blk_cell BK21001.out 1).trans rfl
            have hcz53_2 : wc.cell? ⟨gb21001, 2, none⟩ = some (.string a0_2) := (blk_cell BK21001.out 2).trans rfl
            have hcz53_3 : wc.cell? ⟨gb21001, 3, none⟩ = some (.int .i64 a0_3) := (blk_cell BK21001.out 3).trans rfl
            have hcz53_4 : wc.cell? ⟨gb21001, 4, none⟩ = some (.string a0_4) := (blk_cell BK21001.out 4).trans rfl
            have hcz53_5 : wc.cell? ⟨gb21001, 5, none⟩ = some (.slice A0_5 l0_5.length c0_5) := (blk_cell BK21001.out 5).trans rfl
            have hcz53_6 : wc.cell? ⟨gb21001, 6, none⟩ = some (.slice A0_6 l0_6.length c0_6) := (blk_cell BK21001.out 6).trans rfl
            have hcz53_7 : wc.cell? ⟨gb21001, 7, none⟩ = some (.int .i64 a0_7) := (blk_cell BK21001.out 7).trans rfl
            have hfz53_0 := blk_frozen BK21001.out 0
            have hfz53_1 := blk_frozen BK21001.out 1
            have hfz53_2 := blk_frozen BK21001.out 2
            have hfz53_3 := blk_frozen BK21001.out 3
            have hfz53_4 := blk_frozen BK21001.out 4
            have hfz53_5 := blk_frozen BK21001.out 5
            have hfz53_6 := blk_frozen BK21001.out 6
            have hfz53_7 := blk_frozen BK21001.out 7
            go_wp2
            go_ret
            exact ⟨by first | rfl | (simp [errW_none, errW_some] <;> rfl) | (simp [*, errW_none, errW_some] <;> rfl), by repeat (first | (with_reducible first | exact HB.out | apply below_alloc | apply pw_below_drewN | apply below_drew1 | refine below_set ?_ GE21001.out) | exact HB.out)⟩
          ·rw [if_neg c38] at H
           have c38b0 : (a0_1.toList == ([] : List UInt8)) = false := beq_eq_false_iff_ne.mpr c38
           have c38b1 : (a0_1.toList != ([] : List UInt8)) = true := bne_iff_ne.mpr c38
           obtain rfl := Option.some.inj H
           have hcz54_0 : wc.cell? ⟨gb21001, 0, none⟩ = some (.int .i64 a0_0) := (blk_cell BK21001.out 0).trans rfl
           have hcz54_1 : wc.cell? ⟨gb21001, 1, none⟩ = some (.string a0_1) := (blk_cell BK21001.out 1).trans rfl
           have hcz54_2 : wc.cell? ⟨gb21001, 2, none⟩ = some (.string a0_2) := (blk_cell BK21001.out 2).trans rfl
           have hcz54_3 : wc.cell? ⟨gb21001, 3, none⟩ = some (.int .i64 a0_3) := (blk_cell BK21001.out 3).trans rfl
           have hcz54_4 : wc.cell? ⟨gb21001, 4, none⟩ = some (.string a0_4) := (blk_cell BK21001.out 4).trans rfl
           have hcz54_5 : wc.cell? ⟨gb21001, 5, none⟩ = some (.slice A0_5 l0_5.length c0_5) := (blk_cell BK21001.out 5).trans rfl
           have hcz54_6 : wc.cell? ⟨gb21001, 6, none⟩ = some (.slice A0_6 l0_6.length c0_6) := (blk_cell BK21001.out 6).trans rfl
           have hcz54_7 : wc.cell? ⟨gb21001, 7, none⟩ = some (.int .i64 a0_7) := (blk_cell BK21001.out 7).trans rfl
           have hfz54_0 := blk_frozen BK21001.out 0
           have hfz54_1 := blk_frozen BK21001.out 1
           have hfz54_2 := blk_frozen BK21001.out 2
           have hfz54_3 := blk_frozen BK21001.out 3
           have hfz54_4 := blk_frozen BK21001.out 4
           have hfz54_5 := blk_frozen BK21001.out 5
           have hfz54_6 := blk_frozen BK21001.out 6
           have hfz54_7 := blk_frozen BK21001.out 7
           go_wp2
           go_ret
           exact ⟨by first | rfl | (simp [errW_none, errW_some] <;> rfl) | (simp [*, errW_none, errW_some] <;> rfl), by repeat (first | (with_reducible first | exact HB.out | apply below_alloc | apply pw_below_drewN | apply below_drew1 | refine below_set ?_ GE21001.out) | exact HB.out)⟩
         ·rw [if_neg c37] at H
          have c37b0 : (a0_0 == 5) = false := beq_eq_false_iff_ne.mpr c37
          have c37b1 : (a0_0 != 5) = true := bne_iff_ne.mpr c37
          obtain rfl := Option.some.inj H
          go_wp2
          go_ret
          exact ⟨by first | rfl | (simp [errW_none, errW_some] <;> rfl) | (simp [*, errW_none, errW_some] <;> rfl), by repeat (first | (with_reducible first | exact HB.out | apply below_alloc | apply pw_below_drewN | apply below_drew1 | refine below_set ?_ GE21001.out) | exact HB.out)⟩
end Go.Proofs.Ytpppopdmnejcfaa.A
namespace Go.Proofs.Ytpppopdmnejcfaa.A
open Go.RowKit Go.Proofs.Ytpppopdmnejcfaa.Ext Go.Proofs.YtpppopdmnejcfaaW.PrintWords Go.Proofs.YtpppopdmnejcfaaW.PrintLast Go.Proofs.YtpppopdmnejcfaaW.PrintMore
attribute [local go_sem] max2_int min2_int max_two min_two max_three min_three max_four min_four
def spec_IsValidProblem.l0 : Nat → Int → List (S44) → Option (Bool)
 | 0, _, _ => none
 | k + 1, x3, x63002000 => if x3 < (x63002000.length : Int) then (if 0 ≤ x3 then ((spec_IsValidConstraint.f k ((rd_T44 x63002000 x3).f0) ((rd_T44 x63002000 x3).f1) ((rd_T44 x63002000 x3).f2) ((rd_T44 x63002000 x3).f3.f0) ((rd_T44 x63002000 x3).f3.f1) ((rd_T44 x63002000 x3).f3.f2) ((rd_T44 x63002000 x3).f4) ((rd_T44 x63002000 x3).f5)).bind fun t63003 => (if t63003 = true then (spec_IsValidProblem.l0 k (wrap64 (x3 + 1)) x63002000) else (some false))) else (none)) else (some (decide ((x63002000.length : Int) ≤ 6)))
def spec_IsValidProblem.f (k : Nat) (l0_0 : List (S44)) : Option (Bool) := spec_IsValidProblem.l0 k 0 l0_0
theorem spec_IsValidProblem.mono_l : ∀ k, (∀ y0 y1, LeO (spec_IsValidProblem.l0 k y0 y1) (spec_IsValidProblem.l0 (k + 1) y0 y1))
 | 0 => fun _ _ r h => by simp [spec_IsValidProblem.l0] at h
 | k + 1 => by
  have ih0 := spec_IsValidProblem.mono_l k
  ·intro y0 y1
   unfold spec_IsValidProblem.l0
   repeat' first
   | (with_reducible exact ih0 _ _)
   | (with_reducible exact spec_IsValidConstraint.mono _ _ _ _ _ _ _ _ _)
   | (with_reducible exact LeO.refl _)
   | (with_reducible exact LeO.none _)
   | (with_reducible refine LeO.ite ?_ ?_)
   | (with_reducible refine LeO.bind ?_ (fun _ => ?_))
theorem spec_IsValidProblem.mono : ∀ a0 k, LeO (spec_IsValidProblem.f k a0) (spec_IsValidProblem.f (k + 1) a0) := by
 intro a0 k
 have ih0 := spec_IsValidProblem.mono_l k
 unfold spec_IsValidProblem.f
 repeat' first
   | (with_reducible exact ih0 _ _)
   | (with_reducible exact spec_IsValidConstraint.mono _ _ _ _ _ _ _ _ _)
   | (with_reducible exact LeO.refl _)
   | (with_reducible exact LeO.none _)
   | (with_reducible refine LeO.ite ?_ ?_)
   | (with_reducible refine LeO.bind ?_ (fun _ => ?_))
theorem spec_IsValidProblem.calls (k : Nat) (A0_0 : Option Addr) (c0_0 : Nat) (l0_0 : List (S44)) (r : Bool) (w : World) (hr0_0 : Kd.C k44 w A0_0 l0_0.length l0_0) (hc0_0 : l0_0.length ≤ c0_0) (h : spec_IsValidProblem.f k l0_0 = some r) :
  Calls Try.prog 63 #[.agg #[.slice A0_0 l0_0.length c0_0]] w fun e w' => e = .returned (.bool r) ∧ Below w.heap.size w w' := by
 have hu29 := Try.underlying29
 have hu44 := Try.underlying44
 have HR0_0 := Aside0.mk hr0_0
 have HC0_0 := Aside0.mk hc0_0
 clear hr0_0 hc0_0
 have HB := Aside0.mk (Below.refl w.heap.size w)
 have H : (spec_IsValidProblem.l0 k 0 l0_0) = some r := h
 clear h
 have H' := Aside0.mk H
 clear H
 go_enter Try.func63, Try.ntmps63
 go_wp2_with (first | ((with_reducible refine gate_dst (N := 1) rfl ?_); refine box_event ?hg (N := 1) ?hd (cs := #[.slice A0_0 l0_0.length c0_0]) (t := 29) ?hr ?_; (case hd => rfl); (case hg => rfl); (case hr => first | (go_simp; done) | (go_simp; rfl)); intro gb63001 hg w2 hbox hb; have n0_ := Aside0.mk (below_step (by repeat (first | (with_reducible first | exact HB.out | apply below_alloc | apply pw_below_drewN | apply below_drew1) | exact HB.out)) hb); have n1_ := Aside0.mk (hbox); have n2_ := Aside0.mk ((by rw [hg]; exact (below_size (by repeat (first | (with_reducible first | exact HB.out | apply below_alloc | apply pw_below_drewN | apply below_drew1) | exact HB.out))) : w.heap.size ≤ gb63001)); have n3_ := Aside0.mk ((by rw [hg]; exact (below_size (by repeat (first | (with_reducible first | exact HB.out | apply below_alloc | apply pw_below_drewN | apply below_drew1) | exact HB.out))) : w.heap.size ≤ gb63001)); clear HB; have HB := n0_; have BK63001 := n1_; have GW63001 := n2_; have GE63001 := n3_; clear n0_ n1_ n2_ n3_; clear hb hbox hg))
 first | go_loopg [3] k (fun kq v3 w' => ∃ (x3_1 : Int), v3 = .int .i64 x3_1 ∧ Aside0 (spec_IsValidProblem.l0 kq x3_1 l0_0 = some r) ∧ Aside0 (kq ≤ k) ∧ Aside0 (w'.heap[gb63001]? = some (.cells #[(.slice A0_0 l0_0.length c0_0)] 29 (0, 0))) ∧ Aside0 (Below w.heap.size w w')) | (simp only [Act.put, List.setIfInBounds_toArray, List.set_cons_succ, List.set_cons_zero]; go_loopg [3] k (fun kq v3 w' => ∃ (x3_1 : Int), v3 = .int .i64 x3_1 ∧ Aside0 (spec_IsValidProblem.l0 kq x3_1 l0_0 = some r) ∧ Aside0 (kq ≤ k) ∧ Aside0 (w'.heap[gb63001]? = some (.cells #[(.slice A0_0 l0_0.length c0_0)] 29 (0, 0))) ∧ Aside0 (Below w.heap.size w w')))
 case atStart => exact ⟨(0), (by first | rfl | (simp; done) | (simp [*]; done)), H', ⟨Nat.le_refl _⟩, ⟨by (with_reducible repeat (first | refine blk_drewN ?_ _ | refine blk_drew ?_ | refine blk_alloc ?_ _)); exact BK63001.out⟩, ⟨by repeat (first | (with_reducible first | exact HB.out | apply below_alloc | apply pw_below_drewN | apply below_drew1 | refine below_set ?_ GE63001.out) | exact HB.out)⟩⟩
 case round =>
  clear H'
  try clear p2
  obtain ⟨x3_1, rfl, HA, HK1, BK63001, HB⟩ := hrel
  cases gk with
  | zero => exact absurd HA.out (by simp [spec_IsValidProblem.l0])
  | succ k1 =>
   have H := HA.out
   clear HA
   simp only [spec_IsValidProblem.l0] at H
   by_cases c3 : x3_1 < (l0_0.length : Int)
   ·rw [if_pos c3] at H
    have c3b0 : decide (x3_1 < (l0_0.length : Int)) = true := decide_eq_true c3
    clear c3
    by_cases c4 : 0 ≤ x3_1
    ·rw [if_pos c4] at H
     have c4b0 : decide (0 ≤ x3_1) = true := decide_eq_true c4
     clear c4
     replace H := Option.bind_eq_some_iff.mp H
     obtain ⟨t63003, A50, H⟩ := H
     replace H : (if t63003 = true then (spec_IsValidProblem.l0 k1 (wrap64 (x3_1 + 1)) l0_0) else (some false)) = some r := H
     have A5 := Aside0.mk A50
     clear A50
     by_cases c6 : t63003 = true
     ·subst c6
      have H1 : (spec_IsValidProblem.l0 k1 (wrap64 (x3_1 + 1)) l0_0) = some r := by rw [if_pos rfl] at H; exact H
      clear H
      have H := H1
      clear H1
      have H' := Aside0.mk H
      clear H
      have hcz7_0 : wr.cell? ⟨gb63001, 0, none⟩ = some (.slice A0_0 l0_0.length c0_0) := (blk_cell BK63001.out 0).trans rfl
      have hfz7_0 := blk_frozen BK63001.out 0
      have p63002 : 0 ≤ (x3_1 : Int) := of_decide_eq_true (by first | (with_reducible assumption) | assumption)
      have q63002 : x3_1 < (l0_0.length : Int) := of_decide_eq_true (by first | (with_reducible assumption) | assumption)
      obtain ⟨ad63002, A63002_5, c63002_5, A63002_6, c63002_6, e63002, hx63002_0, hx63002_1, hx63002_2, hx63002_3, hx63002_4, hx63002_5, hx63002_6, hx63002_7, hl63002_5, hi63002_5, hl63002_6, hi63002_6⟩ := at_T44 HR0_0.out x3_1 p63002 q63002
      cases e63002
      replace hx63002_0 := (HB.out.cell (World.block_lt_of_cell? w _ hx63002_0)).trans hx63002_0
      replace hx63002_1 := (HB.out.cell (World.block_lt_of_cell? w _ hx63002_1)).trans hx63002_1
      replace hx63002_2 := (HB.out.cell (World.block_lt_of_cell? w _ hx63002_2)).trans hx63002_2
      replace hx63002_3 := (HB.out.cell (World.block_lt_of_cell? w _ hx63002_3)).trans hx63002_3
      replace hx63002_4 := (HB.out.cell (World.block_lt_of_cell? w _ hx63002_4)).trans hx63002_4
      replace hx63002_5 := (HB.out.cell (World.block_lt_of_cell? w _ hx63002_5)).trans hx63002_5
      replace hx63002_6 := (HB.out.cell (World.block_lt_of_cell? w _ hx63002_6)).trans hx63002_6
      replace hx63002_7 := (HB.out.cell (World.block_lt_of_cell? w _ hx63002_7)).trans hx63002_7
      have HR63002_5 := Aside0.mk hi63002_5
      have HC63002_5 := Aside0.mk hl63002_5
      clear hi63002_5 hl63002_5
      have HR63002_6 := Aside0.mk hi63002_6
      have HC63002_6 := Aside0.mk hl63002_6
      clear hi63002_6 hl63002_6
      replace p63002 := eq_true p63002
      replace q63002 := eq_true q63002
      go_wp2_with (first | ((with_reducible refine gate_callee (f := 21) rfl ?_); refine goesL_ (some 16) rfl rfl Try.func21 (by kernel_rfl) rfl #[.agg #[.int .i64 ((rd_T44 l0_0 x3_1).f0), .string ((rd_T44 l0_0 x3_1).f1), .string ((rd_T44 l0_0 x3_1).f2), .int .i64 ((rd_T44 l0_0 x3_1).f3.f0), .string ((rd_T44 l0_0 x3_1).f3.f1), .slice A63002_5 ((rd_T44 l0_0 x3_1).f3.f2).length c63002_5, .slice A63002_6 ((rd_T44 l0_0 x3_1).f4).length c63002_6, .int .i64 ((rd_T44 l0_0 x3_1).f5)]] rfl (by (try simp only [List.map_toArray, List.map_cons, List.map_nil]); first | done | rfl | (simp only [List.length_drop, List.length_take]; rfl)) ?_; (with_reducible refine (spec_IsValidConstraint.calls k1 ((rd_T44 l0_0 x3_1).f0) ((rd_T44 l0_0 x3_1).f1) ((rd_T44 l0_0 x3_1).f2) ((rd_T44 l0_0 x3_1).f3.f0) ((rd_T44 l0_0 x3_1).f3.f1) _ _ ((rd_T44 l0_0 x3_1).f3.f2) _ _ ((rd_T44 l0_0 x3_1).f4) ((rd_T44 l0_0 x3_1).f5) true _ ?side1 ?side2 ?side3 ?side4 A5.out).mono ?_); (case side1 => repeat (first | exact (Kd.C_below HR63002_5.out HB.out) | (with_reducible refine Kd.C_alloc ?_ _) | (with_reducible refine Kd.C_drewN ?_ _) | (with_reducible refine Kd.C_drew ?_))); (case side2 => exact HC63002_5.out); (case side3 => repeat (first | exact (Kd.C_below HR63002_6.out HB.out) | (with_reducible refine Kd.C_alloc ?_ _) | (with_reducible refine Kd.C_drewN ?_ _) | (with_reducible refine Kd.C_drew ?_))); (case side4 => exact HC63002_6.out); rintro e w8 ⟨rfl, hb⟩; refine ⟨_, rfl, ?_⟩; have n0_ := Aside0.mk (blk_below (g := gb63001) (o := .cells #[.slice (some ad63002) l0_0.length c0_0] 29 (0, 0)) (by (with_reducible repeat (first | refine blk_drewN ?_ _ | refine blk_drew ?_ | refine blk_alloc ?_ _)); exact BK63001.out) hb); have n1_ := Aside0.mk (below_step (by repeat (first | (with_reducible first | exact HB.out | apply below_alloc | apply pw_below_drewN | apply below_drew1 | refine below_set ?_ GE63001.out) | exact HB.out)) hb); clear BK63001; clear HB; have BK63001 := n0_; have HB := n1_; clear n0_ n1_; (try clear hb); (try clear hb2); (try clear hk); (try clear hi)))
      go_roundg k1
      case measure => have := HK1.out; omega
      case rel => exact ⟨(wrap64 (x3_1 + 1)), (by first | rfl | (simp; done) | (simp [*]; done)), H', ⟨by have := HK1.out; omega⟩, ⟨by (with_reducible repeat (first | refine blk_drewN ?_ _ | refine blk_drew ?_ | refine blk_alloc ?_ _)); exact BK63001.out⟩, ⟨by repeat (first | (with_reducible first | exact HB.out | apply below_alloc | apply pw_below_drewN | apply below_drew1 | refine below_set ?_ GE63001.out) | exact HB.out)⟩⟩
     ·replace c6 := Bool.eq_false_iff.mpr c6
      subst c6
      have H1 : (some false) = some r := by rw [if_neg (show ¬ (false = true) by decide)] at H; exact H
      clear H
      have H := H1
      clear H1
      obtain rfl := Option.some.inj H
      have hcz9_0 : wr.cell? ⟨gb63001, 0, none⟩ = some (.slice A0_0 l0_0.length c0_0) := (blk_cell BK63001.out 0).trans rfl
      have hfz9_0 := blk_frozen BK63001.out 0
      have p63002 : 0 ≤ (x3_1 : Int) := of_decide_eq_true (by first | (with_reducible assumption) | assumption)
      have q63002 : x3_1 < (l0_0.length : Int) := of_decide_eq_true (by first | (with_reducible assumption) | assumption)
      obtain ⟨ad63002, A63002_5, c63002_5, A63002_6, c63002_6, e63002, hx63002_0, hx63002_1, hx63002_2, hx63002_3, hx63002_4, hx63002_5, hx63002_6, hx63002_7, hl63002_5, hi63002_5, hl63002_6, hi63002_6⟩ := at_T44 HR0_0.out x3_1 p63002 q63002
      cases e63002
      replace hx63002_0 := (HB.out.cell (World.block_lt_of_cell? w _ hx63002_0)).trans hx63002_0
      replace hx63002_1 := (HB.out.cell (World.block_lt_of_cell? w _ hx63002_1)).trans hx63002_1
      replace hx63002_2 := (HB.out.cell (World.block_lt_of_cell? w _ hx63002_2)).trans hx63002_2
      replace hx63002_3 := (HB.out.cell (World.block_lt_of_cell? w _ hx63002_3)).trans hx63002_3
      replace hx63002_4 := (HB.out.cell (World.block_lt_of_cell? w _ hx63002_4)).trans hx63002_4
      replace hx63002_5 := (HB.out.cell (World.block_lt_of_cell? w _ hx63002_5)).trans hx63002_5
      replace hx63002_6 := (HB.out.cell (World.block_lt_of_cell? w _ hx63002_6)).trans hx63002_6
      replace hx63002_7 := (HB.out.cell (World.block_lt_of_cell? w _ hx63002_7)).trans hx63002_7
      have HR63002_5 := Aside0.mk hi63002_5
      have HC63002_5 := Aside0.mk hl63002_5
      clear hi63002_5 hl63002_5
      have HR63002_6 := Aside0.mk hi63002_6
      have HC63002_6 := Aside0.mk hl63002_6
      clear hi63002_6 hl63002_6
      replace p63002 := eq_true p63002
      replace q63002 := eq_true q63002
      go_wp2_with (first | ((with_reducible refine gate_callee (f := 21) rfl ?_); refine goesL_ (some 16) rfl rfl Try.func21 (by kernel_rfl) rfl #[.agg #[.int .i64 ((rd_T44 l0_0 x3_1).f0), .string ((rd_T44 l0_0 x3_1).f1), .string ((rd_T44 l0_0 x3_1).f2), .int .i64 ((rd_T44 l0_0 x3_1).f3.f0), .string ((rd_T44 l0_0 x3_1).f3.f1), .slice A63002_5 ((rd_T44 l0_0 x3_1).f3.f2).length c63002_5, .slice A63002_6 ((rd_T44 l0_0 x3_1).f4).length c63002_6, .int .i64 ((rd_T44 l0_0 x3_1).f5)]] rfl (by (try simp only [List.map_toArray, List.map_cons, List.map_nil]); first | done | rfl | (simp only [List.length_drop, List.length_take]; rfl)) ?_; (with_reducible refine (spec_IsValidConstraint.calls k1 ((rd_T44 l0_0 x3_1).f0) ((rd_T44 l0_0 x3_1).f1) ((rd_T44 l0_0 x3_1).f2) ((rd_T44 l0_0 x3_1).f3.f0) ((rd_T44 l0_0 x3_1).f3.f1) _ _ ((rd_T44 l0_0 x3_1).f3.f2) _ _ ((rd_T44 l0_0 x3_1).f4) ((rd_T44 l0_0 x3_1).f5) false _ ?side1 ?side2 ?side3 ?side4 A5.out).mono ?_); (case side1 => repeat (first | exact (Kd.C_below HR63002_5.out HB.out) | (with_reducible refine Kd.C_alloc ?_ _) | (with_reducible refine Kd.C_drewN ?_ _) | (with_reducible refine Kd.C_drew ?_))); (case side2 => exact HC63002_5.out); (case side3 => repeat (first | exact (Kd.C_below HR63002_6.out HB.out) | (with_reducible refine Kd.C_alloc ?_ _) | (with_reducible refine Kd.C_drewN ?_ _) | (with_reducible refine Kd.C_drew ?_))); (case side4 => exact HC63002_6.out); rintro e w10 ⟨rfl, hb⟩; refine ⟨_, rfl, ?_⟩; have n0_ := Aside0.mk (blk_below (g := gb63001) (o := .cells #[.slice (some ad63002) l0_0.length c0_0] 29 (0, 0)) (by (with_reducible repeat (first | refine blk_drewN ?_ _ | refine blk_drew ?_ | refine blk_alloc ?_ _)); exact BK63001.out) hb); have n1_ := Aside0.mk (below_step (by repeat (first | (with_reducible first | exact HB.out | apply below_alloc | apply pw_below_drewN | apply below_drew1 | refine below_set ?_ GE63001.out) | exact HB.out)) hb); clear BK63001; clear HB; have BK63001 := n0_; have HB := n1_; clear n0_ n1_; (try clear hb); (try clear hb2); (try clear hk); (try clear hi)))
      go_ret
      exact ⟨by first | rfl | (simp [errW_none, errW_some] <;> rfl) | (simp [*, errW_none, errW_some] <;> rfl), by repeat (first | (with_reducible first | exact HB.out | apply below_alloc | apply pw_below_drewN | apply below_drew1 | refine below_set ?_ GE63001.out) | exact HB.out)⟩
    ·rw [if_neg c4] at H
     exact absurd H (by simp)
   ·rw [if_neg c3] at H
    have c3b0 : decide (x3_1 < (l0_0.length : Int)) = false := decide_eq_false c3
    clear c3
    obtain rfl := Option.some.inj H
    have hcz11_0 : wr.cell? ⟨gb63001, 0, none⟩ = some (.slice A0_0 l0_0.length c0_0) := (blk_cell BK63001.out 0).trans rfl
    have hfz11_0 := blk_frozen BK63001.out 0
    go_wp2
    go_ret
    exact ⟨by first | rfl | (simp [errW_none, errW_some] <;> rfl) | (simp [*, errW_none, errW_some] <;> rfl), by repeat (first | (with_reducible first | exact HB.out | apply below_alloc | apply pw_below_drewN | apply below_drew1 | refine below_set ?_ GE63001.out) | exact HB.out)⟩
end Go.Proofs.Ytpppopdmnejcfaa.A
namespace Go.Proofs.Ytpppopdmnejcfaa.A
open Go.RowKit Go.Proofs.Ytpppopdmnejcfaa.Ext Go.Proofs.YtpppopdmnejcfaaW.PrintWords Go.Proofs.YtpppopdmnejcfaaW.PrintLast Go.Proofs.YtpppopdmnejcfaaW.PrintMore
attribute [local go_sem] max2_int min2_int max_two min_two max_three min_three max_four min_four
def spec_l12Side.l0 : Nat → ByteArray → Int → Option (Bool)
 | 0, _, _ => none
 | k + 1, x0, x3 => if x3 < (x0.size : Int) then (if 0 ≤ x3 then ((spec_LetterIndex.f k (bt x0 x3)).bind fun t183001 => (if t183001 < 0 then ((spec_l8Var.f (bt x0 x3)).bind fun t183002 => (if t183002 = true then (spec_l12Side.l0 k x0 (wrap64 (x3 + 1))) else (if (bt x0 x3) = 35 then (spec_l12Side.l0 k x0 (wrap64 (x3 + 1))) else (some false)))) else (spec_l12Side.l0 k x0 (wrap64 (x3 + 1))))) else (none)) else (some (decide ((x0.size : Int) ≤ 24)))
def spec_l12Side.f (k : Nat) (a0 : ByteArray) : Option (Bool) := spec_l12Side.l0 k a0 0
theorem spec_l12Side.mono_l : ∀ k, (∀ y0 y1, LeO (spec_l12Side.l0 k y0 y1) (spec_l12Side.l0 (k + 1) y0 y1))
 | 0 => fun _ _ r h => by simp [spec_l12Side.l0] at h
 | k + 1 => by
  have ih0 := spec_l12Side.mono_l k
  ·intro y0 y1
   unfold spec_l12Side.l0
   repeat' first
   | (with_reducible exact ih0 _ _)
   | (with_reducible exact spec_LetterIndex.mono _ _)
   | (with_reducible exact LeO.refl _)
   | (with_reducible exact LeO.none _)
   | (with_reducible refine LeO.ite ?_ ?_)
   | (with_reducible refine LeO.bind ?_ (fun _ => ?_))
theorem spec_l12Side.mono : ∀ a0 k, LeO (spec_l12Side.f k a0) (spec_l12Side.f (k + 1) a0) := by
 intro a0 k
 have ih0 := spec_l12Side.mono_l k
 unfold spec_l12Side.f
 repeat' first
   | (with_reducible exact ih0 _ _)
   | (with_reducible exact spec_LetterIndex.mono _ _)
   | (with_reducible exact LeO.refl _)
   | (with_reducible exact LeO.none _)
   | (with_reducible refine LeO.ite ?_ ?_)
   | (with_reducible refine LeO.bind ?_ (fun _ => ?_))
theorem spec_l12Side.calls (k : Nat) (a0 : ByteArray) (r : Bool) (w : World) (h : spec_l12Side.f k a0 = some r) :
  Calls Try.prog 183 #[.string a0] w fun e w' => e = .returned (.bool r) ∧ Drawn0 w w' := by
 have H : (spec_l12Side.l0 k a0 0) = some r := h
 clear h
 have H' := Aside0.mk H
 clear H
 go_enter Try.func183, Try.ntmps183
 go_wp2
 first | go_loopg [3] k (fun kq v3 w' => ∃ (x3_1 : Int), v3 = .int .i64 x3_1 ∧ Aside0 (spec_l12Side.l0 kq a0 x3_1 = some r) ∧ Aside0 (kq ≤ k) ∧ Drawn0 w w') | (simp only [Act.put, List.setIfInBounds_toArray, List.set_cons_succ, List.set_cons_zero]; go_loopg [3] k (fun kq v3 w' => ∃ (x3_1 : Int), v3 = .int .i64 x3_1 ∧ Aside0 (spec_l12Side.l0 kq a0 x3_1 = some r) ∧ Aside0 (kq ≤ k) ∧ Drawn0 w w'))
 case atStart => exact ⟨(0), (by first | rfl | (simp; done) | (simp [*]; done)), H', ⟨Nat.le_refl _⟩, by repeat (first | exact Drawn0.refl _ | apply Drawn0.step)⟩
 case round =>
  clear H'
  try clear c1
  obtain ⟨x3_1, rfl, HA, HK1, ⟨m1, rfl⟩⟩ := hrel
  cases gk with
  | zero => exact absurd HA.out (by simp [spec_l12Side.l0])
  | succ k1 =>
   have H := HA.out
   clear HA
   simp only [spec_l12Side.l0] at H
   by_cases c2 : x3_1 < (a0.size : Int)
   ·rw [if_pos c2] at H
    have c2b0 : decide (x3_1 < (a0.size : Int)) = true := decide_eq_true c2
    clear c2
    by_cases c3 : 0 ≤ x3_1
    ·rw [if_pos c3] at H
     have c3b0 : decide (0 ≤ x3_1) = true := decide_eq_true c3
     clear c3
     replace H := Option.bind_eq_some_iff.mp H
     obtain ⟨t183001, A50, H⟩ := H
     replace H : (if t183001 < 0 then ((spec_l8Var.f (bt a0 x3_1)).bind fun t183002 => (if t183002 = true then (spec_l12Side.l0 k1 a0 (wrap64 (x3_1 + 1))) else (if (bt a0 x3_1) = 35 then (spec_l12Side.l0 k1 a0 (wrap64 (x3_1 + 1))) else (some false)))) else (spec_l12Side.l0 k1 a0 (wrap64 (x3_1 + 1)))) = some r := H
     have A5 := Aside0.mk A50
     clear A50
     by_cases c6 : t183001 < 0
     ·rw [if_pos c6] at H
      have c6b0 : decide (t183001 < 0) = true := decide_eq_true c6
      clear c6
      replace H := Option.bind_eq_some_iff.mp H
      obtain ⟨t183002, A80, H⟩ := H
      replace H : (if t183002 = true then (spec_l12Side.l0 k1 a0 (wrap64 (x3_1 + 1))) else (if (bt a0 x3_1) = 35 then (spec_l12Side.l0 k1 a0 (wrap64 (x3_1 + 1))) else (some false))) = some r := H
      have A8 := Aside0.mk A80
      clear A80
      by_cases c9 : t183002 = true
      ·subst c9
       have H1 : (spec_l12Side.l0 k1 a0 (wrap64 (x3_1 + 1))) = some r := by rw [if_pos rfl] at H; exact H
       clear H
       have H := H1
       clear H1
       have H' := Aside0.mk H
       clear H
       have p4 : 0 ≤ (x3_1 : Int) := of_decide_eq_true (by first | (with_reducible assumption) | assumption)
       have q4 : x3_1 < (a0.size : Int) := of_decide_eq_true (by first | (with_reducible assumption) | assumption)
       have hx4 := bt_at a0 x3_1
       replace p4 := eq_true p4
       replace q4 := eq_true q4
       go_wp2_with (first | ((with_reducible refine gate_callee (f := 141) rfl ?_); refine goesL_ (some 13) rfl rfl Try.func141 (by kernel_rfl) rfl #[.int .u8 (bt a0 x3_1)] rfl (by (try simp only [List.map_toArray, List.map_cons, List.map_nil]); first | done | rfl | (simp only [List.length_drop, List.length_take]; rfl)) ?_; (with_reducible refine (spec_LetterIndex.calls k1 (bt a0 x3_1) t183001 _ A5.out).mono ?_); rintro e w' ⟨rfl, ⟨nd, rfl⟩⟩; refine ⟨_, rfl, ?_⟩; have p7 : 0 ≤ (x3_1 : Int) := of_decide_eq_true (by first | (with_reducible assumption) | assumption); have q7 : x3_1 < (a0.size : Int) := of_decide_eq_true (by first | (with_reducible assumption) | assumption); have hx7 := bt_at a0 x3_1; replace p7 := eq_true p7; replace q7 := eq_true q7) | (go_at_call 137; (with_reducible refine (spec_l8Var.calls (bt a0 x3_1) true _ A8.out).mono ?_); rintro e w' ⟨rfl, ⟨nd, rfl⟩⟩))
       go_roundg k1
       case measure => have := HK1.out; omega
       case rel => exact ⟨(wrap64 (x3_1 + 1)), (by first | rfl | (simp; done) | (simp [*]; done)), H', ⟨by have := HK1.out; omega⟩, by repeat (first | exact Drawn0.refl _ | apply Drawn0.step)⟩
      ·replace c9 := Bool.eq_false_iff.mpr c9
       subst c9
       have H1 : (if (bt a0 x3_1) = 35 then (spec_l12Side.l0 k1 a0 (wrap64 (x3_1 + 1))) else (some false)) = some r := by rw [if_neg (show ¬ (false = true) by decide)] at H; exact H
       clear H
       have H := H1
       clear H1
       by_cases c11 : (bt a0 x3_1) = 35
       ·rw [if_pos c11] at H
        have c11b0 : ((bt a0 x3_1) == 35) = true := beq_iff_eq.mpr c11
        have c11b1 : ((bt a0 x3_1) != 35) = false := bne_eq_false_iff_eq.mpr c11
        clear c11
        have H' := Aside0.mk H
        clear H
        have p4 : 0 ≤ (x3_1 : Int) := of_decide_eq_true (by first | (with_reducible assumption) | assumption)
        have q4 : x3_1 < (a0.size : Int) := of_decide_eq_true (by first | (with_reducible assumption) | assumption)
        have hx4 := bt_at a0 x3_1
        replace p4 := eq_true p4
        replace q4 := eq_true q4
        go_wp2_with (first | ((with_reducible refine gate_callee (f := 141) rfl ?_); refine goesL_ (some 13) rfl rfl Try.func141 (by kernel_rfl) rfl #[.int .u8 (bt a0 x3_1)] rfl (by (try simp only [List.map_toArray, List.map_cons, List.map_nil]); first | done | rfl | (simp only [List.length_drop, List.length_take]; rfl)) ?_; (with_reducible refine (spec_LetterIndex.calls k1 (bt a0 x3_1) t183001 _ A5.out).mono ?_); rintro e w' ⟨rfl, ⟨nd, rfl⟩⟩; refine ⟨_, rfl, ?_⟩; have p7 : 0 ≤ (x3_1 : Int) := of_decide_eq_true (by first | (with_reducible assumption) | assumption); have q7 : x3_1 < (a0.size : Int) := of_decide_eq_true (by first | (with_reducible assumption) | assumption); have hx7 := bt_at a0 x3_1; replace p7 := eq_true p7; replace q7 := eq_true q7) | (go_at_call 137; (with_reducible refine (spec_l8Var.calls (bt a0 x3_1) false _ A8.out).mono ?_); rintro e w' ⟨rfl, ⟨nd, rfl⟩⟩; have p10 : 0 ≤ (x3_1 : Int) := of_decide_eq_true (by first | (with_reducible assumption) | assumption); have q10 : x3_1 < (a0.size : Int) := of_decide_eq_true (by first | (with_reducible assumption) | assumption); have hx10 := bt_at a0 x3_1; replace p10 := eq_true p10; replace q10 := eq_true q10))
        go_roundg k1
        case measure => have := HK1.out; omega
        case rel => exact ⟨(wrap64 (x3_1 + 1)), (by first | rfl | (simp; done) | (simp [*]; done)), H', ⟨by have := HK1.out; omega⟩, by repeat (first | exact Drawn0.refl _ | apply Drawn0.step)⟩
       ·rw [if_neg c11] at H
        have c11b0 : ((bt a0 x3_1) == 35) = false := beq_eq_false_iff_ne.mpr c11
        have c11b1 : ((bt a0 x3_1) != 35) = true := bne_iff_ne.mpr c11
        obtain rfl := Option.some.inj H
        have p4 : 0 ≤ (x3_1 : Int) := of_decide_eq_true (by first | (with_reducible assumption) | assumption)
        have q4 : x3_1 < (a0.size : Int) := of_decide_eq_true (by first | (with_reducible assumption) | assumption)
        have hx4 := bt_at a0 x3_1
        replace p4 := eq_true p4
        replace q4 := eq_true q4
        go_wp2_with (first | ((with_reducible refine gate_callee (f := 141) rfl ?_); refine goesL_ (some 13) rfl rfl Try.func141 (by kernel_rfl) rfl #[.int .u8 (bt a0 x3_1)] rfl (by (try simp only [List.map_toArray, List.map_cons, List.map_nil]); first | done | rfl | (simp only [List.length_drop, List.length_take]; rfl)) ?_; (with_reducible refine (spec_LetterIndex.calls k1 (bt a0 x3_1) t183001 _ A5.out).mono ?_); rintro e w' ⟨rfl, ⟨nd, rfl⟩⟩; refine ⟨_, rfl, ?_⟩; have p7 : 0 ≤ (x3_1 : Int) := of_decide_eq_true (by first | (with_reducible assumption) | assumption); have q7 : x3_1 < (a0.size : Int) := of_decide_eq_true (by first | (with_reducible assumption) | assumption); have hx7 := bt_at a0 x3_1; replace p7 := eq_true p7; replace q7 := eq_true q7) | (go_at_call 137; (with_reducible refine (spec_l8Var.calls (bt a0 x3_1) false _ A8.out).mono ?_); rintro e w' ⟨rfl, ⟨nd, rfl⟩⟩; have p10 : 0 ≤ (x3_1 : Int) := of_decide_eq_true (by first | (with_reducible assumption) | assumption); have q10 : x3_1 < (a0.size : Int) := of_decide_eq_true (by first | (with_reducible assumption) | assumption); have hx10 := bt_at a0 x3_1; replace p10 := eq_true p10; replace q10 := eq_true q10))
        go_ret
        exact ⟨by first | rfl | (simp; done) | (simp [*]; done), by repeat (first | exact Drawn0.refl _ | apply Drawn0.step)⟩
     ·rw [if_neg c6] at H
      have c6b0 : decide (t183001 < 0) = false := decide_eq_false c6
      clear c6
      have H' := Aside0.mk H
      clear H
      have p4 : 0 ≤ (x3_1 : Int) := of_decide_eq_true (by first | (with_reducible assumption) | assumption)
      have q4 : x3_1 < (a0.size : Int) := of_decide_eq_true (by first | (with_reducible assumption) | assumption)
      have hx4 := bt_at a0 x3_1
      replace p4 := eq_true p4
      replace q4 := eq_true q4
      go_wp2_with (first | ((with_reducible refine gate_callee (f := 141) rfl ?_); refine goesL_ (some 13) rfl rfl Try.func141 (by kernel_rfl) rfl #[.int .u8 (bt a0 x3_1)] rfl (by (try simp only [List.map_toArray, List.map_cons, List.map_nil]); first | done | rfl | (simp only [List.length_drop, List.length_take]; rfl)) ?_; (with_reducible refine (spec_LetterIndex.calls k1 (bt a0 x3_1) t183001 _ A5.out).mono ?_); rintro e w' ⟨rfl, ⟨nd, rfl⟩⟩; refine ⟨_, rfl, ?_⟩))
      go_roundg k1
      case measure => have := HK1.out; omega
      case rel => exact ⟨(wrap64 (x3_1 + 1)), (by first | rfl | (simp; done) | (simp [*]; done)), H', ⟨by have := HK1.out; omega⟩, by repeat (first | exact Drawn0.refl _ | apply Drawn0.step)⟩
    ·rw [if_neg c3] at H
     exact absurd H (by simp)
   ·rw [if_neg c2] at H
    have c2b0 : decide (x3_1 < (a0.size : Int)) = false := decide_eq_false c2
    clear c2
    obtain rfl := Option.some.inj H
    go_wp2
    go_ret
    exact ⟨by first | rfl | (simp; done) | (simp [*]; done), by repeat (first | exact Drawn0.refl _ | apply Drawn0.step)⟩
def spec_IsEquation.f (k : Nat) (a0_0 : ByteArray) (a0_1 : ByteArray) : Option (Bool) := (spec_l12Side.f k a0_0).bind fun t150002 => (if t150002 = true then ((spec_l12Side.f k a0_1).bind fun t150003 => (some t150003)) else (some false))
theorem spec_IsEquation.mono : ∀ a0 a1 k, LeO (spec_IsEquation.f k a0 a1) (spec_IsEquation.f (k + 1) a0 a1) := by
 intro a0 a1 k
 unfold spec_IsEquation.f
 repeat' first
   | (with_reducible exact spec_l12Side.mono _ _)
   | (with_reducible exact LeO.refl _)
   | (with_reducible exact LeO.none _)
   | (with_reducible refine LeO.ite ?_ ?_)
   | (with_reducible refine LeO.bind ?_ (fun _ => ?_))
theorem spec_IsEquation.calls (k : Nat) (a0_0 : ByteArray) (a0_1 : ByteArray) (r : Bool) (w : World) (h : spec_IsEquation.f k a0_0 a0_1 = some r) :
  Calls Try.prog 150 #[.agg #[.string a0_0, .string a0_1]] w fun e w' => e = .returned (.bool r) ∧ Below w.heap.size w w' := by
 have hu58 := Try.underlying58
 have HB := Aside0.mk (Below.refl w.heap.size w)
 have H : ((spec_l12Side.f k a0_0).bind fun t150002 => (if t150002 = true then ((spec_l12Side.f k a0_1).bind fun t150003 => (some t150003)) else (some false))) = some r := h
 clear h
 replace H := Option.bind_eq_some_iff.mp H
 obtain ⟨t150002, A20, H⟩ := H
 replace H : (if t150002 = true then ((spec_l12Side.f k a0_1).bind fun t150003 => (some t150003)) else (some false)) = some r := H
 have A2 := Aside0.mk A20
 clear A20
 by_cases c3 : t150002 = true
 ·subst c3
  have H1 : ((spec_l12Side.f k a0_1).bind fun t150003 => (some t150003)) = some r := by rw [if_pos rfl] at H; exact H
  clear H
  have H := H1
  clear H1
  replace H := Option.bind_eq_some_iff.mp H
  obtain ⟨t150003, A40, H⟩ := H
  replace H : (some t150003) = some r := H
  have A4 := Aside0.mk A40
  clear A40
  obtain rfl := Option.some.inj H
  go_enter Try.func150, Try.ntmps150
  go_wp2_with (first | ((with_reducible refine gate_dst (N := 1) rfl ?_); refine box_event ?hg (N := 1) ?hd (cs := #[.string a0_0, .string a0_1]) (t := 58) ?hr ?_; (case hd => rfl); (case hg => rfl); (case hr => first | (go_simp; done) | (go_simp; rfl)); intro gb150001 hg w5 hbox hb; have n0_ := Aside0.mk (below_step (by repeat (first | (with_reducible first | exact HB.out | apply below_alloc | apply pw_below_drewN | apply below_drew1) | exact HB.out)) hb); have n1_ := Aside0.mk (hbox); have n2_ := Aside0.mk ((by rw [hg]; exact (below_size (by repeat (first | (with_reducible first | exact HB.out | apply below_alloc | apply pw_below_drewN | apply below_drew1) | exact HB.out))) : w.heap.size ≤ gb150001)); have n3_ := Aside0.mk ((by rw [hg]; exact (below_size (by repeat (first | (with_reducible first | exact HB.out | apply below_alloc | apply pw_below_drewN | apply below_drew1) | exact HB.out))) : w.heap.size ≤ gb150001)); clear HB; have HB := n0_; have BK150001 := n1_; have GW150001 := n2_; have GE150001 := n3_; clear n0_ n1_ n2_ n3_; clear hb hbox hg; have hcz6_0 : w5.cell? ⟨gb150001, 0, none⟩ = some (.string a0_0) := (blk_cell BK150001.out 0).trans rfl; have hcz6_1 : w5.cell? ⟨gb150001, 1, none⟩ = some (.string a0_1) := (blk_cell BK150001.out 1).trans rfl; have hfz6_0 := blk_frozen BK150001.out 0; have hfz6_1 := blk_frozen BK150001.out 1) | ((with_reducible refine gate_callee (f := 183) rfl ?_); refine goesL_ (some 5) rfl rfl Try.func183 (by kernel_rfl) rfl #[.string a0_0] rfl (by (try simp only [List.map_toArray, List.map_cons, List.map_nil]); first | done | rfl | (simp only [List.length_drop, List.length_take]; rfl)) ?_; (with_reducible refine (spec_l12Side.calls k a0_0 true _ A2.out).mono ?_); rintro e w' ⟨rfl, ⟨nd, rfl⟩⟩; refine ⟨_, rfl, ?_⟩) | (go_at_call 183; (with_reducible refine (spec_l12Side.calls k a0_1 t150003 _ A4.out).mono ?_); rintro e w' ⟨rfl, ⟨nd, rfl⟩⟩))
  go_ret
  exact ⟨by first | rfl | (simp [errW_none, errW_some] <;> rfl) | (simp [*, errW_none, errW_some] <;> rfl), by repeat (first | (with_reducible first | exact HB.out | apply below_alloc | apply pw_below_drewN | apply below_drew1 | refine below_set ?_ GE150001.out) | exact HB.out)⟩
 ·replace c3 := Bool.eq_false_iff.mpr c3
  subst c3
  have H1 : (some false) = some r := by rw [if_neg (show ¬ (false = true) by decide)] at H; exact H
  clear H
  have H := H1
  clear H1
  obtain rfl := Option.some.inj H
  go_enter Try.func150, Try.ntmps150
  go_wp2_with (first | ((with_reducible refine gate_dst (N := 1) rfl ?_); refine box_event ?hg (N := 1) ?hd (cs := #[.string a0_0, .string a0_1]) (t := 58) ?hr ?_; (case hd => rfl); (case hg => rfl); (case hr => first | (go_simp; done) | (go_simp; rfl)); intro gb150001 hg w7 hbox hb; have n0_ := Aside0.mk (below_step (by repeat (first | (with_reducible first | exact HB.out | apply below_alloc | apply pw_below_drewN | apply below_drew1) | exact HB.out)) hb); have n1_ := Aside0.mk (hbox); have n2_ := Aside0.mk ((by rw [hg]; exact (below_size (by repeat (first | (with_reducible first | exact HB.out | apply below_alloc | apply pw_below_drewN | apply below_drew1) | exact HB.out))) : w.heap.size ≤ gb150001)); have n3_ := Aside0.mk ((by rw [hg]; exact (below_size (by repeat (first | (with_reducible first | exact HB.out | apply below_alloc | apply pw_below_drewN | apply below_drew1) | exact HB.out))) : w.heap.size ≤ gb150001)); clear HB; have HB := n0_; have BK150001 := n1_; have GW150001 := n2_; have GE150001 := n3_; clear n0_ n1_ n2_ n3_; clear hb hbox hg; have hcz8_0 : w7.cell? ⟨gb150001, 0, none⟩ = some (.string a0_0) := (blk_cell BK150001.out 0).trans rfl; have hcz8_1 : w7.cell? ⟨gb150001, 1, none⟩ = some (.string a0_1) := (blk_cell BK150001.out 1).trans rfl; have hfz8_0 := blk_frozen BK150001.out 0; have hfz8_1 := blk_frozen BK150001.out 1) | ((with_reducible refine gate_callee (f := 183) rfl ?_); refine goesL_ (some 5) rfl rfl Try.func183 (by kernel_rfl) rfl #[.string a0_0] rfl (by (try simp only [List.map_toArray, List.map_cons, List.map_nil]); first | done | rfl | (simp only [List.length_drop, List.length_take]; rfl)) ?_; (with_reducible refine (spec_l12Side.calls k a0_0 false _ A2.out).mono ?_); rintro e w' ⟨rfl, ⟨nd, rfl⟩⟩; refine ⟨_, rfl, ?_⟩))
  go_ret
  exact ⟨by first | rfl | (simp [errW_none, errW_some] <;> rfl) | (simp [*, errW_none, errW_some] <;> rfl), by repeat (first | (with_reducible first | exact HB.out | apply below_alloc | apply pw_below_drewN | apply below_drew1 | refine below_set ?_ GE150001.out) | exact HB.out)⟩
end Go.Proofs.Ytpppopdmnejcfaa.A
