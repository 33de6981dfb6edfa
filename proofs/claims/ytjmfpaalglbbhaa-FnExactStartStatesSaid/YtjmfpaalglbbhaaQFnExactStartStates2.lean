/- FnExactStartStates: what its proof needs, put together by this session's program wip/merge.py out of the texts that wip/xp.py printed and of this session's own. -/
import Derived.Test.YtjmfpaalglbbhaaQFnExactStartStates1
import Derived.Test.YtjmfpaalglbbhaaProg
set_option linter.unusedVariables false
set_option linter.unusedSimpArgs false
set_option maxHeartbeats 8000000
set_option maxRecDepth 100000
namespace Go.Proofs.Ytjmfpaalglbbhaa.A
open Go.RowKit Go.Proofs.Ytjmfpaalglbbhaa.Ext Go.Proofs.YtjmfpaalglbbhaaW.PrintWords Go.Proofs.YtjmfpaalglbbhaaW.PrintLast Go.Proofs.YtjmfpaalglbbhaaW.PrintMore
attribute [local go_sem] max2_int min2_int max_two min_two max_three min_three max_four min_four
def laws_szFrame.f (k : Nat) (a0_0 : ByteArray) (a0_1 : ByteArray) (l0_2 : List (List Int)) (l0_3 : List Int) (l0_4 : List (List Int)) (l0_5 : List (List Int)) (a1 : Int) : Option (Int) := (laws_szEquation.f a0_0 a0_1 a1).bind fun t7002 => (if t7002 < 0 then (some (-1)) else ((laws_szMonoid.f k l0_2 l0_3 l0_4 t7002).bind fun t7003 => (if t7003 < 0 then (some (-1)) else ((laws_szIntSS.f k l0_5 t7003).bind fun t7004 => (if t7004 < 0 then (some (-1)) else (some t7004))))))
theorem laws_szFrame.mono : ∀ a0 a1 a2 a3 a4 a5 a6 k, LeO (laws_szFrame.f k a0 a1 a2 a3 a4 a5 a6) (laws_szFrame.f (k + 1) a0 a1 a2 a3 a4 a5 a6) := by
 intro a0 a1 a2 a3 a4 a5 a6 k
 unfold laws_szFrame.f
 repeat' first
   | (with_reducible exact laws_szIntSS.mono _ _ _)
   | (with_reducible exact laws_szMonoid.mono _ _ _ _ _)
   | (with_reducible exact LeO.refl _)
   | (with_reducible exact LeO.none _)
   | (with_reducible refine LeO.ite ?_ ?_)
   | (with_reducible refine LeO.bind ?_ (fun _ => ?_))
theorem laws_szFrame.calls (k : Nat) (a0_0 : ByteArray) (a0_1 : ByteArray) (A0_2 : Option Addr) (c0_2 : Nat) (l0_2 : List (List Int)) (A0_3 : Option Addr) (c0_3 : Nat) (l0_3 : List Int) (A0_4 : Option Addr) (c0_4 : Nat) (l0_4 : List (List Int)) (A0_5 : Option Addr) (c0_5 : Nat) (l0_5 : List (List Int)) (a1 : Int) (r : Int) (w : World) (hr0_2 : Kd.C (Kd.slice 3 (Kd.int .i64)) w A0_2 l0_2.length l0_2) (hc0_2 : l0_2.length ≤ c0_2) (hr0_3 : Kd.C (Kd.int .i64) w A0_3 l0_3.length l0_3) (hc0_3 : l0_3.length ≤ c0_3) (hr0_4 : Kd.C (Kd.slice 3 (Kd.int .i64)) w A0_4 l0_4.length l0_4) (hc0_4 : l0_4.length ≤ c0_4) (hr0_5 : Kd.C (Kd.slice 3 (Kd.int .i64)) w A0_5 l0_5.length l0_5) (hc0_5 : l0_5.length ≤ c0_5) (h : laws_szFrame.f k a0_0 a0_1 l0_2 l0_3 l0_4 l0_5 a1 = some r) :
  Calls Try.prog 7 #[.agg #[.string a0_0, .string a0_1, .slice A0_2 l0_2.length c0_2, .slice A0_3 l0_3.length c0_3, .slice A0_4 l0_4.length c0_4, .slice A0_5 l0_5.length c0_5], .int .i64 a1] w fun e w' => e = .returned (.int .i64 r) ∧ Below w.heap.size w w' := by
 have hu29 := Try.underlying29
 have hu23 := Try.underlying23
 have hu27 := Try.underlying27
 have HR0_2 := Aside0.mk hr0_2
 have HC0_2 := Aside0.mk hc0_2
 clear hr0_2 hc0_2
 have HR0_3 := Aside0.mk hr0_3
 have HC0_3 := Aside0.mk hc0_3
 clear hr0_3 hc0_3
 have HR0_4 := Aside0.mk hr0_4
 have HC0_4 := Aside0.mk hc0_4
 clear hr0_4 hc0_4
 have HR0_5 := Aside0.mk hr0_5
 have HC0_5 := Aside0.mk hc0_5
 clear hr0_5 hc0_5
 have HB := Aside0.mk (Below.refl w.heap.size w)
 have H : ((laws_szEquation.f a0_0 a0_1 a1).bind fun t7002 => (if t7002 < 0 then (some (-1)) else ((laws_szMonoid.f k l0_2 l0_3 l0_4 t7002).bind fun t7003 => (if t7003 < 0 then (some (-1)) else ((laws_szIntSS.f k l0_5 t7003).bind fun t7004 => (if t7004 < 0 then (some (-1)) else (some t7004))))))) = some r := h
 clear h
 replace H := Option.bind_eq_some_iff.mp H
 obtain ⟨t7002, A30, H⟩ := H
 replace H : (if t7002 < 0 then (some (-1)) else ((laws_szMonoid.f k l0_2 l0_3 l0_4 t7002).bind fun t7003 => (if t7003 < 0 then (some (-1)) else ((laws_szIntSS.f k l0_5 t7003).bind fun t7004 => (if t7004 < 0 then (some (-1)) else (some t7004)))))) = some r := H
 have A3 := Aside0.mk A30
 clear A30
 by_cases c4 : t7002 < 0
 ·rw [if_pos c4] at H
  have c4b0 : decide (t7002 < 0) = true := decide_eq_true c4
  clear c4
  obtain rfl := Option.some.inj H
  go_enter Try.func7, Try.ntmps7
  go_wp2_with (first | ((with_reducible refine gate_dst (N := 2) rfl ?_); refine box_event ?hg (N := 2) ?hd (cs := #[.string a0_0, .string a0_1, .slice A0_2 l0_2.length c0_2, .slice A0_3 l0_3.length c0_3, .slice A0_4 l0_4.length c0_4, .slice A0_5 l0_5.length c0_5]) (t := 29) ?hr ?_; (case hd => rfl); (case hg => rfl); (case hr => first | (go_simp; done) | (go_simp; rfl)); intro gb7001 hg w5 hbox hb; have n0_ := Aside0.mk (below_step (by repeat (first | (with_reducible first | exact HB.out | apply below_alloc | apply pw_below_drewN | apply below_drew1) | exact HB.out)) hb); have n1_ := Aside0.mk (hbox); have n2_ := Aside0.mk ((by rw [hg]; exact (below_size (by repeat (first | (with_reducible first | exact HB.out | apply below_alloc | apply pw_below_drewN | apply below_drew1) | exact HB.out))) : w.heap.size ≤ gb7001)); have n3_ := Aside0.mk ((by rw [hg]; exact (below_size (by repeat (first | (with_reducible first | exact HB.out | apply below_alloc | apply pw_below_drewN | apply below_drew1) | exact HB.out))) : w.heap.size ≤ gb7001)); clear HB; have HB := n0_; have BK7001 := n1_; have GW7001 := n2_; have GE7001 := n3_; clear n0_ n1_ n2_ n3_; clear hb hbox hg; have hcz6_0 : w5.cell? ⟨gb7001, 0, none⟩ = some (.string a0_0) := (blk_cell BK7001.out 0).trans rfl; have hcz6_1 : w5.cell? ⟨gb7001, 1, none⟩ = some (.string a0_1) := (blk_cell BK7001.out 1).trans rfl; have hcz6_2 : w5.cell? ⟨gb7001, 2, none⟩ = some (.slice A0_2 l0_2.length c0_2) := (blk_cell BK7001.out 2).trans rfl; have hcz6_3 : w5.cell? ⟨gb7001, 3, none⟩ = some (.slice A0_3 l0_3.length c0_3) := (blk_cell BK7001.out 3).trans rfl; have hcz6_4 : w5.cell? ⟨gb7001, 4, none⟩ = some (.slice A0_4 l0_4.length c0_4) := (blk_cell BK7001.out 4).trans rfl; have hcz6_5 : w5.cell? ⟨gb7001, 5, none⟩ = some (.slice A0_5 l0_5.length c0_5) := (blk_cell BK7001.out 5).trans rfl; have hfz6_0 := blk_frozen BK7001.out 0; have hfz6_1 := blk_frozen BK7001.out 1; have hfz6_2 := blk_frozen BK7001.out 2; have hfz6_3 := blk_frozen BK7001.out 3; have hfz6_4 := blk_frozen BK7001.out 4; have hfz6_5 := blk_frozen BK7001.out 5) | ((with_reducible refine gate_callee (f := 43) rfl ?_); refine goesL_ (some 8) rfl rfl Try.func43 (by kernel_rfl) rfl #[.agg #[.string a0_0, .string a0_1], .int .i64 a1] rfl (by (try simp only [List.map_toArray, List.map_cons, List.map_nil]); first | done | rfl | (simp only [List.length_drop, List.length_take]; rfl)) ?_; (with_reducible refine (laws_szEquation.calls a0_0 a0_1 a1 t7002 _ A3.out).mono ?_); rintro e w7 ⟨rfl, hb⟩; refine ⟨_, rfl, ?_⟩; have n0_ := Aside0.mk (blk_below (g := gb7001) (o := .cells #[.string a0_0, .string a0_1, .slice A0_2 l0_2.length c0_2, .slice A0_3 l0_3.length c0_3, .slice A0_4 l0_4.length c0_4, .slice A0_5 l0_5.length c0_5] 29 (0, 0)) (by (with_reducible repeat (first | refine blk_drewN ?_ _ | refine blk_drew ?_ | refine blk_alloc ?_ _)); exact BK7001.out) hb); have n1_ := Aside0.mk (below_step (by repeat (first | (with_reducible first | exact HB.out | apply below_alloc | apply pw_below_drewN | apply below_drew1 | refine below_set ?_ GE7001.out) | exact HB.out)) hb); clear BK7001; clear HB; have BK7001 := n0_; have HB := n1_; clear n0_ n1_; (try clear hb); (try clear hb2); (try clear hk); (try clear hi)))
  go_ret
  exact ⟨by first | rfl | (simp [errW_none, errW_some] <;> rfl) | (simp [*, errW_none, errW_some] <;> rfl), by repeat (first | (with_reducible first | exact HB.out | apply below_alloc | apply pw_below_drewN | apply below_drew1 | refine below_set ?_ GE7001.out) | exact HB.out)⟩
 ·rw [if_neg c4] at H
  have c4b0 : decide (t7002 < 0) = false := decide_eq_false c4
  clear c4
  replace H := Option.bind_eq_some_iff.mp H
  obtain ⟨t7003, A80, H⟩ := H
  replace H : (if t7003 < 0 then (some (-1)) else ((laws_szIntSS.f k l0_5 t7003).bind fun t7004 => (if t7004 < 0 then (some (-1)) else (some t7004)))) = some r := H
  have A8 := Aside0.mk A80
  clear A80
  by_cases c9 : t7003 < 0
  ·rw [if_pos c9] at H
   have c9b0 : decide (t7003 < 0) = true := decide_eq_true c9
   clear c9
   obtain rfl := Option.some.inj H
   go_enter Try.func7, Try.ntmps7
   go_wp2_with (first | ((with_reducible refine gate_dst (N := 2) rfl ?_); refine box_event ?hg (N := 2) ?hd (cs := #[.string a0_0, .string a0_1, .slice A0_2 l0_2.length c0_2, .slice A0_3 l0_3.length c0_3, .slice A0_4 l0_4.length c0_4, .slice A0_5 l0_5.length c0_5]) (t := 29) ?hr ?_; (case hd => rfl); (case hg => rfl); (case hr => first | (go_simp; done) | (go_simp; rfl)); intro gb7001 hg w10 hbox hb; have n0_ := Aside0.mk (below_step (by repeat (first | (with_reducible first | exact HB.out | apply below_alloc | apply pw_below_drewN | apply below_drew1) | exact HB.out)) hb); have n1_ := Aside0.mk (hbox); have n2_ := Aside0.mk ((by rw [hg]; exact (below_size (by repeat (first | (with_reducible first | exact HB.out | apply below_alloc | apply pw_below_drewN | apply below_drew1) | exact HB.out))) : w.heap.size ≤ gb7001)); have n3_ := Aside0.mk ((by rw [hg]; exact (below_size (by repeat (first | (with_reducible first | exact HB.out | apply below_alloc | apply pw_below_drewN | apply below_drew1) | exact HB.out))) : w.heap.size ≤ gb7001)); clear HB; have HB := n0_; have BK7001 := n1_; have GW7001 := n2_; have GE7001 := n3_; clear n0_ n1_ n2_ n3_; clear hb hbox hg; have hcz11_0 : w10.cell? ⟨gb7001, 0, none⟩ = some (.string a0_0) := (blk_cell BK7001.out 0).trans rfl; have hcz11_1 : w10.cell? ⟨gb7001, 1, none⟩ = some (.string a0_1) := (blk_cell BK7001.out 1).trans rfl; have hcz11_2 : w10.cell? ⟨gb7001, 2, none⟩ = some (.slice A0_2 l0_2.length c0_2) := (blk_cell BK7001.out 2).trans rfl; have hcz11_3 : w10.cell? ⟨gb7001, 3, none⟩ = some (.slice A0_3 l0_3.length c0_3) := (blk_cell BK7001.out 3).trans rfl; have hcz11_4 : w10.cell? ⟨gb7001, 4, none⟩ = some (.slice A0_4 l0_4.length c0_4) := (blk_cell BK7001.out 4).trans rfl; have hcz11_5 : w10.cell? ⟨gb7001, 5, none⟩ = some (.slice A0_5 l0_5.length c0_5) := (blk_cell BK7001.out 5).trans rfl; have hfz11_0 := blk_frozen BK7001.out 0; have hfz11_1 := blk_frozen BK7001.out 1; have hfz11_2 := blk_frozen BK7001.out 2; have hfz11_3 := blk_frozen BK7001.out 3; have hfz11_4 := blk_frozen BK7001.out 4; have hfz11_5 := blk_frozen BK7001.out 5) | ((with_reducible refine gate_callee (f := 43) rfl ?_); refine goesL_ (some 8) rfl rfl Try.func43 (by kernel_rfl) rfl #[.agg #[.string a0_0, .string a0_1], .int .i64 a1] rfl (by (try simp only [List.map_toArray, List.map_cons, List.map_nil]); first | done | rfl | (simp only [List.length_drop, List.length_take]; rfl)) ?_; (with_reducible refine (laws_szEquation.calls a0_0 a0_1 a1 t7002 _ A3.out).mono ?_); rintro e w12 ⟨rfl, hb⟩; refine ⟨_, rfl, ?_⟩; have n0_ := Aside0.mk (blk_below (g := gb7001) (o := .cells #[.string a0_0, .string a0_1, .slice A0_2 l0_2.length c0_2, .slice A0_3 l0_3.length c0_3, .slice A0_4 l0_4.length c0_4, .slice A0_5 l0_5.length c0_5] 29 (0, 0)) (by (with_reducible repeat (first | refine blk_drewN ?_ _ | refine blk_drew ?_ | refine blk_alloc ?_ _)); exact BK7001.out) hb); have n1_ := Aside0.mk (below_step (by repeat (first | (with_reducible first | exact HB.out | apply below_alloc | apply pw_below_drewN | apply below_drew1 | refine below_set ?_ GE7001.out) | exact HB.out)) hb); clear BK7001; clear HB; have BK7001 := n0_; have HB := n1_; clear n0_ n1_; (try clear hb); (try clear hb2); (try clear hk); (try clear hi); have hcz13_0 : w12.cell? ⟨gb7001, 0, none⟩ = some (.string a0_0) := (blk_cell BK7001.out 0).trans rfl; have hcz13_1 : w12.cell? ⟨gb7001, 1, none⟩ = some (.string a0_1) := (blk_cell BK7001.out 1).trans rfl; have hcz13_2 : w12.cell? ⟨gb7001, 2, none⟩ = some (.slice A0_2 l0_2.length c0_2) := (blk_cell BK7001.out 2).trans rfl; have hcz13_3 : w12.cell? ⟨gb7001, 3, none⟩ = some (.slice A0_3 l0_3.length c0_3) := (blk_cell BK7001.out 3).trans rfl; have hcz13_4 : w12.cell? ⟨gb7001, 4, none⟩ = some (.slice A0_4 l0_4.length c0_4) := (blk_cell BK7001.out 4).trans rfl; have hcz13_5 : w12.cell? ⟨gb7001, 5, none⟩ = some (.slice A0_5 l0_5.length c0_5) := (blk_cell BK7001.out 5).trans rfl; have hfz13_0 := blk_frozen BK7001.out 0; have hfz13_1 := blk_frozen BK7001.out 1; have hfz13_2 := blk_frozen BK7001.out 2; have hfz13_3 := blk_frozen BK7001.out 3; have hfz13_4 := blk_frozen BK7001.out 4; have hfz13_5 := blk_frozen BK7001.out 5) | ((with_reducible refine gate_callee (f := 44) rfl ?_); refine goesL_ (some 14) rfl rfl Try.func44 (by kernel_rfl) rfl #[.agg #[.slice A0_2 l0_2.length c0_2, .slice A0_3 l0_3.length c0_3, .slice A0_4 l0_4.length c0_4], .int .i64 t7002] rfl (by (try simp only [List.map_toArray, List.map_cons, List.map_nil]); first | done | rfl | (simp only [List.length_drop, List.length_take]; rfl)) ?_; (with_reducible refine (laws_szMonoid.calls k _ _ l0_2 _ _ l0_3 _ _ l0_4 t7002 t7003 _ ?side1 ?side2 ?side3 ?side4 ?side5 ?side6 A8.out).mono ?_); (case side1 => repeat (first | exact (Kd.C_below HR0_2.out HB.out) | (with_reducible refine Kd.C_alloc ?_ _) | (with_reducible refine Kd.C_drewN ?_ _) | (with_reducible refine Kd.C_drew ?_))); (case side2 => exact HC0_2.out); (case side3 => repeat (first | exact (Kd.C_below HR0_3.out HB.out) | (with_reducible refine Kd.C_alloc ?_ _) | (with_reducible refine Kd.C_drewN ?_ _) | (with_reducible refine Kd.C_drew ?_))); (case side4 => exact HC0_3.out); (case side5 => repeat (first | exact (Kd.C_below HR0_4.out HB.out) | (with_reducible refine Kd.C_alloc ?_ _) | (with_reducible refine Kd.C_drewN ?_ _) | (with_reducible refine Kd.C_drew ?_))); (case side6 => exact HC0_4.out); rintro e w14 ⟨rfl, hb⟩; refine ⟨_, rfl, ?_⟩; have n0_ := Aside0.mk (blk_below (g := gb7001) (o := .cells #[.string a0_0, .string a0_1, .slice A0_2 l0_2.length c0_2, .slice A0_3 l0_3.length c0_3, .slice A0_4 l0_4.length c0_4, .slice A0_5 l0_5.length c0_5] 29 (0, 0)) (by (with_reducible repeat (first | refine blk_drewN ?_ _ | refine blk_drew ?_ | refine blk_alloc ?_ _)); exact BK7001.out) hb); have n1_ := Aside0.mk (below_step (by repeat (first | (with_reducible first | exact HB.out | apply below_alloc | apply pw_below_drewN | apply below_drew1 | refine below_set ?_ GE7001.out) | exact HB.out)) hb); clear BK7001; clear HB; have BK7001 := n0_; have HB := n1_; clear n0_ n1_; (try clear hb); (try clear hb2); (try clear hk); (try clear hi)))
   go_ret
   exact ⟨by first | rfl | (simp [errW_none, errW_some] <;> rfl) | (simp [*, errW_none, errW_some] <;> rfl), by repeat (first | (with_reducible first | exact HB.out | apply below_alloc | apply pw_below_drewN | apply below_drew1 | refine below_set ?_ GE7001.out) | exact HB.out)⟩
  ·rw [if_neg c9] at H
   have c9b0 : decide (t7003 < 0) = false := decide_eq_false c9
   clear c9
   replace H := Option.bind_eq_some_iff.mp H
   obtain ⟨t7004, A150, H⟩ := H
   replace H : (if t7004 < 0 then (some (-1)) else (some t7004)) = some r := H
   have A15 := Aside0.mk A150
   clear A150
   by_cases c16 : t7004 < 0
   ·rw [if_pos c16] at H
    have c16b0 : decide (t7004 < 0) = true := decide_eq_true c16
    clear c16
    obtain rfl := Option.some.inj H
    go_enter Try.func7, Try.ntmps7
    go_wp2_with (first | ((with_reducible refine gate_dst (N := 2) rfl ?_); refine box_event ?hg (N := 2) ?hd (cs := #[.string a0_0, .string a0_1, .slice A0_2 l0_2.length c0_2, .slice A0_3 l0_3.length c0_3, .slice A0_4 l0_4.length c0_4, .slice A0_5 l0_5.length c0_5]) (t := 29) ?hr ?_; (case hd => rfl); (case hg => rfl); (case hr => first | (go_simp; done) | (go_simp; rfl)); intro gb7001 hg w17 hbox hb; have n0_ := Aside0.mk (below_step (by repeat (first | (with_reducible first | exact HB.out | apply below_alloc | apply pw_below_drewN | apply below_drew1) | exact HB.out)) hb); have n1_ := Aside0.mk (hbox); have n2_ := Aside0.mk ((by rw [hg]; exact (below_size (by repeat (first | (with_reducible first | exact HB.out | apply below_alloc | apply pw_below_drewN | apply below_drew1) | exact HB.out))) : w.heap.size ≤ gb7001)); have n3_ := Aside0.mk ((by rw [hg]; exact (below_size (by repeat (first | (with_reducible first | exact HB.out | apply below_alloc | apply pw_below_drewN | apply below_drew1) | exact HB.out))) : w.heap.size ≤ gb7001)); clear HB; have HB := n0_; have BK7001 := n1_; have GW7001 := n2_; have GE7001 := n3_; clear n0_ n1_ n2_ n3_; clear hb hbox hg; have hcz18_0 : w17.cell? ⟨gb7001, 0, none⟩ = some (.string a0_0) := (blk_cell BK7001.out 0).trans rfl; have hcz18_1 : w17.cell? ⟨gb7001, 1, none⟩ = some (.string a0_1) := (blk_cell BK7001.out 1).trans rfl; have hcz18_2 : w17.cell? ⟨gb7001, 2, none⟩ = some (.slice A0_2 l0_2.length c0_2) := (blk_cell BK7001.out 2).trans rfl; have hcz18_3 : w17.cell? ⟨gb7001, 3, none⟩ = some (.slice A0_3 l0_3.length c0_3) := (blk_cell BK7001.out 3).trans rfl; have hcz18_4 : w17.cell? ⟨gb7001, 4, none⟩ = some (.slice A0_4 l0_4.length c0_4) := (blk_cell BK7001.out 4).trans rfl; have hcz18_5 : w17.cell? ⟨gb7001, 5, none⟩ = some (.slice A0_5 l0_5.length c0_5) := (blk_cell BK7001.out 5).trans rfl; have hfz18_0 := blk_frozen BK7001.out 0; have hfz18_1 := blk_frozen BK7001.out 1; have hfz18_2 := blk_frozen BK7001.out 2; have hfz18_3 := blk_frozen BK7001.out 3; have hfz18_4 := blk_frozen BK7001.out 4; have hfz18_5 := blk_frozen BK7001.out 5) | ((with_reducible refine gate_callee (f := 43) rfl ?_); refine goesL_ (some 8) rfl rfl Try.func43 (by kernel_rfl) rfl #[.agg #[.string a0_0, .string a0_1], .int .i64 a1] rfl (by (try simp only [List.map_toArray, List.map_cons, List.map_nil]); first | done | rfl | (simp only [List.length_drop, List.length_take]; rfl)) ?_; (with_reducible refine (laws_szEquation.calls a0_0 a0_1 a1 t7002 _ A3.out).mono ?_); rintro e w19 ⟨rfl, hb⟩; refine ⟨_, rfl, ?_⟩; have n0_ := Aside0.mk (blk_below (g := gb7001) (o := .cells #[.string a0_0, .string a0_1, .slice A0_2 l0_2.length c0_2, .slice A0_3 l0_3.length c0_3, .slice A0_4 l0_4.length c0_4, .slice A0_5 l0_5.length c0_5] 29 (0, 0)) (by (with_reducible repeat (first | refine blk_drewN ?_ _ | refine blk_drew ?_ | refine blk_alloc ?_ _)); exact BK7001.out) hb); have n1_ := Aside0.mk (below_step (by repeat (first | (with_reducible first | exact HB.out | apply below_alloc | apply pw_below_drewN | apply below_drew1 | refine below_set ?_ GE7001.out) | exact HB.out)) hb); clear BK7001; clear HB; have BK7001 := n0_; have HB := n1_; clear n0_ n1_; (try clear hb); (try clear hb2); (try clear hk); (try clear hi); have hcz20_0 : w19.cell? ⟨gb7001, 0, none⟩ = some (.string a0_0) := (blk_cell BK7001.out 0).trans rfl; have hcz20_1 : w19.cell? ⟨gb7001, 1, none⟩ = some (.string a0_1) := (blk_cell BK7001.out 1).trans rfl; have hcz20_2 : w19.cell? ⟨gb7001, 2, none⟩ = some (.slice A0_2 l0_2.length c0_2) := (blk_cell BK7001.out 2).trans rfl; have hcz20_3 : w19.cell? ⟨gb7001, 3, none⟩ = some (.slice A0_3 l0_3.length c0_3) := (blk_cell BK7001.out 3).trans rfl; have hcz20_4 : w19.cell? ⟨gb7001, 4, none⟩ = some (.slice A0_4 l0_4.length c0_4) := (blk_cell BK7001.out 4).trans rfl; have hcz20_5 : w19.cell? ⟨gb7001, 5, none⟩ = some (.slice A0_5 l0_5.length c0_5) := (blk_cell BK7001.out 5).trans rfl; have hfz20_0 := blk_frozen BK7001.out 0; have hfz20_1 := blk_frozen BK7001.out 1; have hfz20_2 := blk_frozen BK7001.out 2; have hfz20_3 := blk_frozen BK7001.out 3; have hfz20_4 := blk_frozen BK7001.out 4; have hfz20_5 := blk_frozen BK7001.out 5) | ((with_reducible refine gate_callee (f := 44) rfl ?_); refine goesL_ (some 14) rfl rfl Try.func44 (by kernel_rfl) rfl #[.agg #[.slice A0_2 l0_2.length c0_2, .slice A0_3 l0_3.length c0_3, .slice A0_4 l0_4.length c0_4], .int .i64 t7002] rfl (by (try simp only [List.map_toArray, List.map_cons, List.map_nil]); first | done | rfl | (simp only [List.length_drop, List.length_take]; rfl)) ?_; (with_reducible refine (laws_szMonoid.calls k _ _ l0_2 _ _ l0_3 _ _ l0_4 t7002 t7003 _ ?side1 ?side2 ?side3 ?side4 ?side5 ?side6 A8.out).mono ?_); (case side1 => repeat (first | exact (Kd.C_below HR0_2.out HB.out) | (with_reducible refine Kd.C_alloc ?_ _) | (with_reducible refine Kd.C_drewN ?_ _) | (with_reducible refine Kd.C_drew ?_))); (case side2 => exact HC0_2.out); (case side3 => repeat (first | exact (Kd.C_below HR0_3.out HB.out) | (with_reducible refine Kd.C_alloc ?_ _) | (with_reducible refine Kd.C_drewN ?_ _) | (with_reducible refine Kd.C_drew ?_))); (case side4 => exact HC0_3.out); (case side5 => repeat (first | exact (Kd.C_below HR0_4.out HB.out) | (with_reducible refine Kd.C_alloc ?_ _) | (with_reducible refine Kd.C_drewN ?_ _) | (with_reducible refine Kd.C_drew ?_))); (case side6 => exact HC0_4.out); rintro e w21 ⟨rfl, hb⟩; refine ⟨_, rfl, ?_⟩; have n0_ := Aside0.mk (blk_below (g := gb7001) (o := .cells #[.string a0_0, .string a0_1, .slice A0_2 l0_2.length c0_2, .slice A0_3 l0_3.length c0_3, .slice A0_4 l0_4.length c0_4, .slice A0_5 l0_5.length c0_5] 29 (0, 0)) (by (with_reducible repeat (first | refine blk_drewN ?_ _ | refine blk_drew ?_ | refine blk_alloc ?_ _)); exact BK7001.out) hb); have n1_ := Aside0.mk (below_step (by repeat (first | (with_reducible first | exact HB.out | apply below_alloc | apply pw_below_drewN | apply below_drew1 | refine below_set ?_ GE7001.out) | exact HB.out)) hb); clear BK7001; clear HB; have BK7001 := n0_; have HB := n1_; clear n0_ n1_; (try clear hb); (try clear hb2); (try clear hk); (try clear hi); have hcz22_0 : w21.cell? ⟨gb7001, 0, none⟩ = some (.string a0_0) := (blk_cell BK7001.out 0).trans rfl; have hcz22_1 : w21.cell? ⟨gb7001, 1, none⟩ = some (.string a0_1) := (blk_cell BK7001.out 1).trans rfl; have hcz22_2 : w21.cell? ⟨gb7001, 2, none⟩ = some (.slice A0_2 l0_2.length c0_2) := (blk_cell BK7001.out 2).trans rfl; have hcz22_3 : w21.cell? ⟨gb7001, 3, none⟩ = some (.slice A0_3 l0_3.length c0_3) := (blk_cell BK7001.out 3).trans rfl; have hcz22_4 : w21.cell? ⟨gb7001, 4, none⟩ = some (.slice A0_4 l0_4.length c0_4) := (blk_cell BK7001.out 4).trans rfl; have hcz22_5 : w21.cell? ⟨gb7001, 5, none⟩ = some (.slice A0_5 l0_5.length c0_5) := (blk_cell BK7001.out 5).trans rfl; have hfz22_0 := blk_frozen BK7001.out 0; have hfz22_1 := blk_frozen BK7001.out 1; have hfz22_2 := blk_frozen BK7001.out 2; have hfz22_3 := blk_frozen BK7001.out 3; have hfz22_4 := blk_frozen BK7001.out 4; have hfz22_5 := blk_frozen BK7001.out 5) | ((with_reducible refine gate_callee (f := 45) rfl ?_); refine goesL_ (some 20) rfl rfl Try.func45 (by kernel_rfl) rfl #[.slice A0_5 l0_5.length c0_5, .int .i64 t7003] rfl (by (try simp only [List.map_toArray, List.map_cons, List.map_nil]); first | done | rfl | (simp only [List.length_drop, List.length_take]; rfl)) ?_; (with_reducible refine (laws_szIntSS.calls k _ _ l0_5 t7003 t7004 _ ?side1 ?side2 A15.out).mono ?_); (case side1 => repeat (first | exact (Kd.C_below HR0_5.out HB.out) | (with_reducible refine Kd.C_alloc ?_ _) | (with_reducible refine Kd.C_drewN ?_ _) | (with_reducible refine Kd.C_drew ?_))); (case side2 => exact HC0_5.out); rintro e w' ⟨rfl, ⟨nd, rfl⟩⟩; refine ⟨_, rfl, ?_⟩))
    go_ret
    exact ⟨by first | rfl | (simp [errW_none, errW_some] <;> rfl) | (simp [*, errW_none, errW_some] <;> rfl), by repeat (first | (with_reducible first | exact HB.out | apply below_alloc | apply pw_below_drewN | apply below_drew1 | refine below_set ?_ GE7001.out) | exact HB.out)⟩
   ·rw [if_neg c16] at H
    have c16b0 : decide (t7004 < 0) = false := decide_eq_false c16
    clear c16
    obtain rfl := Option.some.inj H
    go_enter Try.func7, Try.ntmps7
    go_wp2_with (first | ((with_reducible refine gate_dst (N := 2) rfl ?_); refine box_event ?hg (N := 2) ?hd (cs := #[.string a0_0, .string a0_1, .slice A0_2 l0_2.length c0_2, .slice A0_3 l0_3.length c0_3, .slice A0_4 l0_4.length c0_4, .slice A0_5 l0_5.length c0_5]) (t := 29) ?hr ?_; (case hd => rfl); (case hg => rfl); (case hr => first | (go_simp; done) | (go_simp; rfl)); intro gb7001 hg w23 hbox hb; have n0_ := Aside0.mk (below_step (by repeat (first | (with_reducible first | exact HB.out | apply below_alloc | apply pw_below_drewN | apply below_drew1) | exact HB.out)) hb); have n1_ := Aside0.mk (hbox); have n2_ := Aside0.mk ((by rw [hg]; exact (below_size (by repeat (first | (with_reducible first | exact HB.out | apply below_alloc | apply pw_below_drewN | apply below_drew1) | exact HB.out))) : w.heap.size ≤ gb7001)); have n3_ := Aside0.mk ((by rw [hg]; exact (below_size (by repeat (first | (with_reducible first | exact HB.out | apply below_alloc | apply pw_below_drewN | apply below_drew1) | exact HB.out))) : w.heap.size ≤ gb7001)); clear HB; have HB := n0_; have BK7001 := n1_; have GW7001 := n2_; have GE7001 := n3_; clear n0_ n1_ n2_ n3_; clear hb hbox hg; have hcz24_0 : w23.cell? ⟨gb7001, 0, none⟩ = some (.string a0_0) := (blk_cell BK7001.out 0).trans rfl; have hcz24_1 : w23.cell? ⟨gb7001, 1, none⟩ = some (.string a0_1) := (blk_cell BK7001.out 1).trans rfl; have hcz24_2 : w23.cell? ⟨gb7001, 2, none⟩ = some (.slice A0_2 l0_2.length c0_2) := (blk_cell BK7001.out 2).trans rfl; have hcz24_3 : w23.cell? ⟨gb7001, 3, none⟩ = some (.slice A0_3 l0_3.length c0_3) := (blk_cell BK7001.out 3).trans rfl; have hcz24_4 : w23.cell? ⟨gb7001, 4, none⟩ = some (.slice A0_4 l0_4.length c0_4) := (blk_cell BK7001.out 4).trans rfl; have hcz24_5 : w23.cell? ⟨gb7001, 5, none⟩ = some (.slice A0_5 l0_5.length c0_5) := (blk_cell BK7001.out 5).trans rfl; have hfz24_0 := blk_frozen BK7001.out 0; have hfz24_1 := blk_frozen BK7001.out 1; have hfz24_2 := blk_frozen BK7001.out 2; have hfz24_3 := blk_frozen BK7001.out 3; have hfz24_4 := blk_frozen BK7001.out 4; have hfz24_5 := blk_frozen BK7001.out 5) | ((with_reducible refine gate_callee (f := 43) rfl ?_); refine goesL_ (some 8) rfl rfl Try.func43 (by kernel_rfl) rfl #[.agg #[.string a0_0, .string a0_1], .int .i64 a1] rfl (by (try simp only [List.map_toArray, List.map_cons, List.map_nil]); first | done | rfl | (simp only [List.length_drop, List.length_take]; rfl)) ?_; (with_reducible refine (laws_szEquation.calls a0_0 a0_1 a1 t7002 _ A3.out).mono ?_); rintro e w25 ⟨rfl, hb⟩; refine ⟨_, rfl, ?_⟩; have n0_ := Aside0.mk (blk_below (g := gb7001) (o := .cells #[.string a0_0, .string a0_1, .slice A0_2 l0_2.length c0_2, .slice A0_3 l0_3.length c0_3, .slice A0_4 l0_4.length c0_4, .slice A0_5 l0_5.length c0_5] 29 (0, 0)) (by (with_reducible repeat (first | refine blk_drewN ?_ _ | refine blk_drew ?_ | refine blk_alloc ?_ _)); exact BK7001.out) hb); have n1_ := Aside0.mk (below_step (by repeat (first | (with_reducible first | exact HB.out | apply below_alloc | apply pw_below_drewN | apply below_drew1 | refine below_set ?_ GE7001.out) | exact HB.out)) hb); clear BK7001; clear HB; have BK7001 := n0_; have HB := n1_; clear n0_ n1_; (try clear hb); (try clear hb2); (try clear hk); (try clear hi); have hcz26_0 : w25.cell? ⟨gb7001, 0, none⟩ = some (.string a0_0) := (blk_cell BK7001.out 0).trans rfl; have hcz26_1 : w25.cell? ⟨gb7001, 1, none⟩ = some (.string a0_1) := (blk_cell BK7001.out 1).trans rfl; have hcz26_2 : w25.cell? ⟨gb7001, 2, none⟩ = some (.slice A0_2 l0_2.length c0_2) := (blk_cell BK7001.out 2).trans rfl; have hcz26_3 : w25.cell? ⟨gb7001, 3, none⟩ = some (.slice A0_3 l0_3.length c0_3) := (blk_cell BK7001.out 3).trans rfl; have hcz26_4 : w25.cell? ⟨gb7001, 4, none⟩ = some (.slice A0_4 l0_4.length c0_4) := (blk_cell BK7001.out 4).trans rfl; have hcz26_5 : w25.cell? ⟨gb7001, 5, none⟩ = some (.slice A0_5 l0_5.length c0_5) := (blk_cell BK7001.out 5).trans rfl; have hfz26_0 := blk_frozen BK7001.out 0; have hfz26_1 := blk_frozen BK7001.out 1; have hfz26_2 := blk_frozen BK7001.out 2; have hfz26_3 := blk_frozen BK7001.out 3; have hfz26_4 := blk_frozen BK7001.out 4; have hfz26_5 := blk_frozen BK7001.out 5) | ((with_reducible refine gate_callee (f := 44) rfl ?_); refine goesL_ (some 14) rfl rfl Try.func44 (by kernel_rfl) rfl #[.agg #[.slice A0_2 l0_2.length c0_2, .slice A0_3 l0_3.length c0_3, .slice A0_4 l0_4.length c0_4], .int .i64 t7002] rfl (by (try simp only [List.map_toArray, List.map_cons, List.map_nil]); first | done | rfl | (simp only [List.length_drop, List.length_take]; rfl)) ?_; (with_reducible refine (laws_szMonoid.calls k _ _ l0_2 _ _ l0_3 _ _ l0_4 t7002 t7003 _ ?side1 ?side2 ?side3 ?side4 ?side5 ?side6 A8.out).mono ?_); (case side1 => repeat (first | exact (Kd.C_below HR0_2.out HB.out) | (with_reducible refine Kd.C_alloc ?_ _) | (with_reducible refine Kd.C_drewN ?_ _) | (with_reducible refine Kd.C_drew ?_))); (case side2 => exact HC0_2.out); (case side3 => repeat (first | exact (Kd.C_below HR0_3.out HB.out) | (with_reducible refine Kd.C_alloc ?_ _) | (with_reducible refine Kd.C_drewN ?_ _) | (with_reducible refine Kd.C_drew ?_))); (case side4 => exact HC0_3.out); (case side5 => repeat (first | exact (Kd.C_below HR0_4.out HB.out) | (with_reducible refine Kd.C_alloc ?_ _) | (with_reducible refine Kd.C_drewN ?_ _) | (with_reducible refine Kd.C_drew ?_))); (case side6 => exact HC0_4.out); rintro e w27 ⟨rfl, hb⟩; refine ⟨_, rfl, ?_⟩; have n0_ := Aside0.mk (blk_below (g := gb7001) (o := .cells #[.string a0_0, .string a0_1, .slice A0_2 l0_2.length c0_2, .slice A0_3 l0_3.length c0_3, .slice A0_4 l0_4.length c0_4, .slice A0_5 l0_5.length c0_5] 29 (0, 0)) (by (with_reducible repeat (first | refine blk_drewN ?_ _ | refine blk_drew ?_ | refine blk_alloc ?_ _)); exact BK7001.out) hb); have n1_ := Aside0.mk (below_step (by repeat (first | (with_reducible first | exact HB.out | apply below_alloc | apply pw_below_drewN | apply below_drew1 | refine below_set ?_ GE7001.out) | exact HB.out)) hb); clear BK7001; clear HB; have BK7001 := n0_; have HB := n1_; clear n0_ n1_; (try clear hb); (try clear hb2); (try clear hk); (try clear hi); have hcz28_0 : w27.cell? ⟨gb7001, 0, none⟩ = some (.string a0_0) := (blk_cell BK7001.out 0).trans rfl; have hcz28_1 : w27.cell? ⟨gb7001, 1, none⟩ = some (.string a0_1) := (blk_cell BK7001.out 1).trans rfl; have hcz28_2 : w27.cell? ⟨gb7001, 2, none⟩ = some (.slice A0_2 l0_2.length c0_2) := (blk_cell BK7001.out 2).trans rfl; have hcz28_3 : w27.cell? ⟨gb7001, 3, none⟩ = some (.slice A0_3 l0_3.length c0_3) := (blk_cell BK7001.out 3).trans rfl; have hcz28_4 : w27.cell? ⟨gb7001, 4, none⟩ = some (.slice A0_4 l0_4.length c0_4) := (blk_cell BK7001.out 4).trans rfl; have hcz28_5 : w27.cell? ⟨gb7001, 5, none⟩ = some (.slice A0_5 l0_5.length c0_5) := (blk_cell BK7001.out 5).trans rfl; have hfz28_0 := blk_frozen BK7001.out 0; have hfz28_1 := blk_frozen BK7001.out 1; have hfz28_2 := blk_frozen BK7001.out 2; have hfz28_3 := blk_frozen BK7001.out 3; have hfz28_4 := blk_frozen BK7001.out 4; have hfz28_5 := blk_frozen BK7001.out 5) | ((with_reducible refine gate_callee (f := 45) rfl ?_); refine goesL_ (some 20) rfl rfl Try.func45 (by kernel_rfl) rfl #[.slice A0_5 l0_5.length c0_5, .int .i64 t7003] rfl (by (try simp only [List.map_toArray, List.map_cons, List.map_nil]); first | done | rfl | (simp only [List.length_drop, List.length_take]; rfl)) ?_; (with_reducible refine (laws_szIntSS.calls k _ _ l0_5 t7003 t7004 _ ?side1 ?side2 A15.out).mono ?_); (case side1 => repeat (first | exact (Kd.C_below HR0_5.out HB.out) | (with_reducible refine Kd.C_alloc ?_ _) | (with_reducible refine Kd.C_drewN ?_ _) | (with_reducible refine Kd.C_drew ?_))); (case side2 => exact HC0_5.out); rintro e w' ⟨rfl, ⟨nd, rfl⟩⟩; refine ⟨_, rfl, ?_⟩))
    go_ret
    exact ⟨by first | rfl | (simp [errW_none, errW_some] <;> rfl) | (simp [*, errW_none, errW_some] <;> rfl), by repeat (first | (with_reducible first | exact HB.out | apply below_alloc | apply pw_below_drewN | apply below_drew1 | refine below_set ?_ GE7001.out) | exact HB.out)⟩
def laws_toFrame.f (k : Nat) (a0_0 : ByteArray) (a0_1 : ByteArray) (l0_2 : List (List Int)) (l0_3 : List Int) (l0_4 : List (List Int)) (l0_5 : List (List Int)) : Option (ByteArray × ByteArray × (List (List Int)) × List Int × (List (List Int)) × (List (List Int))) := (laws_toEquation.f a0_0 a0_1).bind fun bt9004 => ((laws_toMonoid.f k l0_2 l0_3 l0_4).bind fun bt9006 => ((laws_toIntSS.f k l0_5).bind fun t9015 => (some (bt9004.1, bt9004.2, bt9006.1, bt9006.2.1, bt9006.2.2, t9015))))
theorem laws_toFrame.mono : ∀ a0 a1 a2 a3 a4 a5 k, LeO (laws_toFrame.f k a0 a1 a2 a3 a4 a5) (laws_toFrame.f (k + 1) a0 a1 a2 a3 a4 a5) := by
 intro a0 a1 a2 a3 a4 a5 k
 unfold laws_toFrame.f
 repeat' first
   | (with_reducible exact laws_toIntSS.mono _ _)
   | (with_reducible exact laws_toMonoid.mono _ _ _ _)
   | (with_reducible exact LeO.refl _)
   | (with_reducible exact LeO.none _)
   | (with_reducible refine LeO.ite ?_ ?_)
   | (with_reducible refine LeO.bind ?_ (fun _ => ?_))
theorem laws_toFrame.calls (k : Nat) (a0_0 : ByteArray) (a0_1 : ByteArray) (A0_2 : Option Addr) (c0_2 : Nat) (l0_2 : List (List Int)) (A0_3 : Option Addr) (c0_3 : Nat) (l0_3 : List Int) (A0_4 : Option Addr) (c0_4 : Nat) (l0_4 : List (List Int)) (A0_5 : Option Addr) (c0_5 : Nat) (l0_5 : List (List Int)) (r1 : ByteArray) (r2 : ByteArray) (r3 : List (List Int)) (r4 : List Int) (r5 : List (List Int)) (r6 : List (List Int)) (w : World) (hr0_2 : Kd.C (Kd.slice 3 (Kd.int .i64)) w A0_2 l0_2.length l0_2) (hc0_2 : l0_2.length ≤ c0_2) (hr0_3 : Kd.C (Kd.int .i64) w A0_3 l0_3.length l0_3) (hc0_3 : l0_3.length ≤ c0_3) (hr0_4 : Kd.C (Kd.slice 3 (Kd.int .i64)) w A0_4 l0_4.length l0_4) (hc0_4 : l0_4.length ≤ c0_4) (hr0_5 : Kd.C (Kd.slice 3 (Kd.int .i64)) w A0_5 l0_5.length l0_5) (hc0_5 : l0_5.length ≤ c0_5) (h : laws_toFrame.f k a0_0 a0_1 l0_2 l0_3 l0_4 l0_5 = some (r1, r2, r3, r4, r5, r6)) :
  Calls Try.prog 9 #[.agg #[.string a0_0, .string a0_1, .slice A0_2 l0_2.length c0_2, .slice A0_3 l0_3.length c0_3, .slice A0_4 l0_4.length c0_4, .slice A0_5 l0_5.length c0_5]] w fun e w' => ∃ v2_ v3_ v4_ v5_ : Value, e = .returned (.agg #[.string r1, .string r2, v2_, v3_, v4_, v5_]) ∧ Kd.S (Kd.slice 3 (Kd.int .i64)) 25 w' w.heap.size (fun k_ => some k_ ≠ (v3_ : Value).ownBlock ∧ some k_ ≠ (v4_ : Value).ownBlock ∧ some k_ ≠ (v5_ : Value).ownBlock) v2_ r3 ∧ Kd.R (Kd.int .i64) 3 w' w.heap.size (fun _ => True) v3_ r4 ∧ Kd.S (Kd.slice 3 (Kd.int .i64)) 25 w' w.heap.size (fun k_ => some k_ ≠ (v2_ : Value).ownBlock ∧ some k_ ≠ (v3_ : Value).ownBlock ∧ some k_ ≠ (v5_ : Value).ownBlock) v4_ r5 ∧ Kd.S (Kd.slice 3 (Kd.int .i64)) 25 w' w.heap.size (fun k_ => some k_ ≠ (v2_ : Value).ownBlock ∧ some k_ ≠ (v3_ : Value).ownBlock ∧ some k_ ≠ (v4_ : Value).ownBlock) v5_ r6 ∧ Below w.heap.size w w' := by
 have hu29 := Try.underlying29
 have hu36 := Try.underlying36
 have hu23 := Try.underlying23
 have hu33 := Try.underlying33
 have hu27 := Try.underlying27
 have hu34 := Try.underlying34
 have HR0_2 := Aside0.mk hr0_2
 have HC0_2 := Aside0.mk hc0_2
 clear hr0_2 hc0_2
 have HR0_3 := Aside0.mk hr0_3
 have HC0_3 := Aside0.mk hc0_3
 clear hr0_3 hc0_3
 have HR0_4 := Aside0.mk hr0_4
 have HC0_4 := Aside0.mk hc0_4
 clear hr0_4 hc0_4
 have HR0_5 := Aside0.mk hr0_5
 have HC0_5 := Aside0.mk hc0_5
 clear hr0_5 hc0_5
 have HB := Aside0.mk (Below.refl w.heap.size w)
 have H : ((laws_toEquation.f a0_0 a0_1).bind fun bt9004 => ((laws_toMonoid.f k l0_2 l0_3 l0_4).bind fun bt9006 => ((laws_toIntSS.f k l0_5).bind fun t9015 => (some (bt9004.1, bt9004.2, bt9006.1, bt9006.2.1, bt9006.2.2, t9015))))) = some (r1, r2, r3, r4, r5, r6) := h
 clear h
 replace H := Option.bind_eq_some_iff.mp H
 obtain ⟨⟨t9004, t9005⟩, A20, H⟩ := H
 replace H : ((laws_toMonoid.f k l0_2 l0_3 l0_4).bind fun bt9006 => ((laws_toIntSS.f k l0_5).bind fun t9015 => (some (t9004, t9005, bt9006.1, bt9006.2.1, bt9006.2.2, t9015)))) = some (r1, r2, r3, r4, r5, r6) := H
 have A2 := Aside0.mk A20
 clear A20
 replace H := Option.bind_eq_some_iff.mp H
 obtain ⟨⟨t9006, t9009, t9012⟩, A30, H⟩ := H
 replace H : ((laws_toIntSS.f k l0_5).bind fun t9015 => (some (t9004, t9005, t9006, t9009, t9012, t9015))) = some (r1, r2, r3, r4, r5, r6) := H
 have A3 := Aside0.mk A30
 clear A30
 replace H := Option.bind_eq_some_iff.mp H
 obtain ⟨t9015, A40, H⟩ := H
 replace H : (some (t9004, t9005, t9006, t9009, t9012, t9015)) = some (r1, r2, r3, r4, r5, r6) := H
 have A4 := Aside0.mk A40
 clear A40
 simp only [Option.some.injEq, Prod.mk.injEq] at H
 obtain ⟨rfl, rfl, rfl, rfl, rfl, rfl⟩ := H
 go_enter Try.func9, Try.ntmps9
 go_wp2_with (first | ((with_reducible refine gate_dst (N := 1) rfl ?_); refine box_event ?hg (N := 1) ?hd (cs := #[.string a0_0, .string a0_1, .slice A0_2 l0_2.length c0_2, .slice A0_3 l0_3.length c0_3, .slice A0_4 l0_4.length c0_4, .slice A0_5 l0_5.length c0_5]) (t := 29) ?hr ?_; (case hd => rfl); (case hg => rfl); (case hr => first | (go_simp; done) | (go_simp; rfl)); intro gb9001 hg w5 hbox hb; have n0_ := Aside0.mk (below_step (by repeat (first | (with_reducible first | exact HB.out | apply below_alloc | apply pw_below_drewN | apply below_drew1) | exact HB.out)) hb); have n1_ := Aside0.mk (hbox); have n2_ := Aside0.mk ((by rw [hg]; exact (below_size (by repeat (first | (with_reducible first | exact HB.out | apply below_alloc | apply pw_below_drewN | apply below_drew1) | exact HB.out))) : w.heap.size ≤ gb9001)); have n3_ := Aside0.mk ((by rw [hg]; exact (below_size (by repeat (first | (with_reducible first | exact HB.out | apply below_alloc | apply pw_below_drewN | apply below_drew1) | exact HB.out))) : w.heap.size ≤ gb9001)); clear HB; have HB := n0_; have BK9001 := n1_; have GW9001 := n2_; have GE9001 := n3_; clear n0_ n1_ n2_ n3_; clear hb hbox hg) | ((with_reducible refine gate_dst (N := 2) rfl ?_); refine box_event ?hg (N := 2) ?hd (cs := #[.string (⟨#[]⟩ : ByteArray), .string (⟨#[]⟩ : ByteArray), .slice none 0 0, .slice none 0 0, .slice none 0 0, .slice none 0 0]) (t := 36) ?hr ?_; (case hd => rfl); (case hg => rfl); (case hr => first | (go_simp; done) | (go_simp; rfl)); intro gb9002 hg w6 hbox hb; have n0_ := Aside0.mk (blk_below (g := gb9001) (o := .cells #[.string a0_0, .string a0_1, .slice A0_2 l0_2.length c0_2, .slice A0_3 l0_3.length c0_3, .slice A0_4 l0_4.length c0_4, .slice A0_5 l0_5.length c0_5] 29 (0, 0)) (by (with_reducible repeat (first | refine blk_drewN ?_ _ | refine blk_drew ?_ | refine blk_alloc ?_ _)); exact BK9001.out) hb); have n1_ := Aside0.mk (below_step (by repeat (first | (with_reducible first | exact HB.out | apply below_alloc | apply pw_below_drewN | apply below_drew1 | refine below_set ?_ GE9001.out) | exact HB.out)) hb); have n2_ := Aside0.mk (hbox); have n3_ := Aside0.mk ((by rw [hg]; exact (below_size (by repeat (first | (with_reducible first | exact HB.out | apply below_alloc | apply pw_below_drewN | apply below_drew1 | refine below_set ?_ GE9001.out) | exact HB.out))) : w.heap.size ≤ gb9002)); have n4_ := Aside0.mk ((by rw [hg]; exact (below_size (by repeat (first | (with_reducible first | exact HB.out | apply below_alloc | apply pw_below_drewN | apply below_drew1 | refine below_set ?_ GE9001.out) | exact HB.out))) : w.heap.size ≤ gb9002)); have n5_ := Aside0.mk ((by rw [hg]; exact Nat.ne_of_lt (blk_lt (g := gb9001) (o := .cells #[.string a0_0, .string a0_1, .slice A0_2 l0_2.length c0_2, .slice A0_3 l0_3.length c0_3, .slice A0_4 l0_4.length c0_4, .slice A0_5 l0_5.length c0_5] 29 (0, 0)) (by (with_reducible repeat (first | refine blk_drewN ?_ _ | refine blk_drew ?_ | refine blk_alloc ?_ _)); exact BK9001.out)) : gb9001 ≠ gb9002)); have n6_ := Aside0.mk ((by rw [hg]; exact Nat.ne_of_gt (blk_lt (g := gb9001) (o := .cells #[.string a0_0, .string a0_1, .slice A0_2 l0_2.length c0_2, .slice A0_3 l0_3.length c0_3, .slice A0_4 l0_4.length c0_4, .slice A0_5 l0_5.length c0_5] 29 (0, 0)) (by (with_reducible repeat (first | refine blk_drewN ?_ _ | refine blk_drew ?_ | refine blk_alloc ?_ _)); exact BK9001.out)) : gb9002 ≠ gb9001)); clear BK9001; clear HB; have BK9001 := n0_; have HB := n1_; have BK9002 := n2_; have GW9002 := n3_; have GE9002 := n4_; have NB9001_9002 := n5_; have NB9002_9001 := n6_; clear n0_ n1_ n2_ n3_ n4_ n5_ n6_; clear hb hbox hg) | ((with_reducible refine gate_dst (N := 3) rfl ?_); refine box_event ?hg (N := 3) ?hd (cs := #[.string (⟨#[]⟩ : ByteArray), .string (⟨#[]⟩ : ByteArray), .slice none 0 0, .slice none 0 0, .slice none 0 0, .slice none 0 0]) (t := 36) ?hr ?_; (case hd => rfl); (case hg => rfl); (case hr => first | (go_simp; done) | (go_simp; rfl)); intro gb9003 hg w7 hbox hb; have n0_ := Aside0.mk (blk_below (g := gb9001) (o := .cells #[.string a0_0, .string a0_1, .slice A0_2 l0_2.length c0_2, .slice A0_3 l0_3.length c0_3, .slice A0_4 l0_4.length c0_4, .slice A0_5 l0_5.length c0_5] 29 (0, 0)) (by (with_reducible repeat (first | refine blk_drewN ?_ _ | refine blk_drew ?_ | refine blk_alloc ?_ _)); exact BK9001.out) hb); have n1_ := Aside0.mk (blk_below (g := gb9002) (o := .cells #[.string (⟨#[]⟩ : ByteArray), .string (⟨#[]⟩ : ByteArray), .slice none 0 0, .slice none 0 0, .slice none 0 0, .slice none 0 0] 36 (0, 0)) (by (with_reducible repeat (first | refine blk_drewN ?_ _ | refine blk_drew ?_ | refine blk_alloc ?_ _)); exact BK9002.out) hb); have n2_ := Aside0.mk (below_step (by repeat (first | (with_reducible first | exact HB.out | apply below_alloc | apply pw_below_drewN | apply below_drew1 | refine below_set ?_ GE9001.out | refine below_set ?_ GE9002.out) | exact HB.out)) hb); have n3_ := Aside0.mk (hbox); have n4_ := Aside0.mk ((by rw [hg]; exact (below_size (by repeat (first | (with_reducible first | exact HB.out | apply below_alloc | apply pw_below_drewN | apply below_drew1 | refine below_set ?_ GE9001.out | refine below_set ?_ GE9002.out) | exact HB.out))) : w.heap.size ≤ gb9003)); have n5_ := Aside0.mk ((by rw [hg]; exact (below_size (by repeat (first | (with_reducible first | exact HB.out | apply below_alloc | apply pw_below_drewN | apply below_drew1 | refine below_set ?_ GE9001.out | refine below_set ?_ GE9002.out) | exact HB.out))) : w.heap.size ≤ gb9003)); have n6_ := Aside0.mk ((by rw [hg]; exact Nat.ne_of_lt (blk_lt (g := gb9001) (o := .cells #[.string a0_0, .string a0_1, .slice A0_2 l0_2.length c0_2, .slice A0_3 l0_3.length c0_3, .slice A0_4 l0_4.length c0_4, .slice A0_5 l0_5.length c0_5] 29 (0, 0)) (by (with_reducible repeat (first | refine blk_drewN ?_ _ | refine blk_drew ?_ | refine blk_alloc ?_ _)); exact BK9001.out)) : gb9001 ≠ gb9003)); have n7_ := Aside0.mk ((by rw [hg]; exact Nat.ne_of_gt (blk_lt (g := gb9001) (o := .cells #[.string a0_0, .string a0_1, .slice A0_2 l0_2.length c0_2, .slice A0_3 l0_3.length c0_3, .slice A0_4 l0_4.length c0_4, .slice A0_5 l0_5.length c0_5] 29 (0, 0)) (by (with_reducible repeat (first | refine blk_drewN ?_ _ | refine blk_drew ?_ | refine blk_alloc ?_ _)); exact BK9001.out)) : gb9003 ≠ gb9001)); have n8_ := Aside0.mk ((by rw [hg]; exact Nat.ne_of_lt (blk_lt (g := gb9002) (o := .cells #[.string (⟨#[]⟩ : ByteArray), .string (⟨#[]⟩ : ByteArray), .slice none 0 0, .slice none 0 0, .slice none 0 0, .slice none 0 0] 36 (0, 0)) (by (with_reducible repeat (first | refine blk_drewN ?_ _ | refine blk_drew ?_ | refine blk_alloc ?_ _)); exact BK9002.out)) : gb9002 ≠ gb9003)); have n9_ := Aside0.mk ((by rw [hg]; exact Nat.ne_of_gt (blk_lt (g := gb9002) (o := .cells #[.string (⟨#[]⟩ : ByteArray), .string (⟨#[]⟩ : ByteArray), .slice none 0 0, .slice none 0 0, .slice none 0 0, .slice none 0 0] 36 (0, 0)) (by (with_reducible repeat (first | refine blk_drewN ?_ _ | refine blk_drew ?_ | refine blk_alloc ?_ _)); exact BK9002.out)) : gb9003 ≠ gb9002)); clear BK9001; clear BK9002; clear HB; have BK9001 := n0_; have BK9002 := n1_; have HB := n2_; have BK9003 := n3_; have GW9003 := n4_; have GE9003 := n5_; have NB9001_9003 := n6_; have NB9003_9001 := n7_; have NB9002_9003 := n8_; have NB9003_9002 := n9_; clear n0_ n1_ n2_ n3_ n4_ n5_ n6_ n7_ n8_ n9_; clear hb hbox hg; have hnb8 := NB9001_9002.out; have hnc8 := NB9002_9001.out; have hnb9 := NB9001_9003.out; have hnc9 := NB9003_9001.out; have hcz10_0 : w7.cell? ⟨gb9001, 0, none⟩ = some (.string a0_0) := (blk_cell BK9001.out 0).trans rfl; have hcz10_1 : w7.cell? ⟨gb9001, 1, none⟩ = some (.string a0_1) := (blk_cell BK9001.out 1).trans rfl; have hcz10_2 : w7.cell? ⟨gb9001, 2, none⟩ = some (.slice A0_2 l0_2.length c0_2) := (blk_cell BK9001.out 2).trans rfl; have hcz10_3 : w7.cell? ⟨gb9001, 3, none⟩ = some (.slice A0_3 l0_3.length c0_3) := (blk_cell BK9001.out 3).trans rfl; have hcz10_4 : w7.cell? ⟨gb9001, 4, none⟩ = some (.slice A0_4 l0_4.length c0_4) := (blk_cell BK9001.out 4).trans rfl; have hcz10_5 : w7.cell? ⟨gb9001, 5, none⟩ = some (.slice A0_5 l0_5.length c0_5) := (blk_cell BK9001.out 5).trans rfl; have hfz10_0 := blk_frozen BK9001.out 0; have hfz10_1 := blk_frozen BK9001.out 1; have hfz10_2 := blk_frozen BK9001.out 2; have hfz10_3 := blk_frozen BK9001.out 3; have hfz10_4 := blk_frozen BK9001.out 4; have hfz10_5 := blk_frozen BK9001.out 5) | ((with_reducible refine gate_callee (f := 48) rfl ?_); refine goesL_ (some 6) rfl rfl Try.func48 (by kernel_rfl) rfl #[.agg #[.string a0_0, .string a0_1]] rfl (by (try simp only [List.map_toArray, List.map_cons, List.map_nil]); first | done | rfl | (simp only [List.length_drop, List.length_take]; rfl)) ?_; (with_reducible refine (laws_toEquation.calls a0_0 a0_1 t9004 t9005 _ A2.out).mono ?_); rintro e w11 ⟨rfl, hb⟩; refine ⟨_, rfl, ?_⟩; have n0_ := Aside0.mk (blk_below (g := gb9001) (o := .cells #[.string a0_0, .string a0_1, .slice A0_2 l0_2.length c0_2, .slice A0_3 l0_3.length c0_3, .slice A0_4 l0_4.length c0_4, .slice A0_5 l0_5.length c0_5] 29 (0, 0)) (by (with_reducible repeat (first | refine blk_drewN ?_ _ | refine blk_drew ?_ | refine blk_alloc ?_ _)); exact BK9001.out) hb); have n1_ := Aside0.mk (blk_below (g := gb9002) (o := .cells #[.string (⟨#[]⟩ : ByteArray), .string (⟨#[]⟩ : ByteArray), .slice none 0 0, .slice none 0 0, .slice none 0 0, .slice none 0 0] 36 (0, 0)) (by (with_reducible repeat (first | refine blk_drewN ?_ _ | refine blk_drew ?_ | refine blk_alloc ?_ _)); exact BK9002.out) hb); have n2_ := Aside0.mk (blk_below (g := gb9003) (o := .cells #[.string (⟨#[]⟩ : ByteArray), .string (⟨#[]⟩ : ByteArray), .slice none 0 0, .slice none 0 0, .slice none 0 0, .slice none 0 0] 36 (0, 0)) (by (with_reducible repeat (first | refine blk_drewN ?_ _ | refine blk_drew ?_ | refine blk_alloc ?_ _)); exact BK9003.out) hb); have n3_ := Aside0.mk (below_step (by repeat (first | (with_reducible first | exact HB.out | apply below_alloc | apply pw_below_drewN | apply below_drew1 | refine below_set ?_ GE9001.out | refine below_set ?_ GE9002.out | refine below_set ?_ GE9003.out) | exact HB.out)) hb); clear BK9001; clear BK9002; clear BK9003; clear HB; have BK9001 := n0_; have BK9002 := n1_; have BK9003 := n2_; have HB := n3_; clear n0_ n1_ n2_ n3_; (try clear hb); (try clear hb2); (try clear hk); (try clear hi); have hnb12 := NB9003_9002.out; have hnc12 := NB9002_9003.out; have hcz13_0 : w11.cell? ⟨gb9003, 0, none⟩ = some (.string (⟨#[]⟩ : ByteArray)) := (blk_cell BK9003.out 0).trans rfl; have hcz13_1 : w11.cell? ⟨gb9003, 1, none⟩ = some (.string (⟨#[]⟩ : ByteArray)) := (blk_cell BK9003.out 1).trans rfl; have hcz13_2 : w11.cell? ⟨gb9003, 2, none⟩ = some (.slice none 0 0) := (blk_cell BK9003.out 2).trans rfl; have hcz13_3 : w11.cell? ⟨gb9003, 3, none⟩ = some (.slice none 0 0) := (blk_cell BK9003.out 3).trans rfl; have hcz13_4 : w11.cell? ⟨gb9003, 4, none⟩ = some (.slice none 0 0) := (blk_cell BK9003.out 4).trans rfl; have hcz13_5 : w11.cell? ⟨gb9003, 5, none⟩ = some (.slice none 0 0) := (blk_cell BK9003.out 5).trans rfl; have hfz13_0 := blk_frozen BK9003.out 0; have hfz13_1 := blk_frozen BK9003.out 1; have hfz13_2 := blk_frozen BK9003.out 2; have hfz13_3 := blk_frozen BK9003.out 3; have hfz13_4 := blk_frozen BK9003.out 4; have hfz13_5 := blk_frozen BK9003.out 5; have hcz14_0 : w11.cell? ⟨gb9001, 0, none⟩ = some (.string a0_0) := (blk_cell BK9001.out 0).trans rfl; have hcz14_1 : w11.cell? ⟨gb9001, 1, none⟩ = some (.string a0_1) := (blk_cell BK9001.out 1).trans rfl; have hcz14_2 : w11.cell? ⟨gb9001, 2, none⟩ = some (.slice A0_2 l0_2.length c0_2) := (blk_cell BK9001.out 2).trans rfl; have hcz14_3 : w11.cell? ⟨gb9001, 3, none⟩ = some (.slice A0_3 l0_3.length c0_3) := (blk_cell BK9001.out 3).trans rfl; have hcz14_4 : w11.cell? ⟨gb9001, 4, none⟩ = some (.slice A0_4 l0_4.length c0_4) := (blk_cell BK9001.out 4).trans rfl; have hcz14_5 : w11.cell? ⟨gb9001, 5, none⟩ = some (.slice A0_5 l0_5.length c0_5) := (blk_cell BK9001.out 5).trans rfl; have hfz14_0 := blk_frozen BK9001.out 0; have hfz14_1 := blk_frozen BK9001.out 1; have hfz14_2 := blk_frozen BK9001.out 2; have hfz14_3 := blk_frozen BK9001.out 3; have hfz14_4 := blk_frozen BK9001.out 4; have hfz14_5 := blk_frozen BK9001.out 5) | ((with_reducible refine gate_callee (f := 49) rfl ?_); refine goesL_ (some 10) rfl rfl Try.func49 (by kernel_rfl) rfl #[.agg #[.slice A0_2 l0_2.length c0_2, .slice A0_3 l0_3.length c0_3, .slice A0_4 l0_4.length c0_4]] rfl (by (try simp only [List.map_toArray, List.map_cons, List.map_nil]); first | done | rfl | (simp only [List.length_drop, List.length_take]; rfl)) ?_; (with_reducible refine (laws_toMonoid.calls k _ _ l0_2 _ _ l0_3 _ _ l0_4 t9006 t9009 t9012 _ ?side1 ?side2 ?side3 ?side4 ?side5 ?side6 A3.out).mono ?_); (case side1 => exact Kd.C_below HR0_2.out (by repeat (first | (with_reducible first | exact HB.out | apply below_alloc | apply pw_below_drewN | apply below_drew1 | refine below_set ?_ GE9001.out | refine below_set ?_ GE9002.out | refine below_set ?_ GE9003.out) | exact HB.out))); (case side2 => exact HC0_2.out); (case side3 => exact Kd.C_below HR0_3.out (by repeat (first | (with_reducible first | exact HB.out | apply below_alloc | apply pw_below_drewN | apply below_drew1 | refine below_set ?_ GE9001.out | refine below_set ?_ GE9002.out | refine below_set ?_ GE9003.out) | exact HB.out))); (case side4 => exact HC0_3.out); (case side5 => exact Kd.C_below HR0_4.out (by repeat (first | (with_reducible first | exact HB.out | apply below_alloc | apply pw_below_drewN | apply below_drew1 | refine below_set ?_ GE9001.out | refine below_set ?_ GE9002.out | refine below_set ?_ GE9003.out) | exact HB.out))); (case side6 => exact HC0_4.out); rintro e w15 ⟨v9007, v9010, v9013, rfl, ho0, ho1, ho2, hb⟩; refine ⟨_, rfl, ?_⟩; have n0_ := Aside0.mk (Kd.S_lower ho0 (below_size (by repeat (first | (with_reducible first | exact HB.out | apply below_alloc | apply pw_below_drewN | apply below_drew1 | refine below_set ?_ GE9001.out | refine below_set ?_ GE9002.out | refine below_set ?_ GE9003.out) | exact HB.out)))); have n1_ := Aside0.mk (Kd.R_lower ho1 (below_size (by repeat (first | (with_reducible first | exact HB.out | apply below_alloc | apply pw_below_drewN | apply below_drew1 | refine below_set ?_ GE9001.out | refine below_set ?_ GE9002.out | refine below_set ?_ GE9003.out) | exact HB.out)))); have n2_ := Aside0.mk (Kd.S_lower ho2 (below_size (by repeat (first | (with_reducible first | exact HB.out | apply below_alloc | apply pw_below_drewN | apply below_drew1 | refine below_set ?_ GE9001.out | refine below_set ?_ GE9002.out | refine below_set ?_ GE9003.out) | exact HB.out)))); have n3_ := Aside0.mk (blk_below (g := gb9001) (o := .cells #[.string a0_0, .string a0_1, .slice A0_2 l0_2.length c0_2, .slice A0_3 l0_3.length c0_3, .slice A0_4 l0_4.length c0_4, .slice A0_5 l0_5.length c0_5] 29 (0, 0)) (by (with_reducible repeat (first | refine blk_drewN ?_ _ | refine blk_drew ?_ | refine blk_alloc ?_ _)); refine blk_far ?_ NB9001_9003.out _; (with_reducible repeat (first | refine blk_drewN ?_ _ | refine blk_drew ?_ | refine blk_alloc ?_ _)); refine blk_far ?_ NB9001_9003.out _; (with_reducible repeat (first | refine blk_drewN ?_ _ | refine blk_drew ?_ | refine blk_alloc ?_ _)); exact BK9001.out) hb); have n4_ := Aside0.mk (blk_below (g := gb9002) (o := .cells #[.string (⟨#[]⟩ : ByteArray), .string (⟨#[]⟩ : ByteArray), .slice none 0 0, .slice none 0 0, .slice none 0 0, .slice none 0 0] 36 (0, 0)) (by (with_reducible repeat (first | refine blk_drewN ?_ _ | refine blk_drew ?_ | refine blk_alloc ?_ _)); refine blk_far ?_ NB9002_9003.out _; (with_reducible repeat (first | refine blk_drewN ?_ _ | refine blk_drew ?_ | refine blk_alloc ?_ _)); refine blk_far ?_ NB9002_9003.out _; (with_reducible repeat (first | refine blk_drewN ?_ _ | refine blk_drew ?_ | refine blk_alloc ?_ _)); exact BK9002.out) hb); have n5_ := Aside0.mk (blk_below (g := gb9003) (o := .cells #[.string t9004, .string t9005, .slice none 0 0, .slice none 0 0, .slice none 0 0, .slice none 0 0] 36 (0, 0)) (by (with_reducible repeat (first | refine blk_drewN ?_ _ | refine blk_drew ?_ | refine blk_alloc ?_ _)); refine blk_put (cs := #[.string t9004, .string (⟨#[]⟩ : ByteArray), .slice none 0 0, .slice none 0 0, .slice none 0 0, .slice none 0 0]) ?_ 1 _ rfl; (with_reducible repeat (first | refine blk_drewN ?_ _ | refine blk_drew ?_ | refine blk_alloc ?_ _)); refine blk_put (cs := #[.string (⟨#[]⟩ : ByteArray), .string (⟨#[]⟩ : ByteArray), .slice none 0 0, .slice none 0 0, .slice none 0 0, .slice none 0 0]) ?_ 0 _ rfl; (with_reducible repeat (first | refine blk_drewN ?_ _ | refine blk_drew ?_ | refine blk_alloc ?_ _)); exact BK9003.out) hb); have n6_ := Aside0.mk (below_step (by repeat (first | (with_reducible first | exact HB.out | apply below_alloc | apply pw_below_drewN | apply below_drew1 | refine below_set ?_ GE9001.out | refine below_set ?_ GE9002.out | refine below_set ?_ GE9003.out) | exact HB.out)) hb); clear BK9001; clear BK9002; clear BK9003; clear HB; have HO9008 := n0_; have HO9011 := n1_; have HO9014 := n2_; have BK9001 := n3_; have BK9002 := n4_; have BK9003 := n5_; have HB := n6_; clear n0_ n1_ n2_ n3_ n4_ n5_ n6_; (try clear hb); (try clear hb2); (try clear hk); (try clear hi); (try clear ho0); (try clear ho1); (try clear ho2); obtain ⟨Ao16, co16, eo16⟩ := Kd.S_slice HO9008.out; subst eo16; have hcz17_0 : w15.cell? ⟨gb9003, 0, none⟩ = some (.string t9004) := (blk_cell BK9003.out 0).trans rfl; have hcz17_1 : w15.cell? ⟨gb9003, 1, none⟩ = some (.string t9005) := (blk_cell BK9003.out 1).trans rfl; have hcz17_2 : w15.cell? ⟨gb9003, 2, none⟩ = some (.slice none 0 0) := (blk_cell BK9003.out 2).trans rfl; have hcz17_3 : w15.cell? ⟨gb9003, 3, none⟩ = some (.slice none 0 0) := (blk_cell BK9003.out 3).trans rfl; have hcz17_4 : w15.cell? ⟨gb9003, 4, none⟩ = some (.slice none 0 0) := (blk_cell BK9003.out 4).trans rfl; have hcz17_5 : w15.cell? ⟨gb9003, 5, none⟩ = some (.slice none 0 0) := (blk_cell BK9003.out 5).trans rfl; have hfz17_0 := blk_frozen BK9003.out 0; have hfz17_1 := blk_frozen BK9003.out 1; have hfz17_2 := blk_frozen BK9003.out 2; have hfz17_3 := blk_frozen BK9003.out 3; have hfz17_4 := blk_frozen BK9003.out 4; have hfz17_5 := blk_frozen BK9003.out 5; obtain ⟨Ao18, co18, eo18⟩ := Kd.R_slice HO9011.out; subst eo18; obtain ⟨Ao19, co19, eo19⟩ := Kd.S_slice HO9014.out; subst eo19; have hcz20_0 : w15.cell? ⟨gb9001, 0, none⟩ = some (.string a0_0) := (blk_cell BK9001.out 0).trans rfl; have hcz20_1 : w15.cell? ⟨gb9001, 1, none⟩ = some (.string a0_1) := (blk_cell BK9001.out 1).trans rfl; have hcz20_2 : w15.cell? ⟨gb9001, 2, none⟩ = some (.slice A0_2 l0_2.length c0_2) := (blk_cell BK9001.out 2).trans rfl; have hcz20_3 : w15.cell? ⟨gb9001, 3, none⟩ = some (.slice A0_3 l0_3.length c0_3) := (blk_cell BK9001.out 3).trans rfl; have hcz20_4 : w15.cell? ⟨gb9001, 4, none⟩ = some (.slice A0_4 l0_4.length c0_4) := (blk_cell BK9001.out 4).trans rfl; have hcz20_5 : w15.cell? ⟨gb9001, 5, none⟩ = some (.slice A0_5 l0_5.length c0_5) := (blk_cell BK9001.out 5).trans rfl; have hfz20_0 := blk_frozen BK9001.out 0; have hfz20_1 := blk_frozen BK9001.out 1; have hfz20_2 := blk_frozen BK9001.out 2; have hfz20_3 := blk_frozen BK9001.out 3; have hfz20_4 := blk_frozen BK9001.out 4; have hfz20_5 := blk_frozen BK9001.out 5) | ((with_reducible refine gate_callee (f := 50) rfl ?_); refine goesL_ (some 14) rfl rfl Try.func50 (by kernel_rfl) rfl #[.slice A0_5 l0_5.length c0_5] rfl (by (try simp only [List.map_toArray, List.map_cons, List.map_nil]); first | done | rfl | (simp only [List.length_drop, List.length_take]; rfl)) ?_; (with_reducible refine (laws_toIntSS.calls k _ _ l0_5 t9015 _ ?side1 ?side2 A4.out).mono ?_); (case side1 => exact Kd.C_below HR0_5.out (by repeat (first | (with_reducible first | exact HB.out | apply below_alloc | apply pw_below_drewN | apply below_drew1 | refine below_set ?_ GE9001.out | refine below_set ?_ GE9002.out | refine below_set ?_ GE9003.out) | exact HB.out))); (case side2 => exact HC0_5.out); rintro e w21 ⟨v9016, rfl, ho0, hb⟩; refine ⟨_, rfl, ?_⟩; have n0_ := Aside0.mk (Kd.S_elder' (by (with_reducible repeat (first | apply Kd.S_alloc | apply Kd.S_drewN | apply Kd.S_drew)); exact (Kd.S_mono (Kd.S_far (p := ⟨gb9003, 4, none⟩) (Kd.S_far (p := ⟨gb9003, 3, none⟩) (Kd.S_far (p := ⟨gb9003, 2, none⟩) (Kd.S_types HO9008.out BK9003.out (by decide)) (fun _ hk => hk.2) (.slice Ao16 t9006.length co16)) (fun _ hk => hk.2) (.slice Ao18 t9009.length co18)) (fun _ hk => hk.2) (.slice Ao19 t9012.length co19)) (fun _ h_ => h_.1))) (Kd.S_base ho0) hb); have n1_ := Aside0.mk (Kd.R_below (by (with_reducible repeat (first | apply Kd.R_alloc | apply Kd.R_drewN | apply Kd.R_drew)); exact (Kd.R_mono (Kd.R_far (p := ⟨gb9003, 4, none⟩) (Kd.R_far (p := ⟨gb9003, 3, none⟩) (Kd.R_far (p := ⟨gb9003, 2, none⟩) (Kd.R_types HO9011.out BK9003.out (by decide)) (fun _ hk => hk.2) (.slice Ao16 t9006.length co16)) (fun _ hk => hk.2) (.slice Ao18 t9009.length co18)) (fun _ hk => hk.2) (.slice Ao19 t9012.length co19)) (fun _ h_ => h_.1))) hb); have n2_ := Aside0.mk (Kd.S_elder' (by (with_reducible repeat (first | apply Kd.S_alloc | apply Kd.S_drewN | apply Kd.S_drew)); exact (Kd.S_mono (Kd.S_far (p := ⟨gb9003, 4, none⟩) (Kd.S_far (p := ⟨gb9003, 3, none⟩) (Kd.S_far (p := ⟨gb9003, 2, none⟩) (Kd.S_types HO9014.out BK9003.out (by decide)) (fun _ hk => hk.2) (.slice Ao16 t9006.length co16)) (fun _ hk => hk.2) (.slice Ao18 t9009.length co18)) (fun _ hk => hk.2) (.slice Ao19 t9012.length co19)) (fun _ h_ => h_.1))) (Kd.S_base ho0) hb); have n3_ := Aside0.mk (Kd.S_lower (Kd.S_new' (Kd.S_new' (Kd.S_new' ho0 (Kd.S_lt (by (with_reducible repeat (first | apply Kd.S_alloc | apply Kd.S_drewN | apply Kd.S_drew)); exact (Kd.S_mono (Kd.S_far (p := ⟨gb9003, 4, none⟩) (Kd.S_far (p := ⟨gb9003, 3, none⟩) (Kd.S_far (p := ⟨gb9003, 2, none⟩) (Kd.S_types HO9008.out BK9003.out (by decide)) (fun _ hk => hk.2) (.slice Ao16 t9006.length co16)) (fun _ hk => hk.2) (.slice Ao18 t9009.length co18)) (fun _ hk => hk.2) (.slice Ao19 t9012.length co19)) (fun _ h_ => h_.1))))) (Kd.R_lt (by (with_reducible repeat (first | apply Kd.R_alloc | apply Kd.R_drewN | apply Kd.R_drew)); exact (Kd.R_mono (Kd.R_far (p := ⟨gb9003, 4, none⟩) (Kd.R_far (p := ⟨gb9003, 3, none⟩) (Kd.R_far (p := ⟨gb9003, 2, none⟩) (Kd.R_types HO9011.out BK9003.out (by decide)) (fun _ hk => hk.2) (.slice Ao16 t9006.length co16)) (fun _ hk => hk.2) (.slice Ao18 t9009.length co18)) (fun _ hk => hk.2) (.slice Ao19 t9012.length co19)) (fun _ h_ => h_.1))))) (Kd.S_lt (by (with_reducible repeat (first | apply Kd.S_alloc | apply Kd.S_drewN | apply Kd.S_drew)); exact (Kd.S_mono (Kd.S_far (p := ⟨gb9003, 4, none⟩) (Kd.S_far (p := ⟨gb9003, 3, none⟩) (Kd.S_far (p := ⟨gb9003, 2, none⟩) (Kd.S_types HO9014.out BK9003.out (by decide)) (fun _ hk => hk.2) (.slice Ao16 t9006.length co16)) (fun _ hk => hk.2) (.slice Ao18 t9009.length co18)) (fun _ hk => hk.2) (.slice Ao19 t9012.length co19)) (fun _ h_ => h_.1))))) (below_size (by repeat (first | (with_reducible first | exact HB.out | apply below_alloc | apply pw_below_drewN | apply below_drew1 | refine below_set ?_ GE9001.out | refine below_set ?_ GE9002.out | refine below_set ?_ GE9003.out) | exact HB.out)))); have n4_ := Aside0.mk (blk_below (g := gb9001) (o := .cells #[.string a0_0, .string a0_1, .slice A0_2 l0_2.length c0_2, .slice A0_3 l0_3.length c0_3, .slice A0_4 l0_4.length c0_4, .slice A0_5 l0_5.length c0_5] 29 (0, 0)) (by (with_reducible repeat (first | refine blk_drewN ?_ _ | refine blk_drew ?_ | refine blk_alloc ?_ _)); refine blk_far ?_ NB9001_9003.out _; (with_reducible repeat (first | refine blk_drewN ?_ _ | refine blk_drew ?_ | refine blk_alloc ?_ _)); refine blk_far ?_ NB9001_9003.out _; (with_reducible repeat (first | refine blk_drewN ?_ _ | refine blk_drew ?_ | refine blk_alloc ?_ _)); refine blk_far ?_ NB9001_9003.out _; (with_reducible repeat (first | refine blk_drewN ?_ _ | refine blk_drew ?_ | refine blk_alloc ?_ _)); exact BK9001.out) hb); have n5_ := Aside0.mk (blk_below (g := gb9002) (o := .cells #[.string (⟨#[]⟩ : ByteArray), .string (⟨#[]⟩ : ByteArray), .slice none 0 0, .slice none 0 0, .slice none 0 0, .slice none 0 0] 36 (0, 0)) (by (with_reducible repeat (first | refine blk_drewN ?_ _ | refine blk_drew ?_ | refine blk_alloc ?_ _)); refine blk_far ?_ NB9002_9003.out _; (with_reducible repeat (first | refine blk_drewN ?_ _ | refine blk_drew ?_ | refine blk_alloc ?_ _)); refine blk_far ?_ NB9002_9003.out _; (with_reducible repeat (first | refine blk_drewN ?_ _ | refine blk_drew ?_ | refine blk_alloc ?_ _)); refine blk_far ?_ NB9002_9003.out _; (with_reducible repeat (first | refine blk_drewN ?_ _ | refine blk_drew ?_ | refine blk_alloc ?_ _)); exact BK9002.out) hb); have n6_ := Aside0.mk (blk_below (g := gb9003) (o := .cells #[.string t9004, .string t9005, .slice Ao16 t9006.length co16, .slice Ao18 t9009.length co18, .slice Ao19 t9012.length co19, .slice none 0 0] 36 (0, 0)) (by (with_reducible repeat (first | refine blk_drewN ?_ _ | refine blk_drew ?_ | refine blk_alloc ?_ _)); refine blk_put (cs := #[.string t9004, .string t9005, .slice Ao16 t9006.length co16, .slice Ao18 t9009.length co18, .slice none 0 0, .slice none 0 0]) ?_ 4 _ rfl; (with_reducible repeat (first | refine blk_drewN ?_ _ | refine blk_drew ?_ | refine blk_alloc ?_ _)); refine blk_put (cs := #[.string t9004, .string t9005, .slice Ao16 t9006.length co16, .slice none 0 0, .slice none 0 0, .slice none 0 0]) ?_ 3 _ rfl; (with_reducible repeat (first | refine blk_drewN ?_ _ | refine blk_drew ?_ | refine blk_alloc ?_ _)); refine blk_put (cs := #[.string t9004, .string t9005, .slice none 0 0, .slice none 0 0, .slice none 0 0, .slice none 0 0]) ?_ 2 _ rfl; (with_reducible repeat (first | refine blk_drewN ?_ _ | refine blk_drew ?_ | refine blk_alloc ?_ _)); exact BK9003.out) hb); have n7_ := Aside0.mk (below_step (by repeat (first | (with_reducible first | exact HB.out | apply below_alloc | apply pw_below_drewN | apply below_drew1 | refine below_set ?_ GE9001.out | refine below_set ?_ GE9002.out | refine below_set ?_ GE9003.out) | exact HB.out)) hb); clear HO9008; clear HO9011; clear HO9014; clear BK9001; clear BK9002; clear BK9003; clear HB; have HO9008 := n0_; have HO9011 := n1_; have HO9014 := n2_; have HO9017 := n3_; have BK9001 := n4_; have BK9002 := n5_; have BK9003 := n6_; have HB := n7_; clear n0_ n1_ n2_ n3_ n4_ n5_ n6_ n7_; (try clear hb); (try clear hb2); (try clear hk); (try clear hi); (try clear ho0); obtain ⟨Ao22, co22, eo22⟩ := Kd.S_slice HO9017.out; subst eo22; have hcz23_0 : w21.cell? ⟨gb9003, 0, none⟩ = some (.string t9004) := (blk_cell BK9003.out 0).trans rfl; have hcz23_1 : w21.cell? ⟨gb9003, 1, none⟩ = some (.string t9005) := (blk_cell BK9003.out 1).trans rfl; have hcz23_2 : w21.cell? ⟨gb9003, 2, none⟩ = some (.slice Ao16 t9006.length co16) := (blk_cell BK9003.out 2).trans rfl; have hcz23_3 : w21.cell? ⟨gb9003, 3, none⟩ = some (.slice Ao18 t9009.length co18) := (blk_cell BK9003.out 3).trans rfl; have hcz23_4 : w21.cell? ⟨gb9003, 4, none⟩ = some (.slice Ao19 t9012.length co19) := (blk_cell BK9003.out 4).trans rfl; have hcz23_5 : w21.cell? ⟨gb9003, 5, none⟩ = some (.slice none 0 0) := (blk_cell BK9003.out 5).trans rfl; have hfz23_0 := blk_frozen BK9003.out 0; have hfz23_1 := blk_frozen BK9003.out 1; have hfz23_2 := blk_frozen BK9003.out 2; have hfz23_3 := blk_frozen BK9003.out 3; have hfz23_4 := blk_frozen BK9003.out 4; have hfz23_5 := blk_frozen BK9003.out 5; have hcz24_0 : w21.cell? ⟨gb9002, 0, none⟩ = some (.string (⟨#[]⟩ : ByteArray)) := (blk_cell BK9002.out 0).trans rfl; have hcz24_1 : w21.cell? ⟨gb9002, 1, none⟩ = some (.string (⟨#[]⟩ : ByteArray)) := (blk_cell BK9002.out 1).trans rfl; have hcz24_2 : w21.cell? ⟨gb9002, 2, none⟩ = some (.slice none 0 0) := (blk_cell BK9002.out 2).trans rfl; have hcz24_3 : w21.cell? ⟨gb9002, 3, none⟩ = some (.slice none 0 0) := (blk_cell BK9002.out 3).trans rfl; have hcz24_4 : w21.cell? ⟨gb9002, 4, none⟩ = some (.slice none 0 0) := (blk_cell BK9002.out 4).trans rfl; have hcz24_5 : w21.cell? ⟨gb9002, 5, none⟩ = some (.slice none 0 0) := (blk_cell BK9002.out 5).trans rfl; have hfz24_0 := blk_frozen BK9002.out 0; have hfz24_1 := blk_frozen BK9002.out 1; have hfz24_2 := blk_frozen BK9002.out 2; have hfz24_3 := blk_frozen BK9002.out 3; have hfz24_4 := blk_frozen BK9002.out 4; have hfz24_5 := blk_frozen BK9002.out 5))
 refine bodyPost_ret (results_cell_row rfl _ _ gb9002 36 #[.string t9004, .string t9005, .slice Ao16 t9006.length co16, .slice Ao18 t9009.length co18, .slice Ao19 t9012.length co19, .slice Ao22 t9015.length co22] (0, 0) _ rfl (by (with_reducible repeat (first | refine blk_drewN ?_ _ | refine blk_drew ?_ | refine blk_alloc ?_ _)); refine blk_put (cs := #[.string t9004, .string t9005, .slice Ao16 t9006.length co16, .slice Ao18 t9009.length co18, .slice Ao19 t9012.length co19, .slice none 0 0]) ?_ 5 _ rfl; (with_reducible repeat (first | refine blk_drewN ?_ _ | refine blk_drew ?_ | refine blk_alloc ?_ _)); refine blk_put (cs := #[.string t9004, .string t9005, .slice Ao16 t9006.length co16, .slice Ao18 t9009.length co18, .slice none 0 0, .slice none 0 0]) ?_ 4 _ rfl; (with_reducible repeat (first | refine blk_drewN ?_ _ | refine blk_drew ?_ | refine blk_alloc ?_ _)); refine blk_put (cs := #[.string t9004, .string t9005, .slice Ao16 t9006.length co16, .slice none 0 0, .slice none 0 0, .slice none 0 0]) ?_ 3 _ rfl; (with_reducible repeat (first | refine blk_drewN ?_ _ | refine blk_drew ?_ | refine blk_alloc ?_ _)); refine blk_put (cs := #[.string t9004, .string t9005, .slice none 0 0, .slice none 0 0, .slice none 0 0, .slice none 0 0]) ?_ 2 _ rfl; (with_reducible repeat (first | refine blk_drewN ?_ _ | refine blk_drew ?_ | refine blk_alloc ?_ _)); refine blk_put (cs := #[.string t9004, .string (⟨#[]⟩ : ByteArray), .slice none 0 0, .slice none 0 0, .slice none 0 0, .slice none 0 0]) ?_ 1 _ rfl; (with_reducible repeat (first | refine blk_drewN ?_ _ | refine blk_drew ?_ | refine blk_alloc ?_ _)); refine blk_put (cs := #[.string (⟨#[]⟩ : ByteArray), .string (⟨#[]⟩ : ByteArray), .slice none 0 0, .slice none 0 0, .slice none 0 0, .slice none 0 0]) ?_ 0 _ rfl; (with_reducible repeat (first | refine blk_drewN ?_ _ | refine blk_drew ?_ | refine blk_alloc ?_ _)); refine blk_far ?_ NB9002_9003.out _; (with_reducible repeat (first | refine blk_drewN ?_ _ | refine blk_drew ?_ | refine blk_alloc ?_ _)); exact BK9002.out) Try.underlying36 rfl (by kernel_rfl)) rfl ?_
 exact ⟨_, _, _, _, by first | rfl | (simp [errW_none, errW_some] <;> rfl) | (simp [*, errW_none, errW_some] <;> rfl), by (with_reducible repeat (first | apply Kd.S_alloc | apply Kd.S_drewN | apply Kd.S_drew)); exact Kd.S_mono (Kd.S_far (p := ⟨gb9002, 5, none⟩) (Kd.S_far (p := ⟨gb9002, 4, none⟩) (Kd.S_far (p := ⟨gb9002, 3, none⟩) (Kd.S_far (p := ⟨gb9002, 2, none⟩) (Kd.S_far (p := ⟨gb9002, 1, none⟩) (Kd.S_far (p := ⟨gb9002, 0, none⟩) (Kd.S_far (p := ⟨gb9003, 5, none⟩) (Kd.S_types (Kd.S_types HO9008.out BK9003.out (by decide)) BK9002.out (by decide)) (fun _ hk => hk.1.2) (.slice Ao22 t9015.length co22)) (fun _ hk => hk.2) (.string t9004)) (fun _ hk => hk.2) (.string t9005)) (fun _ hk => hk.2) (.slice Ao16 t9006.length co16)) (fun _ hk => hk.2) (.slice Ao18 t9009.length co18)) (fun _ hk => hk.2) (.slice Ao19 t9012.length co19)) (fun _ hk => hk.2) (.slice Ao22 t9015.length co22)) (fun _ hk => ⟨hk.1.1.1.1, ⟨hk.1.1.1.2, hk.1.1.2⟩⟩), by (with_reducible repeat (first | apply Kd.R_alloc | apply Kd.R_drewN | apply Kd.R_drew)); exact Kd.R_mono (Kd.R_far (p := ⟨gb9002, 5, none⟩) (Kd.R_far (p := ⟨gb9002, 4, none⟩) (Kd.R_far (p := ⟨gb9002, 3, none⟩) (Kd.R_far (p := ⟨gb9002, 2, none⟩) (Kd.R_far (p := ⟨gb9002, 1, none⟩) (Kd.R_far (p := ⟨gb9002, 0, none⟩) (Kd.R_far (p := ⟨gb9003, 5, none⟩) (Kd.R_types (Kd.R_types HO9011.out BK9003.out (by decide)) BK9002.out (by decide)) (fun _ hk => hk.1.2) (.slice Ao22 t9015.length co22)) (fun _ hk => hk.2) (.string t9004)) (fun _ hk => hk.2) (.string t9005)) (fun _ hk => hk.2) (.slice Ao16 t9006.length co16)) (fun _ hk => hk.2) (.slice Ao18 t9009.length co18)) (fun _ hk => hk.2) (.slice Ao19 t9012.length co19)) (fun _ hk => hk.2) (.slice Ao22 t9015.length co22)) (fun _ hk => trivial), by (with_reducible repeat (first | apply Kd.S_alloc | apply Kd.S_drewN | apply Kd.S_drew)); exact Kd.S_mono (Kd.S_far (p := ⟨gb9002, 5, none⟩) (Kd.S_far (p := ⟨gb9002, 4, none⟩) (Kd.S_far (p := ⟨gb9002, 3, none⟩) (Kd.S_far (p := ⟨gb9002, 2, none⟩) (Kd.S_far (p := ⟨gb9002, 1, none⟩) (Kd.S_far (p := ⟨gb9002, 0, none⟩) (Kd.S_far (p := ⟨gb9003, 5, none⟩) (Kd.S_types (Kd.S_types HO9014.out BK9003.out (by decide)) BK9002.out (by decide)) (fun _ hk => hk.1.2) (.slice Ao22 t9015.length co22)) (fun _ hk => hk.2) (.string t9004)) (fun _ hk => hk.2) (.string t9005)) (fun _ hk => hk.2) (.slice Ao16 t9006.length co16)) (fun _ hk => hk.2) (.slice Ao18 t9009.length co18)) (fun _ hk => hk.2) (.slice Ao19 t9012.length co19)) (fun _ hk => hk.2) (.slice Ao22 t9015.length co22)) (fun _ hk => ⟨hk.1.1.1.1, ⟨hk.1.1.1.2, hk.1.1.2⟩⟩), by (with_reducible repeat (first | apply Kd.S_alloc | apply Kd.S_drewN | apply Kd.S_drew)); exact Kd.S_mono (Kd.S_far (p := ⟨gb9002, 5, none⟩) (Kd.S_far (p := ⟨gb9002, 4, none⟩) (Kd.S_far (p := ⟨gb9002, 3, none⟩) (Kd.S_far (p := ⟨gb9002, 2, none⟩) (Kd.S_far (p := ⟨gb9002, 1, none⟩) (Kd.S_far (p := ⟨gb9002, 0, none⟩) (Kd.S_far (p := ⟨gb9003, 5, none⟩) (Kd.S_types (Kd.S_types HO9017.out BK9003.out (by decide)) BK9002.out (by decide)) (fun _ hk => hk.1.2) (.slice Ao22 t9015.length co22)) (fun _ hk => hk.2) (.string t9004)) (fun _ hk => hk.2) (.string t9005)) (fun _ hk => hk.2) (.slice Ao16 t9006.length co16)) (fun _ hk => hk.2) (.slice Ao18 t9009.length co18)) (fun _ hk => hk.2) (.slice Ao19 t9012.length co19)) (fun _ hk => hk.2) (.slice Ao22 t9015.length co22)) (fun _ hk => ⟨hk.1.1.1.1.2, ⟨hk.1.1.1.2, hk.1.1.2⟩⟩), by repeat (first | (with_reducible first | exact HB.out | apply below_alloc | apply pw_below_drewN | apply below_drew1 | refine below_set ?_ GE9001.out | refine below_set ?_ GE9002.out | refine below_set ?_ GE9003.out) | exact HB.out)⟩
end Go.Proofs.Ytjmfpaalglbbhaa.A
namespace Go.Proofs.Ytjmfpaalglbbhaa.A
open Go.RowKit Go.Proofs.Ytjmfpaalglbbhaa.Ext Go.Proofs.YtjmfpaalglbbhaaW.PrintWords Go.Proofs.YtjmfpaalglbbhaaW.PrintLast Go.Proofs.YtjmfpaalglbbhaaW.PrintMore
attribute [local go_sem] max2_int min2_int max_two min_two max_three min_three max_four min_four
def laws_eqFrame.f (k : Nat) (a0_0 : ByteArray) (a0_1 : ByteArray) (l0_2 : List (List Int)) (l0_3 : List Int) (l0_4 : List (List Int)) (l0_5 : List (List Int)) (a1_0 : ByteArray) (a1_1 : ByteArray) (l1_2 : List (List Int)) (l1_3 : List Int) (l1_4 : List (List Int)) (l1_5 : List (List Int)) : Option (Bool) := (laws_eqEquation.f a0_0 a0_1 a1_0 a1_1).bind fun t12003 => (if t12003 = true then ((laws_eqMonoid.f k l0_2 l0_3 l0_4 l1_2 l1_3 l1_4).bind fun t12004 => (if t12004 = true then ((laws_eqIntSS.f k l0_5 l1_5).bind fun t12005 => (if t12005 = true then (some true) else (some false))) else (some false))) else (some false))
theorem laws_eqFrame.mono : ∀ a0 a1 a2 a3 a4 a5 a6 a7 a8 a9 a10 a11 k, LeO (laws_eqFrame.f k a0 a1 a2 a3 a4 a5 a6 a7 a8 a9 a10 a11) (laws_eqFrame.f (k + 1) a0 a1 a2 a3 a4 a5 a6 a7 a8 a9 a10 a11) := by
 intro a0 a1 a2 a3 a4 a5 a6 a7 a8 a9 a10 a11 k
 unfold laws_eqFrame.f
 repeat' first
   | (with_reducible exact laws_eqIntSS.mono _ _ _)
   | (with_reducible exact laws_eqMonoid.mono _ _ _ _ _ _ _)
   | (with_reducible exact LeO.refl _)
   | (with_reducible exact LeO.none _)
   | (with_reducible refine LeO.ite ?_ ?_)
   | (with_reducible refine LeO.bind ?_ (fun _ => ?_))
theorem laws_eqFrame.calls (k : Nat) (a0_0 : ByteArray) (a0_1 : ByteArray) (A0_2 : Option Addr) (c0_2 : Nat) (l0_2 : List (List Int)) (A0_3 : Option Addr) (c0_3 : Nat) (l0_3 : List Int) (A0_4 : Option Addr) (c0_4 : Nat) (l0_4 : List (List Int)) (A0_5 : Option Addr) (c0_5 : Nat) (l0_5 : List (List Int)) (a1_0 : ByteArray) (a1_1 : ByteArray) (A1_2 : Option Addr) (c1_2 : Nat) (l1_2 : List (List Int)) (A1_3 : Option Addr) (c1_3 : Nat) (l1_3 : List Int) (A1_4 : Option Addr) (c1_4 : Nat) (l1_4 : List (List Int)) (A1_5 : Option Addr) (c1_5 : Nat) (l1_5 : List (List Int)) (r : Bool) (w : World) (hr0_2 : Kd.C (Kd.slice 3 (Kd.int .i64)) w A0_2 l0_2.length l0_2) (hc0_2 : l0_2.length ≤ c0_2) (hr0_3 : Kd.C (Kd.int .i64) w A0_3 l0_3.length l0_3) (hc0_3 : l0_3.length ≤ c0_3) (hr0_4 : Kd.C (Kd.slice 3 (Kd.int .i64)) w A0_4 l0_4.length l0_4) (hc0_4 : l0_4.length ≤ c0_4) (hr0_5 : Kd.C (Kd.slice 3 (Kd.int .i64)) w A0_5 l0_5.length l0_5) (hc0_5 : l0_5.length ≤ c0_5) (hr1_2 : Kd.C (Kd.slice 3 (Kd.int .i64)) w A1_2 l1_2.length l1_2) (hc1_2 : l1_2.length ≤ c1_2) (hr1_3 : Kd.C (Kd.int .i64) w A1_3 l1_3.length l1_3) (hc1_3 : l1_3.length ≤ c1_3) (hr1_4 : Kd.C (Kd.slice 3 (Kd.int .i64)) w A1_4 l1_4.length l1_4) (hc1_4 : l1_4.length ≤ c1_4) (hr1_5 : Kd.C (Kd.slice 3 (Kd.int .i64)) w A1_5 l1_5.length l1_5) (hc1_5 : l1_5.length ≤ c1_5) (h : laws_eqFrame.f k a0_0 a0_1 l0_2 l0_3 l0_4 l0_5 a1_0 a1_1 l1_2 l1_3 l1_4 l1_5 = some r) :
  Calls Try.prog 12 #[.agg #[.string a0_0, .string a0_1, .slice A0_2 l0_2.length c0_2, .slice A0_3 l0_3.length c0_3, .slice A0_4 l0_4.length c0_4, .slice A0_5 l0_5.length c0_5], .agg #[.string a1_0, .string a1_1, .slice A1_2 l1_2.length c1_2, .slice A1_3 l1_3.length c1_3, .slice A1_4 l1_4.length c1_4, .slice A1_5 l1_5.length c1_5]] w fun e w' => e = .returned (.bool r) ∧ Below w.heap.size w w' := by
 have hu36 := Try.underlying36
 have hu33 := Try.underlying33
 have hu34 := Try.underlying34
 have HR0_2 := Aside0.mk hr0_2
 have HC0_2 := Aside0.mk hc0_2
 clear hr0_2 hc0_2
 have HR0_3 := Aside0.mk hr0_3
 have HC0_3 := Aside0.mk hc0_3
 clear hr0_3 hc0_3
 have HR0_4 := Aside0.mk hr0_4
 have HC0_4 := Aside0.mk hc0_4
 clear hr0_4 hc0_4
 have HR0_5 := Aside0.mk hr0_5
 have HC0_5 := Aside0.mk hc0_5
 clear hr0_5 hc0_5
 have HR1_2 := Aside0.mk hr1_2
 have HC1_2 := Aside0.mk hc1_2
 clear hr1_2 hc1_2
 have HR1_3 := Aside0.mk hr1_3
 have HC1_3 := Aside0.mk hc1_3
 clear hr1_3 hc1_3
 have HR1_4 := Aside0.mk hr1_4
 have HC1_4 := Aside0.mk hc1_4
 clear hr1_4 hc1_4
 have HR1_5 := Aside0.mk hr1_5
 have HC1_5 := Aside0.mk hc1_5
 clear hr1_5 hc1_5
 have HB := Aside0.mk (Below.refl w.heap.size w)
 have H : ((laws_eqEquation.f a0_0 a0_1 a1_0 a1_1).bind fun t12003 => (if t12003 = true then ((laws_eqMonoid.f k l0_2 l0_3 l0_4 l1_2 l1_3 l1_4).bind fun t12004 => (if t12004 = true then ((laws_eqIntSS.f k l0_5 l1_5).bind fun t12005 => (if t12005 = true then (some true) else (some false))) else (some false))) else (some false))) = some r := h
 clear h
 replace H := Option.bind_eq_some_iff.mp H
 obtain ⟨t12003, A30, H⟩ := H
 replace H : (if t12003 = true then ((laws_eqMonoid.f k l0_2 l0_3 l0_4 l1_2 l1_3 l1_4).bind fun t12004 => (if t12004 = true then ((laws_eqIntSS.f k l0_5 l1_5).bind fun t12005 => (if t12005 = true then (some true) else (some false))) else (some false))) else (some false)) = some r := H
 have A3 := Aside0.mk A30
 clear A30
 by_cases c4 : t12003 = true
 ·subst c4
  have H1 : ((laws_eqMonoid.f k l0_2 l0_3 l0_4 l1_2 l1_3 l1_4).bind fun t12004 => (if t12004 = true then ((laws_eqIntSS.f k l0_5 l1_5).bind fun t12005 => (if t12005 = true then (some true) else (some false))) else (some false))) = some r := by rw [if_pos rfl] at H; exact H
  clear H
  have H := H1
  clear H1
  replace H := Option.bind_eq_some_iff.mp H
  obtain ⟨t12004, A50, H⟩ := H
  replace H : (if t12004 = true then ((laws_eqIntSS.f k l0_5 l1_5).bind fun t12005 => (if t12005 = true then (some true) else (some false))) else (some false)) = some r := H
  have A5 := Aside0.mk A50
  clear A50
  by_cases c6 : t12004 = true
  ·subst c6
   have H1 : ((laws_eqIntSS.f k l0_5 l1_5).bind fun t12005 => (if t12005 = true then (some true) else (some false))) = some r := by rw [if_pos rfl] at H; exact H
   clear H
   have H := H1
   clear H1
   replace H := Option.bind_eq_some_iff.mp H
   obtain ⟨t12005, A70, H⟩ := H
   replace H : (if t12005 = true then (some true) else (some false)) = some r := H
   have A7 := Aside0.mk A70
   clear A70
   by_cases c8 : t12005 = true
   ·subst c8
    have H1 : (some true) = some r := by rw [if_pos rfl] at H; exact H
    clear H
    have H := H1
    clear H1
    obtain rfl := Option.some.inj H
    go_enter Try.func12, Try.ntmps12
    go_wp2_with (first | ((with_reducible refine gate_dst (N := 2) rfl ?_); refine box_event ?hg (N := 2) ?hd (cs := #[.string a0_0, .string a0_1, .slice A0_2 l0_2.length c0_2, .slice A0_3 l0_3.length c0_3, .slice A0_4 l0_4.length c0_4, .slice A0_5 l0_5.length c0_5]) (t := 36) ?hr ?_; (case hd => rfl); (case hg => rfl); (case hr => first | (go_simp; done) | (go_simp; rfl)); intro gb12001 hg w9 hbox hb; have n0_ := Aside0.mk (below_step (by repeat (first | (with_reducible first | exact HB.out | apply below_alloc | apply pw_below_drewN | apply below_drew1) | exact HB.out)) hb); have n1_ := Aside0.mk (hbox); have n2_ := Aside0.mk ((by rw [hg]; exact (below_size (by repeat (first | (with_reducible first | exact HB.out | apply below_alloc | apply pw_below_drewN | apply below_drew1) | exact HB.out))) : w.heap.size ≤ gb12001)); have n3_ := Aside0.mk ((by rw [hg]; exact (below_size (by repeat (first | (with_reducible first | exact HB.out | apply below_alloc | apply pw_below_drewN | apply below_drew1) | exact HB.out))) : w.heap.size ≤ gb12001)); clear HB; have HB := n0_; have BK12001 := n1_; have GW12001 := n2_; have GE12001 := n3_; clear n0_ n1_ n2_ n3_; clear hb hbox hg) | ((with_reducible refine gate_dst (N := 3) rfl ?_); refine box_event ?hg (N := 3) ?hd (cs := #[.string a1_0, .string a1_1, .slice A1_2 l1_2.length c1_2, .slice A1_3 l1_3.length c1_3, .slice A1_4 l1_4.length c1_4, .slice A1_5 l1_5.length c1_5]) (t := 36) ?hr ?_; (case hd => rfl); (case hg => rfl); (case hr => first | (go_simp; done) | (go_simp; rfl)); intro gb12002 hg w10 hbox hb; have n0_ := Aside0.mk (blk_below (g := gb12001) (o := .cells #[.string a0_0, .string a0_1, .slice A0_2 l0_2.length c0_2, .slice A0_3 l0_3.length c0_3, .slice A0_4 l0_4.length c0_4, .slice A0_5 l0_5.length c0_5] 36 (0, 0)) (by (with_reducible repeat (first | refine blk_drewN ?_ _ | refine blk_drew ?_ | refine blk_alloc ?_ _)); exact BK12001.out) hb); have n1_ := Aside0.mk (below_step (by repeat (first | (with_reducible first | exact HB.out | apply below_alloc | apply pw_below_drewN | apply below_drew1 | refine below_set ?_ GE12001.out) | exact HB.out)) hb); have n2_ := Aside0.mk (hbox); have n3_ := Aside0.mk ((by rw [hg]; exact (below_size (by repeat (first | (with_reducible first | exact HB.out | apply below_alloc | apply pw_below_drewN | apply below_drew1 | refine below_set ?_ GE12001.out) | exact HB.out))) : w.heap.size ≤ gb12002)); have n4_ := Aside0.mk ((by rw [hg]; exact (below_size (by repeat (first | (with_reducible first | exact HB.out | apply below_alloc | apply pw_below_drewN | apply below_drew1 | refine below_set ?_ GE12001.out) | exact HB.out))) : w.heap.size ≤ gb12002)); have n5_ := Aside0.mk ((by rw [hg]; exact Nat.ne_of_lt (blk_lt (g := gb12001) (o := .cells #[.string a0_0, .string a0_1, .slice A0_2 l0_2.length c0_2, .slice A0_3 l0_3.length c0_3, .slice A0_4 l0_4.length c0_4, .slice A0_5 l0_5.length c0_5] 36 (0, 0)) (by (with_reducible repeat (first | refine blk_drewN ?_ _ | refine blk_drew ?_ | refine blk_alloc ?_ _)); exact BK12001.out)) : gb12001 ≠ gb12002)); have n6_ := Aside0.mk ((by rw [hg]; exact Nat.ne_of_gt (blk_lt (g := gb12001) (o := .cells #[.string a0_0, .string a0_1, .slice A0_2 l0_2.length c0_2, .slice A0_3 l0_3.length c0_3, .slice A0_4 l0_4.length c0_4, .slice A0_5 l0_5.length c0_5] 36 (0, 0)) (by (with_reducible repeat (first | refine blk_drewN ?_ _ | refine blk_drew ?_ | refine blk_alloc ?_ _)); exact BK12001.out)) : gb12002 ≠ gb12001)); clear BK12001; clear HB; have BK12001 := n0_; have HB := n1_; have BK12002 := n2_; have GW12002 := n3_; have GE12002 := n4_; have NB12001_12002 := n5_; have NB12002_12001 := n6_; clear n0_ n1_ n2_ n3_ n4_ n5_ n6_; clear hb hbox hg; have hnb11 := NB12001_12002.out; have hnc11 := NB12002_12001.out; have hcz12_0 : w10.cell? ⟨gb12001, 0, none⟩ = some (.string a0_0) := (blk_cell BK12001.out 0).trans rfl; have hcz12_1 : w10.cell? ⟨gb12001, 1, none⟩ = some (.string a0_1) := (blk_cell BK12001.out 1).trans rfl; have hcz12_2 : w10.cell? ⟨gb12001, 2, none⟩ = some (.slice A0_2 l0_2.length c0_2) := (blk_cell BK12001.out 2).trans rfl; have hcz12_3 : w10.cell? ⟨gb12001, 3, none⟩ = some (.slice A0_3 l0_3.length c0_3) := (blk_cell BK12001.out 3).trans rfl; have hcz12_4 : w10.cell? ⟨gb12001, 4, none⟩ = some (.slice A0_4 l0_4.length c0_4) := (blk_cell BK12001.out 4).trans rfl; have hcz12_5 : w10.cell? ⟨gb12001, 5, none⟩ = some (.slice A0_5 l0_5.length c0_5) := (blk_cell BK12001.out 5).trans rfl; have hfz12_0 := blk_frozen BK12001.out 0; have hfz12_1 := blk_frozen BK12001.out 1; have hfz12_2 := blk_frozen BK12001.out 2; have hfz12_3 := blk_frozen BK12001.out 3; have hfz12_4 := blk_frozen BK12001.out 4; have hfz12_5 := blk_frozen BK12001.out 5; have hcz13_0 : w10.cell? ⟨gb12002, 0, none⟩ = some (.string a1_0) := (blk_cell BK12002.out 0).trans rfl; have hcz13_1 : w10.cell? ⟨gb12002, 1, none⟩ = some (.string a1_1) := (blk_cell BK12002.out 1).trans rfl; have hcz13_2 : w10.cell? ⟨gb12002, 2, none⟩ = some (.slice A1_2 l1_2.length c1_2) := (blk_cell BK12002.out 2).trans rfl; have hcz13_3 : w10.cell? ⟨gb12002, 3, none⟩ = some (.slice A1_3 l1_3.length c1_3) := (blk_cell BK12002.out 3).trans rfl; have hcz13_4 : w10.cell? ⟨gb12002, 4, none⟩ = some (.slice A1_4 l1_4.length c1_4) := (blk_cell BK12002.out 4).trans rfl; have hcz13_5 : w10.cell? ⟨gb12002, 5, none⟩ = some (.slice A1_5 l1_5.length c1_5) := (blk_cell BK12002.out 5).trans rfl; have hfz13_0 := blk_frozen BK12002.out 0; have hfz13_1 := blk_frozen BK12002.out 1; have hfz13_2 := blk_frozen BK12002.out 2; have hfz13_3 := blk_frozen BK12002.out 3; have hfz13_4 := blk_frozen BK12002.out 4; have hfz13_5 := blk_frozen BK12002.out 5) | ((with_reducible refine gate_callee (f := 54) rfl ?_); refine goesL_ (some 9) rfl rfl Try.func54 (by kernel_rfl) rfl #[.agg #[.string a0_0, .string a0_1], .agg #[.string a1_0, .string a1_1]] rfl (by (try simp only [List.map_toArray, List.map_cons, List.map_nil]); first | done | rfl | (simp only [List.length_drop, List.length_take]; rfl)) ?_; (with_reducible refine (laws_eqEquation.calls a0_0 a0_1 a1_0 a1_1 true _ A3.out).mono ?_); rintro e w14 ⟨rfl, hb⟩; refine ⟨_, rfl, ?_⟩; have n0_ := Aside0.mk (blk_below (g := gb12001) (o := .cells #[.string a0_0, .string a0_1, .slice A0_2 l0_2.length c0_2, .slice A0_3 l0_3.length c0_3, .slice A0_4 l0_4.length c0_4, .slice A0_5 l0_5.length c0_5] 36 (0, 0)) (by (with_reducible repeat (first | refine blk_drewN ?_ _ | refine blk_drew ?_ | refine blk_alloc ?_ _)); exact BK12001.out) hb); have n1_ := Aside0.mk (blk_below (g := gb12002) (o := .cells #[.string a1_0, .string a1_1, .slice A1_2 l1_2.length c1_2, .slice A1_3 l1_3.length c1_3, .slice A1_4 l1_4.length c1_4, .slice A1_5 l1_5.length c1_5] 36 (0, 0)) (by (with_reducible repeat (first | refine blk_drewN ?_ _ | refine blk_drew ?_ | refine blk_alloc ?_ _)); exact BK12002.out) hb); have n2_ := Aside0.mk (below_step (by repeat (first | (with_reducible first | exact HB.out | apply below_alloc | apply pw_below_drewN | apply below_drew1 | refine below_set ?_ GE12001.out | refine below_set ?_ GE12002.out) | exact HB.out)) hb); clear BK12001; clear BK12002; clear HB; have BK12001 := n0_; have BK12002 := n1_; have HB := n2_; clear n0_ n1_ n2_; (try clear hb); (try clear hb2); (try clear hk); (try clear hi); have hcz15_0 : w14.cell? ⟨gb12001, 0, none⟩ = some (.string a0_0) := (blk_cell BK12001.out 0).trans rfl; have hcz15_1 : w14.cell? ⟨gb12001, 1, none⟩ = some (.string a0_1) := (blk_cell BK12001.out 1).trans rfl; have hcz15_2 : w14.cell? ⟨gb12001, 2, none⟩ = some (.slice A0_2 l0_2.length c0_2) := (blk_cell BK12001.out 2).trans rfl; have hcz15_3 : w14.cell? ⟨gb12001, 3, none⟩ = some (.slice A0_3 l0_3.length c0_3) := (blk_cell BK12001.out 3).trans rfl; have hcz15_4 : w14.cell? ⟨gb12001, 4, none⟩ = some (.slice A0_4 l0_4.length c0_4) := (blk_cell BK12001.out 4).trans rfl; have hcz15_5 : w14.cell? ⟨gb12001, 5, none⟩ = some (.slice A0_5 l0_5.length c0_5) := (blk_cell BK12001.out 5).trans rfl; have hfz15_0 := blk_frozen BK12001.out 0; have hfz15_1 := blk_frozen BK12001.out 1; have hfz15_2 := blk_frozen BK12001.out 2; have hfz15_3 := blk_frozen BK12001.out 3; have hfz15_4 := blk_frozen BK12001.out 4; have hfz15_5 := blk_frozen BK12001.out 5; have hcz16_0 : w14.cell? ⟨gb12002, 0, none⟩ = some (.string a1_0) := (blk_cell BK12002.out 0).trans rfl; have hcz16_1 : w14.cell? ⟨gb12002, 1, none⟩ = some (.string a1_1) := (blk_cell BK12002.out 1).trans rfl; have hcz16_2 : w14.cell? ⟨gb12002, 2, none⟩ = some (.slice A1_2 l1_2.length c1_2) := (blk_cell BK12002.out 2).trans rfl; have hcz16_3 : w14.cell? ⟨gb12002, 3, none⟩ = some (.slice A1_3 l1_3.length c1_3) := (blk_cell BK12002.out 3).trans rfl; have hcz16_4 : w14.cell? ⟨gb12002, 4, none⟩ = some (.slice A1_4 l1_4.length c1_4) := (blk_cell BK12002.out 4).trans rfl; have hcz16_5 : w14.cell? ⟨gb12002, 5, none⟩ = some (.slice A1_5 l1_5.length c1_5) := (blk_cell BK12002.out 5).trans rfl; have hfz16_0 := blk_frozen BK12002.out 0; have hfz16_1 := blk_frozen BK12002.out 1; have hfz16_2 := blk_frozen BK12002.out 2; have hfz16_3 := blk_frozen BK12002.out 3; have hfz16_4 := blk_frozen BK12002.out 4; have hfz16_5 := blk_frozen BK12002.out 5) | ((with_reducible refine gate_callee (f := 20) rfl ?_); refine goesL_ (some 15) rfl rfl Try.func20 (by kernel_rfl) rfl #[.agg #[.slice A0_2 l0_2.length c0_2, .slice A0_3 l0_3.length c0_3, .slice A0_4 l0_4.length c0_4], .agg #[.slice A1_2 l1_2.length c1_2, .slice A1_3 l1_3.length c1_3, .slice A1_4 l1_4.length c1_4]] rfl (by (try simp only [List.map_toArray, List.map_cons, List.map_nil]); first | done | rfl | (simp only [List.length_drop, List.length_take]; rfl)) ?_; (with_reducible refine (laws_eqMonoid.calls k _ _ l0_2 _ _ l0_3 _ _ l0_4 _ _ l1_2 _ _ l1_3 _ _ l1_4 true _ ?side1 ?side2 ?side3 ?side4 ?side5 ?side6 ?side7 ?side8 ?side9 ?side10 ?side11 ?side12 A5.out).mono ?_); (case side1 => repeat (first | exact (Kd.C_below HR0_2.out HB.out) | (with_reducible refine Kd.C_alloc ?_ _) | (with_reducible refine Kd.C_drewN ?_ _) | (with_reducible refine Kd.C_drew ?_))); (case side2 => exact HC0_2.out); (case side3 => repeat (first | exact (Kd.C_below HR0_3.out HB.out) | (with_reducible refine Kd.C_alloc ?_ _) | (with_reducible refine Kd.C_drewN ?_ _) | (with_reducible refine Kd.C_drew ?_))); (case side4 => exact HC0_3.out); (case side5 => repeat (first | exact (Kd.C_below HR0_4.out HB.out) | (with_reducible refine Kd.C_alloc ?_ _) | (with_reducible refine Kd.C_drewN ?_ _) | (with_reducible refine Kd.C_drew ?_))); (case side6 => exact HC0_4.out); (case side7 => repeat (first | exact (Kd.C_below HR1_2.out HB.out) | (with_reducible refine Kd.C_alloc ?_ _) | (with_reducible refine Kd.C_drewN ?_ _) | (with_reducible refine Kd.C_drew ?_))); (case side8 => exact HC1_2.out); (case side9 => repeat (first | exact (Kd.C_below HR1_3.out HB.out) | (with_reducible refine Kd.C_alloc ?_ _) | (with_reducible refine Kd.C_drewN ?_ _) | (with_reducible refine Kd.C_drew ?_))); (case side10 => exact HC1_3.out); (case side11 => repeat (first | exact (Kd.C_below HR1_4.out HB.out) | (with_reducible refine Kd.C_alloc ?_ _) | (with_reducible refine Kd.C_drewN ?_ _) | (with_reducible refine Kd.C_drew ?_))); (case side12 => exact HC1_4.out); rintro e w17 ⟨rfl, hb⟩; refine ⟨_, rfl, ?_⟩; have n0_ := Aside0.mk (blk_below (g := gb12001) (o := .cells #[.string a0_0, .string a0_1, .slice A0_2 l0_2.length c0_2, .slice A0_3 l0_3.length c0_3, .slice A0_4 l0_4.length c0_4, .slice A0_5 l0_5.length c0_5] 36 (0, 0)) (by (with_reducible repeat (first | refine blk_drewN ?_ _ | refine blk_drew ?_ | refine blk_alloc ?_ _)); exact BK12001.out) hb); have n1_ := Aside0.mk (blk_below (g := gb12002) (o := .cells #[.string a1_0, .string a1_1, .slice A1_2 l1_2.length c1_2, .slice A1_3 l1_3.length c1_3, .slice A1_4 l1_4.length c1_4, .slice A1_5 l1_5.length c1_5] 36 (0, 0)) (by (with_reducible repeat (first | refine blk_drewN ?_ _ | refine blk_drew ?_ | refine blk_alloc ?_ _)); exact BK12002.out) hb); have n2_ := Aside0.mk (below_step (by repeat (first | (with_reducible first | exact HB.out | apply below_alloc | apply pw_below_drewN | apply below_drew1 | refine below_set ?_ GE12001.out | refine below_set ?_ GE12002.out) | exact HB.out)) hb); clear BK12001; clear BK12002; clear HB; have BK12001 := n0_; have BK12002 := n1_; have HB := n2_; clear n0_ n1_ n2_; (try clear hb); (try clear hb2); (try clear hk); (try clear hi); have hcz18_0 : w17.cell? ⟨gb12001, 0, none⟩ = some (.string a0_0) := (blk_cell BK12001.out 0).trans rfl; have hcz18_1 : w17.cell? ⟨gb12001, 1, none⟩ = some (.string a0_1) := (blk_cell BK12001.out 1).trans rfl; have hcz18_2 : w17.cell? ⟨gb12001, 2, none⟩ = some (.slice A0_2 l0_2.length c0_2) := (blk_cell BK12001.out 2).trans rfl; have hcz18_3 : w17.cell? ⟨gb12001, 3, none⟩ = some (.slice A0_3 l0_3.length c0_3) := (blk_cell BK12001.out 3).trans rfl; have hcz18_4 : w17.cell? ⟨gb12001, 4, none⟩ = some (.slice A0_4 l0_4.length c0_4) := (blk_cell BK12001.out 4).trans rfl; have hcz18_5 : w17.cell? ⟨gb12001, 5, none⟩ = some (.slice A0_5 l0_5.length c0_5) := (blk_cell BK12001.out 5).trans rfl; have hfz18_0 := blk_frozen BK12001.out 0; have hfz18_1 := blk_frozen BK12001.out 1; have hfz18_2 := blk_frozen BK12001.out 2; have hfz18_3 := blk_frozen BK12001.out 3; have hfz18_4 := blk_frozen BK12001.out 4; have hfz18_5 := blk_frozen BK12001.out 5; have hcz19_0 : w17.cell? ⟨gb12002, 0, none⟩ = some (.string a1_0) := (blk_cell BK12002.out 0).trans rfl; have hcz19_1 : w17.cell? ⟨gb12002, 1, none⟩ = some (.string a1_1) := (blk_cell BK12002.out 1).trans rfl; have hcz19_2 : w17.cell? ⟨gb12002, 2, none⟩ = some (.slice A1_2 l1_2.length c1_2) := (blk_cell BK12002.out 2).trans rfl; have hcz19_3 : w17.cell? ⟨gb12002, 3, none⟩ = some (.slice A1_3 l1_3.length c1_3) := (blk_cell BK12002.out 3).trans rfl; have hcz19_4 : w17.cell? ⟨gb12002, 4, none⟩ = some (.slice A1_4 l1_4.length c1_4) := (blk_cell BK12002.out 4).trans rfl; have hcz19_5 : w17.cell? ⟨gb12002, 5, none⟩ = some (.slice A1_5 l1_5.length c1_5) := (blk_cell BK12002.out 5).trans rfl; have hfz19_0 := blk_frozen BK12002.out 0; have hfz19_1 := blk_frozen BK12002.out 1; have hfz19_2 := blk_frozen BK12002.out 2; have hfz19_3 := blk_frozen BK12002.out 3; have hfz19_4 := blk_frozen BK12002.out 4; have hfz19_5 := blk_frozen BK12002.out 5) | ((with_reducible refine gate_callee (f := 55) rfl ?_); refine goesL_ (some 21) rfl rfl Try.func55 (by kernel_rfl) rfl #[.slice A0_5 l0_5.length c0_5, .slice A1_5 l1_5.length c1_5] rfl (by (try simp only [List.map_toArray, List.map_cons, List.map_nil]); first | done | rfl | (simp only [List.length_drop, List.length_take]; rfl)) ?_; (with_reducible refine (laws_eqIntSS.calls k _ _ l0_5 _ _ l1_5 true _ ?side1 ?side2 ?side3 ?side4 A7.out).mono ?_); (case side1 => repeat (first | exact (Kd.C_below HR0_5.out HB.out) | (with_reducible refine Kd.C_alloc ?_ _) | (with_reducible refine Kd.C_drewN ?_ _) | (with_reducible refine Kd.C_drew ?_))); (case side2 => exact HC0_5.out); (case side3 => repeat (first | exact (Kd.C_below HR1_5.out HB.out) | (with_reducible refine Kd.C_alloc ?_ _) | (with_reducible refine Kd.C_drewN ?_ _) | (with_reducible refine Kd.C_drew ?_))); (case side4 => exact HC1_5.out); rintro e w' ⟨rfl, ⟨nd, rfl⟩⟩; refine ⟨_, rfl, ?_⟩))
    go_ret
    exact ⟨by first | rfl | (simp [errW_none, errW_some] <;> rfl) | (simp [*, errW_none, errW_some] <;> rfl), by repeat (first | (with_reducible first | exact HB.out | apply below_alloc | apply pw_below_drewN | apply below_drew1 | refine below_set ?_ GE12001.out | refine below_set ?_ GE12002.out) | exact HB.out)⟩
   ·replace c8 := Bool.eq_false_iff.mpr c8
    subst c8
    have H1 : (some false) = some r := by rw [if_neg (show ¬ (false = true) by decide)] at H; exact H
    clear H
    have H := H1
    clear H1
    obtain rfl := Option.some.inj H
    go_enter Try.func12, Try.ntmps12
    go_wp2_with (first | ((with_reducible refine gate_dst (N := 2) rfl ?_); refine box_event ?hg (N := 2) ?hd (cs := #[.string a0_0, .string a0_1, .slice A0_2 l0_2.length c0_2, .slice A0_3 l0_3.length c0_3, .slice A0_4 l0_4.length c0_4, .slice A0_5 l0_5.length c0_5]) (t := 36) ?hr ?_; (case hd => rfl); (case hg => rfl); (case hr => first | (go_simp; done) | (go_simp; rfl)); intro gb12001 hg w20 hbox hb; have n0_ := Aside0.mk (below_step (by repeat (first | (with_reducible first | exact HB.out | apply below_alloc | apply pw_below_drewN | apply below_drew1) | exact HB.out)) hb); have n1_ := Aside0.mk (hbox); have n2_ := Aside0.mk ((by rw [hg]; exact (below_size (by repeat (first | (with_reducible first | exact HB.out | apply below_alloc | apply pw_below_drewN | apply below_drew1) | exact HB.out))) : w.heap.size ≤ gb12001)); have n3_ := Aside0.mk ((by rw [hg]; exact (below_size (by repeat (first | (with_reducible first | exact HB.out | apply below_alloc | apply pw_below_drewN | apply below_drew1) | exact HB.out))) : w.heap.size ≤ gb12001)); clear HB; have HB := n0_; have BK12001 := n1_; have GW12001 := n2_; have GE12001 := n3_; clear n0_ n1_ n2_ n3_; clear hb hbox hg) | ((with_reducible refine gate_dst (N := 3) rfl ?_); refine box_event ?hg (N := 3) ?hd (cs := #[.string a1_0, .string a1_1, .slice A1_2 l1_2.length c1_2, .slice A1_3 l1_3.length c1_3, .slice A1_4 l1_4.length c1_4, .slice A1_5 l1_5.length c1_5]) (t := 36) ?hr ?_; (case hd => rfl); (case hg => rfl); (case hr => first | (go_simp; done) | (go_simp; rfl)); intro gb12002 hg w21 hbox hb; have n0_ := Aside0.mk (blk_below (g := gb12001) (o := .cells #[.string a0_0, .string a0_1, .slice A0_2 l0_2.length c0_2, .slice A0_3 l0_3.length c0_3, .slice A0_4 l0_4.length c0_4, .slice A0_5 l0_5.length c0_5] 36 (0, 0)) (by (with_reducible repeat (first | refine blk_drewN ?_ _ | refine blk_drew ?_ | refine blk_alloc ?_ _)); exact BK12001.out) hb); have n1_ := Aside0.mk (below_step (by repeat (first | (with_reducible first | exact HB.out | apply below_alloc | apply pw_below_drewN | apply below_drew1 | refine below_set ?_ GE12001.out) | exact HB.out)) hb); have n2_ := Aside0.mk (hbox); have n3_ := Aside0.mk ((by rw [hg]; exact (below_size (by repeat (first | (with_reducible first | exact HB.out | apply below_alloc | apply pw_below_drewN | apply below_drew1 | refine below_set ?_ GE12001.out) | exact HB.out))) : w.heap.size ≤ gb12002)); have n4_ := Aside0.mk ((by rw [hg]; exact (below_size (by repeat (first | (with_reducible first | exact HB.out | apply below_alloc | apply pw_below_drewN | apply below_drew1 | refine below_set ?_ GE12001.out) | exact HB.out))) : w.heap.size ≤ gb12002)); have n5_ := Aside0.mk ((by rw [hg]; exact Nat.ne_of_lt (blk_lt (g := gb12001) (o := .cells #[.string a0_0, .string a0_1, .slice A0_2 l0_2.length c0_2, .slice A0_3 l0_3.length c0_3, .slice A0_4 l0_4.length c0_4, .slice A0_5 l0_5.length c0_5] 36 (0, 0)) (by (with_reducible repeat (first | refine blk_drewN ?_ _ | refine blk_drew ?_ | refine blk_alloc ?_ _)); exact BK12001.out)) : gb12001 ≠ gb12002)); have n6_ := Aside0.mk ((by rw [hg]; exact Nat.ne_of_gt (blk_lt (g := gb12001) (o := .cells #[.string a0_0, .string a0_1, .slice A0_2 l0_2.length c0_2, .slice A0_3 l0_3.length c0_3, .slice A0_4 l0_4.length c0_4, .slice A0_5 l0_5.length c0_5] 36 (0, 0)) (by (with_reducible repeat (first | refine blk_drewN ?_ _ | refine blk_drew ?_ | refine blk_alloc ?_ _)); exact BK12001.out)) : gb12002 ≠ gb12001)); clear BK12001; clear HB; have BK12001 := n0_; have HB := n1_; have BK12002 := n2_; have GW12002 := n3_; have GE12002 := n4_; have NB12001_12002 := n5_; have NB12002_12001 := n6_; clear n0_ n1_ n2_ n3_ n4_ n5_ n6_; clear hb hbox hg; have hnb22 := NB12001_12002.out; have hnc22 := NB12002_12001.out; have hcz23_0 : w21.cell? ⟨gb12001, 0, none⟩ = some (.string a0_0) := (blk_cell BK12001.out 0).trans rfl; have hcz23_1 : w21.cell? ⟨gb12001, 1, none⟩ = some (.string a0_1) := (blk_cell BK12001.out 1).trans rfl; have hcz23_2 : w21.cell? ⟨gb12001, 2, none⟩ = some (.slice A0_2 l0_2.length c0_2) := (blk_cell BK12001.out 2).trans rfl; have hcz23_3 : w21.cell? ⟨gb12001, 3, none⟩ = some (.slice A0_3 l0_3.length c0_3) := (blk_cell BK12001.out 3).trans rfl; have hcz23_4 : w21.cell? ⟨gb12001, 4, none⟩ = some (.slice A0_4 l0_4.length c0_4) := (blk_cell BK12001.out 4).trans rfl; have hcz23_5 : w21.cell? ⟨gb12001, 5, none⟩ = some (.slice A0_5 l0_5.length c0_5) := (blk_cell BK12001.out 5).trans rfl; have hfz23_0 := blk_frozen BK12001.out 0; have hfz23_1 := blk_frozen BK12001.out 1; have hfz23_2 := blk_frozen BK12001.out 2; have hfz23_3 := blk_frozen BK12001.out 3; have hfz23_4 := blk_frozen BK12001.out 4; have hfz23_5 := blk_frozen BK12001.out 5; have hcz24_0 : w21.cell? ⟨gb12002, 0, none⟩ = some (.string a1_0) := (blk_cell BK12002.out 0).trans rfl; have hcz24_1 : w21.cell? ⟨gb12002, 1, none⟩ = some (.string a1_1) := (blk_cell BK12002.out 1).trans rfl; have hcz24_2 : w21.cell? ⟨gb12002, 2, none⟩ = some (.slice A1_2 l1_2.length c1_2) := (blk_cell BK12002.out 2).trans rfl; have hcz24_3 : w21.cell? ⟨gb12002, 3, none⟩ = some (.slice A1_3 l1_3.length c1_3) := (blk_cell BK12002.out 3).trans rfl; have hcz24_4 : w21.cell? ⟨gb12002, 4, none⟩ = some (.slice A1_4 l1_4.length c1_4) := (blk_cell BK12002.out 4).trans rfl; have hcz24_5 : w21.cell? ⟨gb12002, 5, none⟩ = some (.slice A1_5 l1_5.length c1_5) := (blk_cell BK12002.out 5).trans rfl; have hfz24_0 := blk_frozen BK12002.out 0; have hfz24_1 := blk_frozen BK12002.out 1; have hfz24_2 := blk_frozen BK12002.out 2; have hfz24_3 := blk_frozen BK12002.out 3; have hfz24_4 := blk_frozen BK12002.out 4; have hfz24_5 := blk_frozen BK12002.out 5) | ((with_reducible refine gate_callee (f := 54) rfl ?_); refine goesL_ (some 9) rfl rfl Try.func54 (by kernel_rfl) rfl #[.agg #[.string a0_0, .string a0_1], .agg #[.string a1_0, .string a1_1]] rfl (by (try simp only [List.map_toArray, List.map_cons, List.map_nil]); first | done | rfl | (simp only [List.length_drop, List.length_take]; rfl)) ?_; (with_reducible refine (laws_eqEquation.calls a0_0 a0_1 a1_0 a1_1 true _ A3.out).mono ?_); rintro e w25 ⟨rfl, hb⟩; refine ⟨_, rfl, ?_⟩; have n0_ := Aside0.mk (blk_below (g := gb12001) (o := .cells #[.string a0_0, .string a0_1, .slice A0_2 l0_2.length c0_2, .slice A0_3 l0_3.length c0_3, .slice A0_4 l0_4.length c0_4, .slice A0_5 l0_5.length c0_5] 36 (0, 0)) (by (with_reducible repeat (first | refine blk_drewN ?_ _ | refine blk_drew ?_ | refine blk_alloc ?_ _)); exact BK12001.out) hb); have n1_ := Aside0.mk (blk_below (g := gb12002) (o := .cells #[.string a1_0, .string a1_1, .slice A1_2 l1_2.length c1_2, .slice A1_3 l1_3.length c1_3, .slice A1_4 l1_4.length c1_4, .slice A1_5 l1_5.length c1_5] 36 (0, 0)) (by (with_reducible repeat (first | refine blk_drewN ?_ _ | refine blk_drew ?_ | refine blk_alloc ?_ _)); exact BK12002.out) hb); have n2_ := Aside0.mk (below_step (by repeat (first | (with_reducible first | exact HB.out | apply below_alloc | apply pw_below_drewN | apply below_drew1 | refine below_set ?_ GE12001.out | refine below_set ?_ GE12002.out) | exact HB.out)) hb); clear BK12001; clear BK12002; clear HB; have BK12001 := n0_; have BK12002 := n1_; have HB := n2_; clear n0_ n1_ n2_; (try clear hb); (try clear hb2); (try clear hk); (try clear hi); have hcz26_0 : w25.cell? ⟨gb12001, 0, none⟩ = some (.string a0_0) := (blk_cell BK12001.out 0).trans rfl; have hcz26_1 : w25.cell? ⟨gb12001, 1, none⟩ = some (.string a0_1) := (blk_cell BK12001.out 1).trans rfl; have hcz26_2 : w25.cell? ⟨gb12001, 2, none⟩ = some (.slice A0_2 l0_2.length c0_2) := (blk_cell BK12001.out 2).trans rfl; have hcz26_3 : w25.cell? ⟨gb12001, 3, none⟩ = some (.slice A0_3 l0_3.length c0_3) := (blk_cell BK12001.out 3).trans rfl; have hcz26_4 : w25.cell? ⟨gb12001, 4, none⟩ = some (.slice A0_4 l0_4.length c0_4) := (blk_cell BK12001.out 4).trans rfl; have hcz26_5 : w25.cell? ⟨gb12001, 5, none⟩ = some (.slice A0_5 l0_5.length c0_5) := (blk_cell BK12001.out 5).trans rfl; have hfz26_0 := blk_frozen BK12001.out 0; have hfz26_1 := blk_frozen BK12001.out 1; have hfz26_2 := blk_frozen BK12001.out 2; have hfz26_3 := blk_frozen BK12001.out 3; have hfz26_4 := blk_frozen BK12001.out 4; have hfz26_5 := blk_frozen BK12001.out 5; have hcz27_0 : w25.cell? ⟨gb12002, 0, none⟩ = some (.string a1_0) := (blk_cell BK12002.out 0).trans rfl; have hcz27_1 : w25.cell? ⟨gb12002, 1, none⟩ = some (.string a1_1) := (blk_cell BK12002.out 1).trans rfl; have hcz27_2 : w25.cell? ⟨gb12002, 2, none⟩ = some (.slice A1_2 l1_2.length c1_2) := (blk_cell BK12002.out 2).trans rfl; have hcz27_3 : w25.cell? ⟨gb12002, 3, none⟩ = some (.slice A1_3 l1_3.length c1_3) := (blk_cell BK12002.out 3).trans rfl; have hcz27_4 : w25.cell? ⟨gb12002, 4, none⟩ = some (.slice A1_4 l1_4.length c1_4) := (blk_cell BK12002.out 4).trans rfl; have hcz27_5 : w25.cell? ⟨gb12002, 5, none⟩ = some (.slice A1_5 l1_5.length c1_5) := (blk_cell BK12002.out 5).trans rfl; have hfz27_0 := blk_frozen BK12002.out 0; have hfz27_1 := blk_frozen BK12002.out 1; have hfz27_2 := blk_frozen BK12002.out 2; have hfz27_3 := blk_frozen BK12002.out 3; have hfz27_4 := blk_frozen BK12002.out 4; have hfz27_5 := blk_frozen BK12002.out 5) | ((with_reducible refine gate_callee (f := 20) rfl ?_); refine goesL_ (some 15) rfl rfl Try.func20 (by kernel_rfl) rfl #[.agg #[.slice A0_2 l0_2.length c0_2, .slice A0_3 l0_3.length c0_3, .slice A0_4 l0_4.length c0_4], .agg #[.slice A1_2 l1_2.length c1_2, .slice A1_3 l1_3.length c1_3, .slice A1_4 l1_4.length c1_4]] rfl (by (try simp only [List.map_toArray, List.map_cons, List.map_nil]); first | done | rfl | (simp only [List.length_drop, List.length_take]; rfl)) ?_; (with_reducible refine (laws_eqMonoid.calls k _ _ l0_2 _ _ l0_3 _ _ l0_4 _ _ l1_2 _ _ l1_3 _ _ l1_4 true _ ?side1 ?side2 ?side3 ?side4 ?side5 ?side6 ?side7 ?side8 ?side9 ?side10 ?side11 ?side12 A5.out).mono ?_); (case side1 => repeat (first | exact (Kd.C_below HR0_2.out HB.out) | (with_reducible refine Kd.C_alloc ?_ _) | (with_reducible refine Kd.C_drewN ?_ _) | (with_reducible refine Kd.C_drew ?_))); (case side2 => exact HC0_2.out); (case side3 => repeat (first | exact (Kd.C_below HR0_3.out HB.out) | (with_reducible refine Kd.C_alloc ?_ _) | (with_reducible refine Kd.C_drewN ?_ _) | (with_reducible refine Kd.C_drew ?_))); (case side4 => exact HC0_3.out); (case side5 => repeat (first | exact (Kd.C_below HR0_4.out HB.out) | (with_reducible refine Kd.C_alloc ?_ _) | (with_reducible refine Kd.C_drewN ?_ _) | (with_reducible refine Kd.C_drew ?_))); (case side6 => exact HC0_4.out); (case side7 => repeat (first | exact (Kd.C_below HR1_2.out HB.out) | (with_reducible refine Kd.C_alloc ?_ _) | (with_reducible refine Kd.C_drewN ?_ _) | (with_reducible refine Kd.C_drew ?_))); (case side8 => exact HC1_2.out); (case side9 => repeat (first | exact (Kd.C_below HR1_3.out HB.out) | (with_reducible refine Kd.C_alloc ?_ _) | (with_reducible refine Kd.C_drewN ?_ _) | (with_reducible refine Kd.C_drew ?_))); (case side10 => exact HC1_3.out); (case side11 => repeat (first | exact (Kd.C_below HR1_4.out HB.out) | (with_reducible refine Kd.C_alloc ?_ _) | (with_reducible refine Kd.C_drewN ?_ _) | (with_reducible refine Kd.C_drew ?_))); (case side12 => exact HC1_4.out); rintro e w28 ⟨rfl, hb⟩; refine ⟨_, rfl, ?_⟩; have n0_ := Aside0.mk (blk_below (g := gb12001) (o := .cells #[.string a0_0, .string a0_1, .slice A0_2 l0_2.length c0_2, .slice A0_3 l0_3.length c0_3, .slice A0_4 l0_4.length c0_4, .slice A0_5 l0_5.length c0_5] 36 (0, 0)) (by (with_reducible repeat (first | refine blk_drewN ?_ _ | refine blk_drew ?_ | refine blk_alloc ?_ _)); exact BK12001.out) hb); have n1_ := Aside0.mk (blk_below (g := gb12002) (o := .cells #[.string a1_0, .string a1_1, .slice A1_2 l1_2.length c1_2, .slice A1_3 l1_3.length c1_3, .slice A1_4 l1_4.length c1_4, .slice A1_5 l1_5.length c1_5] 36 (0, 0)) (by (with_reducible repeat (first | refine blk_drewN ?_ _ | refine blk_drew ?_ | refine blk_alloc ?_ _)); exact BK12002.out) hb); have n2_ := Aside0.mk (below_step (by repeat (first | (with_reducible first | exact HB.out | apply below_alloc | apply pw_below_drewN | apply below_drew1 | refine below_set ?_ GE12001.out | refine below_set ?_ GE12002.out) | exact HB.out)) hb); clear BK12001; clear BK12002; clear HB; have BK12001 := n0_; have BK12002 := n1_; have HB := n2_; clear n0_ n1_ n2_; (try clear hb); (try clear hb2); (try clear hk); (try clear hi); have hcz29_0 : w28.cell? ⟨gb12001, 0, none⟩ = some (.string a0_0) := (blk_cell BK12001.out 0).trans rfl; have hcz29_1 : w28.cell? ⟨gb12001, 1, none⟩ = some (.string a0_1) := (blk_cell BK12001.out 1).trans rfl; have hcz29_2 : w28.cell? ⟨gb12001, 2, none⟩ = some (.slice A0_2 l0_2.length c0_2) := (blk_cell BK12001.out 2).trans rfl; have hcz29_3 : w28.cell? ⟨gb12001, 3, none⟩ = some (.slice A0_3 l0_3.length c0_3) := (blk_cell BK12001.out 3).trans rfl; have hcz29_4 : w28.cell? ⟨gb12001, 4, none⟩ = some (.slice A0_4 l0_4.length c0_4) := (blk_cell BK12001.out 4).trans rfl; have hcz29_5 : w28.cell? ⟨gb12001, 5, none⟩ = some (.slice A0_5 l0_5.length c0_5) := (blk_cell BK12001.out 5).trans rfl; have hfz29_0 := blk_frozen BK12001.out 0; have hfz29_1 := blk_frozen BK12001.out 1; have hfz29_2 := blk_frozen BK12001.out 2; have hfz29_3 := blk_frozen BK12001.out 3; have hfz29_4 := blk_frozen BK12001.out 4; have hfz29_5 := blk_frozen BK12001.out 5; have hcz30_0 : w28.cell? ⟨gb12002, 0, none⟩ = some (.string a1_0) := (blk_cell BK12002.out 0).trans rfl; have hcz30_1 : w28.cell? ⟨gb12002, 1, none⟩ = some (.string a1_1) := (blk_cell BK12002.out 1).trans rfl; have hcz30_2 : w28.cell? ⟨gb12002, 2, none⟩ = some (.slice A1_2 l1_2.length c1_2) := (blk_cell BK12002.out 2).trans rfl; have hcz30_3 : w28.cell? ⟨gb12002, 3, none⟩ = some (.slice A1_3 l1_3.length c1_3) := (blk_cell BK12002.out 3).trans rfl; have hcz30_4 : w28.cell? ⟨gb12002, 4, none⟩ = some (.slice A1_4 l1_4.length c1_4) := (blk_cell BK12002.out 4).trans rfl; have hcz30_5 : w28.cell? ⟨gb12002, 5, none⟩ = some (.slice A1_5 l1_5.length c1_5) := (blk_cell BK12002.out 5).trans rfl; have hfz30_0 := blk_frozen BK12002.out 0; have hfz30_1 := blk_frozen BK12002.out 1; have hfz30_2 := blk_frozen BK12002.out 2; have hfz30_3 := blk_frozen BK12002.out 3; have hfz30_4 := blk_frozen BK12002.out 4; have hfz30_5 := blk_frozen BK12002.out 5) | ((with_reducible refine gate_callee (f := 55) rfl ?_); refine goesL_ (some 21) rfl rfl Try.func55 (by kernel_rfl) rfl #[.slice A0_5 l0_5.length c0_5, .slice A1_5 l1_5.length c1_5] rfl (by (try simp only [List.map_toArray, List.map_cons, List.map_nil]); first | done | rfl | (simp only [List.length_drop, List.length_take]; rfl)) ?_; (with_reducible refine (laws_eqIntSS.calls k _ _ l0_5 _ _ l1_5 false _ ?side1 ?side2 ?side3 ?side4 A7.out).mono ?_); (case side1 => repeat (first | exact (Kd.C_below HR0_5.out HB.out) | (with_reducible refine Kd.C_alloc ?_ _) | (with_reducible refine Kd.C_drewN ?_ _) | (with_reducible refine Kd.C_drew ?_))); (case side2 => exact HC0_5.out); (case side3 => repeat (first | exact (Kd.C_below HR1_5.out HB.out) | (with_reducible refine Kd.C_alloc ?_ _) | (with_reducible refine Kd.C_drewN ?_ _) | (with_reducible refine Kd.C_drew ?_))); (case side4 => exact HC1_5.out); rintro e w' ⟨rfl, ⟨nd, rfl⟩⟩; refine ⟨_, rfl, ?_⟩))
    go_ret
    exact ⟨by first | rfl | (simp [errW_none, errW_some] <;> rfl) | (simp [*, errW_none, errW_some] <;> rfl), by repeat (first | (with_reducible first | exact HB.out | apply below_alloc | apply pw_below_drewN | apply below_drew1 | refine below_set ?_ GE12001.out | refine below_set ?_ GE12002.out) | exact HB.out)⟩
  ·replace c6 := Bool.eq_false_iff.mpr c6
   subst c6
   have H1 : (some false) = some r := by rw [if_neg (show ¬ (false = true) by decide)] at H; exact H
   clear H
   have H := H1
   clear H1
   obtain rfl := Option.some.inj H
   go_enter Try.func12, Try.ntmps12
   go_wp2_with (first | ((with_reducible refine gate_dst (N := 2) rfl ?_); refine box_event ?hg (N := 2) ?hd (cs := #[.string a0_0, .string a0_1, .slice A0_2 l0_2.length c0_2, .slice A0_3 l0_3.length c0_3, .slice A0_4 l0_4.length c0_4, .slice A0_5 l0_5.length c0_5]) (t := 36) ?hr ?_; (case hd => rfl); (case hg => rfl); (case hr => first | (go_simp; done) | (go_simp; rfl)); intro gb12001 hg w31 hbox hb; have n0_ := Aside0.mk (below_step (by repeat (first | (with_reducible first | exact HB.out | apply below_alloc | apply pw_below_drewN | apply below_drew1) | exact HB.out)) hb); have n1_ := Aside0.mk (hbox); have n2_ := Aside0.mk ((by rw [hg]; exact (below_size (by repeat (first | (with_reducible first | exact HB.out | apply below_alloc | apply pw_below_drewN | apply below_drew1) | exact HB.out))) : w.heap.size ≤ gb12001)); have n3_ := Aside0.mk ((by rw [hg]; exact (below_size (by repeat (first | (with_reducible first | exact HB.out | apply below_alloc | apply pw_below_drewN | apply below_drew1) | exact HB.out))) : w.heap.size ≤ gb12001)); clear HB; have HB := n0_; have BK12001 := n1_; have GW12001 := n2_; have GE12001 := n3_; clear n0_ n1_ n2_ n3_; clear hb hbox hg) | ((with_reducible refine gate_dst (N := 3) rfl ?_); refine box_event ?hg (N := 3) ?hd (cs := #[.string a1_0, .string a1_1, .slice A1_2 l1_2.length c1_2, .slice A1_3 l1_3.length c1_3, .slice A1_4 l1_4.length c1_4, .slice A1_5 l1_5.length c1_5]) (t := 36) ?hr ?_; (case hd => rfl); (case hg => rfl); (case hr => first | (go_simp; done) | (go_simp; rfl)); intro gb12002 hg w32 hbox hb; have n0_ := Aside0.mk (blk_below (g := gb12001) (o := .cells #[.string a0_0, .string a0_1, .slice A0_2 l0_2.length c0_2, .slice A0_3 l0_3.length c0_3, .slice A0_4 l0_4.length c0_4, .slice A0_5 l0_5.length c0_5] 36 (0, 0)) (by (with_reducible repeat (first | refine blk_drewN ?_ _ | refine blk_drew ?_ | refine blk_alloc ?_ _)); exact BK12001.out) hb); have n1_ := Aside0.mk (below_step (by repeat (first | (with_reducible first | exact HB.out | apply below_alloc | apply pw_below_drewN | apply below_drew1 | refine below_set ?_ GE12001.out) | exact HB.out)) hb); have n2_ := Aside0.mk (hbox); have n3_ := Aside0.mk ((by rw [hg]; exact (below_size (by repeat (first | (with_reducible first | exact HB.out | apply below_alloc | apply pw_below_drewN | apply below_drew1 | refine below_set ?_ GE12001.out) | exact HB.out))) : w.heap.size ≤ gb12002)); have n4_ := Aside0.mk ((by rw [hg]; exact (below_size (by repeat (first | (with_reducible first | exact HB.out | apply below_alloc | apply pw_below_drewN | apply below_drew1 | refine below_set ?_ GE12001.out) | exact HB.out))) : w.heap.size ≤ gb12002)); have n5_ := Aside0.mk ((by rw [hg]; exact Nat.ne_of_lt (blk_lt (g := gb12001) (o := .cells #[.string a0_0, .string a0_1, .slice A0_2 l0_2.length c0_2, .slice A0_3 l0_3.length c0_3, .slice A0_4 l0_4.length c0_4, .slice A0_5 l0_5.length c0_5] 36 (0, 0)) (by (with_reducible repeat (first | refine blk_drewN ?_ _ | refine blk_drew ?_ | refine blk_alloc ?_ _)); exact BK12001.out)) : gb12001 ≠ gb12002)); have n6_ := Aside0.mk ((by rw [hg]; exact Nat.ne_of_gt (blk_lt (g := gb12001) (o := .cells #[.string a0_0, .string a0_1, .slice A0_2 l0_2.length c0_2, .slice A0_3 l0_3.length c0_3, .slice A0_4 l0_4.length c0_4, .slice A0_5 l0_5.length c0_5] 36 (0, 0)) (by (with_reducible repeat (first | refine blk_drewN ?_ _ | refine blk_drew ?_ | refine blk_alloc ?_ _)); exact BK12001.out)) : gb12002 ≠ gb12001)); clear BK12001; clear HB; have BK12001 := n0_; have HB := n1_; have BK12002 := n2_; have GW12002 := n3_; have GE12002 := n4_; have NB12001_12002 := n5_; have NB12002_12001 := n6_; clear n0_ n1_ n2_ n3_ n4_ n5_ n6_; clear hb hbox hg; have hnb33 := NB12001_12002.out; have hnc33 := NB12002_12001.out; have hcz34_0 : w32.cell? ⟨gb12001, 0, none⟩ = some (.string a0_0) := (blk_cell BK12001.out 0).trans rfl; have hcz34_1 : w32.cell? ⟨gb12001, 1, none⟩ = some (.string a0_1) := (blk_cell BK12001.out 1).trans rfl; have hcz34_2 : w32.cell? ⟨gb12001, 2, none⟩ = some (.slice A0_2 l0_2.length c0_2) := (blk_cell BK12001.out 2).trans rfl; have hcz34_3 : w32.cell? ⟨gb12001, 3, none⟩ = some (.slice A0_3 l0_3.length c0_3) := (blk_cell BK12001.out 3).trans rfl; have hcz34_4 : w32.cell? ⟨gb12001, 4, none⟩ = some (.slice A0_4 l0_4.length c0_4) := (blk_cell BK12001.out 4).trans rfl; have hcz34_5 : w32.cell? ⟨gb12001, 5, none⟩ = some (.slice A0_5 l0_5.length c0_5) := (blk_cell BK12001.out 5).trans rfl; have hfz34_0 := blk_frozen BK12001.out 0; have hfz34_1 := blk_frozen BK12001.out 1; have hfz34_2 := blk_frozen BK12001.out 2; have hfz34_3 := blk_frozen BK12001.out 3; have hfz34_4 := blk_frozen BK12001.out 4; have hfz34_5 := blk_frozen BK12001.out 5; have hcz35_0 : w32.cell? ⟨gb12002, 0, none⟩ = some (.string a1_0) := (blk_cell BK12002.out 0).trans rfl; have hcz35_1 : w32.cell? ⟨gb12002, 1, none⟩ = some (.string a1_1) := (blk_cell BK12002.out 1).trans rfl; have hcz35_2 : w32.cell? ⟨gb12002, 2, none⟩ = some (.slice A1_2 l1_2.length c1_2) := (blk_cell BK12002.out 2).trans rfl; have hcz35_3 : w32.cell? ⟨gb12002, 3, none⟩ = some (.slice A1_3 l1_3.length c1_3) := (blk_cell BK12002.out 3).trans rfl; have hcz35_4 : w32.cell? ⟨gb12002, 4, none⟩ = some (.slice A1_4 l1_4.length c1_4) := (blk_cell BK12002.out 4).trans rfl; have hcz35_5 : w32.cell? ⟨gb12002, 5, none⟩ = some (.slice A1_5 l1_5.length c1_5) := (blk_cell BK12002.out 5).trans rfl; have hfz35_0 := blk_frozen BK12002.out 0; have hfz35_1 := blk_frozen BK12002.out 1; have hfz35_2 := blk_frozen BK12002.out 2; have hfz35_3 := blk_frozen BK12002.out 3; have hfz35_4 := blk_frozen BK12002.out 4; have hfz35_5 := blk_frozen BK12002.out 5) | ((with_reducible refine gate_callee (f := 54) rfl ?_); refine goesL_ (some 9) rfl rfl Try.func54 (by kernel_rfl) rfl #[.agg #[.string a0_0, .string a0_1], .agg #[.string a1_0, .string a1_1]] rfl (by (try simp only [List.map_toArray, List.map_cons, List.map_nil]); first | done | rfl | (simp only [List.length_drop, List.length_take]; rfl)) ?_; (with_reducible refine (laws_eqEquation.calls a0_0 a0_1 a1_0 a1_1 true _ A3.out).mono ?_); rintro e w36 ⟨rfl, hb⟩; refine ⟨_, rfl, ?_⟩; have n0_ := Aside0.mk (blk_below (g := gb12001) (o := .cells #[.string a0_0, .string a0_1, .slice A0_2 l0_2.length c0_2, .slice A0_3 l0_3.length c0_3, .slice A0_4 l0_4.length c0_4, .slice A0_5 l0_5.length c0_5] 36 (0, 0)) (by (with_reducible repeat (first | refine blk_drewN ?_ _ | refine blk_drew ?_ | refine blk_alloc ?_ _)); exact BK12001.out) hb); have n1_ := Aside0.mk (blk_below (g := gb12002) (o := .cells #[.string a1_0, .string a1_1, .slice A1_2 l1_2.length c1_2, .slice A1_3 l1_3.length c1_3, .slice A1_4 l1_4.length c1_4, .slice A1_5 l1_5.length c1_5] 36 (0, 0)) (by (with_reducible repeat (first | refine blk_drewN ?_ _ | refine blk_drew ?_ | refine blk_alloc ?_ _)); exact BK12002.out) hb); have n2_ := Aside0.mk (below_step (by repeat (first | (with_reducible first | exact HB.out | apply below_alloc | apply pw_below_drewN | apply below_drew1 | refine below_set ?_ GE12001.out | refine below_set ?_ GE12002.out) | exact HB.out)) hb); clear BK12001; clear BK12002; clear HB; have BK12001 := n0_; have BK12002 := n1_; have HB := n2_; clear n0_ n1_ n2_; (try clear hb); (try clear hb2); (try clear hk); (try clear hi); have hcz37_0 : w36.cell? ⟨gb12001, 0, none⟩ = some (.string a0_0) := (blk_cell BK12001.out 0).trans rfl; have hcz37_1 : w36.cell? ⟨gb12001, 1, none⟩ = some (.string a0_1) := (blk_cell BK12001.out 1).trans rfl; have hcz37_2 : w36.cell? ⟨gb12001, 2, none⟩ = some (.slice A0_2 l0_2.length c0_2) := (blk_cell BK12001.out 2).trans rfl; have hcz37_3 : w36.cell? ⟨gb12001, 3, none⟩ = some (.slice A0_3 l0_3.length c0_3) := (blk_cell BK12001.out 3).trans rfl; have hcz37_4 : w36.cell? ⟨gb12001, 4, none⟩ = some (.slice A0_4 l0_4.length c0_4) := (blk_cell BK12001.out 4).trans rfl; have hcz37_5 : w36.cell? ⟨gb12001, 5, none⟩ = some (.slice A0_5 l0_5.length c0_5) := (blk_cell BK12001.out 5).trans rfl; have hfz37_0 := blk_frozen BK12001.out 0; have hfz37_1 := blk_frozen BK12001.out 1; have hfz37_2 := blk_frozen BK12001.out 2; have hfz37_3 := blk_frozen BK12001.out 3; have hfz37_4 := blk_frozen BK12001.out 4; have hfz37_5 := blk_frozen BK12001.out 5; have hcz38_0 : w36.cell? ⟨gb12002, 0, none⟩ = some (.string a1_0) := (blk_cell BK12002.out 0).trans rfl; have hcz38_1 : w36.cell? ⟨gb12002, 1, none⟩ = some (.string a1_1) := (blk_cell BK12002.out 1).trans rfl; have hcz38_2 : w36.cell? ⟨gb12002, 2, none⟩ = some (.slice A1_2 l1_2.length c1_2) := (blk_cell BK12002.out 2).trans rfl; have hcz38_3 : w36.cell? ⟨gb12002, 3, none⟩ = some (.slice A1_3 l1_3.length c1_3) := (blk_cell BK12002.out 3).trans rfl; have hcz38_4 : w36.cell? ⟨gb12002, 4, none⟩ = some (.slice A1_4 l1_4.length c1_4) := (blk_cell BK12002.out 4).trans rfl; have hcz38_5 : w36.cell? ⟨gb12002, 5, none⟩ = some (.slice A1_5 l1_5.length c1_5) := (blk_cell BK12002.out 5).trans rfl; have hfz38_0 := blk_frozen BK12002.out 0; have hfz38_1 := blk_frozen BK12002.out 1; have hfz38_2 := blk_frozen BK12002.out 2; have hfz38_3 := blk_frozen BK12002.out 3; have hfz38_4 := blk_frozen BK12002.out 4; have hfz38_5 := blk_frozen BK12002.out 5) | ((with_reducible refine gate_callee (f := 20) rfl ?_); refine goesL_ (some 15) rfl rfl Try.func20 (by kernel_rfl) rfl #[.agg #[.slice A0_2 l0_2.length c0_2, .slice A0_3 l0_3.length c0_3, .slice A0_4 l0_4.length c0_4], .agg #[.slice A1_2 l1_2.length c1_2, .slice A1_3 l1_3.length c1_3, .slice A1_4 l1_4.length c1_4]] rfl (by (try simp only [List.map_toArray, List.map_cons, List.map_nil]); first | done | rfl | (simp only [List.length_drop, List.length_take]; rfl)) ?_; (with_reducible refine (laws_eqMonoid.calls k _ _ l0_2 _ _ l0_3 _ _ l0_4 _ _ l1_2 _ _ l1_3 _ _ l1_4 false _ ?side1 ?side2 ?side3 ?side4 ?side5 ?side6 ?side7 ?side8 ?side9 ?side10 ?side11 ?side12 A5.out).mono ?_); (case side1 => repeat (first | exact (Kd.C_below HR0_2.out HB.out) | (with_reducible refine Kd.C_alloc ?_ _) | (with_reducible refine Kd.C_drewN ?_ _) | (with_reducible refine Kd.C_drew ?_))); (case side2 => exact HC0_2.out); (case side3 => repeat (first | exact (Kd.C_below HR0_3.out HB.out) | (with_reducible refine Kd.C_alloc ?_ _) | (with_reducible refine Kd.C_drewN ?_ _) | (with_reducible refine Kd.C_drew ?_))); (case side4 => exact HC0_3.out); (case side5 => repeat (first | exact (Kd.C_below HR0_4.out HB.out) | (with_reducible refine Kd.C_alloc ?_ _) | (with_reducible refine Kd.C_drewN ?_ _) | (with_reducible refine Kd.C_drew ?_))); (case side6 => exact HC0_4.out); (case side7 => repeat (first | exact (Kd.C_below HR1_2.out HB.out) | (with_reducible refine Kd.C_alloc ?_ _) | (with_reducible refine Kd.C_drewN ?_ _) | (with_reducible refine Kd.C_drew ?_))); (case side8 => exact HC1_2.out); (case side9 => repeat (first | exact (Kd.C_below HR1_3.out HB.out) | (with_reducible refine Kd.C_alloc ?_ _) | (with_reducible refine Kd.C_drewN ?_ _) | (with_reducible refine Kd.C_drew ?_))); (case side10 => exact HC1_3.out); (case side11 => repeat (first | exact (Kd.C_below HR1_4.out HB.out) | (with_reducible refine Kd.C_alloc ?_ _) | (with_reducible refine Kd.C_drewN ?_ _) | (with_reducible refine Kd.C_drew ?_))); (case side12 => exact HC1_4.out); rintro e w39 ⟨rfl, hb⟩; refine ⟨_, rfl, ?_⟩; have n0_ := Aside0.mk (blk_below (g := gb12001) (o := .cells #[.string a0_0, .string a0_1, .slice A0_2 l0_2.length c0_2, .slice A0_3 l0_3.length c0_3, .slice A0_4 l0_4.length c0_4, .slice A0_5 l0_5.length c0_5] 36 (0, 0)) (by (with_reducible repeat (first | refine blk_drewN ?_ _ | refine blk_drew ?_ | refine blk_alloc ?_ _)); exact BK12001.out) hb); have n1_ := Aside0.mk (blk_below (g := gb12002) (o := .cells #[.string a1_0, .string a1_1, .slice A1_2 l1_2.length c1_2, .slice A1_3 l1_3.length c1_3, .slice A1_4 l1_4.length c1_4, .slice A1_5 l1_5.length c1_5] 36 (0, 0)) (by (with_reducible repeat (first | refine blk_drewN ?_ _ | refine blk_drew ?_ | refine blk_alloc ?_ _)); exact BK12002.out) hb); have n2_ := Aside0.mk (below_step (by repeat (first | (with_reducible first | exact HB.out | apply below_alloc | apply pw_below_drewN | apply below_drew1 | refine below_set ?_ GE12001.out | refine below_set ?_ GE12002.out) | exact HB.out)) hb); clear BK12001; clear BK12002; clear HB; have BK12001 := n0_; have BK12002 := n1_; have HB := n2_; clear n0_ n1_ n2_; (try clear hb); (try clear hb2); (try clear hk); (try clear hi)))
   go_ret
   exact ⟨by first | rfl | (simp [errW_none, errW_some] <;> rfl) | (simp [*, errW_none, errW_some] <;> rfl), by repeat (first | (with_reducible first | exact HB.out | apply below_alloc | apply pw_below_drewN | apply below_drew1 | refine below_set ?_ GE12001.out | refine below_set ?_ GE12002.out) | exact HB.out)⟩
 ·replace c4 := Bool.eq_false_iff.mpr c4
  subst c4
  have H1 : (some false) = some r := by rw [if_neg (show ¬ (false = true) by decide)] at H; exact H
  clear H
  have H := H1
  clear H1
  obtain rfl := Option.some.inj H
  go_enter Try.func12, Try.ntmps12
  go_wp2_with (first | ((with_reducible refine gate_dst (N := 2) rfl ?_); refine box_event ?hg (N := 2) ?hd (cs := #[.string a0_0, .string a0_1, .slice A0_2 l0_2.length c0_2, .slice A0_3 l0_3.length c0_3, .slice A0_4 l0_4.length c0_4, .slice A0_5 l0_5.length c0_5]) (t := 36) ?hr ?_; (case hd => rfl); (case hg => rfl); (case hr => first | (go_simp; done) | (go_simp; rfl)); intro gb12001 hg w40 hbox hb; have n0_ := Aside0.mk (below_step (by repeat (first | (with_reducible first | exact HB.out | apply below_alloc | apply pw_below_drewN | apply below_drew1) | exact HB.out)) hb); have n1_ := Aside0.mk (hbox); have n2_ := Aside0.mk ((by rw [hg]; exact (below_size (by repeat (first | (with_reducible first | exact HB.out | apply below_alloc | apply pw_below_drewN | apply below_drew1) | exact HB.out))) : w.heap.size ≤ gb12001)); have n3_ := Aside0.mk ((by rw [hg]; exact (below_size (by repeat (first | (with_reducible first | exact HB.out | apply below_alloc | apply pw_below_drewN | apply below_drew1) | exact HB.out))) : w.heap.size ≤ gb12001)); clear HB; have HB := n0_; have BK12001 := n1_; have GW12001 := n2_; have GE12001 := n3_; clear n0_ n1_ n2_ n3_; clear hb hbox hg) | ((with_reducible refine gate_dst (N := 3) rfl ?_); refine box_event ?hg (N := 3) ?hd (cs := #[.string a1_0, .string a1_1, .slice A1_2 l1_2.length c1_2, .slice A1_3 l1_3.length c1_3, .slice A1_4 l1_4.length c1_4, .slice A1_5 l1_5.length c1_5]) (t := 36) ?hr ?_; (case hd => rfl); (case hg => rfl); (case hr => first | (go_simp; done) | (go_simp; rfl)); intro gb12002 hg w41 hbox hb; have n0_ := Aside0.mk (blk_below (g := gb12001) (o := .cells #[.string a0_0, .string a0_1, .slice A0_2 l0_2.length c0_2, .slice A0_3 l0_3.length c0_3, .slice A0_4 l0_4.length c0_4, .slice A0_5 l0_5.length c0_5] 36 (0, 0)) (by (with_reducible repeat (first | refine blk_drewN ?_ _ | refine blk_drew ?_ | refine blk_alloc ?_ _)); exact BK12001.out) hb); have n1_ := Aside0.mk (below_step (by repeat (first | (with_reducible first | exact HB.out | apply below_alloc | apply pw_below_drewN | apply below_drew1 | refine below_set ?_ GE12001.out) | exact HB.out)) hb); have n2_ := Aside0.mk (hbox); have n3_ := Aside0.mk ((by rw [hg]; exact (below_size (by repeat (first | (with_reducible first | exact HB.out | apply below_alloc | apply pw_below_drewN | apply below_drew1 | refine below_set ?_ GE12001.out) | exact HB.out))) : w.heap.size ≤ gb12002)); have n4_ := Aside0.mk ((by rw [hg]; exact (below_size (by repeat (first | (with_reducible first | exact HB.out | apply below_alloc | apply pw_below_drewN | apply below_drew1 | refine below_set ?_ GE12001.out) | exact HB.out))) : w.heap.size ≤ gb12002)); have n5_ := Aside0.mk ((by rw [hg]; exact Nat.ne_of_lt (blk_lt (g := gb12001) (o := .cells #[.string a0_0, .string a0_1, .slice A0_2 l0_2.length c0_2, .slice A0_3 l0_3.length c0_3, .slice A0_4 l0_4.length c0_4, .slice A0_5 l0_5.length c0_5] 36 (0, 0)) (by (with_reducible repeat (first | refine blk_drewN ?_ _ | refine blk_drew ?_ | refine blk_alloc ?_ _)); exact BK12001.out)) : gb12001 ≠ gb12002)); have n6_ := Aside0.mk ((by rw [hg]; exact Nat.ne_of_gt (blk_lt (g := gb12001) (o := .cells #[.string a0_0, .string a0_1, .slice A0_2 l0_2.length c0_2, .slice A0_3 l0_3.length c0_3, .slice A0_4 l0_4.length c0_4, .slice A0_5 l0_5.length c0_5] 36 (0, 0)) (by (with_reducible repeat (first | refine blk_drewN ?_ _ | refine blk_drew ?_ | refine blk_alloc ?_ _)); exact BK12001.out)) : gb12002 ≠ gb12001)); clear BK12001; clear HB; have BK12001 := n0_; have HB := n1_; have BK12002 := n2_; have GW12002 := n3_; have GE12002 := n4_; have NB12001_12002 := n5_; have NB12002_12001 := n6_; clear n0_ n1_ n2_ n3_ n4_ n5_ n6_; clear hb hbox hg; have hnb42 := NB12001_12002.out; have hnc42 := NB12002_12001.out; have hcz43_0 : w41.cell? ⟨gb12001, 0, none⟩ = some (.string a0_0) := (blk_cell BK12001.out 0).trans rfl; have hcz43_1 : w41.cell? ⟨gb12001, 1, none⟩ = some (.string a0_1) := (blk_cell BK12001.out 1).trans rfl; have hcz43_2 : w41.cell? ⟨gb12001, 2, none⟩ = some (.slice A0_2 l0_2.length c0_2) := (blk_cell BK12001.out 2).trans rfl; have hcz43_3 : w41.cell? ⟨gb12001, 3, none⟩ = some (.slice A0_3 l0_3.length c0_3) := (blk_cell BK12001.out 3).trans rfl; have hcz43_4 : w41.cell? ⟨gb12001, 4, none⟩ = some (.slice A0_4 l0_4.length c0_4) := (blk_cell BK12001.out 4).trans rfl; have hcz43_5 : w41.cell? ⟨gb12001, 5, none⟩ = some (.slice A0_5 l0_5.length c0_5) := (blk_cell BK12001.out 5).trans rfl; have hfz43_0 := blk_frozen BK12001.out 0; have hfz43_1 := blk_frozen BK12001.out 1; have hfz43_2 := blk_frozen BK12001.out 2; have hfz43_3 := blk_frozen BK12001.out 3; have hfz43_4 := blk_frozen BK12001.out 4; have hfz43_5 := blk_frozen BK12001.out 5; have hcz44_0 : w41.cell? ⟨gb12002, 0, none⟩ = some (.string a1_0) := (blk_cell BK12002.out 0).trans rfl; have hcz44_1 : w41.cell? ⟨gb12002, 1, none⟩ = some (.string a1_1) := (blk_cell BK12002.out 1).trans rfl; have hcz44_2 : w41.cell? ⟨gb12002, 2, none⟩ = some (.slice A1_2 l1_2.length c1_2) := (blk_cell BK12002.out 2).trans rfl; have hcz44_3 : w41.cell? ⟨gb12002, 3, none⟩ = some (.slice A1_3 l1_3.length c1_3) := (blk_cell BK12002.out 3).trans rfl; have hcz44_4 : w41.cell? ⟨gb12002, 4, none⟩ = some (.slice A1_4 l1_4.length c1_4) := (blk_cell BK12002.out 4).trans rfl; have hcz44_5 : w41.cell? ⟨gb12002, 5, none⟩ = some (.slice A1_5 l1_5.length c1_5) := (blk_cell BK12002.out 5).trans rfl; have hfz44_0 := blk_frozen BK12002.out 0; have hfz44_1 := blk_frozen BK12002.out 1; have hfz44_2 := blk_frozen BK12002.out 2; have hfz44_3 := blk_frozen BK12002.out 3; have hfz44_4 := blk_frozen BK12002.out 4; have hfz44_5 := blk_frozen BK12002.out 5) | ((with_reducible refine gate_callee (f := 54) rfl ?_); refine goesL_ (some 9) rfl rfl Try.func54 (by kernel_rfl) rfl #[.agg #[.string a0_0, .string a0_1], .agg #[.string a1_0, .string a1_1]] rfl (by (try simp only [List.map_toArray, List.map_cons, List.map_nil]); first | done | rfl | (simp only [List.length_drop, List.length_take]; rfl)) ?_; (with_reducible refine (laws_eqEquation.calls a0_0 a0_1 a1_0 a1_1 false _ A3.out).mono ?_); rintro e w45 ⟨rfl, hb⟩; refine ⟨_, rfl, ?_⟩; have n0_ := Aside0.mk (blk_below (g := gb12001) (o := .cells #[.string a0_0, .string a0_1, .slice A0_2 l0_2.length c0_2, .slice A0_3 l0_3.length c0_3, .slice A0_4 l0_4.length c0_4, .slice A0_5 l0_5.length c0_5] 36 (0, 0)) (by (with_reducible repeat (first | refine blk_drewN ?_ _ | refine blk_drew ?_ | refine blk_alloc ?_ _)); exact BK12001.out) hb); have n1_ := Aside0.mk (blk_below (g := gb12002) (o := .cells #[.string a1_0, .string a1_1, .slice A1_2 l1_2.length c1_2, .slice A1_3 l1_3.length c1_3, .slice A1_4 l1_4.length c1_4, .slice A1_5 l1_5.length c1_5] 36 (0, 0)) (by (with_reducible repeat (first | refine blk_drewN ?_ _ | refine blk_drew ?_ | refine blk_alloc ?_ _)); exact BK12002.out) hb); have n2_ := Aside0.mk (below_step (by repeat (first | (with_reducible first | exact HB.out | apply below_alloc | apply pw_below_drewN | apply below_drew1 | refine below_set ?_ GE12001.out | refine below_set ?_ GE12002.out) | exact HB.out)) hb); clear BK12001; clear BK12002; clear HB; have BK12001 := n0_; have BK12002 := n1_; have HB := n2_; clear n0_ n1_ n2_; (try clear hb); (try clear hb2); (try clear hk); (try clear hi)))
  go_ret
  exact ⟨by first | rfl | (simp [errW_none, errW_some] <;> rfl) | (simp [*, errW_none, errW_some] <;> rfl), by repeat (first | (with_reducible first | exact HB.out | apply below_alloc | apply pw_below_drewN | apply below_drew1 | refine below_set ?_ GE12001.out | refine below_set ?_ GE12002.out) | exact HB.out)⟩
end Go.Proofs.Ytjmfpaalglbbhaa.A
namespace Go.Proofs.Ytjmfpaalglbbhaa.Ext
open Go.RowKit Go.Proofs.YtjmfpaalglbbhaaW.PrintWords Go.Proofs.YtjmfpaalglbbhaaW.PrintLast Go.Proofs.Ytjmfpaalglbbhaa.A
abbrev kRw : Kd (List Int) := Kd.slice 3 (Kd.int .i64)
theorem S_iv {W W2 : World} {base a b : Nat} {v : Value} {l : List (List Int)} {Q : Nat → Prop} (h : Kd.S kRw 25 W base (fun k => a ≤ k ∧ k < b) v l) (hk : Kept W W2 Q) (hq : ∀ k, Q k → k < a) : Kd.S kRw 25 W2 base (fun k => a ≤ k ∧ k < b) v l :=
 Kd.S_kept h hk (fun k hk hs => by have := hq k hs; omega)
theorem R_iv {W W2 : World} {base a b : Nat} {v : Value} {l : List Int} {Q : Nat → Prop} (h : Kd.R (Kd.int .i64) 3 W base (fun k => a ≤ k ∧ k < b) v l) (hk : Kept W W2 Q) (hq : ∀ k, Q k → k < a) : Kd.R (Kd.int .i64) 3 W2 base (fun k => a ≤ k ∧ k < b) v l :=
 Kd.R_kept h hk (fun k hk hs => by have := hq k hs; omega)
theorem S_new {W W1 : World} {v : Value} {l : List (List Int)} {ok : Nat → Prop} (h : Kd.S kRw 25 W1 W.heap.size ok v l) : Kd.S kRw 25 W1 W.heap.size (fun k => W.heap.size ≤ k ∧ k < W1.heap.size) v l := Kd.S_mono (Kd.S_bound h) (fun _ hk => ⟨hk.2.1, hk.2.2.1⟩)
theorem R_new {W W1 : World} {v : Value} {l : List Int} {ok : Nat → Prop} (h : Kd.R (Kd.int .i64) 3 W1 W.heap.size ok v l) : Kd.R (Kd.int .i64) 3 W1 W.heap.size (fun k => W.heap.size ≤ k ∧ k < W1.heap.size) v l := Kd.R_mono (Kd.R_bound h) (fun _ hk => ⟨hk.2.1, hk.2.2.1⟩)
set_option maxHeartbeats 4000000 in
theorem toMonoid_apart (k : Nat) (A0 : Option Addr) (c0 : Nat) (l0 : List (List Int)) (A1 : Option Addr) (c1 : Nat) (l1 : List Int) (A2 : Option Addr) (c2 : Nat) (l2 : List (List Int)) (r1 : List (List Int)) (r2 : List Int) (r3 : List (List Int)) (w : World)
  (hr0 : Kd.C kRw w A0 l0.length l0) (hc0 : l0.length ≤ c0) (hr1 : Kd.C (Kd.int .i64) w A1 l1.length l1) (hc1 : l1.length ≤ c1) (hr2 : Kd.C kRw w A2 l2.length l2) (hc2 : l2.length ≤ c2) (h : laws_toMonoid.f k l0 l1 l2 = some (r1, r2, r3)) :
  Calls Try.prog 49 #[.agg #[.slice A0 l0.length c0, .slice A1 l1.length c1, .slice A2 l2.length c2]] w fun e w' => ∃ (v0 v1 v2 : Value) (a0 a1 a2 a3 : Nat), e = .returned (.agg #[v0, v1, v2]) ∧
   Kd.S kRw 25 w' w.heap.size (fun k => a0 ≤ k ∧ k < a1) v0 r1 ∧ Kd.R (Kd.int .i64) 3 w' w.heap.size (fun k => a1 ≤ k ∧ k < a2) v1 r2 ∧ Kd.S kRw 25 w' w.heap.size (fun k => a2 ≤ k ∧ k < a3) v2 r3 ∧ (w.heap.size ≤ a0 ∧ a0 ≤ a1 ∧ a1 ≤ a2 ∧ a2 ≤ a3 ∧ a3 ≤ w'.heap.size) ∧ Below w.heap.size w w' := by
 have hu27 := Try.underlying27
 have hu34 := Try.underlying34
 have HR0 := Aside0.mk hr0
 have HC0 := Aside0.mk hc0
 have HR1 := Aside0.mk hr1
 have HC1 := Aside0.mk hc1
 have HR2 := Aside0.mk hr2
 have HC2 := Aside0.mk hc2
 clear hr0 hc0 hr1 hc1 hr2 hc2
 have H := h
 clear h
 unfold laws_toMonoid.f at H
 obtain ⟨t0, A2_, H⟩ := Option.bind_eq_some_iff.mp H
 obtain ⟨t1, A3_, H⟩ := Option.bind_eq_some_iff.mp H
 obtain ⟨t2, A4_, H⟩ := Option.bind_eq_some_iff.mp H
 simp only [Option.some.injEq, Prod.mk.injEq] at H
 obtain ⟨rfl, rfl, rfl⟩ := H
 have G0 := Aside0.mk A2_
 have G1 := Aside0.mk A3_
 have G2 := Aside0.mk A4_
 clear A2_ A3_ A4_
 have HB0 := Aside0.mk (Below.refl w.heap.size w)
 go_enter Try.func49, Try.ntmps49
 go_wp2_with (first
  | ((with_reducible refine gate_dst (N := 1) rfl ?_); refine box_event ?hg (N := 1) ?hd (cs := #[.slice A0 l0.length c0, .slice A1 l1.length c1, .slice A2 l2.length c2]) (t := 27) ?hr ?_; (case hd => rfl); (case hg => rfl); (case hr => first | (go_simp; done) | (go_simp; rfl)); intro gA hgA wA hbA hb; have HB1 := Aside0.mk (below_step HB0.out hb); have BA := Aside0.mk hbA; clear hbA hb)
  | ((with_reducible refine gate_dst (N := 2) rfl ?_); refine box_event ?hg (N := 2) ?hd (cs := #[.slice none 0 0, .slice none 0 0, .slice none 0 0]) (t := 34) ?hr ?_; (case hd => rfl); (case hg => rfl); (case hr => first | (go_simp; done) | (go_simp; rfl)); intro gB hgB wB hbB hb; have HB2 := Aside0.mk (below_step HB1.out hb); have BA1 := Aside0.mk (blk_below BA.out hb); have BB := Aside0.mk hbB; have GB := Aside0.mk (show w.heap.size ≤ gB by rw [hgB]; exact below_size HB1.out); clear hbB hb)
  | ((with_reducible refine gate_dst (N := 3) rfl ?_); refine box_event ?hg (N := 3) ?hd (cs := #[.slice none 0 0, .slice none 0 0, .slice none 0 0]) (t := 34) ?hr ?_; (case hd => rfl); (case hg => rfl); (case hr => first | (go_simp; done) | (go_simp; rfl)); intro gC hgC wC hbC hb; have HB3 := Aside0.mk (below_step HB2.out hb); have BA2 := Aside0.mk (blk_below BA1.out hb); have BB1 := Aside0.mk (blk_below BB.out hb); have BC := Aside0.mk hbC; have GC := Aside0.mk (show w.heap.size ≤ gC by rw [hgC]; exact below_size HB2.out); have NBC := Aside0.mk (show gB ≠ gC by rw [hgC]; exact Nat.ne_of_lt (blk_lt BB.out)); have NAC := Aside0.mk (show gA ≠ gC by rw [hgC]; exact Nat.ne_of_lt (blk_lt BA1.out)); have NAB := Aside0.mk (show gA ≠ gB by rw [hgB]; exact Nat.ne_of_lt (blk_lt BA.out)); have LB := Aside0.mk (show gB < wC.heap.size from blk_lt BB1.out); have LC := Aside0.mk (show gC < wC.heap.size from blk_lt BC.out); clear hbC hb hgA hgB hgC; have hz0 : wC.cell? ⟨gA, 0, none⟩ = some (.slice A0 l0.length c0) := (blk_cell BA2.out 0).trans rfl; have hf0 := blk_frozen BA2.out 0)
  | (go_at_call 50; (with_reducible refine (laws_toIntSS.calls k _ _ l0 t0 _ ?side1 ?side2 G0.out).mono ?_); (case side1 => exact Kd.C_below HR0.out HB3.out); (case side2 => exact HC0.out); rintro e w1 ⟨v0, rfl, ho0, hb⟩; have J0 := Aside0.mk (S_new ho0); have HB4 := Aside0.mk (below_step HB3.out hb); have BA3 := Aside0.mk (blk_below BA2.out hb); have BB2 := Aside0.mk (blk_below BB1.out hb); have BC1 := Aside0.mk (blk_below BC.out hb); have Z0 := Aside0.mk (show wC.heap.size ≤ w1.heap.size from hb.size); clear ho0 hb; obtain ⟨a0, d0, e0⟩ := Kd.S_slice J0.out; subst e0; have hz1 : w1.cell? ⟨gC, 0, none⟩ = some (.slice none 0 0) := (blk_cell BC1.out 0).trans rfl; have hf1 := blk_frozen BC1.out 0; have hz2 : w1.cell? ⟨gA, 1, none⟩ = some (.slice A1 l1.length c1) := (blk_cell BA3.out 1).trans rfl; have hf2 := blk_frozen BA3.out 1)
  | (go_at_call 109; (with_reducible refine (laws_toIntS.calls k _ _ l1 t1 _ ?side1 ?side2 G1.out).mono ?_); (case side1 => exact Kd.C_below HR1.out (below_set HB4.out GC.out)); (case side2 => exact HC1.out); rintro e w2 ⟨v1, rfl, ho0, hb⟩; have J1 := Aside0.mk (R_new ho0); have K0 := Aside0.mk (Kept.below (Kept.setCell (Kept.refl w1 (fun k => k = gB ∨ k = gC)) (p := ⟨gC, 0, none⟩) (.inl (.inr rfl)) _) hb); have HB5 := Aside0.mk (below_step (below_set HB4.out GC.out) hb); have BA4 := Aside0.mk (blk_below (blk_far BA3.out NAC.out _) hb); have BB3 := Aside0.mk (blk_below (blk_far BB2.out NBC.out _) hb); have BC2 := Aside0.mk (blk_below (blk_put (cs := #[.slice none 0 0, .slice none 0 0, .slice none 0 0]) BC1.out 0 (.slice a0 t0.length d0) rfl) hb); have Z1 := Aside0.mk (show w1.heap.size ≤ w2.heap.size by have := hb.size; simpa using this); simp only [World.size_setCell] at J1; clear ho0 hb; obtain ⟨a1, d1, e1⟩ := Kd.R_slice J1.out; subst e1; have hz3 : w2.cell? ⟨gC, 1, none⟩ = some (.slice none 0 0) := (blk_cell BC2.out 1).trans rfl; have hf3 := blk_frozen BC2.out 1; have hz4 : w2.cell? ⟨gA, 2, none⟩ = some (.slice A2 l2.length c2) := (blk_cell BA4.out 2).trans rfl; have hf4 := blk_frozen BA4.out 2)
  | (go_at_call 50; (with_reducible refine (laws_toIntSS.calls k _ _ l2 t2 _ ?side1 ?side2 G2.out).mono ?_); (case side1 => exact Kd.C_below HR2.out (below_set HB5.out GC.out)); (case side2 => exact HC2.out); rintro e w3 ⟨v2, rfl, ho0, hb⟩; have J2 := Aside0.mk (S_new ho0); have K1 := Aside0.mk (Kept.below (Kept.setCell K0.out (p := ⟨gC, 1, none⟩) (.inl (.inr rfl)) _) hb); have K2 := Aside0.mk (Kept.below (Kept.setCell (Kept.refl w2 (fun k => k = gB ∨ k = gC)) (p := ⟨gC, 1, none⟩) (.inl (.inr rfl)) (.slice a1 t1.length d1)) hb); have HB6 := Aside0.mk (below_step (below_set HB5.out GC.out) hb); have BB4 := Aside0.mk (blk_below (blk_far BB3.out NBC.out _) hb); have BC3 := Aside0.mk (blk_below (blk_put (cs := #[.slice a0 t0.length d0, .slice none 0 0, .slice none 0 0]) BC2.out 1 (.slice a1 t1.length d1) rfl) hb); have Z2 := Aside0.mk (show w2.heap.size ≤ w3.heap.size by have := hb.size; simpa using this); simp only [World.size_setCell] at J2; clear ho0 hb; obtain ⟨a2, d2, e2⟩ := Kd.S_slice J2.out; subst e2; have hz5 : w3.cell? ⟨gC, 2, none⟩ = some (.slice none 0 0) := (blk_cell BC3.out 2).trans rfl; have hf5 := blk_frozen BC3.out 2; have hz6 : w3.cell? ⟨gC, 0, none⟩ = some (.slice a0 t0.length d0) := (blk_cell BC3.out 0).trans rfl; have hz7 : w3.cell? ⟨gC, 1, none⟩ = some (.slice a1 t1.length d1) := (blk_cell BC3.out 1).trans rfl; have hz8 : w3.cell? ⟨gB, 0, none⟩ = some (.slice none 0 0) := (blk_cell BB4.out 0).trans rfl; have hz9 : w3.cell? ⟨gB, 1, none⟩ = some (.slice none 0 0) := (blk_cell BB4.out 1).trans rfl; have hz10 : w3.cell? ⟨gB, 2, none⟩ = some (.slice none 0 0) := (blk_cell BB4.out 2).trans rfl; have hf8 := blk_frozen BB4.out 0; have hf9 := blk_frozen BB4.out 1; have hf10 := blk_frozen BB4.out 2; have hnb := NBC.out))
 refine bodyPost_ret (results_cell_row rfl _ _ gB 34 #[.slice a0 t0.length d0, .slice a1 t1.length d1, .slice a2 t2.length d2] (0, 0) _ rfl
  (blk_put (cs := #[.slice a0 t0.length d0, .slice a1 t1.length d1, .slice none 0 0]) (blk_put (cs := #[.slice a0 t0.length d0, .slice none 0 0, .slice none 0 0]) (blk_put (cs := #[.slice none 0 0, .slice none 0 0, .slice none 0 0]) (blk_far BB4.out NBC.out _) 0 _ rfl) 1 _ rfl) 2 _ rfl)
  Try.underlying34 rfl (by kernel_rfl)) rfl ?_
 have last : ∀ (W : World), Kept W w3 (fun k => k = gB ∨ k = gC) → Kept W ((((w3.setCell ⟨gC, 2, none⟩ (.slice a2 t2.length d2)).setCell ⟨gB, 0, none⟩ (.slice a0 t0.length d0)).setCell ⟨gB, 1, none⟩ (.slice a1 t1.length d1)).setCell ⟨gB, 2, none⟩ (.slice a2 t2.length d2)) (fun k => k = gB ∨ k = gC) :=
  fun W h => Kept.setCell (Kept.setCell (Kept.setCell (Kept.setCell h (p := ⟨gC, 2, none⟩) (.inl (.inr rfl)) _) (p := ⟨gB, 0, none⟩) (.inl (.inl rfl)) _) (p := ⟨gB, 1, none⟩) (.inl (.inl rfl)) _) (p := ⟨gB, 2, none⟩) (.inl (.inl rfl)) _
 have b0 := HB3.out.size
 have b1 := Z0.out
 have b2 := Z1.out
 have b3 := Z2.out
 have lb := LB.out
 have lc := LC.out
 refine ⟨_, _, _, wC.heap.size, w1.heap.size, w2.heap.size, w3.heap.size, rfl, ?_, ?_, ?_, ⟨b0, b1, b2, b3, by simp⟩, ?_⟩
 ·exact Kd.S_lower (S_iv J0.out (last w1 K1.out) (fun k hk => by rcases hk with rfl | rfl <;> omega)) b0
 ·exact Kd.R_lower (R_iv J1.out (last w2 K2.out) (fun k hk => by rcases hk with rfl | rfl <;> omega)) (by omega)
 ·exact Kd.S_lower (S_iv J2.out (last w3 (Kept.refl _ _)) (fun k hk => by rcases hk with rfl | rfl <;> omega)) (by omega)
 ·exact below_set (below_set (below_set (below_set HB6.out GC.out) GB.out) GB.out) GB.out
theorem toFrame_apart (k : Nat) (s0 s1 : ByteArray) (A0 : Option Addr) (c0 : Nat) (l0 : List (List Int)) (A1 : Option Addr) (c1 : Nat) (l1 : List Int) (A2 : Option Addr) (c2 : Nat) (l2 : List (List Int)) (A3 : Option Addr) (c3 : Nat) (l3 : List (List Int)) (q1 q2 : ByteArray) (r1 : List (List Int)) (r2 : List Int) (r3 r4 : List (List Int)) (w : World)
  (hr0 : Kd.C kRw w A0 l0.length l0) (hc0 : l0.length ≤ c0) (hr1 : Kd.C (Kd.int .i64) w A1 l1.length l1) (hc1 : l1.length ≤ c1) (hr2 : Kd.C kRw w A2 l2.length l2) (hc2 : l2.length ≤ c2) (hr3 : Kd.C kRw w A3 l3.length l3) (hc3 : l3.length ≤ c3) (h : laws_toFrame.f k s0 s1 l0 l1 l2 l3 = some (q1, q2, r1, r2, r3, r4)) :
  Calls Try.prog 9 #[.agg #[.string s0, .string s1, .slice A0 l0.length c0, .slice A1 l1.length c1, .slice A2 l2.length c2, .slice A3 l3.length c3]] w fun e w' => ∃ (v0 v1 v2 v3 : Value) (a0 a1 a2 a3 a4 : Nat), e = .returned (.agg #[.string q1, .string q2, v0, v1, v2, v3]) ∧
   Kd.S kRw 25 w' w.heap.size (fun k => a0 ≤ k ∧ k < a1) v0 r1 ∧ Kd.R (Kd.int .i64) 3 w' w.heap.size (fun k => a1 ≤ k ∧ k < a2) v1 r2 ∧ Kd.S kRw 25 w' w.heap.size (fun k => a2 ≤ k ∧ k < a3) v2 r3 ∧ Kd.S kRw 25 w' w.heap.size (fun k => a3 ≤ k ∧ k < a4) v3 r4 ∧ (w.heap.size ≤ a0 ∧ a0 ≤ a1 ∧ a1 ≤ a2 ∧ a2 ≤ a3 ∧ a3 ≤ a4 ∧ a4 ≤ w'.heap.size) ∧ Below w.heap.size w w' := by
 have hu29 := Try.underlying29
 have hu36 := Try.underlying36
 have hu23 := Try.underlying23
 have hu33 := Try.underlying33
 have hu27 := Try.underlying27
 have hu34 := Try.underlying34
 have HR0 := Aside0.mk hr0
 have HC0 := Aside0.mk hc0
 have HR1 := Aside0.mk hr1
 have HC1 := Aside0.mk hc1
 have HR2 := Aside0.mk hr2
 have HC2 := Aside0.mk hc2
 have HR3 := Aside0.mk hr3
 have HC3 := Aside0.mk hc3
 clear hr0 hc0 hr1 hc1 hr2 hc2 hr3 hc3
 have H := h
 clear h
 unfold laws_toFrame.f at H
 obtain ⟨⟨x0, x1⟩, A2_, H⟩ := Option.bind_eq_some_iff.mp H
 obtain ⟨⟨t0, t1, t2⟩, A3_, H⟩ := Option.bind_eq_some_iff.mp H
 obtain ⟨t3, A4_, H⟩ := Option.bind_eq_some_iff.mp H
 simp only [Option.some.injEq, Prod.mk.injEq] at H
 obtain ⟨rfl, rfl, rfl, rfl, rfl, rfl⟩ := H
 have G0 := Aside0.mk A2_
 have G1 := Aside0.mk A3_
 have G2 := Aside0.mk A4_
 clear A2_ A3_ A4_
 have HB0 := Aside0.mk (Below.refl w.heap.size w)
 go_enter Try.func9, Try.ntmps9
 go_wp2_with (first
  | ((with_reducible refine gate_dst (N := 1) rfl ?_); refine box_event ?hg (N := 1) ?hd (cs := #[.string s0, .string s1, .slice A0 l0.length c0, .slice A1 l1.length c1, .slice A2 l2.length c2, .slice A3 l3.length c3]) (t := 29) ?hr ?_; (case hd => rfl); (case hg => rfl); (case hr => first | (go_simp; done) | (go_simp; rfl)); intro gA hgA wA hbA hb; have HB1 := Aside0.mk (below_step HB0.out hb); have BA := Aside0.mk hbA; clear hbA hb)
  | ((with_reducible refine gate_dst (N := 2) rfl ?_); refine box_event ?hg (N := 2) ?hd (cs := #[.string (⟨#[]⟩ : ByteArray), .string (⟨#[]⟩ : ByteArray), .slice none 0 0, .slice none 0 0, .slice none 0 0, .slice none 0 0]) (t := 36) ?hr ?_; (case hd => rfl); (case hg => rfl); (case hr => first | (go_simp; done) | (go_simp; rfl)); intro gB hgB wB hbB hb; have HB2 := Aside0.mk (below_step HB1.out hb); have BA1 := Aside0.mk (blk_below BA.out hb); have BB := Aside0.mk hbB; have GB := Aside0.mk (show w.heap.size ≤ gB by rw [hgB]; exact below_size HB1.out); clear hbB hb)
  | ((with_reducible refine gate_dst (N := 3) rfl ?_); refine box_event ?hg (N := 3) ?hd (cs := #[.string (⟨#[]⟩ : ByteArray), .string (⟨#[]⟩ : ByteArray), .slice none 0 0, .slice none 0 0, .slice none 0 0, .slice none 0 0]) (t := 36) ?hr ?_; (case hd => rfl); (case hg => rfl); (case hr => first | (go_simp; done) | (go_simp; rfl)); intro gC hgC wC hbC hb; have HB3 := Aside0.mk (below_step HB2.out hb); have BA2 := Aside0.mk (blk_below BA1.out hb); have BB1 := Aside0.mk (blk_below BB.out hb); have BC := Aside0.mk hbC; have GC := Aside0.mk (show w.heap.size ≤ gC by rw [hgC]; exact below_size HB2.out); have NBC := Aside0.mk (show gB ≠ gC by rw [hgC]; exact Nat.ne_of_lt (blk_lt BB.out)); have NAC := Aside0.mk (show gA ≠ gC by rw [hgC]; exact Nat.ne_of_lt (blk_lt BA1.out)); have LB := Aside0.mk (show gB < wC.heap.size from blk_lt BB1.out); have LC := Aside0.mk (show gC < wC.heap.size from blk_lt BC.out); clear hbC hb hgA hgB hgC; have hz1 : wC.cell? ⟨gA, 0, none⟩ = some (.string s0) := (blk_cell BA2.out 0).trans rfl; have hf1 := blk_frozen BA2.out 0; have hz2 : wC.cell? ⟨gA, 1, none⟩ = some (.string s1) := (blk_cell BA2.out 1).trans rfl; have hf2 := blk_frozen BA2.out 1)
  | (go_at_call 48; (with_reducible refine (laws_toEquation.calls s0 s1 x0 x1 _ G0.out).mono ?_); rintro e w0 ⟨rfl, hb⟩; have HB4 := Aside0.mk (below_step HB3.out hb); have BA3 := Aside0.mk (blk_below BA2.out hb); have BB2 := Aside0.mk (blk_below BB1.out hb); have BC1 := Aside0.mk (blk_below BC.out hb); have Z0 := Aside0.mk (show wC.heap.size ≤ w0.heap.size from hb.size); clear hb; have hz3 : w0.cell? ⟨gC, 0, none⟩ = some (.string (⟨#[]⟩ : ByteArray)) := (blk_cell BC1.out 0).trans rfl; have hf3 := blk_frozen BC1.out 0; have hz4 : w0.cell? ⟨gC, 1, none⟩ = some (.string (⟨#[]⟩ : ByteArray)) := (blk_cell BC1.out 1).trans rfl; have hf4 := blk_frozen BC1.out 1; have hz5 : w0.cell? ⟨gA, 2, none⟩ = some (.slice A0 l0.length c0) := (blk_cell BA3.out 2).trans rfl; have hf5 := blk_frozen BA3.out 2; have hz6 : w0.cell? ⟨gA, 3, none⟩ = some (.slice A1 l1.length c1) := (blk_cell BA3.out 3).trans rfl; have hf6 := blk_frozen BA3.out 3; have hz7 : w0.cell? ⟨gA, 4, none⟩ = some (.slice A2 l2.length c2) := (blk_cell BA3.out 4).trans rfl; have hf7 := blk_frozen BA3.out 4)
  | (go_at_call 49; (with_reducible refine (toMonoid_apart k _ _ l0 _ _ l1 _ _ l2 t0 t1 t2 _ ?side1 ?side2 ?side3 ?side4 ?side5 ?side6 G1.out).mono ?_); (case side1 => exact Kd.C_below HR0.out (below_set (below_set HB4.out GC.out) GC.out)); (case side2 => exact HC0.out); (case side3 => exact Kd.C_below HR1.out (below_set (below_set HB4.out GC.out) GC.out)); (case side4 => exact HC1.out); (case side5 => exact Kd.C_below HR2.out (below_set (below_set HB4.out GC.out) GC.out)); (case side6 => exact HC2.out); rintro e w1 ⟨v0, v1, v2, a0, a1, a2, a3, rfl, j0, j1, j2, hiv, hb⟩; have J0 := Aside0.mk j0; have J1 := Aside0.mk j1; have J2 := Aside0.mk j2; have HB5 := Aside0.mk (below_step (below_set (below_set HB4.out GC.out) GC.out) hb); have BA4 := Aside0.mk (blk_below (blk_far (blk_far BA3.out NAC.out _) NAC.out _) hb); have BB3 := Aside0.mk (blk_below (blk_far (blk_far BB2.out NBC.out _) NBC.out _) hb); have BC2 := Aside0.mk (blk_below (blk_put (cs := #[.string x0, .string (⟨#[]⟩ : ByteArray), .slice none 0 0, .slice none 0 0, .slice none 0 0, .slice none 0 0]) (blk_put (cs := #[.string (⟨#[]⟩ : ByteArray), .string (⟨#[]⟩ : ByteArray), .slice none 0 0, .slice none 0 0, .slice none 0 0, .slice none 0 0]) BC1.out 0 (.string x0) rfl) 1 (.string x1) rfl) hb); simp only [World.size_setCell] at J0 J1 J2 hiv; have Z1 := Aside0.mk hiv; clear j0 j1 j2 hiv hb; obtain ⟨b0, d0, e0⟩ := Kd.S_slice J0.out; subst e0; obtain ⟨b1, d1, e1⟩ := Kd.R_slice J1.out; subst e1; obtain ⟨b2, d2, e2⟩ := Kd.S_slice J2.out; subst e2; have hz8 : w1.cell? ⟨gC, 2, none⟩ = some (.slice none 0 0) := (blk_cell BC2.out 2).trans rfl; have hf8 := blk_frozen BC2.out 2; have hz9 : w1.cell? ⟨gC, 3, none⟩ = some (.slice none 0 0) := (blk_cell BC2.out 3).trans rfl; have hf9 := blk_frozen BC2.out 3; have hz10 : w1.cell? ⟨gC, 4, none⟩ = some (.slice none 0 0) := (blk_cell BC2.out 4).trans rfl; have hf10 := blk_frozen BC2.out 4; have hz11 : w1.cell? ⟨gA, 5, none⟩ = some (.slice A3 l3.length c3) := (blk_cell BA4.out 5).trans rfl; have hf11 := blk_frozen BA4.out 5)
  | (go_at_call 50; (with_reducible refine (laws_toIntSS.calls k _ _ l3 t3 _ ?side1 ?side2 G2.out).mono ?_); (case side1 => exact Kd.C_below HR3.out (below_set (below_set (below_set HB5.out GC.out) GC.out) GC.out)); (case side2 => exact HC3.out); rintro e w2 ⟨v3, rfl, ho0, hb⟩; have J3 := Aside0.mk (S_new ho0); have K1 := Aside0.mk (Kept.below (Kept.setCell (Kept.setCell (Kept.setCell (Kept.refl w1 (fun k => k = gB ∨ k = gC)) (p := ⟨gC, 2, none⟩) (.inl (.inr rfl)) (.slice b0 t0.length d0)) (p := ⟨gC, 3, none⟩) (.inl (.inr rfl)) (.slice b1 t1.length d1)) (p := ⟨gC, 4, none⟩) (.inl (.inr rfl)) (.slice b2 t2.length d2)) hb); have HB6 := Aside0.mk (below_step (below_set (below_set (below_set HB5.out GC.out) GC.out) GC.out) hb); have BB4 := Aside0.mk (blk_below (blk_far (blk_far (blk_far BB3.out NBC.out _) NBC.out _) NBC.out _) hb); have BC3 := Aside0.mk (blk_below (blk_put (cs := #[.string x0, .string x1, .slice b0 t0.length d0, .slice b1 t1.length d1, .slice none 0 0, .slice none 0 0]) (blk_put (cs := #[.string x0, .string x1, .slice b0 t0.length d0, .slice none 0 0, .slice none 0 0, .slice none 0 0]) (blk_put (cs := #[.string x0, .string x1, .slice none 0 0, .slice none 0 0, .slice none 0 0, .slice none 0 0]) BC2.out 2 (.slice b0 t0.length d0) rfl) 3 (.slice b1 t1.length d1) rfl) 4 (.slice b2 t2.length d2) rfl) hb); have Z2 := Aside0.mk (show w1.heap.size ≤ w2.heap.size by have := hb.size; simpa using this); simp only [World.size_setCell] at J3; clear ho0 hb; obtain ⟨b3, d3, e3⟩ := Kd.S_slice J3.out; subst e3; have hz12 : w2.cell? ⟨gC, 0, none⟩ = some (.string x0) := (blk_cell BC3.out 0).trans rfl; have hf12 := blk_frozen BC3.out 0; have hz13 : w2.cell? ⟨gC, 1, none⟩ = some (.string x1) := (blk_cell BC3.out 1).trans rfl; have hf13 := blk_frozen BC3.out 1; have hz14 : w2.cell? ⟨gC, 2, none⟩ = some (.slice b0 t0.length d0) := (blk_cell BC3.out 2).trans rfl; have hf14 := blk_frozen BC3.out 2; have hz15 : w2.cell? ⟨gC, 3, none⟩ = some (.slice b1 t1.length d1) := (blk_cell BC3.out 3).trans rfl; have hf15 := blk_frozen BC3.out 3; have hz16 : w2.cell? ⟨gC, 4, none⟩ = some (.slice b2 t2.length d2) := (blk_cell BC3.out 4).trans rfl; have hf16 := blk_frozen BC3.out 4; have hz17 : w2.cell? ⟨gC, 5, none⟩ = some (.slice none 0 0) := (blk_cell BC3.out 5).trans rfl; have hf17 := blk_frozen BC3.out 5; have hz18 : w2.cell? ⟨gB, 0, none⟩ = some (.string (⟨#[]⟩ : ByteArray)) := (blk_cell BB4.out 0).trans rfl; have hf18 := blk_frozen BB4.out 0; have hz19 : w2.cell? ⟨gB, 1, none⟩ = some (.string (⟨#[]⟩ : ByteArray)) := (blk_cell BB4.out 1).trans rfl; have hf19 := blk_frozen BB4.out 1; have hz20 : w2.cell? ⟨gB, 2, none⟩ = some (.slice none 0 0) := (blk_cell BB4.out 2).trans rfl; have hf20 := blk_frozen BB4.out 2; have hz21 : w2.cell? ⟨gB, 3, none⟩ = some (.slice none 0 0) := (blk_cell BB4.out 3).trans rfl; have hf21 := blk_frozen BB4.out 3; have hz22 : w2.cell? ⟨gB, 4, none⟩ = some (.slice none 0 0) := (blk_cell BB4.out 4).trans rfl; have hf22 := blk_frozen BB4.out 4; have hz23 : w2.cell? ⟨gB, 5, none⟩ = some (.slice none 0 0) := (blk_cell BB4.out 5).trans rfl; have hf23 := blk_frozen BB4.out 5; have hnb := NBC.out))
 refine bodyPost_ret (results_cell_row rfl _ _ gB 36 #[.string x0, .string x1, .slice b0 t0.length d0, .slice b1 t1.length d1, .slice b2 t2.length d2, .slice b3 t3.length d3] (0, 0) _ rfl
  (blk_put (cs := #[.string x0, .string x1, .slice b0 t0.length d0, .slice b1 t1.length d1, .slice b2 t2.length d2, .slice none 0 0]) (blk_put (cs := #[.string x0, .string x1, .slice b0 t0.length d0, .slice b1 t1.length d1, .slice none 0 0, .slice none 0 0]) (blk_put (cs := #[.string x0, .string x1, .slice b0 t0.length d0, .slice none 0 0, .slice none 0 0, .slice none 0 0]) (blk_put (cs := #[.string x0, .string x1, .slice none 0 0, .slice none 0 0, .slice none 0 0, .slice none 0 0]) (blk_put (cs := #[.string x0, .string (⟨#[]⟩ : ByteArray), .slice none 0 0, .slice none 0 0, .slice none 0 0, .slice none 0 0]) (blk_put (cs := #[.string (⟨#[]⟩ : ByteArray), .string (⟨#[]⟩ : ByteArray), .slice none 0 0, .slice none 0 0, .slice none 0 0, .slice none 0 0]) (blk_far BB4.out NBC.out _) 0 _ rfl) 1 _ rfl) 2 _ rfl) 3 _ rfl) 4 _ rfl) 5 _ rfl)
  Try.underlying36 rfl (by kernel_rfl)) rfl ?_
 have last : ∀ (W : World), Kept W w2 (fun k => k = gB ∨ k = gC) → Kept W (((((((w2.setCell ⟨gC, 5, none⟩ (.slice b3 t3.length d3)).setCell ⟨gB, 0, none⟩ (.string x0)).setCell ⟨gB, 1, none⟩ (.string x1)).setCell ⟨gB, 2, none⟩ (.slice b0 t0.length d0)).setCell ⟨gB, 3, none⟩ (.slice b1 t1.length d1)).setCell ⟨gB, 4, none⟩ (.slice b2 t2.length d2)).setCell ⟨gB, 5, none⟩ (.slice b3 t3.length d3)) (fun k => k = gB ∨ k = gC) :=
  fun W h => (Kept.setCell (Kept.setCell (Kept.setCell (Kept.setCell (Kept.setCell (Kept.setCell (Kept.setCell h (p := ⟨gC, 5, none⟩) (.inl (.inr rfl)) _) (p := ⟨gB, 0, none⟩) (.inl (.inl rfl)) _) (p := ⟨gB, 1, none⟩) (.inl (.inl rfl)) _) (p := ⟨gB, 2, none⟩) (.inl (.inl rfl)) _) (p := ⟨gB, 3, none⟩) (.inl (.inl rfl)) _) (p := ⟨gB, 4, none⟩) (.inl (.inl rfl)) _) (p := ⟨gB, 5, none⟩) (.inl (.inl rfl)) _)
 obtain ⟨b00, b01, b02, b03, b04⟩ := Z1.out
 have bb0 := HB3.out.size
 have bz0 := Z0.out
 have bz2 := Z2.out
 have lb := LB.out
 have lc := LC.out
 have bw := HB4.out.size
 refine ⟨_, _, _, _, a0, a1, a2, w1.heap.size, w2.heap.size, rfl, ?_, ?_, ?_, ?_, ⟨by omega, by omega, by omega, by omega, by omega, by simp⟩, ?_⟩
 ·exact Kd.S_lower (S_iv J0.out (last w1 K1.out) (fun k hk => by rcases hk with rfl | rfl <;> omega)) (by omega)
 ·exact Kd.R_lower (R_iv J1.out (last w1 K1.out) (fun k hk => by rcases hk with rfl | rfl <;> omega)) (by omega)
 ·exact Kd.S_mono (Kd.S_lower (S_iv J2.out (last w1 K1.out) (fun k hk => by rcases hk with rfl | rfl <;> omega)) (by omega)) (fun k hk => ⟨hk.1, by omega⟩)
 ·exact Kd.S_lower (S_iv J3.out (last w2 (Kept.refl _ _)) (fun k hk => by rcases hk with rfl | rfl <;> omega)) (by omega)
 ·exact (below_set (below_set (below_set (below_set (below_set (below_set (below_set HB6.out GC.out) GB.out) GB.out) GB.out) GB.out) GB.out) GB.out)
end Go.Proofs.Ytjmfpaalglbbhaa.Ext
namespace Go.Proofs.Ytjmfpaalglbbhaa.Ext
open Go.RowKit Go.Proofs.YtjmfpaalglbbhaaW.PrintWords Go.Proofs.YtjmfpaalglbbhaaW.PrintLast Go.Proofs.Ytjmfpaalglbbhaa.A
theorem markIntS_at (k : Nat) (P : Nat → Prop) (v : Value) (l0 : List Int) (x r : Int) (q : List Int) (w0 w : World) (hB : Below w0.heap.size w0 w) (h0 : Kd.R (Kd.int .i64) 3 w w0.heap.size P v l0) (h : laws_markIntS.f k l0 x = some (r, q)) :
  Calls Try.prog 58 #[v, .int .i64 x] w fun e w' => e = .returned (.int .i64 r) ∧ Kd.R (Kd.int .i64) 3 w' w0.heap.size P v q ∧ Below w0.heap.size w0 w' ∧ Kept w w' P := by
 refine (laws_markIntS.calls k (fun k_ => some k_ = v.ownBlock) v l0 x r q w0 w hB (Kd.R_tight rfl h0) h).mono ?_
 rintro e w' ⟨rfl, hr, hb, hk⟩
 exact ⟨rfl, Kd.R_mono (Kd.R_tight rfl hr) (fun k_ hk_ => h0.1 k_ hk_.symm), hb, Kept.mono hk (fun k_ hk_ => h0.1 k_ hk_.symm)⟩
def laws_markMonoid.f (k : Nat) (l0 : List (List Int)) (l1 : List Int) (l2 : List (List Int)) (x : Int) : Option (Int × List (List Int) × List Int × List (List Int)) :=
 (laws_markIntSS.f k l0 x).bind fun b0 => (laws_markIntS.f k l1 b0.1).bind fun b1 => (laws_markIntSS.f k l2 b1.1).bind fun b2 => some (b2.1, b0.2, b1.2, b2.2)
set_option maxHeartbeats 4000000 in
theorem laws_markMonoid.calls (k a0 a1 a2 a3 : Nat) (v0 v1 v2 : Value) (l0 : List (List Int)) (l1 : List Int) (l2 : List (List Int)) (x r : Int) (q0 : List (List Int)) (q1 : List Int) (q2 : List (List Int)) (w0 w : World) (hB : Below w0.heap.size w0 w)
  (h0 : Kd.S kRw 25 w w0.heap.size (fun k => a0 ≤ k ∧ k < a1) v0 l0) (h1 : Kd.R (Kd.int .i64) 3 w w0.heap.size (fun k => a1 ≤ k ∧ k < a2) v1 l1) (h2 : Kd.S kRw 25 w w0.heap.size (fun k => a2 ≤ k ∧ k < a3) v2 l2)
  (hiv : a0 ≤ a1 ∧ a1 ≤ a2 ∧ a2 ≤ a3 ∧ a3 ≤ w.heap.size) (h : laws_markMonoid.f k l0 l1 l2 x = some (r, q0, q1, q2)) :
  Calls Try.prog 23 #[.agg #[v0, v1, v2], .int .i64 x] w fun e w' => e = .returned (.int .i64 r) ∧ Kd.S kRw 25 w' w0.heap.size (fun k => a0 ≤ k ∧ k < a1) v0 q0 ∧ Kd.R (Kd.int .i64) 3 w' w0.heap.size (fun k => a1 ≤ k ∧ k < a2) v1 q1 ∧ Kd.S kRw 25 w' w0.heap.size (fun k => a2 ≤ k ∧ k < a3) v2 q2 ∧
   Below w0.heap.size w0 w' ∧ Kept w w' (fun k => a0 ≤ k ∧ k < a3) := by
 have hu34 := Try.underlying34
 obtain ⟨A0, c0, e0⟩ := Kd.S_slice h0
 obtain ⟨A1, c1, e1⟩ := Kd.R_slice h1
 obtain ⟨A2, c2, e2⟩ := Kd.S_slice h2
 subst e0 e1 e2
 unfold laws_markMonoid.f at h
 obtain ⟨⟨x0, y0⟩, g0, h⟩ := Option.bind_eq_some_iff.mp h
 obtain ⟨⟨x1, y1⟩, g1, h⟩ := Option.bind_eq_some_iff.mp h
 obtain ⟨⟨x2, y2⟩, g2, h⟩ := Option.bind_eq_some_iff.mp h
 simp only [Option.some.injEq, Prod.mk.injEq] at h
 obtain ⟨rfl, rfl, rfl, rfl⟩ := h
 have G0 := Aside0.mk g0
 have G1 := Aside0.mk g1
 have G2 := Aside0.mk g2
 have H0 := Aside0.mk h0
 have H1 := Aside0.mk h1
 have H2 := Aside0.mk h2
 have HB := Aside0.mk hB
 have IV := Aside0.mk hiv
 clear g0 g1 g2 h0 h1 h2 hB hiv
 go_enter Try.func23, Try.ntmps23
 go_wp2_with (first
  | ((with_reducible refine gate_dst (N := 2) rfl ?_); refine box_event ?hg (N := 2) ?hd (cs := #[.slice A0 l0.length c0, .slice A1 l1.length c1, .slice A2 l2.length c2]) (t := 34) ?hr ?_; (case hd => rfl); (case hg => rfl); (case hr => first | (go_simp; done) | (go_simp; rfl)); intro gA hgA wA hbA hb; have HB1 := Aside0.mk (below_step HB.out hb); have BA := Aside0.mk hbA; have GA := Aside0.mk (show a3 ≤ gA by have := IV.out; omega); have I0 := Aside0.mk (Kd.S_below H0.out hb); have I1 := Aside0.mk (Kd.R_below H1.out hb); have I2 := Aside0.mk (Kd.S_below H2.out hb); have KA := Aside0.mk (Kept.of_below hb (fun k => a0 ≤ k ∧ k < a3)); clear hbA hb hgA; have hz0 : wA.cell? ⟨gA, 0, none⟩ = some (.slice A0 l0.length c0) := (blk_cell BA.out 0).trans rfl; have hf0 := blk_frozen BA.out 0)
  | (go_at_call 56; (with_reducible refine (laws_markIntSS.calls k _ _ l0 x x0 y0 w0 _ HB1.out I0.out G0.out).mono ?_); rintro e w1 ⟨rfl, hs, hb, hk⟩; have iv := IV.out; have ga := GA.out; have J0 := Aside0.mk hs; have J1 := Aside0.mk (Kd.R_kept I1.out hk (fun k h1 h2 => by omega)); have J2 := Aside0.mk (Kd.S_kept I2.out hk (fun k h1 h2 => by omega)); have HB2 := Aside0.mk hb; have BA1 := Aside0.mk (blk_kept BA.out hk (fun h => by omega)); have KA1 := Aside0.mk (Kept.then_ KA.out hk (fun k h => .inl ⟨h.1, by omega⟩)); clear hs hb hk iv ga; have hz1 : w1.cell? ⟨gA, 1, none⟩ = some (.slice A1 l1.length c1) := (blk_cell BA1.out 1).trans rfl; have hf1 := blk_frozen BA1.out 1)
  | (go_at_call 58; (with_reducible refine (markIntS_at k _ _ l1 x0 x1 y1 w0 _ HB2.out J1.out G1.out).mono ?_); rintro e w2 ⟨rfl, hs, hb, hk⟩; have iv := IV.out; have ga := GA.out; have L0 := Aside0.mk (Kd.S_kept J0.out hk (fun k h1 h2 => by omega)); have L1 := Aside0.mk hs; have L2 := Aside0.mk (Kd.S_kept J2.out hk (fun k h1 h2 => by omega)); have HB3 := Aside0.mk hb; have BA2 := Aside0.mk (blk_kept BA1.out hk (fun h => by omega)); have KA2 := Aside0.mk (Kept.then_ KA1.out hk (fun k h => .inl ⟨by omega, by omega⟩)); clear hs hb hk iv ga; have hz2 : w2.cell? ⟨gA, 2, none⟩ = some (.slice A2 l2.length c2) := (blk_cell BA2.out 2).trans rfl; have hf2 := blk_frozen BA2.out 2)
  | (go_at_call 56; (with_reducible refine (laws_markIntSS.calls k _ _ l2 x1 x2 y2 w0 _ HB3.out L2.out G2.out).mono ?_); rintro e w3 ⟨rfl, hs, hb, hk⟩; have iv := IV.out; have M0 := Aside0.mk (Kd.S_kept L0.out hk (fun k h1 h2 => by omega)); have M1 := Aside0.mk (Kd.R_kept L1.out hk (fun k h1 h2 => by omega)); have M2 := Aside0.mk hs; have HB4 := Aside0.mk hb; have KA3 := Aside0.mk (Kept.then_ KA2.out hk (fun k h => .inl ⟨by omega, by omega⟩)); clear hs hb hk iv))
 go_ret
 exact ⟨rfl, M0.out, M1.out, M2.out, HB4.out, KA3.out⟩
def laws_markFrame.f (k : Nat) (s0 s1 : ByteArray) (l0 : List (List Int)) (l1 : List Int) (l2 l3 : List (List Int)) (x : Int) : Option (Int × List (List Int) × List Int × List (List Int) × List (List Int)) :=
 (laws_markMonoid.f k l0 l1 l2 x).bind fun b0 => (laws_markIntSS.f k l3 b0.1).bind fun b1 => some (b1.1, b0.2.1, b0.2.2.1, b0.2.2.2, b1.2)
set_option maxHeartbeats 4000000 in
theorem laws_markFrame.calls (k a0 a1 a2 a3 a4 : Nat) (s0 s1 : ByteArray) (v0 v1 v2 v3 : Value) (l0 : List (List Int)) (l1 : List Int) (l2 l3 : List (List Int)) (x r : Int) (q0 : List (List Int)) (q1 : List Int) (q2 q3 : List (List Int)) (w0 w : World) (hB : Below w0.heap.size w0 w)
  (h0 : Kd.S kRw 25 w w0.heap.size (fun k => a0 ≤ k ∧ k < a1) v0 l0) (h1 : Kd.R (Kd.int .i64) 3 w w0.heap.size (fun k => a1 ≤ k ∧ k < a2) v1 l1) (h2 : Kd.S kRw 25 w w0.heap.size (fun k => a2 ≤ k ∧ k < a3) v2 l2) (h3 : Kd.S kRw 25 w w0.heap.size (fun k => a3 ≤ k ∧ k < a4) v3 l3)
  (hiv : a0 ≤ a1 ∧ a1 ≤ a2 ∧ a2 ≤ a3 ∧ a3 ≤ a4 ∧ a4 ≤ w.heap.size) (h : laws_markFrame.f k s0 s1 l0 l1 l2 l3 x = some (r, q0, q1, q2, q3)) :
  Calls Try.prog 13 #[.agg #[.string s0, .string s1, v0, v1, v2, v3], .int .i64 x] w fun e w' => e = .returned (.int .i64 r) ∧ Below w0.heap.size w0 w' ∧ Kept w w' (fun k => a0 ≤ k ∧ k < a4) := by
 have hu34 := Try.underlying34
 have hu36 := Try.underlying36
 obtain ⟨A0, c0, e0⟩ := Kd.S_slice h0
 obtain ⟨A1, c1, e1⟩ := Kd.R_slice h1
 obtain ⟨A2, c2, e2⟩ := Kd.S_slice h2
 obtain ⟨A3, c3, e3⟩ := Kd.S_slice h3
 subst e0 e1 e2 e3
 unfold laws_markFrame.f at h
 obtain ⟨⟨x0, y0, y1, y2⟩, g0, h⟩ := Option.bind_eq_some_iff.mp h
 obtain ⟨⟨x1, y3⟩, g1, h⟩ := Option.bind_eq_some_iff.mp h
 simp only [Option.some.injEq, Prod.mk.injEq] at h
 obtain ⟨rfl, rfl, rfl, rfl, rfl⟩ := h
 have G0 := Aside0.mk g0
 have G1 := Aside0.mk g1
 have H0 := Aside0.mk h0
 have H1 := Aside0.mk h1
 have H2 := Aside0.mk h2
 have H3 := Aside0.mk h3
 have HB := Aside0.mk hB
 have IV := Aside0.mk hiv
 clear g0 g1 h0 h1 h2 h3 hB hiv
 go_enter Try.func13, Try.ntmps13
 go_wp2_with (first
  | ((with_reducible refine gate_dst (N := 2) rfl ?_); refine box_event ?hg (N := 2) ?hd (cs := #[.string s0, .string s1, .slice A0 l0.length c0, .slice A1 l1.length c1, .slice A2 l2.length c2, .slice A3 l3.length c3]) (t := 36) ?hr ?_; (case hd => rfl); (case hg => rfl); (case hr => first | (go_simp; done) | (go_simp; rfl)); intro gA hgA wA hbA hb; have HB1 := Aside0.mk (below_step HB.out hb); have BA := Aside0.mk hbA; have GA := Aside0.mk (show a4 ≤ gA by have := IV.out; omega); have I0 := Aside0.mk (Kd.S_below H0.out hb); have I1 := Aside0.mk (Kd.R_below H1.out hb); have I2 := Aside0.mk (Kd.S_below H2.out hb); have I3 := Aside0.mk (Kd.S_below H3.out hb); have IA := Aside0.mk (show a0 ≤ a1 ∧ a1 ≤ a2 ∧ a2 ≤ a3 ∧ a3 ≤ wA.heap.size by have := IV.out; have := hb.size; omega); have KA := Aside0.mk (Kept.of_below hb (fun k => a0 ≤ k ∧ k < a4)); clear hbA hb hgA; have hz0 : wA.cell? ⟨gA, 2, none⟩ = some (.slice A0 l0.length c0) := (blk_cell BA.out 2).trans rfl; have hf0 := blk_frozen BA.out 2; have hz1 : wA.cell? ⟨gA, 3, none⟩ = some (.slice A1 l1.length c1) := (blk_cell BA.out 3).trans rfl; have hf1 := blk_frozen BA.out 3; have hz2 : wA.cell? ⟨gA, 4, none⟩ = some (.slice A2 l2.length c2) := (blk_cell BA.out 4).trans rfl; have hf2 := blk_frozen BA.out 4)
  | (go_at_call 23; (with_reducible refine (laws_markMonoid.calls k a0 a1 a2 a3 _ _ _ l0 l1 l2 x x0 y0 y1 y2 w0 _ HB1.out I0.out I1.out I2.out IA.out G0.out).mono ?_); rintro e w1 ⟨rfl, _, _, _, hb, hk⟩; have iv := IV.out; have ga := GA.out; have J3 := Aside0.mk (Kd.S_kept I3.out hk (fun k h1 h2 => by omega)); have HB2 := Aside0.mk hb; have BA1 := Aside0.mk (blk_kept BA.out hk (fun h => by omega)); have KA1 := Aside0.mk (Kept.then_ KA.out hk (fun k h => .inl ⟨h.1, by omega⟩)); clear hb hk iv ga; have hz3 : w1.cell? ⟨gA, 5, none⟩ = some (.slice A3 l3.length c3) := (blk_cell BA1.out 5).trans rfl; have hf3 := blk_frozen BA1.out 5)
  | (go_at_call 56; (with_reducible refine (laws_markIntSS.calls k _ _ l3 x0 x1 y3 w0 _ HB2.out J3.out G1.out).mono ?_); rintro e w2 ⟨rfl, hs, hb, hk⟩; have iv := IV.out; have HB3 := Aside0.mk hb; have KA2 := Aside0.mk (Kept.then_ KA1.out hk (fun k h => .inl ⟨by omega, by omega⟩)); clear hs hb hk iv))
 go_ret
 exact ⟨rfl, HB3.out, KA2.out⟩
end Go.Proofs.Ytjmfpaalglbbhaa.Ext
namespace Go.Proofs.Ytjmfpaalglbbhaa.A
open Go.RowKit Go.Proofs.Ytjmfpaalglbbhaa.Ext Go.Proofs.YtjmfpaalglbbhaaW.PrintWords Go.Proofs.YtjmfpaalglbbhaaW.PrintLast Go.Proofs.YtjmfpaalglbbhaaW.PrintMore
attribute [local go_sem] max2_int min2_int max_two min_two max_three min_three max_four min_four
def laws_markText.l0 : Nat → Int → ByteArray → Option (ByteArray)
 | 0, _, _ => none
 | k + 1, x0, x3 => if x0 > 0 then ((some (([(wrap64 (48 + (Int.tmod x0 10))) % 256] : List Int) : List Int)).bind fun y57001 => (if (strOfNums y57001).size + x3.size ≤ 9223372036854775807 then (laws_markText.l0 k (wrap64 (Int.tdiv x0 10)) ((strOfNums y57001) ++ x3)) else (none))) else (if 1 + x3.size ≤ 9223372036854775807 then (some ((⟨#[109]⟩ : ByteArray) ++ x3)) else (none))
def laws_markText.f (k : Nat) (a0 : Int) : Option (ByteArray) := if a0 ≤ 0 then (some (⟨#[109, 48]⟩ : ByteArray)) else (laws_markText.l0 k a0 (⟨#[]⟩ : ByteArray))
theorem laws_markText.mono_l : ∀ k, (∀ y0 y1, LeO (laws_markText.l0 k y0 y1) (laws_markText.l0 (k + 1) y0 y1))
 | 0 => fun _ _ r h => by simp [laws_markText.l0] at h
 | k + 1 => by
  have ih0 := laws_markText.mono_l k
  ·intro y0 y1
   unfold laws_markText.l0
   repeat' first
   | (with_reducible exact ih0 _ _)
   | (with_reducible exact LeO.refl _)
   | (with_reducible exact LeO.none _)
   | (with_reducible refine LeO.ite ?_ ?_)
   | (with_reducible refine LeO.bind ?_ (fun _ => ?_))
theorem laws_markText.mono : ∀ a0 k, LeO (laws_markText.f k a0) (laws_markText.f (k + 1) a0) := by
 intro a0 k
 have ih0 := laws_markText.mono_l k
 unfold laws_markText.f
 repeat' first
   | (with_reducible exact ih0 _ _)
   | (with_reducible exact LeO.refl _)
   | (with_reducible exact LeO.none _)
   | (with_reducible refine LeO.ite ?_ ?_)
   | (with_reducible refine LeO.bind ?_ (fun _ => ?_))
theorem laws_markText.calls (k : Nat) (a0 : Int) (r : ByteArray) (w : World) (h : laws_markText.f k a0 = some r) :
  Calls Try.prog 57 #[.int .i64 a0] w fun e w' => e = .returned (.string r) ∧ Below w.heap.size w w' := by
 have HB := Aside0.mk (Below.refl w.heap.size w)
 have H : (if a0 ≤ 0 then (some (⟨#[109, 48]⟩ : ByteArray)) else (laws_markText.l0 k a0 (⟨#[]⟩ : ByteArray))) = some r := h
 clear h
 by_cases c2 : a0 ≤ 0
 ·rw [if_pos c2] at H
  have c2b0 : decide (a0 ≤ 0) = true := decide_eq_true c2
  clear c2
  obtain rfl := Option.some.inj H
  go_enter Try.func57, Try.ntmps57
  go_wp2
  go_ret
  exact ⟨by first | rfl | (simp [errW_none, errW_some] <;> rfl) | (simp [*, errW_none, errW_some] <;> rfl), by repeat (first | (with_reducible first | exact HB.out | apply below_alloc | apply pw_below_drewN | apply below_drew1) | exact HB.out)⟩
 ·rw [if_neg c2] at H
  have c2b0 : decide (a0 ≤ 0) = false := decide_eq_false c2
  clear c2
  have H' := Aside0.mk H
  clear H
  go_enter Try.func57, Try.ntmps57
  go_wp2
  first | go_loopg [0, 3] k (fun kq v0 v3 w' => ∃ (x0_1 : Int) (x3_1 : ByteArray), v0 = .int .i64 x0_1 ∧ v3 = .string x3_1 ∧ Aside0 (laws_markText.l0 kq x0_1 x3_1 = some r) ∧ Aside0 (kq ≤ k) ∧ Aside0 (Below w.heap.size w w')) | (simp only [Act.put, List.setIfInBounds_toArray, List.set_cons_succ, List.set_cons_zero]; go_loopg [0, 3] k (fun kq v0 v3 w' => ∃ (x0_1 : Int) (x3_1 : ByteArray), v0 = .int .i64 x0_1 ∧ v3 = .string x3_1 ∧ Aside0 (laws_markText.l0 kq x0_1 x3_1 = some r) ∧ Aside0 (kq ≤ k) ∧ Aside0 (Below w.heap.size w w')))
  case atStart => exact ⟨(a0), ((⟨#[]⟩ : ByteArray)), (by first | rfl | (simp; done) | (simp [*]; done)), (by first | rfl | (simp; done) | (simp [*]; done)), H', ⟨Nat.le_refl _⟩, ⟨by repeat (first | (with_reducible first | exact HB.out | apply below_alloc | apply pw_below_drewN | apply below_drew1) | exact HB.out)⟩⟩
  case round =>
   clear H'
   try clear c2
   try clear c2b0
   try clear p2
   obtain ⟨x0_1, x3_1, rfl, rfl, HA, HK1, HB⟩ := hrel
   cases gk with
   | zero => exact absurd HA.out (by simp [laws_markText.l0])
   | succ k1 =>
    have H := HA.out
    clear HA
    simp only [laws_markText.l0] at H
    by_cases c3 : x0_1 > 0
    ·rw [if_pos c3] at H
     have c3b0 : decide (0 < x0_1) = true := decide_eq_true c3
     clear c3
     obtain ⟨y57001, hy57001⟩ : ∃ y_ : List Int, y_ = (([(wrap64 (48 + (Int.tmod x0_1 10))) % 256] : List Int)) := ⟨_, rfl⟩
     replace H : (if (strOfNums y57001).size + x3_1.size ≤ 9223372036854775807 then (laws_markText.l0 k1 (wrap64 (Int.tdiv x0_1 10)) ((strOfNums y57001) ++ x3_1)) else (none)) = some r := by first | (rw [hy57001]; with_reducible exact H) | (have H2_ := (Option.bind_some _ _).symm.trans H; rw [hy57001]; with_reducible exact H2_) | (have H2_ := (Option.bind_some _ _).symm.trans H; with_reducible exact H2_) | with_reducible exact H | (rw [hy57001]; exact H) | exact H
     have Ny57001 := Aside0.mk hy57001
     clear hy57001
     by_cases c4 : (strOfNums y57001).size + x3_1.size ≤ 9223372036854775807
     ·rw [if_pos c4] at H
      have c4z := c4
      try simp at c4z
      try replace c4z := eq_false (Nat.not_lt.2 c4z)
      have c4b0 := eq_true c4
      have c4b1 : decide ((strOfNums y57001).size + x3_1.size ≤ 9223372036854775807) = true := decide_eq_true c4
      try have c4b2 : (9223372036854775807 < (strOfNums y57001).size + x3_1.size) = False := eq_false (Nat.not_lt.2 c4)
      have H' := Aside0.mk H
      clear H
      go_wp2_with (first | ((with_reducible refine gate_dst (N := 12) rfl ?_); refine Kd.R_lit (Kd.int .u8) _ 5 ?hg (N := 12) ?hd (xs := ([(wrap64 (48 + (Int.tmod x0_1 10))) % 256] : List Int)) (inner := [.int .u8 ((wrap64 (48 + (Int.tmod x0_1 10))) % 256)]) (ok := fun _ => True) (okp := fun _ => True) ?hr ?hp (fun _ hk => hk) trivial (Below.refl _ _) (Nat.le_refl _) (by simp) ?_; (case hd => rfl); (case hg => rfl); (case hr => first | (go_simp; done) | (go_simp; rfl)); (case hp => exact (Reps.one (show Kd.M (Kd.int .u8) _ _ _ ((wrap64 (48 + (Int.tmod x0_1 10))) % 256) [.int .u8 ((wrap64 (48 + (Int.tmod x0_1 10))) % 256)] from rfl) (Reps.none _ _))); intro v57002 w5 ho6 hb hg_ hnew_; clear hg_ hnew_; (first | rw [← Ny57001.out] at ho6 | (simp only [Int.reduceToNat] at ho6; rw [← Ny57001.out] at ho6)); have n0_ := Aside0.mk (Kd.R_lower ho6 (below_size (by repeat (first | (with_reducible first | exact HB.out | apply below_alloc | apply pw_below_drewN | apply below_drew1) | exact HB.out)))); have n1_ := Aside0.mk (below_step (by repeat (first | (with_reducible first | exact HB.out | apply below_alloc | apply pw_below_drewN | apply below_drew1) | exact HB.out)) hb); clear HB; have HO57003 := n0_; have HB := n1_; clear n0_ n1_; clear hb ho6; have hcv7 := own_string (P := Try.prog) Try.underlying56 Try.underlying5 Try.underlying9 (Kd.own_of_R HO57003.out)))
      go_roundg k1
      case measure => have := HK1.out; omega
      case rel => exact ⟨(wrap64 (Int.tdiv x0_1 10)), ((strOfNums y57001) ++ x3_1), (by first | rfl | (simp; done) | (simp [*]; done)), (by first | rfl | (simp; done) | (simp [*]; done)), H', ⟨by have := HK1.out; omega⟩, ⟨by repeat (first | (with_reducible first | exact HB.out | apply below_alloc | apply pw_below_drewN | apply below_drew1) | exact HB.out)⟩⟩
     ·rw [if_neg c4] at H
      exact absurd H (by simp)
    ·rw [if_neg c3] at H
     have c3b0 : decide (0 < x0_1) = false := decide_eq_false c3
     clear c3
     by_cases c8 : 1 + x3_1.size ≤ 9223372036854775807
     ·rw [if_pos c8] at H
      have c8z := c8
      try simp at c8z
      try replace c8z := eq_false (Nat.not_lt.2 c8z)
      have c8b0 := eq_true c8
      have c8b1 : decide (1 + x3_1.size ≤ 9223372036854775807) = true := decide_eq_true c8
      try have c8b2 : (9223372036854775807 < 1 + x3_1.size) = False := eq_false (Nat.not_lt.2 c8)
      obtain rfl := Option.some.inj H
      go_wp2
      go_ret
      exact ⟨by first | rfl | (simp [errW_none, errW_some] <;> rfl) | (simp [*, errW_none, errW_some] <;> rfl), by repeat (first | (with_reducible first | exact HB.out | apply below_alloc | apply pw_below_drewN | apply below_drew1) | exact HB.out)⟩
     ·rw [if_neg c8] at H
      exact absurd H (by simp)
end Go.Proofs.Ytjmfpaalglbbhaa.A
namespace Go.Proofs.Ytjmfpaalglbbhaa.Ext
open Go.RowKit Go.Proofs.YtjmfpaalglbbhaaW.PrintWords Go.Proofs.YtjmfpaalglbbhaaW.PrintLast Go.Proofs.Ytjmfpaalglbbhaa.A
abbrev kSt := k89
abbrev SSt := S89
def rdSt (xs : List SSt) (i : Int) : SSt := rd_T89 xs i
theorem st_fields {W : World} {base : Nat} {P : Nat → Prop} {g n cap : Nat} {xs : List SSt} (h : Kd.S kSt 89 W base P (.slice (some ⟨g, 0, none⟩) n cap) xs) (i : Int) (h0 : 0 ≤ i) (h1 : i < n) :
  W.cell? ⟨g, i.toNat * 3, none⟩ = some (.string (rdSt xs i).f0) ∧ W.cell? ⟨g, i.toNat * 3 + 1, none⟩ = some (.string (rdSt xs i).f1) ∧ W.frozen? ⟨g, i.toNat * 3, none⟩ = false ∧ W.frozen? ⟨g, i.toNat * 3 + 1, none⟩ = false ∧
  (∀ s : ByteArray, Kd.S kSt 89 (W.setCell ⟨g, i.toNat * 3, none⟩ (.string s)) base P (.slice (some ⟨g, 0, none⟩) n cap) (xs.set i.toNat ⟨s, (rdSt xs i).f1, (rdSt xs i).f2⟩) ∧ W.grownBy (W.setCell ⟨g, i.toNat * 3, none⟩ (.string s)) (some g)) ∧
  (∀ s : ByteArray, Kd.S kSt 89 (W.setCell ⟨g, i.toNat * 3 + 1, none⟩ (.string s)) base P (.slice (some ⟨g, 0, none⟩) n cap) (xs.set i.toNat ⟨(rdSt xs i).f0, s, (rdSt xs i).f2⟩) ∧ W.grownBy (W.setCell ⟨g, i.toNat * 3 + 1, none⟩ (.string s)) (some g)) := by
 have h' : Kd.S kSt 89 W base (fun k => P k ∧ ¬ False) (.slice (some ⟨g, 0, none⟩) n cap) xs := Kd.S_mono h (fun k hk => ⟨hk, id⟩)
 obtain ⟨oki, c, hcl, hM, hcc, hfr, hoki, hH⟩ := Kd.S_elem h' z89 i h0 h1
 obtain ⟨v2, rfl, hR⟩ := k89_openM hM
 refine ⟨hcc 0 _ rfl, hcc 1 _ rfl, hfr 0, hfr 1, fun s => ?_, fun s => ?_⟩
 ·exact Kd.S_seg (okg := fun _ => False) hH h0 h1 (seg := [.string s]) (j := 0) (show 0 + 1 ≤ 3 by omega) (x' := ⟨s, (rdSt xs i).f1, (rdSt xs i).f2⟩) (okp := oki)
   (k89_mkM _ _ _ (⟨s, (rdSt xs i).f1, (rdSt xs i).f2⟩ : SSt) hR) (fun k hk => .inl hk) (fun k hk => hk.elim)
 ·exact Kd.S_seg (okg := fun _ => False) hH h0 h1 (seg := [.string s]) (j := 1) (show 1 + 1 ≤ 3 by omega) (x' := ⟨(rdSt xs i).f0, s, (rdSt xs i).f2⟩) (okp := oki)
   (k89_mkM _ _ _ (⟨(rdSt xs i).f0, s, (rdSt xs i).f2⟩ : SSt) hR) (fun k hk => .inl hk) (fun k hk => hk.elim)
theorem st_row {W : World} {w0 : World} {P : Nat → Prop} {g n cap : Nat} {xs : List SSt} (h : Kd.S kSt 89 W w0.heap.size P (.slice (some ⟨g, 0, none⟩) n cap) xs) (i : Int) (h0 : 0 ≤ i) (h1 : i < n) :
  ∃ A c, W.cell? ⟨g, i.toNat * 3 + 2, none⟩ = some (.slice A (rdSt xs i).f2.length c) ∧ Kd.R (Kd.int .i64) 3 W w0.heap.size (fun k => some k = (Value.slice A (rdSt xs i).f2.length c).ownBlock) (.slice A (rdSt xs i).f2.length c) (rdSt xs i).f2 ∧
   (∀ k, some k = (Value.slice A (rdSt xs i).f2.length c).ownBlock → P k) ∧
   ∀ (W2 : World) (l2 : List Int) (Q : Nat → Prop), Kd.R (Kd.int .i64) 3 W2 w0.heap.size Q (.slice A (rdSt xs i).f2.length c) l2 → Kept W W2 (fun k => some k = (Value.slice A (rdSt xs i).f2.length c).ownBlock) →
    Kd.S kSt 89 W2 w0.heap.size P (.slice (some ⟨g, 0, none⟩) n cap) (xs.set i.toNat ⟨(rdSt xs i).f0, (rdSt xs i).f1, l2⟩) := by
 obtain ⟨oki, c, hcl, hM, hcc, hfr, hoki, hH⟩ := Kd.S_elem h z89 i h0 h1
 obtain ⟨v2, rfl, hR⟩ := k89_openM hM
 have hR' : Kd.R (Kd.int .i64) 3 W w0.heap.size oki v2 (rdSt xs i).f2 := hR
 obtain ⟨A, c, hv⟩ := Kd.R_slice hR'
 subst hv
 refine ⟨A, c, hcc 2 _ rfl, Kd.R_tight rfl hR', fun k hk => (hoki k (hR'.1 k hk.symm)).1, fun W2 l2 Q hr hk => ?_⟩
 refine Kd.H_back (Kd.H_kept hH hk (fun k _ hn hs => hn (hR'.1 k hs.symm))) (k89_mkM _ _ _ (⟨(rdSt xs i).f0, (rdSt xs i).f1, l2⟩ : SSt) (Kd.R_tight rfl hr)) (fun k hk => hR'.1 k hk.symm)
def laws_markStateS.l0 : Nat → List SSt → Int → Int → Option (Int × List SSt)
 | 0, _, _, _ => none
 | k + 1, x0, x1, x5 => if x5 < (x0.length : Int) then (if 0 ≤ x5 then ((laws_markText.f k x1).bind fun t1 => (laws_markText.f k (wrap64 (x1 + 1))).bind fun t2 => (laws_markIntS.f k (rdSt x0 x5).f2 (wrap64 (wrap64 (x1 + 1) + 1))).bind fun bt => laws_markStateS.l0 k (x0.set x5.toNat ⟨t1, t2, bt.2⟩) bt.1 (wrap64 (x5 + 1))) else none) else some (x1, x0)
def laws_markStateS.f (k : Nat) (l0 : List SSt) (a1 : Int) : Option (Int × List SSt) := laws_markStateS.l0 k l0 a1 0
theorem rdSt_set (xs : List SSt) (i : Int) (z : SSt) (h0 : 0 ≤ i) (h1 : i < (xs.length : Int)) : rdSt (xs.set i.toNat z) i = z := by
 unfold rdSt rd_T89
 have h : i.toNat < xs.length := by omega
 simp [List.getD, h]
set_option maxHeartbeats 4000000 in
theorem laws_markStateS.calls (k : Nat) (P0_ : Nat → Prop) (u9000_ : Value) (l0 : List SSt) (a1 : Int) (r1 : Int) (r2 : List SSt) (w0 w : World) (hB : Below w0.heap.size w0 w) (ho0 : Kd.S kSt 89 w w0.heap.size P0_ u9000_ l0) (h : laws_markStateS.f k l0 a1 = some (r1, r2)) :
  Calls Try.prog 14 #[u9000_, .int .i64 a1] w fun e w' => e = .returned (.int .i64 r1) ∧ Kd.S kSt 89 w' w0.heap.size P0_ u9000_ r2 ∧ Below w0.heap.size w0 w' ∧ Kept w w' P0_ := by
 have hu := Try.underlying89
 have HO0 := Aside0.mk ho0
 have HK := Aside0.mk (Kept.refl w P0_)
 have HB := Aside0.mk hB
 clear hB ho0
 have H' : Aside0 (laws_markStateS.l0 k l0 a1 0 = some (r1, r2)) := ⟨h⟩
 clear h
 go_enter Try.func14, Try.ntmps14
 go_wp2
 first | go_loopg [1, 5] k (fun kq v1 v5 w' => ∃ (x0_1 : List SSt) (x1_1 : Int) (x5_1 : Int), v1 = .int .i64 x1_1 ∧ v5 = .int .i64 x5_1 ∧ Aside0 (laws_markStateS.l0 kq x0_1 x1_1 x5_1 = some (r1, r2)) ∧ Aside0 (kq ≤ k) ∧ Aside0 (Kd.S kSt 89 w' w0.heap.size P0_ u9000_ x0_1) ∧ Aside0 (Kept w w' P0_) ∧ Aside0 (Below w0.heap.size w0 w')) | (simp only [Act.put, List.setIfInBounds_toArray, List.set_cons_succ, List.set_cons_zero]; go_loopg [1, 5] k (fun kq v1 v5 w' => ∃ (x0_1 : List SSt) (x1_1 : Int) (x5_1 : Int), v1 = .int .i64 x1_1 ∧ v5 = .int .i64 x5_1 ∧ Aside0 (laws_markStateS.l0 kq x0_1 x1_1 x5_1 = some (r1, r2)) ∧ Aside0 (kq ≤ k) ∧ Aside0 (Kd.S kSt 89 w' w0.heap.size P0_ u9000_ x0_1) ∧ Aside0 (Kept w w' P0_) ∧ Aside0 (Below w0.heap.size w0 w')))
 case atStart => exact ⟨l0, a1, 0, rfl, rfl, H', ⟨Nat.le_refl _⟩, HO0, HK, HB⟩
 case round =>
  clear H'
  obtain ⟨x0_1, x1_1, x5_1, rfl, rfl, HA, HK1, HO_0, HK, HB⟩ := hrel
  cases gk with
  | zero => exact absurd HA.out (by simp [laws_markStateS.l0])
  | succ k1 =>
   have H := HA.out
   clear HA
   simp only [laws_markStateS.l0] at H
   by_cases c3 : x5_1 < (x0_1.length : Int)
   ·rw [if_pos c3] at H
    have c3b0 : decide (x5_1 < (x0_1.length : Int)) = true := decide_eq_true c3
    by_cases c4 : 0 ≤ x5_1
    ·rw [if_pos c4] at H
     obtain ⟨t1, A1, H⟩ := Option.bind_eq_some_iff.mp H
     obtain ⟨t2, A2, H⟩ := Option.bind_eq_some_iff.mp H
     obtain ⟨⟨t3, t4⟩, A3, H⟩ := Option.bind_eq_some_iff.mp H
     replace A1 := Aside0.mk A1
     replace A2 := Aside0.mk A2
     replace A3 := Aside0.mk A3
     have H' := Aside0.mk H
     clear H
     obtain ⟨gS, cS, eS, hgS, _, _⟩ := Kd.S_form HO_0.out (by omega)
     subst eS
     have HGS := Aside0.mk hgS
     have HPG := Aside0.mk ((Kd.S_R HO_0.out).1 gS rfl)
     clear hgS
     have Q3 := Aside0.mk c3
     have Q4 := Aside0.mk c4
     replace c3 := eq_true c3
     replace c4 := eq_true c4
     go_wp2_with (first
      | (go_at_call 57; (with_reducible refine (laws_markText.calls k1 x1_1 t1 _ A1.out).mono ?_); rintro e w2 ⟨rfl, hb⟩; obtain ⟨hx0, hx1, hf0, hf1, hs0, hs1⟩ := st_fields (Kd.S_below HO_0.out hb) x5_1 Q4.out Q3.out; have n1 := Aside0.mk (Kept.below HK.out hb); have n2 := Aside0.mk (below_step HB.out hb); have HS0 := Aside0.mk (hs0 t1); clear HK HB hs0 hs1 hb; have HK := n1; have HB := n2; clear n1 n2)
      | ((with_reducible refine gate_store (t := 9) (p := 17) rfl ?_); refine store_event (t := 9) (p := 17) (v := ?vo_1) (w1 := (w2.setCell ⟨gS, x5_1.toNat * 3, none⟩ (.string t1))) ?hg ?ho ?hn ?hr ?_; (case ho => rfl); (case hg => rfl); (case hn => rfl); (case hr => first | (go_simp; done) | (go_simp; rfl)); intro w3 hw; have HS1 : Aside0 (Kd.S kSt 89 w3 w0.heap.size P0_ (.slice (some ⟨gS, 0, none⟩) x0_1.length cS) (x0_1.set x5_1.toNat ⟨t1, (rdSt x0_1 x5_1).f1, (rdSt x0_1 x5_1).f2⟩)) := ⟨by rw [hw]; exact HS0.out.1⟩; have hg : w2.grownBy w3 (some gS) := (by rw [hw]; exact HS0.out.2); have n1 := Aside0.mk (Kept.of_grown hg HK.out (fun k_ e_ => .inl (by injection e_ with e_; subst e_; exact HPG.out))); have n2 := Aside0.mk (show Below w0.heap.size w0 w3 by rw [hw]; exact below_set HB.out HGS.out); clear HK HB hg hw HS0 hx0 hx1 hf0 hf1; have HK := n1; have HB := n2; clear n1 n2)
      | (go_at_call 57; (with_reducible refine (laws_markText.calls k1 (wrap64 (x1_1 + 1)) t2 _ A2.out).mono ?_); rintro e w4 ⟨rfl, hb⟩; obtain ⟨hx0, hx1, hf0, hf1, hs0, hs1⟩ := st_fields (Kd.S_below HS1.out hb) x5_1 Q4.out Q3.out; have n1 := Aside0.mk (Kept.below HK.out hb); have n2 := Aside0.mk (below_step HB.out hb); have HS2 := Aside0.mk (hs1 t2); clear HK HB hs0 hs1 hb HS1; have HK := n1; have HB := n2; clear n1 n2)
      | ((with_reducible refine gate_store (t := 9) (p := 25) rfl ?_); refine store_event (t := 9) (p := 25) (v := ?vo_2) (w1 := (w4.setCell ⟨gS, x5_1.toNat * 3 + 1, none⟩ (.string t2))) ?hg ?ho ?hn ?hr ?_; (case ho => rfl); (case hg => rfl); (case hn => rfl); (case hr => first | (go_simp; done) | (go_simp; rfl)); intro w5 hw; have HS3 : Aside0 (Kd.S kSt 89 w5 w0.heap.size P0_ (.slice (some ⟨gS, 0, none⟩) x0_1.length cS) (x0_1.set x5_1.toNat ⟨t1, t2, (rdSt x0_1 x5_1).f2⟩)) := ⟨by rw [hw]; have h2 := HS2.out.1; rw [rdSt_set _ _ _ Q4.out Q3.out, List.set_set] at h2; exact h2⟩; have hg : w4.grownBy w5 (some gS) := (by rw [hw]; exact HS2.out.2); have n1 := Aside0.mk (Kept.of_grown hg HK.out (fun k_ e_ => .inl (by injection e_ with e_; subst e_; exact HPG.out))); have n2 := Aside0.mk (show Below w0.heap.size w0 w5 by rw [hw]; exact below_set HB.out HGS.out); clear HK HB hg hw HS2 hx0 hx1 hf0 hf1; have HK := n1; have HB := n2; clear n1 n2; obtain ⟨A6, c6, hx6, hr6, hp6, hb6⟩ := st_row HS3.out x5_1 Q4.out Q3.out; have e6 : (rdSt (x0_1.set x5_1.toNat ⟨t1, t2, (rdSt x0_1 x5_1).f2⟩) x5_1) = ⟨t1, t2, (rdSt x0_1 x5_1).f2⟩ := rdSt_set _ _ _ Q4.out Q3.out; rw [e6] at hx6 hr6 hp6 hb6; dsimp only at hx6 hr6 hp6 hb6; have HR6 := Aside0.mk hr6; have HP6 := Aside0.mk hp6; have HB6 := Aside0.mk hb6; clear hr6 hp6 hb6 e6)
      | (go_at_call 58; (with_reducible refine (laws_markIntS.calls k1 _ _ (rdSt x0_1 x5_1).f2 (wrap64 (wrap64 (x1_1 + 1) + 1)) t3 t4 w0 _ HB.out HR6.out A3.out).mono ?_); rintro e w6 ⟨rfl, hy, hb, hkp⟩; have HS4 := Aside0.mk (HB6.out w6 t4 _ hy hkp); have n1 := Aside0.mk (Kept.then_ HK.out hkp (fun k_ hs => .inl (HP6.out k_ hs))); have n2 := Aside0.mk hb; clear HK HB hb hkp hy; have HK := n1; have HB := n2; clear n1 n2))
     go_roundg k1
     case measure => have := HK1.out; omega
     case rel =>
      have h2 := HS4.out
      rw [List.set_set] at h2
      have h3 : (x0_1.set x5_1.toNat ⟨t1, t2, t4⟩).length = x0_1.length := List.length_set
      exact ⟨x0_1.set x5_1.toNat ⟨t1, t2, t4⟩, t3, wrap64 (x5_1 + 1), rfl, rfl, H', ⟨by have := HK1.out; omega⟩, ⟨h2⟩, HK, HB⟩
    ·rw [if_neg c4] at H
     exact absurd H (by simp)
   ·rw [if_neg c3] at H
    have c3b0 : decide (x5_1 < (x0_1.length : Int)) = false := decide_eq_false c3
    clear c3
    simp only [Option.some.injEq, Prod.mk.injEq] at H
    obtain ⟨rfl, rfl⟩ := H
    obtain ⟨Ao9, co9, eo9⟩ := Kd.S_slice HO_0.out
    subst eo9
    go_wp2
    go_ret
    exact ⟨rfl, HO_0.out, HB.out, HK.out⟩
end Go.Proofs.Ytjmfpaalglbbhaa.Ext
namespace Go.Proofs.Ytjmfpaalglbbhaa.A
open Go.RowKit Go.Proofs.Ytjmfpaalglbbhaa.Ext Go.Proofs.YtjmfpaalglbbhaaW.PrintWords Go.Proofs.YtjmfpaalglbbhaaW.PrintLast Go.Proofs.YtjmfpaalglbbhaaW.PrintMore
attribute [local go_sem] max2_int min2_int max_two min_two max_three min_three max_four min_four
def impl_StripEquation.l0 : Nat → ByteArray → ByteArray → Option (ByteArray × ByteArray)
 | 0, _, _ => none
 | k + 1, x52002000, x52002001 => if x52002000.toList = ([] : List UInt8) then (some (x52002000, x52002001)) else (if x52002001.toList = ([] : List UInt8) then (some (x52002000, x52002001)) else (if 0 < (x52002000.size : Int) then (if 0 < (x52002001.size : Int) then (if (bt x52002000 0) = (bt x52002001 0) then (if 1 ≤ (x52002000.size : Int) then (if 1 ≤ (x52002001.size : Int) then (impl_StripEquation.l0 k (x52002000.extract 1 x52002000.size) (x52002001.extract 1 x52002001.size)) else (none)) else (none)) else (some (x52002000, x52002001))) else (none)) else (none)))
def impl_StripEquation.f (k : Nat) (a0_0 : ByteArray) (a0_1 : ByteArray) : Option (ByteArray × ByteArray) := impl_StripEquation.l0 k a0_0 a0_1
theorem impl_StripEquation.mono_l : ∀ k, (∀ y0 y1, LeO (impl_StripEquation.l0 k y0 y1) (impl_StripEquation.l0 (k + 1) y0 y1))
 | 0 => fun _ _ r h => by simp [impl_StripEquation.l0] at h
 | k + 1 => by
  have ih0 := impl_StripEquation.mono_l k
  ·intro y0 y1
   unfold impl_StripEquation.l0
   repeat' first
   | (with_reducible exact ih0 _ _)
   | (with_reducible exact LeO.refl _)
   | (with_reducible exact LeO.none _)
   | (with_reducible refine LeO.ite ?_ ?_)
   | (with_reducible refine LeO.bind ?_ (fun _ => ?_))
theorem impl_StripEquation.mono : ∀ a0 a1 k, LeO (impl_StripEquation.f k a0 a1) (impl_StripEquation.f (k + 1) a0 a1) := by
 intro a0 a1 k
 have ih0 := impl_StripEquation.mono_l k
 unfold impl_StripEquation.f
 repeat' first
   | (with_reducible exact ih0 _ _)
   | (with_reducible exact LeO.refl _)
   | (with_reducible exact LeO.none _)
   | (with_reducible refine LeO.ite ?_ ?_)
   | (with_reducible refine LeO.bind ?_ (fun _ => ?_))
def impl_StripEquation.T1 : Bool × List (List Nat × List Nat) := (true, [([], []), ([0], [0]), ([1], [1]), ([2], [2]), ([3], [3]), ([4, 3], [3, 4]), ([5, 3], [3, 5]), ([3, 6], [3, 6]), ([7, 3], [7]), ([8], [8]), ([9, 8], [8, 9]), ([10, 8], [8, 10]), ([8], [8]), ([12, 8], [8, 12]), ([13, 8], [8, 13]), ([11, 14, 8], [8, 11, 14]), ([8, 15], [8, 15])])
def impl_StripEquation.B1 : List Nat := [0, 1, 3, 7, 15, 31, 63, 127, 255, 511, 1023, 2047, 511, 4607, 12799, 32767, 65535]
theorem impl_StripEquation.tab1 : rtab .any (opsOf Try.f52 1) = impl_StripEquation.T1 := by kernel_rfl
theorem impl_StripEquation.bits1 : waitsOk impl_StripEquation.T1.2 impl_StripEquation.B1 = true := by kernel_rfl
def impl_StripEquation.T2 : Bool × List (List Nat × List Nat) := (true, [([], []), ([0], [0]), ([1], [1]), ([], []), ([3], [3]), ([4], [4]), ([0, 1, 2, 3, 4], []), ([6, 2, 0, 1, 2, 3, 4], [2, 6]), ([0, 1, 2, 3, 4, 5, 6, 7], []), ([8, 5, 7, 0, 1, 2, 3, 4, 5, 6, 7], [5, 8])])
def impl_StripEquation.B2 : List Nat := [0, 1, 3, 0, 8, 24, 31, 95, 255, 511]
theorem impl_StripEquation.tab2 : rtab .any (opsOf Try.f52 2) = impl_StripEquation.T2 := by kernel_rfl
theorem impl_StripEquation.bits2 : waitsOk impl_StripEquation.T2.2 impl_StripEquation.B2 = true := by kernel_rfl
theorem impl_StripEquation.calls (k : Nat) (a0_0 : ByteArray) (a0_1 : ByteArray) (r1 : ByteArray) (r2 : ByteArray) (w : World) (h : impl_StripEquation.f k a0_0 a0_1 = some (r1, r2)) :
  Calls Try.prog 52 #[.agg #[.string a0_0, .string a0_1]] w fun e w' => e = .returned (.agg #[.string r1, .string r2]) ∧ Below w.heap.size w w' := by
 have hu33 := Try.underlying33
 have HB := Aside0.mk (Below.refl w.heap.size w)
 have H : (impl_StripEquation.l0 k a0_0 a0_1) = some (r1, r2) := h
 clear h
 have H' := Aside0.mk H
 clear H
 go_enter Try.func52, Try.ntmps52
 go_wp2_with (first | ((with_reducible refine gate_dst (N := 1) rfl ?_); refine box_event ?hg (N := 1) ?hd (cs := #[.string a0_0, .string a0_1]) (t := 33) ?hr ?_; (case hd => rfl); (case hg => rfl); (case hr => first | (go_simp; done) | (go_simp; rfl)); intro gb52001 hg w2 hbox hb; have n0_ := Aside0.mk (below_step (by repeat (first | (with_reducible first | exact HB.out | apply below_alloc | apply pw_below_drewN | apply below_drew1) | exact HB.out)) hb); have n1_ := Aside0.mk (hbox); have n2_ := Aside0.mk ((by rw [hg]; exact (below_size (by repeat (first | (with_reducible first | exact HB.out | apply below_alloc | apply pw_below_drewN | apply below_drew1) | exact HB.out))) : w.heap.size ≤ gb52001)); have n3_ := Aside0.mk ((by rw [hg]; exact (below_size (by repeat (first | (with_reducible first | exact HB.out | apply below_alloc | apply pw_below_drewN | apply below_drew1) | exact HB.out))) : w.heap.size ≤ gb52001)); clear HB; have HB := n0_; have BK52001 := n1_; have GW52001 := n2_; have GE52001 := n3_; clear n0_ n1_ n2_ n3_; clear hb hbox hg) | ((with_reducible refine gate_dst (N := 2) rfl ?_); refine box_event ?hg (N := 2) ?hd (cs := #[.string (⟨#[]⟩ : ByteArray), .string (⟨#[]⟩ : ByteArray)]) (t := 33) ?hr ?_; (case hd => rfl); (case hg => rfl); (case hr => first | (go_simp; done) | (go_simp; rfl)); intro gb52002 hg w3 hbox hb; have n0_ := Aside0.mk (blk_below (g := gb52001) (o := .cells #[.string a0_0, .string a0_1] 33 (0, 0)) (by (with_reducible repeat (first | refine blk_drewN ?_ _ | refine blk_drew ?_ | refine blk_alloc ?_ _)); exact BK52001.out) hb); have n1_ := Aside0.mk (below_step (by repeat (first | (with_reducible first | exact HB.out | apply below_alloc | apply pw_below_drewN | apply below_drew1 | refine below_set ?_ GE52001.out) | exact HB.out)) hb); have n2_ := Aside0.mk (hbox); have n3_ := Aside0.mk ((by rw [hg]; exact (below_size (by repeat (first | (with_reducible first | exact HB.out | apply below_alloc | apply pw_below_drewN | apply below_drew1 | refine below_set ?_ GE52001.out) | exact HB.out))) : w.heap.size ≤ gb52002)); have n4_ := Aside0.mk ((by rw [hg]; exact (below_size (by repeat (first | (with_reducible first | exact HB.out | apply below_alloc | apply pw_below_drewN | apply below_drew1 | refine below_set ?_ GE52001.out) | exact HB.out))) : w.heap.size ≤ gb52002)); have n5_ := Aside0.mk ((by rw [hg]; exact Nat.ne_of_lt (blk_lt (g := gb52001) (o := .cells #[.string a0_0, .string a0_1] 33 (0, 0)) (by (with_reducible repeat (first | refine blk_drewN ?_ _ | refine blk_drew ?_ | refine blk_alloc ?_ _)); exact BK52001.out)) : gb52001 ≠ gb52002)); have n6_ := Aside0.mk ((by rw [hg]; exact Nat.ne_of_gt (blk_lt (g := gb52001) (o := .cells #[.string a0_0, .string a0_1] 33 (0, 0)) (by (with_reducible repeat (first | refine blk_drewN ?_ _ | refine blk_drew ?_ | refine blk_alloc ?_ _)); exact BK52001.out)) : gb52002 ≠ gb52001)); clear BK52001; clear HB; have BK52001 := n0_; have HB := n1_; have BK52002 := n2_; have GW52002 := n3_; have GE52002 := n4_; have NB52001_52002 := n5_; have NB52002_52001 := n6_; clear n0_ n1_ n2_ n3_ n4_ n5_ n6_; clear hb hbox hg))
 first | go_loopg [] k (fun kq w' => ∃ (x52002000_1 : ByteArray) (x52002001_1 : ByteArray), Aside0 (impl_StripEquation.l0 kq x52002000_1 x52002001_1 = some (r1, r2)) ∧ Aside0 (kq ≤ k) ∧ Aside0 (w'.heap[gb52001]? = some (.cells #[.string x52002000_1, .string x52002001_1] 33 (0, 0))) ∧ Aside0 (w'.heap[gb52002]? = some (.cells #[.string (⟨#[]⟩ : ByteArray), .string (⟨#[]⟩ : ByteArray)] 33 (0, 0))) ∧ Aside0 (Below w.heap.size w w')) | (simp only [Act.put, List.setIfInBounds_toArray, List.set_cons_succ, List.set_cons_zero]; go_loopg [] k (fun kq w' => ∃ (x52002000_1 : ByteArray) (x52002001_1 : ByteArray), Aside0 (impl_StripEquation.l0 kq x52002000_1 x52002001_1 = some (r1, r2)) ∧ Aside0 (kq ≤ k) ∧ Aside0 (w'.heap[gb52001]? = some (.cells #[.string x52002000_1, .string x52002001_1] 33 (0, 0))) ∧ Aside0 (w'.heap[gb52002]? = some (.cells #[.string (⟨#[]⟩ : ByteArray), .string (⟨#[]⟩ : ByteArray)] 33 (0, 0))) ∧ Aside0 (Below w.heap.size w w')))
 case atStart => exact ⟨(a0_0), (a0_1), H', ⟨Nat.le_refl _⟩, ⟨by (with_reducible repeat (first | refine blk_drewN ?_ _ | refine blk_drew ?_ | refine blk_alloc ?_ _)); exact BK52001.out⟩, ⟨by (with_reducible repeat (first | refine blk_drewN ?_ _ | refine blk_drew ?_ | refine blk_alloc ?_ _)); exact BK52002.out⟩, ⟨by repeat (first | (with_reducible first | exact HB.out | apply below_alloc | apply pw_below_drewN | apply below_drew1 | refine below_set ?_ GE52001.out | refine below_set ?_ GE52002.out) | exact HB.out)⟩⟩
 case round =>
  clear H'
  try clear p2
  obtain ⟨x52002000_1, x52002001_1, HA, HK1, BK52001, BK52002, HB⟩ := hrel
  cases gk with
  | zero => exact absurd HA.out (by simp [impl_StripEquation.l0])
  | succ k1 =>
   have H := HA.out
   clear HA
   simp only [impl_StripEquation.l0] at H
   by_cases c4 : x52002000_1.toList = ([] : List UInt8)
   ·rw [if_pos c4] at H
    have c4b0 : (x52002000_1.toList == ([] : List UInt8)) = true := beq_iff_eq.mpr c4
    have c4b1 : (x52002000_1.toList != ([] : List UInt8)) = false := bne_eq_false_iff_eq.mpr c4
    clear c4
    simp only [Option.some.injEq, Prod.mk.injEq] at H
    obtain ⟨rfl, rfl⟩ := H
    try go_wp2
    have n0_ := Aside0.mk (blk_drew BK52001.out)
    have n1_ := Aside0.mk (blk_drew BK52002.out)
    have n2_ := Aside0.mk (below_drew1 HB.out)
    clear BK52001
    clear BK52002
    clear HB
    have BK52001 := n0_
    have BK52002 := n1_
    have HB := n2_
    clear n0_ n1_ n2_
    refine start_ (n := 17) (S := fun w' => w'.cell? ⟨gb52001, 0, none⟩ = some (.string x52002000_1) ∧ w'.cell? ⟨gb52001, 1, none⟩ = some (.string x52002001_1)) (ds := []) #[false, false, false, false, false, false, false, false, false, false, false, false, false, false, false, false, false] (by kernel_rfl) rfl rfl ⟨(blk_cell BK52001.out 0).trans rfl, (blk_cell BK52001.out 1).trans rfl⟩ (fun hHeld => ?_); refine with_tabW impl_StripEquation.tab1 impl_StripEquation.bits1 (fun HT_ HW_ => ?_)
    generalize wr.drew = w5 at BK52001 BK52002 HB hHeld ⊢
    refine pure_ (i := 0) (N := some 3) (v := ?_) (a' := ?_) #[true, false, false, false, false, false, false, false, false, false, false, false, false, false, false, false, false] rfl rfl (any_of HT_.out (by kernel_rfl)) (fun _ _ _ h => h) (Or.inl ⟨by rfl, ?_⟩) ?_ ?_
    rotate_left
    ·intro w'
     go_simp
     first | with_reducible rfl | (rw [if_neg (by omega)]; done)
    rotate_left
    ·simp only [Act.put, List.setIfInBounds_toArray, List.set_cons_zero, List.set_cons_succ, i64_w, i32_w]
     rfl
    refine take_ (i := 1) (N := some 4) (v := ?_) (a' := ?_) #[true, true, false, false, false, false, false, false, false, false, false, false, false, false, false, false, false] rfl rfl (take_ofW HT_.out HW_.out (by kernel_rfl)) (fun _ _ _ h => h) (Or.inl ⟨by rfl, ?_⟩) hHeld ?_ ?_
    rotate_left
    ·rintro w' ⟨s0, s1⟩
     go_simp
     first | with_reducible rfl | (rw [if_neg (by omega)]; done)
    rotate_left
    ·simp only [Act.put, List.setIfInBounds_toArray, List.set_cons_zero, List.set_cons_succ, i64_w, i32_w]
     rfl
    refine pure_ (i := 2) (N := some 5) (v := ?_) (a' := ?_) #[true, true, true, false, false, false, false, false, false, false, false, false, false, false, false, false, false] rfl rfl (any_of HT_.out (by kernel_rfl)) (fun _ _ _ h => h) (Or.inl ⟨by rfl, ?_⟩) ?_ ?_
    rotate_left
    ·intro w'
     go_simp
     first | with_reducible rfl | (rw [if_neg (by omega)]; done)
    rotate_left
    ·simp only [Act.put, List.setIfInBounds_toArray, List.set_cons_zero, List.set_cons_succ, i64_w, i32_w]
     rfl
    refine pure_ (i := 3) (N := some 6) (v := ?_) (a' := ?_) #[true, true, true, true, false, false, false, false, false, false, false, false, false, false, false, false, false] rfl rfl (any_of HT_.out (by kernel_rfl)) (fun _ _ _ h => h) (Or.inl ⟨by rfl, ?_⟩) ?_ ?_
    rotate_left
    ·intro w'
     go_simp
     first | with_reducible rfl | (rw [if_neg (by omega)]; done)
    rotate_left
    ·simp only [Act.put, List.setIfInBounds_toArray, List.set_cons_zero, List.set_cons_succ, i64_w, i32_w]
     rfl
    refine pure_ (i := 4) (N := some 7) (v := undef) (a' := ?_) #[true, true, true, true, true, false, false, false, false, false, false, false, false, false, false, false, false] rfl rfl (any_of HT_.out (by kernel_rfl)) (fun _ _ _ h => h) (Or.inr ⟨by rfl, rfl⟩) ?_ ?_
    rotate_left
    ·simp only [Act.put, List.setIfInBounds_toArray, List.set_cons_zero, List.set_cons_succ, i64_w, i32_w]
     rfl
    refine pure_ (i := 5) (N := some 8) (v := undef) (a' := ?_) #[true, true, true, true, true, true, false, false, false, false, false, false, false, false, false, false, false] rfl rfl (any_of HT_.out (by kernel_rfl)) (fun _ _ _ h => h) (Or.inr ⟨by rfl, rfl⟩) ?_ ?_
    rotate_left
    ·simp only [Act.put, List.setIfInBounds_toArray, List.set_cons_zero, List.set_cons_succ, i64_w, i32_w]
     rfl
    refine pure_ (i := 6) (N := some 9) (v := undef) (a' := ?_) #[true, true, true, true, true, true, true, false, false, false, false, false, false, false, false, false, false] rfl rfl (any_of HT_.out (by kernel_rfl)) (fun _ _ _ h => h) (Or.inr ⟨by rfl, rfl⟩) ?_ ?_
    rotate_left
    ·simp only [Act.put, List.setIfInBounds_toArray, List.set_cons_zero, List.set_cons_succ, i64_w, i32_w]
     rfl
    refine pure_ (i := 7) (N := some 10) (v := ?_) (a' := ?_) #[true, true, true, true, true, true, true, true, false, false, false, false, false, false, false, false, false] rfl rfl (any_of HT_.out (by kernel_rfl)) (fun _ _ _ h => h) (Or.inl ⟨by rfl, ?_⟩) ?_ ?_
    rotate_left
    ·intro w'
     go_simp
     first | with_reducible rfl | (rw [if_neg (by omega)]; done)
    rotate_left
    ·simp only [Act.put, List.setIfInBounds_toArray, List.set_cons_zero, List.set_cons_succ, i64_w, i32_w]
     rfl
    refine pure_ (i := 8) (N := some 11) (v := ?_) (a' := ?_) #[true, true, true, true, true, true, true, true, true, false, false, false, false, false, false, false, false] rfl rfl (any_of HT_.out (by kernel_rfl)) (fun _ _ _ h => h) (Or.inl ⟨by rfl, ?_⟩) ?_ ?_
    rotate_left
    ·intro w'
     go_simp
     first | with_reducible rfl | (rw [if_neg (by omega)]; done)
    rotate_left
    ·simp only [Act.put, List.setIfInBounds_toArray, List.set_cons_zero, List.set_cons_succ, i64_w, i32_w]
     rfl
    refine pure_ (i := 9) (N := some 12) (v := undef) (a' := ?_) #[true, true, true, true, true, true, true, true, true, true, false, false, false, false, false, false, false] rfl rfl (any_of HT_.out (by kernel_rfl)) (fun _ _ _ h => h) (Or.inr ⟨by rfl, rfl⟩) ?_ ?_
    rotate_left
    ·simp only [Act.put, List.setIfInBounds_toArray, List.set_cons_zero, List.set_cons_succ, i64_w, i32_w]
     rfl
    refine pure_ (i := 10) (N := some 13) (v := undef) (a' := ?_) #[true, true, true, true, true, true, true, true, true, true, true, false, false, false, false, false, false] rfl rfl (any_of HT_.out (by kernel_rfl)) (fun _ _ _ h => h) (Or.inr ⟨by rfl, rfl⟩) ?_ ?_
    rotate_left
    ·simp only [Act.put, List.setIfInBounds_toArray, List.set_cons_zero, List.set_cons_succ, i64_w, i32_w]
     rfl
    refine pure_ (i := 11) (N := some 14) (v := undef) (a' := ?_) #[true, true, true, true, true, true, true, true, true, true, true, true, false, false, false, false, false] rfl rfl (any_of HT_.out (by kernel_rfl)) (fun _ _ _ h => h) (Or.inr ⟨by rfl, rfl⟩) ?_ ?_
    rotate_left
    ·simp only [Act.put, List.setIfInBounds_toArray, List.set_cons_zero, List.set_cons_succ, i64_w, i32_w]
     rfl
    refine pure_ (i := 12) (N := some 15) (v := undef) (a' := ?_) #[true, true, true, true, true, true, true, true, true, true, true, true, true, false, false, false, false] rfl rfl (any_of HT_.out (by kernel_rfl)) (fun _ _ _ h => h) (Or.inr ⟨by rfl, rfl⟩) ?_ ?_
    rotate_left
    ·simp only [Act.put, List.setIfInBounds_toArray, List.set_cons_zero, List.set_cons_succ, i64_w, i32_w]
     rfl
    refine pure_ (i := 13) (N := some 16) (v := undef) (a' := ?_) #[true, true, true, true, true, true, true, true, true, true, true, true, true, true, false, false, false] rfl rfl (any_of HT_.out (by kernel_rfl)) (fun _ _ _ h => h) (Or.inr ⟨by rfl, rfl⟩) ?_ ?_
    rotate_left
    ·simp only [Act.put, List.setIfInBounds_toArray, List.set_cons_zero, List.set_cons_succ, i64_w, i32_w]
     rfl
    refine pure_ (i := 14) (N := some 17) (v := undef) (a' := ?_) #[true, true, true, true, true, true, true, true, true, true, true, true, true, true, true, false, false] rfl rfl (any_of HT_.out (by kernel_rfl)) (fun _ _ _ h => h) (Or.inr ⟨by rfl, rfl⟩) ?_ ?_
    rotate_left
    ·simp only [Act.put, List.setIfInBounds_toArray, List.set_cons_zero, List.set_cons_succ, i64_w, i32_w]
     rfl
    refine pure_ (i := 15) (N := some 18) (v := undef) (a' := ?_) #[true, true, true, true, true, true, true, true, true, true, true, true, true, true, true, true, false] rfl rfl (any_of HT_.out (by kernel_rfl)) (fun _ _ _ h => h) (Or.inr ⟨by rfl, rfl⟩) ?_ ?_
    rotate_left
    ·simp only [Act.put, List.setIfInBounds_toArray, List.set_cons_zero, List.set_cons_succ, i64_w, i32_w]
     rfl
    refine pure_ (i := 16) (N := some 19) (v := ?_) (a' := ?_) #[true, true, true, true, true, true, true, true, true, true, true, true, true, true, true, true, true] rfl rfl (any_of HT_.out (by kernel_rfl)) (fun _ _ _ h => h) (Or.inl ⟨by rfl, ?_⟩) ?_ ?_
    rotate_left
    ·intro w'
     go_simp
     first | with_reducible rfl | (rw [if_neg (by omega)]; done)
    rotate_left
    ·simp only [Act.put, List.setIfInBounds_toArray, List.set_cons_zero, List.set_cons_succ, i64_w, i32_w]
     rfl
    refine done_ (done_of HT_.out (by kernel_rfl)) ?_
    have hnb6 := NB52001_52002.out
    have hnc6 := NB52002_52001.out
    have hcz7_0 : w5.cell? ⟨gb52001, 0, none⟩ = some (.string x52002000_1) := (blk_cell BK52001.out 0).trans rfl
    have hcz7_1 : w5.cell? ⟨gb52001, 1, none⟩ = some (.string x52002001_1) := (blk_cell BK52001.out 1).trans rfl
    have hfz7_0 := blk_frozen BK52001.out 0
    have hfz7_1 := blk_frozen BK52001.out 1
    have hcz8_0 : w5.cell? ⟨gb52002, 0, none⟩ = some (.string (⟨#[]⟩ : ByteArray)) := (blk_cell BK52002.out 0).trans rfl
    have hcz8_1 : w5.cell? ⟨gb52002, 1, none⟩ = some (.string (⟨#[]⟩ : ByteArray)) := (blk_cell BK52002.out 1).trans rfl
    have hfz8_0 := blk_frozen BK52002.out 0
    have hfz8_1 := blk_frozen BK52002.out 1
    try go_wp2
    refine bodyPost_ret (results_cell_row rfl _ _ gb52002 33 #[.string x52002000_1, .string x52002001_1] (0, 0) _ rfl (by (with_reducible repeat (first | refine blk_drewN ?_ _ | refine blk_drew ?_ | refine blk_alloc ?_ _)); refine blk_put (cs := #[.string x52002000_1, .string (⟨#[]⟩ : ByteArray)]) ?_ 1 _ rfl; (with_reducible repeat (first | refine blk_drewN ?_ _ | refine blk_drew ?_ | refine blk_alloc ?_ _)); refine blk_put (cs := #[.string (⟨#[]⟩ : ByteArray), .string (⟨#[]⟩ : ByteArray)]) ?_ 0 _ rfl; (with_reducible repeat (first | refine blk_drewN ?_ _ | refine blk_drew ?_ | refine blk_alloc ?_ _)); exact BK52002.out) Try.underlying33 rfl (by kernel_rfl)) rfl ?_
    exact ⟨by first | rfl | (simp [errW_none, errW_some] <;> rfl) | (simp [*, errW_none, errW_some] <;> rfl), by repeat (first | (with_reducible first | exact HB.out | apply below_alloc | apply pw_below_drewN | apply below_drew1 | refine below_set ?_ GE52001.out | refine below_set ?_ GE52002.out) | exact HB.out)⟩
   ·rw [if_neg c4] at H
    have c4b0 : (x52002000_1.toList == ([] : List UInt8)) = false := beq_eq_false_iff_ne.mpr c4
    have c4b1 : (x52002000_1.toList != ([] : List UInt8)) = true := bne_iff_ne.mpr c4
    by_cases c9 : x52002001_1.toList = ([] : List UInt8)
    ·rw [if_pos c9] at H
     have c9b0 : (x52002001_1.toList == ([] : List UInt8)) = true := beq_iff_eq.mpr c9
     have c9b1 : (x52002001_1.toList != ([] : List UInt8)) = false := bne_eq_false_iff_eq.mpr c9
     clear c9
     simp only [Option.some.injEq, Prod.mk.injEq] at H
     obtain ⟨rfl, rfl⟩ := H
     try go_wp2
     have n0_ := Aside0.mk (blk_drew BK52001.out)
     have n1_ := Aside0.mk (blk_drew BK52002.out)
     have n2_ := Aside0.mk (below_drew1 HB.out)
     clear BK52001
     clear BK52002
     clear HB
     have BK52001 := n0_
     have BK52002 := n1_
     have HB := n2_
     clear n0_ n1_ n2_
     refine start_ (n := 17) (S := fun w' => w'.cell? ⟨gb52001, 0, none⟩ = some (.string x52002000_1) ∧ w'.cell? ⟨gb52001, 1, none⟩ = some (.string x52002001_1)) (ds := []) #[false, false, false, false, false, false, false, false, false, false, false, false, false, false, false, false, false] (by kernel_rfl) rfl rfl ⟨(blk_cell BK52001.out 0).trans rfl, (blk_cell BK52001.out 1).trans rfl⟩ (fun hHeld => ?_); refine with_tabW impl_StripEquation.tab1 impl_StripEquation.bits1 (fun HT_ HW_ => ?_)
     generalize wr.drew = w10 at BK52001 BK52002 HB hHeld ⊢
     refine pure_ (i := 0) (N := some 3) (v := ?_) (a' := ?_) #[true, false, false, false, false, false, false, false, false, false, false, false, false, false, false, false, false] rfl rfl (any_of HT_.out (by kernel_rfl)) (fun _ _ _ h => h) (Or.inl ⟨by rfl, ?_⟩) ?_ ?_
     rotate_left
     ·intro w'
      go_simp
      first | with_reducible rfl | (rw [if_neg (by omega)]; done)
     rotate_left
     ·simp only [Act.put, List.setIfInBounds_toArray, List.set_cons_zero, List.set_cons_succ, i64_w, i32_w]
      rfl
     refine take_ (i := 1) (N := some 4) (v := ?_) (a' := ?_) #[true, true, false, false, false, false, false, false, false, false, false, false, false, false, false, false, false] rfl rfl (take_ofW HT_.out HW_.out (by kernel_rfl)) (fun _ _ _ h => h) (Or.inl ⟨by rfl, ?_⟩) hHeld ?_ ?_
     rotate_left
     ·rintro w' ⟨s0, s1⟩
      go_simp
      first | with_reducible rfl | (rw [if_neg (by omega)]; done)
     rotate_left
     ·simp only [Act.put, List.setIfInBounds_toArray, List.set_cons_zero, List.set_cons_succ, i64_w, i32_w]
      rfl
     refine pure_ (i := 2) (N := some 5) (v := ?_) (a' := ?_) #[true, true, true, false, false, false, false, false, false, false, false, false, false, false, false, false, false] rfl rfl (any_of HT_.out (by kernel_rfl)) (fun _ _ _ h => h) (Or.inl ⟨by rfl, ?_⟩) ?_ ?_
     rotate_left
     ·intro w'
      go_simp
      first | with_reducible rfl | (rw [if_neg (by omega)]; done)
     rotate_left
     ·simp only [Act.put, List.setIfInBounds_toArray, List.set_cons_zero, List.set_cons_succ, i64_w, i32_w]
      rfl
     refine pure_ (i := 3) (N := some 6) (v := ?_) (a' := ?_) #[true, true, true, true, false, false, false, false, false, false, false, false, false, false, false, false, false] rfl rfl (any_of HT_.out (by kernel_rfl)) (fun _ _ _ h => h) (Or.inl ⟨by rfl, ?_⟩) ?_ ?_
     rotate_left
     ·intro w'
      go_simp
      first | with_reducible rfl | (rw [if_neg (by omega)]; done)
     rotate_left
     ·simp only [Act.put, List.setIfInBounds_toArray, List.set_cons_zero, List.set_cons_succ, i64_w, i32_w]
      rfl
     refine pure_ (i := 4) (N := some 7) (v := ?_) (a' := ?_) #[true, true, true, true, true, false, false, false, false, false, false, false, false, false, false, false, false] rfl rfl (any_of HT_.out (by kernel_rfl)) (fun _ _ _ h => h) (Or.inl ⟨by rfl, ?_⟩) ?_ ?_
     rotate_left
     ·intro w'
      go_simp
      first | with_reducible rfl | (rw [if_neg (by omega)]; done)
     rotate_left
     ·simp only [Act.put, List.setIfInBounds_toArray, List.set_cons_zero, List.set_cons_succ, i64_w, i32_w]
      rfl
     refine take_ (i := 5) (N := some 8) (v := ?_) (a' := ?_) #[true, true, true, true, true, true, false, false, false, false, false, false, false, false, false, false, false] rfl rfl (take_ofW HT_.out HW_.out (by kernel_rfl)) (fun _ _ _ h => h) (Or.inl ⟨by rfl, ?_⟩) hHeld ?_ ?_
     rotate_left
     ·rintro w' ⟨s0, s1⟩
      go_simp
      first | with_reducible rfl | (rw [if_neg (by omega)]; done)
     rotate_left
     ·simp only [Act.put, List.setIfInBounds_toArray, List.set_cons_zero, List.set_cons_succ, i64_w, i32_w]
      rfl
     refine pure_ (i := 6) (N := some 9) (v := ?_) (a' := ?_) #[true, true, true, true, true, true, true, false, false, false, false, false, false, false, false, false, false] rfl rfl (any_of HT_.out (by kernel_rfl)) (fun _ _ _ h => h) (Or.inl ⟨by rfl, ?_⟩) ?_ ?_
     rotate_left
     ·intro w'
      go_simp
      first | with_reducible rfl | (rw [if_neg (by omega)]; done)
     rotate_left
     ·simp only [Act.put, List.setIfInBounds_toArray, List.set_cons_zero, List.set_cons_succ, i64_w, i32_w]
      rfl
     refine pure_ (i := 7) (N := some 10) (v := ?_) (a' := ?_) #[true, true, true, true, true, true, true, true, false, false, false, false, false, false, false, false, false] rfl rfl (any_of HT_.out (by kernel_rfl)) (fun _ _ _ h => h) (Or.inl ⟨by rfl, ?_⟩) ?_ ?_
     rotate_left
     ·intro w'
      go_simp
      first | with_reducible rfl | (rw [if_neg (by omega)]; done)
     rotate_left
     ·simp only [Act.put, List.setIfInBounds_toArray, List.set_cons_zero, List.set_cons_succ, i64_w, i32_w]
      rfl
     refine pure_ (i := 8) (N := some 11) (v := ?_) (a' := ?_) #[true, true, true, true, true, true, true, true, true, false, false, false, false, false, false, false, false] rfl rfl (any_of HT_.out (by kernel_rfl)) (fun _ _ _ h => h) (Or.inl ⟨by rfl, ?_⟩) ?_ ?_
     rotate_left
     ·intro w'
      go_simp
      first | with_reducible rfl | (rw [if_neg (by omega)]; done)
     rotate_left
     ·simp only [Act.put, List.setIfInBounds_toArray, List.set_cons_zero, List.set_cons_succ, i64_w, i32_w]
      rfl
     refine pure_ (i := 9) (N := some 12) (v := undef) (a' := ?_) #[true, true, true, true, true, true, true, true, true, true, false, false, false, false, false, false, false] rfl rfl (any_of HT_.out (by kernel_rfl)) (fun _ _ _ h => h) (Or.inr ⟨by rfl, rfl⟩) ?_ ?_
     rotate_left
     ·simp only [Act.put, List.setIfInBounds_toArray, List.set_cons_zero, List.set_cons_succ, i64_w, i32_w]
      rfl
     refine pure_ (i := 10) (N := some 13) (v := undef) (a' := ?_) #[true, true, true, true, true, true, true, true, true, true, true, false, false, false, false, false, false] rfl rfl (any_of HT_.out (by kernel_rfl)) (fun _ _ _ h => h) (Or.inr ⟨by rfl, rfl⟩) ?_ ?_
     rotate_left
     ·simp only [Act.put, List.setIfInBounds_toArray, List.set_cons_zero, List.set_cons_succ, i64_w, i32_w]
      rfl
     refine pure_ (i := 11) (N := some 14) (v := undef) (a' := ?_) #[true, true, true, true, true, true, true, true, true, true, true, true, false, false, false, false, false] rfl rfl (any_of HT_.out (by kernel_rfl)) (fun _ _ _ h => h) (Or.inr ⟨by rfl, rfl⟩) ?_ ?_
     rotate_left
     ·simp only [Act.put, List.setIfInBounds_toArray, List.set_cons_zero, List.set_cons_succ, i64_w, i32_w]
      rfl
     refine pure_ (i := 12) (N := some 15) (v := undef) (a' := ?_) #[true, true, true, true, true, true, true, true, true, true, true, true, true, false, false, false, false] rfl rfl (any_of HT_.out (by kernel_rfl)) (fun _ _ _ h => h) (Or.inr ⟨by rfl, rfl⟩) ?_ ?_
     rotate_left
     ·simp only [Act.put, List.setIfInBounds_toArray, List.set_cons_zero, List.set_cons_succ, i64_w, i32_w]
      rfl
     refine pure_ (i := 13) (N := some 16) (v := undef) (a' := ?_) #[true, true, true, true, true, true, true, true, true, true, true, true, true, true, false, false, false] rfl rfl (any_of HT_.out (by kernel_rfl)) (fun _ _ _ h => h) (Or.inr ⟨by rfl, rfl⟩) ?_ ?_
     rotate_left
     ·simp only [Act.put, List.setIfInBounds_toArray, List.set_cons_zero, List.set_cons_succ, i64_w, i32_w]
      rfl
     refine pure_ (i := 14) (N := some 17) (v := undef) (a' := ?_) #[true, true, true, true, true, true, true, true, true, true, true, true, true, true, true, false, false] rfl rfl (any_of HT_.out (by kernel_rfl)) (fun _ _ _ h => h) (Or.inr ⟨by rfl, rfl⟩) ?_ ?_
     rotate_left
     ·simp only [Act.put, List.setIfInBounds_toArray, List.set_cons_zero, List.set_cons_succ, i64_w, i32_w]
      rfl
     refine pure_ (i := 15) (N := some 18) (v := undef) (a' := ?_) #[true, true, true, true, true, true, true, true, true, true, true, true, true, true, true, true, false] rfl rfl (any_of HT_.out (by kernel_rfl)) (fun _ _ _ h => h) (Or.inr ⟨by rfl, rfl⟩) ?_ ?_
     rotate_left
     ·simp only [Act.put, List.setIfInBounds_toArray, List.set_cons_zero, List.set_cons_succ, i64_w, i32_w]
      rfl
     refine pure_ (i := 16) (N := some 19) (v := ?_) (a' := ?_) #[true, true, true, true, true, true, true, true, true, true, true, true, true, true, true, true, true] rfl rfl (any_of HT_.out (by kernel_rfl)) (fun _ _ _ h => h) (Or.inl ⟨by rfl, ?_⟩) ?_ ?_
     rotate_left
     ·intro w'
      go_simp
      first | with_reducible rfl | (rw [if_neg (by omega)]; done)
     rotate_left
     ·simp only [Act.put, List.setIfInBounds_toArray, List.set_cons_zero, List.set_cons_succ, i64_w, i32_w]
      rfl
     refine done_ (done_of HT_.out (by kernel_rfl)) ?_
     have hnb11 := NB52001_52002.out
     have hnc11 := NB52002_52001.out
     have hcz12_0 : w10.cell? ⟨gb52001, 0, none⟩ = some (.string x52002000_1) := (blk_cell BK52001.out 0).trans rfl
     have hcz12_1 : w10.cell? ⟨gb52001, 1, none⟩ = some (.string x52002001_1) := (blk_cell BK52001.out 1).trans rfl
     have hfz12_0 := blk_frozen BK52001.out 0
     have hfz12_1 := blk_frozen BK52001.out 1
     have hcz13_0 : w10.cell? ⟨gb52002, 0, none⟩ = some (.string (⟨#[]⟩ : ByteArray)) := (blk_cell BK52002.out 0).trans rfl
     have hcz13_1 : w10.cell? ⟨gb52002, 1, none⟩ = some (.string (⟨#[]⟩ : ByteArray)) := (blk_cell BK52002.out 1).trans rfl
     have hfz13_0 := blk_frozen BK52002.out 0
     have hfz13_1 := blk_frozen BK52002.out 1
     try go_wp2
     refine bodyPost_ret (results_cell_row rfl _ _ gb52002 33 #[.string x52002000_1, .string x52002001_1] (0, 0) _ rfl (by (with_reducible repeat (first | refine blk_drewN ?_ _ | refine blk_drew ?_ | refine blk_alloc ?_ _)); refine blk_put (cs := #[.string x52002000_1, .string (⟨#[]⟩ : ByteArray)]) ?_ 1 _ rfl; (with_reducible repeat (first | refine blk_drewN ?_ _ | refine blk_drew ?_ | refine blk_alloc ?_ _)); refine blk_put (cs := #[.string (⟨#[]⟩ : ByteArray), .string (⟨#[]⟩ : ByteArray)]) ?_ 0 _ rfl; (with_reducible repeat (first | refine blk_drewN ?_ _ | refine blk_drew ?_ | refine blk_alloc ?_ _)); exact BK52002.out) Try.underlying33 rfl (by kernel_rfl)) rfl ?_
     exact ⟨by first | rfl | (simp [errW_none, errW_some] <;> rfl) | (simp [*, errW_none, errW_some] <;> rfl), by repeat (first | (with_reducible first | exact HB.out | apply below_alloc | apply pw_below_drewN | apply below_drew1 | refine below_set ?_ GE52001.out | refine below_set ?_ GE52002.out) | exact HB.out)⟩
    ·rw [if_neg c9] at H
     have c9b0 : (x52002001_1.toList == ([] : List UInt8)) = false := beq_eq_false_iff_ne.mpr c9
     have c9b1 : (x52002001_1.toList != ([] : List UInt8)) = true := bne_iff_ne.mpr c9
     by_cases c14 : 0 < (x52002000_1.size : Int)
     ·rw [if_pos c14] at H
      have c14b0 : decide (0 < (x52002000_1.size : Int)) = true := decide_eq_true c14
      have c14b1 : decide (0 < x52002000_1.size) = true := decide_eq_true (by omega)
      clear c14
      by_cases c16 : 0 < (x52002001_1.size : Int)
      ·rw [if_pos c16] at H
       have c16b0 : decide (0 < (x52002001_1.size : Int)) = true := decide_eq_true c16
       have c16b1 : decide (0 < x52002001_1.size) = true := decide_eq_true (by omega)
       clear c16
       by_cases c18 : (bt x52002000_1 0) = (bt x52002001_1 0)
       ·rw [if_pos c18] at H
        have c18b0 : ((bt x52002000_1 0) == (bt x52002001_1 0)) = true := beq_iff_eq.mpr c18
        have c18b1 : ((bt x52002000_1 0) != (bt x52002001_1 0)) = false := bne_eq_false_iff_eq.mpr c18
        clear c18
        by_cases c19 : 1 ≤ (x52002000_1.size : Int)
        ·rw [if_pos c19] at H
         have c19b0 := eq_true c19
         have c19b1 : decide (1 ≤ (x52002000_1.size : Int)) = true := decide_eq_true c19
         clear c19
         by_cases c20 : 1 ≤ (x52002001_1.size : Int)
         ·rw [if_pos c20] at H
          have c20b0 := eq_true c20
          have c20b1 : decide (1 ≤ (x52002001_1.size : Int)) = true := decide_eq_true c20
          clear c20
          have H' := Aside0.mk H
          clear H
          try go_wp2
          have n0_ := Aside0.mk (blk_drew BK52001.out)
          have n1_ := Aside0.mk (blk_drew BK52002.out)
          have n2_ := Aside0.mk (below_drew1 HB.out)
          clear BK52001
          clear BK52002
          clear HB
          have BK52001 := n0_
          have BK52002 := n1_
          have HB := n2_
          clear n0_ n1_ n2_
          have p15 : 0 ≤ (0 : Int) := (by omega)
          have q15 : 0 < x52002000_1.size := (by have : (0 : Int) < (x52002000_1.size : Int) := of_decide_eq_true (by first | (with_reducible assumption) | assumption); omega)
          have hx15 : ∀ h : 0 < x52002000_1.size, ((x52002000_1[0]'h).toNat : Int) = bt x52002000_1 0 := bt_at x52002000_1 0
          clear p15
          have qi15 : (0 < (x52002000_1.size : Int)) = True := eq_true (of_decide_eq_true (by first | (with_reducible assumption) | assumption))
          replace q15 := eq_true q15
          have p17 : 0 ≤ (0 : Int) := (by omega)
          have q17 : 0 < x52002001_1.size := (by have : (0 : Int) < (x52002001_1.size : Int) := of_decide_eq_true (by first | (with_reducible assumption) | assumption); omega)
          have hx17 : ∀ h : 0 < x52002001_1.size, ((x52002001_1[0]'h).toNat : Int) = bt x52002001_1 0 := bt_at x52002001_1 0
          clear p17
          have qi17 : (0 < (x52002001_1.size : Int)) = True := eq_true (of_decide_eq_true (by first | (with_reducible assumption) | assumption))
          replace q17 := eq_true q17
          refine start_ (n := 17) (S := fun w' => w'.cell? ⟨gb52001, 0, none⟩ = some (.string x52002000_1) ∧ w'.cell? ⟨gb52001, 1, none⟩ = some (.string x52002001_1)) (ds := []) #[false, false, false, false, false, false, false, false, false, false, false, false, false, false, false, false, false] (by kernel_rfl) rfl rfl ⟨(blk_cell BK52001.out 0).trans rfl, (blk_cell BK52001.out 1).trans rfl⟩ (fun hHeld => ?_); refine with_tabW impl_StripEquation.tab1 impl_StripEquation.bits1 (fun HT_ HW_ => ?_)
          generalize wr.drew = w21 at BK52001 BK52002 HB hHeld ⊢
          refine pure_ (i := 0) (N := some 3) (v := ?_) (a' := ?_) #[true, false, false, false, false, false, false, false, false, false, false, false, false, false, false, false, false] rfl rfl (any_of HT_.out (by kernel_rfl)) (fun _ _ _ h => h) (Or.inl ⟨by rfl, ?_⟩) ?_ ?_
          rotate_left
          ·intro w'
           go_simp
           first | with_reducible rfl | (rw [if_neg (by omega)]; done)
          rotate_left
          ·simp only [Act.put, List.setIfInBounds_toArray, List.set_cons_zero, List.set_cons_succ, i64_w, i32_w]
           rfl
          refine take_ (i := 1) (N := some 4) (v := ?_) (a' := ?_) #[true, true, false, false, false, false, false, false, false, false, false, false, false, false, false, false, false] rfl rfl (take_ofW HT_.out HW_.out (by kernel_rfl)) (fun _ _ _ h => h) (Or.inl ⟨by rfl, ?_⟩) hHeld ?_ ?_
          rotate_left
          ·rintro w' ⟨s0, s1⟩
           go_simp
           first | with_reducible rfl | (rw [if_neg (by omega)]; done)
          rotate_left
          ·simp only [Act.put, List.setIfInBounds_toArray, List.set_cons_zero, List.set_cons_succ, i64_w, i32_w]
           rfl
          refine pure_ (i := 2) (N := some 5) (v := ?_) (a' := ?_) #[true, true, true, false, false, false, false, false, false, false, false, false, false, false, false, false, false] rfl rfl (any_of HT_.out (by kernel_rfl)) (fun _ _ _ h => h) (Or.inl ⟨by rfl, ?_⟩) ?_ ?_
          rotate_left
          ·intro w'
           go_simp
           first | with_reducible rfl | (rw [if_neg (by omega)]; done)
          rotate_left
          ·simp only [Act.put, List.setIfInBounds_toArray, List.set_cons_zero, List.set_cons_succ, i64_w, i32_w]
           rfl
          refine pure_ (i := 3) (N := some 6) (v := ?_) (a' := ?_) #[true, true, true, true, false, false, false, false, false, false, false, false, false, false, false, false, false] rfl rfl (any_of HT_.out (by kernel_rfl)) (fun _ _ _ h => h) (Or.inl ⟨by rfl, ?_⟩) ?_ ?_
          rotate_left
          ·intro w'
           go_simp
           first | with_reducible rfl | (rw [if_neg (by omega)]; done)
          rotate_left
          ·simp only [Act.put, List.setIfInBounds_toArray, List.set_cons_zero, List.set_cons_succ, i64_w, i32_w]
           rfl
          refine pure_ (i := 4) (N := some 7) (v := ?_) (a' := ?_) #[true, true, true, true, true, false, false, false, false, false, false, false, false, false, false, false, false] rfl rfl (any_of HT_.out (by kernel_rfl)) (fun _ _ _ h => h) (Or.inl ⟨by rfl, ?_⟩) ?_ ?_
          rotate_left
          ·intro w'
           go_simp
           first | with_reducible rfl | (rw [if_neg (by omega)]; done)
          rotate_left
          ·simp only [Act.put, List.setIfInBounds_toArray, List.set_cons_zero, List.set_cons_succ, i64_w, i32_w]
           rfl
          refine take_ (i := 5) (N := some 8) (v := ?_) (a' := ?_) #[true, true, true, true, true, true, false, false, false, false, false, false, false, false, false, false, false] rfl rfl (take_ofW HT_.out HW_.out (by kernel_rfl)) (fun _ _ _ h => h) (Or.inl ⟨by rfl, ?_⟩) hHeld ?_ ?_
          rotate_left
          ·rintro w' ⟨s0, s1⟩
           go_simp
           first | with_reducible rfl | (rw [if_neg (by omega)]; done)
          rotate_left
          ·simp only [Act.put, List.setIfInBounds_toArray, List.set_cons_zero, List.set_cons_succ, i64_w, i32_w]
           rfl
          refine pure_ (i := 6) (N := some 9) (v := ?_) (a' := ?_) #[true, true, true, true, true, true, true, false, false, false, false, false, false, false, false, false, false] rfl rfl (any_of HT_.out (by kernel_rfl)) (fun _ _ _ h => h) (Or.inl ⟨by rfl, ?_⟩) ?_ ?_
          rotate_left
          ·intro w'
           go_simp
           first | with_reducible rfl | (rw [if_neg (by omega)]; done)
          rotate_left
          ·simp only [Act.put, List.setIfInBounds_toArray, List.set_cons_zero, List.set_cons_succ, i64_w, i32_w]
           rfl
          refine pure_ (i := 7) (N := some 10) (v := ?_) (a' := ?_) #[true, true, true, true, true, true, true, true, false, false, false, false, false, false, false, false, false] rfl rfl (any_of HT_.out (by kernel_rfl)) (fun _ _ _ h => h) (Or.inl ⟨by rfl, ?_⟩) ?_ ?_
          rotate_left
          ·intro w'
           go_simp
           first | with_reducible rfl | (rw [if_neg (by omega)]; done)
          rotate_left
          ·simp only [Act.put, List.setIfInBounds_toArray, List.set_cons_zero, List.set_cons_succ, i64_w, i32_w]
           rfl
          refine pure_ (i := 8) (N := some 11) (v := ?_) (a' := ?_) #[true, true, true, true, true, true, true, true, true, false, false, false, false, false, false, false, false] rfl rfl (any_of HT_.out (by kernel_rfl)) (fun _ _ _ h => h) (Or.inl ⟨by rfl, ?_⟩) ?_ ?_
          rotate_left
          ·intro w'
           go_simp
           first | with_reducible rfl | (rw [if_neg (by omega)]; done)
          rotate_left
          ·simp only [Act.put, List.setIfInBounds_toArray, List.set_cons_zero, List.set_cons_succ, i64_w, i32_w]
           rfl
          refine pure_ (i := 9) (N := some 12) (v := ?_) (a' := ?_) #[true, true, true, true, true, true, true, true, true, true, false, false, false, false, false, false, false] rfl rfl (any_of HT_.out (by kernel_rfl)) (fun _ _ _ h => h) (Or.inl ⟨by rfl, ?_⟩) ?_ ?_
          rotate_left
          ·intro w'
           go_simp
           first | with_reducible rfl | (rw [if_neg (by omega)]; done)
          rotate_left
          ·simp only [Act.put, List.setIfInBounds_toArray, List.set_cons_zero, List.set_cons_succ, i64_w, i32_w]
           rfl
          refine pure_ (i := 12) (N := some 15) (v := ?_) (a' := ?_) #[true, true, true, true, true, true, true, true, true, true, false, false, true, false, false, false, false] rfl rfl (any_of HT_.out (by kernel_rfl)) (fun _ _ _ h => h) (Or.inl ⟨by rfl, ?_⟩) ?_ ?_
          rotate_left
          ·intro w'
           go_simp
           first | with_reducible rfl | (rw [if_neg (by omega)]; done)
          rotate_left
          ·simp only [Act.put, List.setIfInBounds_toArray, List.set_cons_zero, List.set_cons_succ, i64_w, i32_w]
           rfl
          refine take_ (i := 10) (N := some 13) (v := ?_) (a' := ?_) #[true, true, true, true, true, true, true, true, true, true, true, false, true, false, false, false, false] rfl rfl (take_ofW HT_.out HW_.out (by kernel_rfl)) (fun _ _ _ h => h) (Or.inl ⟨by rfl, ?_⟩) hHeld ?_ ?_
          rotate_left
          ·rintro w' ⟨s0, s1⟩
           go_simp
           first | with_reducible rfl | (rw [if_neg (by omega)]; done)
          rotate_left
          ·simp only [Act.put, List.setIfInBounds_toArray, List.set_cons_zero, List.set_cons_succ, i64_w, i32_w]
           rfl
          refine take_ (i := 11) (N := some 14) (v := ?_) (a' := ?_) #[true, true, true, true, true, true, true, true, true, true, true, true, true, false, false, false, false] rfl rfl (take_ofW HT_.out HW_.out (by kernel_rfl)) (fun _ _ _ h => h) (Or.inl ⟨by rfl, ?_⟩) hHeld ?_ ?_
          rotate_left
          ·rintro w' ⟨s0, s1⟩
           go_simp
           first | with_reducible rfl | (rw [if_neg (by omega)]; done)
          rotate_left
          ·simp only [Act.put, List.setIfInBounds_toArray, List.set_cons_zero, List.set_cons_succ, i64_w, i32_w]
           rfl
          refine take_ (i := 13) (N := some 16) (v := ?_) (a' := ?_) #[true, true, true, true, true, true, true, true, true, true, true, true, true, true, false, false, false] rfl rfl (take_ofW HT_.out HW_.out (by kernel_rfl)) (fun _ _ _ h => h) (Or.inl ⟨by rfl, ?_⟩) hHeld ?_ ?_
          rotate_left
          ·rintro w' ⟨s0, s1⟩
           go_simp
           first | with_reducible rfl | (rw [if_neg (by omega)]; done)
          rotate_left
          ·simp only [Act.put, List.setIfInBounds_toArray, List.set_cons_zero, List.set_cons_succ, i64_w, i32_w]
           rfl
          refine take_ (i := 14) (N := some 17) (v := ?_) (a' := ?_) #[true, true, true, true, true, true, true, true, true, true, true, true, true, true, true, false, false] rfl rfl (take_ofW HT_.out HW_.out (by kernel_rfl)) (fun _ _ _ h => h) (Or.inl ⟨by rfl, ?_⟩) hHeld ?_ ?_
          rotate_left
          ·rintro w' ⟨s0, s1⟩
           go_simp
           first | with_reducible rfl | (rw [if_neg (by omega)]; done)
          rotate_left
          ·simp only [Act.put, List.setIfInBounds_toArray, List.set_cons_zero, List.set_cons_succ, i64_w, i32_w]
           rfl
          refine pure_ (i := 15) (N := some 18) (v := ?_) (a' := ?_) #[true, true, true, true, true, true, true, true, true, true, true, true, true, true, true, true, false] rfl rfl (any_of HT_.out (by kernel_rfl)) (fun _ _ _ h => h) (Or.inl ⟨by rfl, ?_⟩) ?_ ?_
          rotate_left
          ·intro w'
           go_simp
           first | with_reducible rfl | (rw [if_neg (by omega)]; done)
          rotate_left
          ·simp only [Act.put, List.setIfInBounds_toArray, List.set_cons_zero, List.set_cons_succ, i64_w, i32_w]
           rfl
          refine pure_ (i := 16) (N := some 19) (v := ?_) (a' := ?_) #[true, true, true, true, true, true, true, true, true, true, true, true, true, true, true, true, true] rfl rfl (any_of HT_.out (by kernel_rfl)) (fun _ _ _ h => h) (Or.inl ⟨by rfl, ?_⟩) ?_ ?_
          rotate_left
          ·intro w'
           go_simp
           first | with_reducible rfl | (rw [if_neg (by omega)]; done)
          rotate_left
          ·simp only [Act.put, List.setIfInBounds_toArray, List.set_cons_zero, List.set_cons_succ, i64_w, i32_w]
           rfl
          refine done_ (done_of HT_.out (by kernel_rfl)) ?_
          try go_wp2
          have n0_ := Aside0.mk (blk_drew BK52001.out)
          have n1_ := Aside0.mk (blk_drew BK52002.out)
          have n2_ := Aside0.mk (below_drew1 HB.out)
          clear BK52001
          clear BK52002
          clear HB
          have BK52001 := n0_
          have BK52002 := n1_
          have HB := n2_
          clear n0_ n1_ n2_
          refine start_ (n := 10) (S := fun w' => w'.cell? ⟨gb52001, 0, none⟩ = some (.string x52002000_1) ∧ w'.cell? ⟨gb52001, 1, none⟩ = some (.string x52002001_1)) (ds := [7, 9]) #[false, false, false, false, false, false, false, false, false, false] (by kernel_rfl) rfl rfl ⟨(blk_cell BK52001.out 0).trans rfl, (blk_cell BK52001.out 1).trans rfl⟩ (fun hHeld => ?_); refine with_tabW impl_StripEquation.tab2 impl_StripEquation.bits2 (fun HT_ HW_ => ?_)
          generalize w21.drew = w22 at BK52001 BK52002 HB hHeld ⊢
          refine pure_ (i := 0) (N := some 20) (v := ?_) (a' := ?_) #[true, false, false, false, false, false, false, false, false, false] rfl rfl (any_of HT_.out (by kernel_rfl)) (fun _ _ _ h => h) (Or.inl ⟨by rfl, ?_⟩) ?_ ?_
          rotate_left
          ·intro w'
           go_simp
           first | with_reducible rfl | (rw [if_neg (by omega)]; done)
          rotate_left
          ·simp only [Act.put, List.setIfInBounds_toArray, List.set_cons_zero, List.set_cons_succ, i64_w, i32_w]
           rfl
          refine pure_ (i := 3) (N := some 23) (v := ?_) (a' := ?_) #[true, false, false, true, false, false, false, false, false, false] rfl rfl (any_of HT_.out (by kernel_rfl)) (fun _ _ _ h => h) (Or.inl ⟨by rfl, ?_⟩) ?_ ?_
          rotate_left
          ·intro w'
           go_simp
           first | with_reducible rfl | (rw [if_neg (by omega)]; done)
          rotate_left
          ·simp only [Act.put, List.setIfInBounds_toArray, List.set_cons_zero, List.set_cons_succ, i64_w, i32_w]
           rfl
          refine take_ (i := 1) (N := some 21) (v := ?_) (a' := ?_) #[true, true, false, true, false, false, false, false, false, false] rfl rfl (take_ofW HT_.out HW_.out (by kernel_rfl)) (fun _ _ _ h => h) (Or.inl ⟨by rfl, ?_⟩) hHeld ?_ ?_
          rotate_left
          ·rintro w' ⟨s0, s1⟩
           go_simp
           first | with_reducible rfl | (rw [if_neg (by omega)]; done)
          rotate_left
          ·simp only [Act.put, List.setIfInBounds_toArray, List.set_cons_zero, List.set_cons_succ, i64_w, i32_w]
           rfl
          refine pure_ (i := 2) (N := some 22) (v := ?_) (a' := ?_) #[true, true, true, true, false, false, false, false, false, false] rfl rfl (any_of HT_.out (by kernel_rfl)) (fun _ _ _ h => h) (Or.inl ⟨by rfl, ?_⟩) ?_ ?_
          rotate_left
          ·intro w'
           go_simp
           first | with_reducible rfl | (rw [if_neg (by omega)]; done)
          rotate_left
          ·simp only [Act.put, List.setIfInBounds_toArray, List.set_cons_zero, List.set_cons_succ, i64_w, i32_w]
           rfl
          refine take_ (i := 4) (N := some 24) (v := ?_) (a' := ?_) #[true, true, true, true, true, false, false, false, false, false] rfl rfl (take_ofW HT_.out HW_.out (by kernel_rfl)) (fun _ _ _ h => h) (Or.inl ⟨by rfl, ?_⟩) hHeld ?_ ?_
          rotate_left
          ·rintro w' ⟨s0, s1⟩
           go_simp
           first | with_reducible rfl | (rw [if_neg (by omega)]; done)
          rotate_left
          ·simp only [Act.put, List.setIfInBounds_toArray, List.set_cons_zero, List.set_cons_succ, i64_w, i32_w]
           rfl
          refine pure_ (i := 5) (N := some 25) (v := ?_) (a' := ?_) #[true, true, true, true, true, true, false, false, false, false] rfl rfl (any_of HT_.out (by kernel_rfl)) (fun _ _ _ h => h) (Or.inl ⟨by rfl, ?_⟩) ?_ ?_
          rotate_left
          ·intro w'
           go_simp
           first | with_reducible rfl | (rw [if_neg (by omega)]; done)
          rotate_left
          ·simp only [Act.put, List.setIfInBounds_toArray, List.set_cons_zero, List.set_cons_succ, i64_w, i32_w]
           rfl
          refine pure_ (i := 6) (N := some 26) (v := ?_) (a' := ?_) #[true, true, true, true, true, true, true, false, false, false] rfl rfl (any_of HT_.out (by kernel_rfl)) (fun _ _ _ h => h) (Or.inl ⟨by rfl, ?_⟩) ?_ ?_
          rotate_left
          ·intro w'
           go_simp
           first | with_reducible rfl | (rw [if_neg (by omega)]; done)
          rotate_left
          ·simp only [Act.put, List.setIfInBounds_toArray, List.set_cons_zero, List.set_cons_succ, i64_w, i32_w]
           rfl
          refine last_ (i := 7) (N := none) #[true, true, true, true, true, true, true, true, false, false] rfl rfl (one_of HT_.out (by kernel_rfl)) (by decide) (fun K hK => ?_)
          have hs23 : w22.cell? ⟨gb52001, 0, none⟩ = some (.string x52002000_1) := (blk_cell BK52001.out 0).trans rfl
          have hfs23 := blk_frozen BK52001.out 0
          have hns23_1 := NB52002_52001.out
          have hms23_1 := NB52001_52002.out
          refine skip_ (w1 := ?_) (by rfl) rfl ?_ ?_
          rotate_left
          ·go_simp
           rfl
          refine hK.out _ _ ?_
          clear hK K
          refine pure_ (i := 8) (N := some 27) (v := ?_) (a' := ?_) #[true, true, true, true, true, true, true, true, true, false] rfl rfl (any_of HT_.out (by kernel_rfl)) (fun _ _ _ h => h) (Or.inl ⟨by rfl, ?_⟩) ?_ ?_
          rotate_left
          ·intro w'
           go_simp
           first | with_reducible rfl | (rw [if_neg (by omega)]; done)
          rotate_left
          ·simp only [Act.put, List.setIfInBounds_toArray, List.set_cons_zero, List.set_cons_succ, i64_w, i32_w]
           rfl
          refine last_ (i := 9) (N := none) #[true, true, true, true, true, true, true, true, true, true] rfl rfl (one_of HT_.out (by kernel_rfl)) (by decide) (fun K hK => ?_)
          have hs24 : w22.cell? ⟨gb52001, 1, none⟩ = some (.string x52002001_1) := (blk_cell BK52001.out 1).trans rfl
          have hfs24 := blk_frozen BK52001.out 1
          have hns24_1 := NB52002_52001.out
          have hms24_1 := NB52001_52002.out
          refine skip_ (w1 := ?_) (by rfl) rfl ?_ ?_
          rotate_left
          ·go_simp
           rfl
          refine hK.out _ _ ?_
          clear hK K
          refine done_ (done_of HT_.out (by kernel_rfl)) ?_
          try go_wp2
          go_roundg k1
          case measure => have := HK1.out; omega
          case rel => exact ⟨(x52002000_1.extract 1 x52002000_1.size), (x52002001_1.extract 1 x52002001_1.size), H', ⟨by have := HK1.out; omega⟩, ⟨by (with_reducible repeat (first | refine blk_drewN ?_ _ | refine blk_drew ?_ | refine blk_alloc ?_ _)); refine blk_put (cs := #[.string (x52002000_1.extract 1 x52002000_1.size), .string x52002001_1]) ?_ 1 _ rfl; (with_reducible repeat (first | refine blk_drewN ?_ _ | refine blk_drew ?_ | refine blk_alloc ?_ _)); refine blk_put (cs := #[.string x52002000_1, .string x52002001_1]) ?_ 0 _ rfl; (with_reducible repeat (first | refine blk_drewN ?_ _ | refine blk_drew ?_ | refine blk_alloc ?_ _)); exact BK52001.out⟩, ⟨by (with_reducible repeat (first | refine blk_drewN ?_ _ | refine blk_drew ?_ | refine blk_alloc ?_ _)); refine blk_far ?_ NB52002_52001.out _; (with_reducible repeat (first | refine blk_drewN ?_ _ | refine blk_drew ?_ | refine blk_alloc ?_ _)); refine blk_far ?_ NB52002_52001.out _; (with_reducible repeat (first | refine blk_drewN ?_ _ | refine blk_drew ?_ | refine blk_alloc ?_ _)); exact BK52002.out⟩, ⟨by repeat (first | (with_reducible first | exact HB.out | apply below_alloc | apply pw_below_drewN | apply below_drew1 | refine below_set ?_ GE52001.out | refine below_set ?_ GE52002.out) | exact HB.out)⟩⟩
         ·rw [if_neg c20] at H
          exact absurd H (by simp)
        ·rw [if_neg c19] at H
         exact absurd H (by simp)
       ·rw [if_neg c18] at H
        have c18b0 : ((bt x52002000_1 0) == (bt x52002001_1 0)) = false := beq_eq_false_iff_ne.mpr c18
        have c18b1 : ((bt x52002000_1 0) != (bt x52002001_1 0)) = true := bne_iff_ne.mpr c18
        simp only [Option.some.injEq, Prod.mk.injEq] at H
        obtain ⟨rfl, rfl⟩ := H
        try go_wp2
        have n0_ := Aside0.mk (blk_drew BK52001.out)
        have n1_ := Aside0.mk (blk_drew BK52002.out)
        have n2_ := Aside0.mk (below_drew1 HB.out)
        clear BK52001
        clear BK52002
        clear HB
        have BK52001 := n0_
        have BK52002 := n1_
        have HB := n2_
        clear n0_ n1_ n2_
        have p15 : 0 ≤ (0 : Int) := (by omega)
        have q15 : 0 < x52002000_1.size := (by have : (0 : Int) < (x52002000_1.size : Int) := of_decide_eq_true (by first | (with_reducible assumption) | assumption); omega)
        have hx15 : ∀ h : 0 < x52002000_1.size, ((x52002000_1[0]'h).toNat : Int) = bt x52002000_1 0 := bt_at x52002000_1 0
        clear p15
        have qi15 : (0 < (x52002000_1.size : Int)) = True := eq_true (of_decide_eq_true (by first | (with_reducible assumption) | assumption))
        replace q15 := eq_true q15
        have p17 : 0 ≤ (0 : Int) := (by omega)
        have q17 : 0 < x52002001_1.size := (by have : (0 : Int) < (x52002001_1.size : Int) := of_decide_eq_true (by first | (with_reducible assumption) | assumption); omega)
        have hx17 : ∀ h : 0 < x52002001_1.size, ((x52002001_1[0]'h).toNat : Int) = bt x52002001_1 0 := bt_at x52002001_1 0
        clear p17
        have qi17 : (0 < (x52002001_1.size : Int)) = True := eq_true (of_decide_eq_true (by first | (with_reducible assumption) | assumption))
        replace q17 := eq_true q17
        refine start_ (n := 17) (S := fun w' => w'.cell? ⟨gb52001, 0, none⟩ = some (.string x52002000_1) ∧ w'.cell? ⟨gb52001, 1, none⟩ = some (.string x52002001_1)) (ds := []) #[false, false, false, false, false, false, false, false, false, false, false, false, false, false, false, false, false] (by kernel_rfl) rfl rfl ⟨(blk_cell BK52001.out 0).trans rfl, (blk_cell BK52001.out 1).trans rfl⟩ (fun hHeld => ?_); refine with_tabW impl_StripEquation.tab1 impl_StripEquation.bits1 (fun HT_ HW_ => ?_)
        generalize wr.drew = w25 at BK52001 BK52002 HB hHeld ⊢
        refine pure_ (i := 0) (N := some 3) (v := ?_) (a' := ?_) #[true, false, false, false, false, false, false, false, false, false, false, false, false, false, false, false, false] rfl rfl (any_of HT_.out (by kernel_rfl)) (fun _ _ _ h => h) (Or.inl ⟨by rfl, ?_⟩) ?_ ?_
        rotate_left
        ·intro w'
         go_simp
         first | with_reducible rfl | (rw [if_neg (by omega)]; done)
        rotate_left
        ·simp only [Act.put, List.setIfInBounds_toArray, List.set_cons_zero, List.set_cons_succ, i64_w, i32_w]
         rfl
        refine take_ (i := 1) (N := some 4) (v := ?_) (a' := ?_) #[true, true, false, false, false, false, false, false, false, false, false, false, false, false, false, false, false] rfl rfl (take_ofW HT_.out HW_.out (by kernel_rfl)) (fun _ _ _ h => h) (Or.inl ⟨by rfl, ?_⟩) hHeld ?_ ?_
        rotate_left
        ·rintro w' ⟨s0, s1⟩
         go_simp
         first | with_reducible rfl | (rw [if_neg (by omega)]; done)
        rotate_left
        ·simp only [Act.put, List.setIfInBounds_toArray, List.set_cons_zero, List.set_cons_succ, i64_w, i32_w]
         rfl
        refine pure_ (i := 2) (N := some 5) (v := ?_) (a' := ?_) #[true, true, true, false, false, false, false, false, false, false, false, false, false, false, false, false, false] rfl rfl (any_of HT_.out (by kernel_rfl)) (fun _ _ _ h => h) (Or.inl ⟨by rfl, ?_⟩) ?_ ?_
        rotate_left
        ·intro w'
         go_simp
         first | with_reducible rfl | (rw [if_neg (by omega)]; done)
        rotate_left
        ·simp only [Act.put, List.setIfInBounds_toArray, List.set_cons_zero, List.set_cons_succ, i64_w, i32_w]
         rfl
        refine pure_ (i := 3) (N := some 6) (v := ?_) (a' := ?_) #[true, true, true, true, false, false, false, false, false, false, false, false, false, false, false, false, false] rfl rfl (any_of HT_.out (by kernel_rfl)) (fun _ _ _ h => h) (Or.inl ⟨by rfl, ?_⟩) ?_ ?_
        rotate_left
        ·intro w'
         go_simp
         first | with_reducible rfl | (rw [if_neg (by omega)]; done)
        rotate_left
        ·simp only [Act.put, List.setIfInBounds_toArray, List.set_cons_zero, List.set_cons_succ, i64_w, i32_w]
         rfl
        refine pure_ (i := 4) (N := some 7) (v := ?_) (a' := ?_) #[true, true, true, true, true, false, false, false, false, false, false, false, false, false, false, false, false] rfl rfl (any_of HT_.out (by kernel_rfl)) (fun _ _ _ h => h) (Or.inl ⟨by rfl, ?_⟩) ?_ ?_
        rotate_left
        ·intro w'
         go_simp
         first | with_reducible rfl | (rw [if_neg (by omega)]; done)
        rotate_left
        ·simp only [Act.put, List.setIfInBounds_toArray, List.set_cons_zero, List.set_cons_succ, i64_w, i32_w]
         rfl
        refine take_ (i := 5) (N := some 8) (v := ?_) (a' := ?_) #[true, true, true, true, true, true, false, false, false, false, false, false, false, false, false, false, false] rfl rfl (take_ofW HT_.out HW_.out (by kernel_rfl)) (fun _ _ _ h => h) (Or.inl ⟨by rfl, ?_⟩) hHeld ?_ ?_
        rotate_left
        ·rintro w' ⟨s0, s1⟩
         go_simp
         first | with_reducible rfl | (rw [if_neg (by omega)]; done)
        rotate_left
        ·simp only [Act.put, List.setIfInBounds_toArray, List.set_cons_zero, List.set_cons_succ, i64_w, i32_w]
         rfl
        refine pure_ (i := 6) (N := some 9) (v := ?_) (a' := ?_) #[true, true, true, true, true, true, true, false, false, false, false, false, false, false, false, false, false] rfl rfl (any_of HT_.out (by kernel_rfl)) (fun _ _ _ h => h) (Or.inl ⟨by rfl, ?_⟩) ?_ ?_
        rotate_left
        ·intro w'
         go_simp
         first | with_reducible rfl | (rw [if_neg (by omega)]; done)
        rotate_left
        ·simp only [Act.put, List.setIfInBounds_toArray, List.set_cons_zero, List.set_cons_succ, i64_w, i32_w]
         rfl
        refine pure_ (i := 7) (N := some 10) (v := ?_) (a' := ?_) #[true, true, true, true, true, true, true, true, false, false, false, false, false, false, false, false, false] rfl rfl (any_of HT_.out (by kernel_rfl)) (fun _ _ _ h => h) (Or.inl ⟨by rfl, ?_⟩) ?_ ?_
        rotate_left
        ·intro w'
         go_simp
         first | with_reducible rfl | (rw [if_neg (by omega)]; done)
        rotate_left
        ·simp only [Act.put, List.setIfInBounds_toArray, List.set_cons_zero, List.set_cons_succ, i64_w, i32_w]
         rfl
        refine pure_ (i := 8) (N := some 11) (v := ?_) (a' := ?_) #[true, true, true, true, true, true, true, true, true, false, false, false, false, false, false, false, false] rfl rfl (any_of HT_.out (by kernel_rfl)) (fun _ _ _ h => h) (Or.inl ⟨by rfl, ?_⟩) ?_ ?_
        rotate_left
        ·intro w'
         go_simp
         first | with_reducible rfl | (rw [if_neg (by omega)]; done)
        rotate_left
        ·simp only [Act.put, List.setIfInBounds_toArray, List.set_cons_zero, List.set_cons_succ, i64_w, i32_w]
         rfl
        refine pure_ (i := 9) (N := some 12) (v := ?_) (a' := ?_) #[true, true, true, true, true, true, true, true, true, true, false, false, false, false, false, false, false] rfl rfl (any_of HT_.out (by kernel_rfl)) (fun _ _ _ h => h) (Or.inl ⟨by rfl, ?_⟩) ?_ ?_
        rotate_left
        ·intro w'
         go_simp
         first | with_reducible rfl | (rw [if_neg (by omega)]; done)
        rotate_left
        ·simp only [Act.put, List.setIfInBounds_toArray, List.set_cons_zero, List.set_cons_succ, i64_w, i32_w]
         rfl
        refine pure_ (i := 12) (N := some 15) (v := ?_) (a' := ?_) #[true, true, true, true, true, true, true, true, true, true, false, false, true, false, false, false, false] rfl rfl (any_of HT_.out (by kernel_rfl)) (fun _ _ _ h => h) (Or.inl ⟨by rfl, ?_⟩) ?_ ?_
        rotate_left
        ·intro w'
         go_simp
         first | with_reducible rfl | (rw [if_neg (by omega)]; done)
        rotate_left
        ·simp only [Act.put, List.setIfInBounds_toArray, List.set_cons_zero, List.set_cons_succ, i64_w, i32_w]
         rfl
        refine take_ (i := 10) (N := some 13) (v := ?_) (a' := ?_) #[true, true, true, true, true, true, true, true, true, true, true, false, true, false, false, false, false] rfl rfl (take_ofW HT_.out HW_.out (by kernel_rfl)) (fun _ _ _ h => h) (Or.inl ⟨by rfl, ?_⟩) hHeld ?_ ?_
        rotate_left
        ·rintro w' ⟨s0, s1⟩
         go_simp
         first | with_reducible rfl | (rw [if_neg (by omega)]; done)
        rotate_left
        ·simp only [Act.put, List.setIfInBounds_toArray, List.set_cons_zero, List.set_cons_succ, i64_w, i32_w]
         rfl
        refine take_ (i := 11) (N := some 14) (v := ?_) (a' := ?_) #[true, true, true, true, true, true, true, true, true, true, true, true, true, false, false, false, false] rfl rfl (take_ofW HT_.out HW_.out (by kernel_rfl)) (fun _ _ _ h => h) (Or.inl ⟨by rfl, ?_⟩) hHeld ?_ ?_
        rotate_left
        ·rintro w' ⟨s0, s1⟩
         go_simp
         first | with_reducible rfl | (rw [if_neg (by omega)]; done)
        rotate_left
        ·simp only [Act.put, List.setIfInBounds_toArray, List.set_cons_zero, List.set_cons_succ, i64_w, i32_w]
         rfl
        refine take_ (i := 13) (N := some 16) (v := ?_) (a' := ?_) #[true, true, true, true, true, true, true, true, true, true, true, true, true, true, false, false, false] rfl rfl (take_ofW HT_.out HW_.out (by kernel_rfl)) (fun _ _ _ h => h) (Or.inl ⟨by rfl, ?_⟩) hHeld ?_ ?_
        rotate_left
        ·rintro w' ⟨s0, s1⟩
         go_simp
         first | with_reducible rfl | (rw [if_neg (by omega)]; done)
        rotate_left
        ·simp only [Act.put, List.setIfInBounds_toArray, List.set_cons_zero, List.set_cons_succ, i64_w, i32_w]
         rfl
        refine take_ (i := 14) (N := some 17) (v := ?_) (a' := ?_) #[true, true, true, true, true, true, true, true, true, true, true, true, true, true, true, false, false] rfl rfl (take_ofW HT_.out HW_.out (by kernel_rfl)) (fun _ _ _ h => h) (Or.inl ⟨by rfl, ?_⟩) hHeld ?_ ?_
        rotate_left
        ·rintro w' ⟨s0, s1⟩
         go_simp
         first | with_reducible rfl | (rw [if_neg (by omega)]; done)
        rotate_left
        ·simp only [Act.put, List.setIfInBounds_toArray, List.set_cons_zero, List.set_cons_succ, i64_w, i32_w]
         rfl
        refine pure_ (i := 15) (N := some 18) (v := ?_) (a' := ?_) #[true, true, true, true, true, true, true, true, true, true, true, true, true, true, true, true, false] rfl rfl (any_of HT_.out (by kernel_rfl)) (fun _ _ _ h => h) (Or.inl ⟨by rfl, ?_⟩) ?_ ?_
        rotate_left
        ·intro w'
         go_simp
         first | with_reducible rfl | (rw [if_neg (by omega)]; done)
        rotate_left
        ·simp only [Act.put, List.setIfInBounds_toArray, List.set_cons_zero, List.set_cons_succ, i64_w, i32_w]
         rfl
        refine pure_ (i := 16) (N := some 19) (v := ?_) (a' := ?_) #[true, true, true, true, true, true, true, true, true, true, true, true, true, true, true, true, true] rfl rfl (any_of HT_.out (by kernel_rfl)) (fun _ _ _ h => h) (Or.inl ⟨by rfl, ?_⟩) ?_ ?_
        rotate_left
        ·intro w'
         go_simp
         first | with_reducible rfl | (rw [if_neg (by omega)]; done)
        rotate_left
        ·simp only [Act.put, List.setIfInBounds_toArray, List.set_cons_zero, List.set_cons_succ, i64_w, i32_w]
         rfl
        refine done_ (done_of HT_.out (by kernel_rfl)) ?_
        have hnb26 := NB52001_52002.out
        have hnc26 := NB52002_52001.out
        have hcz27_0 : w25.cell? ⟨gb52001, 0, none⟩ = some (.string x52002000_1) := (blk_cell BK52001.out 0).trans rfl
        have hcz27_1 : w25.cell? ⟨gb52001, 1, none⟩ = some (.string x52002001_1) := (blk_cell BK52001.out 1).trans rfl
        have hfz27_0 := blk_frozen BK52001.out 0
        have hfz27_1 := blk_frozen BK52001.out 1
        have hcz28_0 : w25.cell? ⟨gb52002, 0, none⟩ = some (.string (⟨#[]⟩ : ByteArray)) := (blk_cell BK52002.out 0).trans rfl
        have hcz28_1 : w25.cell? ⟨gb52002, 1, none⟩ = some (.string (⟨#[]⟩ : ByteArray)) := (blk_cell BK52002.out 1).trans rfl
        have hfz28_0 := blk_frozen BK52002.out 0
        have hfz28_1 := blk_frozen BK52002.out 1
        try go_wp2
        refine bodyPost_ret (results_cell_row rfl _ _ gb52002 33 #[.string x52002000_1, .string x52002001_1] (0, 0) _ rfl (by (with_reducible repeat (first | refine blk_drewN ?_ _ | refine blk_drew ?_ | refine blk_alloc ?_ _)); refine blk_put (cs := #[.string x52002000_1, .string (⟨#[]⟩ : ByteArray)]) ?_ 1 _ rfl; (with_reducible repeat (first | refine blk_drewN ?_ _ | refine blk_drew ?_ | refine blk_alloc ?_ _)); refine blk_put (cs := #[.string (⟨#[]⟩ : ByteArray), .string (⟨#[]⟩ : ByteArray)]) ?_ 0 _ rfl; (with_reducible repeat (first | refine blk_drewN ?_ _ | refine blk_drew ?_ | refine blk_alloc ?_ _)); exact BK52002.out) Try.underlying33 rfl (by kernel_rfl)) rfl ?_
        exact ⟨by first | rfl | (simp [errW_none, errW_some] <;> rfl) | (simp [*, errW_none, errW_some] <;> rfl), by repeat (first | (with_reducible first | exact HB.out | apply below_alloc | apply pw_below_drewN | apply below_drew1 | refine below_set ?_ GE52001.out | refine below_set ?_ GE52002.out) | exact HB.out)⟩
      ·rw [if_neg c16] at H
       exact absurd H (by simp)
     ·rw [if_neg c14] at H
      exact absurd H (by simp)
end Go.Proofs.Ytjmfpaalglbbhaa.A
