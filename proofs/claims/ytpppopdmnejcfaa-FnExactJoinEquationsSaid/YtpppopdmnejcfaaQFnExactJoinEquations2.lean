/- FnExactJoinEquations: what its proof needs, put together by this session's program wip/merge.py out of the texts that wip/xp.py printed and of this session's own. -/
import Derived.Test.YtpppopdmnejcfaaQFnExactJoinEquations1
set_option linter.unusedVariables false
set_option linter.unusedSimpArgs false
set_option maxHeartbeats 8000000
set_option maxRecDepth 100000
namespace Go.Proofs.Ytpppopdmnejcfaa.A
open Go.RowKit Go.Proofs.Ytpppopdmnejcfaa.Ext Go.Proofs.YtpppopdmnejcfaaW.PrintWords Go.Proofs.YtpppopdmnejcfaaW.PrintLast Go.Proofs.YtpppopdmnejcfaaW.PrintMore
attribute [local go_sem] max2_int min2_int max_two min_two max_three min_three max_four min_four
def laws_toConstraintS.l0 : Nat → List (S37) → List (S44) → Int → Option ((List (S44)))
 | 0, _, _, _ => none
 | k + 1, x0, x3, x4 => if x4 < (x0.length : Int) then (if 0 ≤ x4 then ((laws_toConstraint.f k ((rd_T37 x0 x4).f0) ((rd_T37 x0 x4).f1) ((rd_T37 x0 x4).f2) ((rd_T37 x0 x4).f3.f0) ((rd_T37 x0 x4).f3.f1) ((rd_T37 x0 x4).f3.f2) ((rd_T37 x0 x4).f4) ((rd_T37 x0 x4).f5)).bind fun bt82005 => (if x4 < (x3.length : Int) then (laws_toConstraintS.l0 k x0 (x3.set (x4 : Int).toNat (⟨bt82005.1, bt82005.2.1, bt82005.2.2.1, (⟨bt82005.2.2.2.1, bt82005.2.2.2.2.1, bt82005.2.2.2.2.2.1⟩ : S42), bt82005.2.2.2.2.2.2.1, bt82005.2.2.2.2.2.2.2⟩ : S44)) (wrap64 (x4 + 1))) else (none))) else (none)) else (some x3)
def laws_toConstraintS.f (k : Nat) (l0 : List (S37)) : Option ((List (S44))) := if 0 ≤ (l0.length : Int) then (if ((l0.length : Int) : Int).toNat ≤ 2345624805922 then (laws_toConstraintS.l0 k l0 (List.replicate ((l0.length : Int) : Int).toNat z44) 0) else (none)) else (none)
theorem laws_toConstraintS.mono_l : ∀ k, (∀ y0 y1 y2, LeO (laws_toConstraintS.l0 k y0 y1 y2) (laws_toConstraintS.l0 (k + 1) y0 y1 y2))
 | 0 => fun _ _ _ r h => by simp [laws_toConstraintS.l0] at h
 | k + 1 => by
  have ih0 := laws_toConstraintS.mono_l k
  ·intro y0 y1 y2
   unfold laws_toConstraintS.l0
   repeat' first
   | (with_reducible exact ih0 _ _ _)
   | (with_reducible exact laws_toConstraint.mono _ _ _ _ _ _ _ _ _)
   | (with_reducible exact LeO.refl _)
   | (with_reducible exact LeO.none _)
   | (with_reducible refine LeO.ite ?_ ?_)
   | (with_reducible refine LeO.bind ?_ (fun _ => ?_))
theorem laws_toConstraintS.mono : ∀ a0 k, LeO (laws_toConstraintS.f k a0) (laws_toConstraintS.f (k + 1) a0) := by
 intro a0 k
 have ih0 := laws_toConstraintS.mono_l k
 unfold laws_toConstraintS.f
 repeat' first
   | (with_reducible exact ih0 _ _ _)
   | (with_reducible exact laws_toConstraint.mono _ _ _ _ _ _ _ _ _)
   | (with_reducible exact LeO.refl _)
   | (with_reducible exact LeO.none _)
   | (with_reducible refine LeO.ite ?_ ?_)
   | (with_reducible refine LeO.bind ?_ (fun _ => ?_))
theorem laws_toConstraintS.calls (k : Nat) (A0 : Option Addr) (c0 : Nat) (l0 : List (S37)) (r : List (S44)) (w : World) (hr0 : Kd.C k37 w A0 l0.length l0) (hc0 : l0.length ≤ c0) (h : laws_toConstraintS.f k l0 = some r) :
  Calls Try.prog 82 #[.slice A0 l0.length c0] w fun e w' => ∃ v0_ : Value, e = .returned (v0_) ∧ Kd.R k44 44 w' w.heap.size (fun _ => True) v0_ r ∧ Below w.heap.size w w' := by
 have hu37 := Try.underlying37
 have hu44 := Try.underlying44
 have HR0 := Aside0.mk hr0
 have HC0 := Aside0.mk hc0
 clear hr0 hc0
 have HB := Aside0.mk (Below.refl w.heap.size w)
 have H : (if 0 ≤ (l0.length : Int) then (if ((l0.length : Int) : Int).toNat ≤ 2345624805922 then (laws_toConstraintS.l0 k l0 (List.replicate ((l0.length : Int) : Int).toNat z44) 0) else (none)) else (none)) = some r := h
 clear h
 by_cases c2 : 0 ≤ (l0.length : Int)
 ·rw [if_pos c2] at H
  have c2b0 := eq_true c2
  have c2b1 : decide (0 ≤ (l0.length : Int)) = true := decide_eq_true c2
  clear c2
  by_cases c3 : ((l0.length : Int) : Int).toNat ≤ 2345624805922
  ·rw [if_pos c3] at H
   have c3b0 := eq_true c3
   have c3b1 : decide (((l0.length : Int) : Int).toNat ≤ 2345624805922) = true := decide_eq_true c3
   clear c3
   obtain ⟨y82001, hy82001⟩ : ∃ y_ : List (S44), y_ = (List.replicate ((l0.length : Int) : Int).toNat z44) := ⟨_, rfl⟩
   replace H : (laws_toConstraintS.l0 k l0 y82001 0) = some r := by first | (rw [hy82001]; with_reducible exact H) | (have H2_ := (Option.bind_some _ _).symm.trans H; rw [hy82001]; with_reducible exact H2_) | (have H2_ := (Option.bind_some _ _).symm.trans H; with_reducible exact H2_) | with_reducible exact H | (rw [hy82001]; exact H) | exact H
   have Ny82001 := Aside0.mk hy82001
   clear hy82001
   have H' := Aside0.mk H
   clear H
   go_enter Try.func82, Try.ntmps82
   go_wp2_with (first | ((with_reducible refine gate_dst (N := 7) rfl ?_); refine Kd.R_make k44 _ 44 rfl (N := 7) rfl 27 _ _ rfl (l0.length : Int) rfl rfl Try.underlying27 (.agg #[(.int .i64 0), (.string ⟨#[]⟩), (.string ⟨#[]⟩), (.int .i64 0), (.string ⟨#[]⟩), (.slice none 0 0), (.slice none 0 0), (.int .i64 0)]) 120 info44 rfl (by decide) (by omega) z44 (ok := fun _ => True) (okp := fun _ => True) (k44_mkM _ _ _ z44 (Kd.R_nil _ _ _ _ _) (Kd.R_nil _ _ _ _ _)) (fun _ hk => hk) trivial (of_decide_eq_true (by first | (with_reducible assumption) | assumption)) (Nat.le_trans (Nat.mul_le_mul_right _ (of_decide_eq_true (by first | (with_reducible assumption) | assumption) : (l0.length : Int).toNat ≤ 2345624805922)) (by omega)) (Below.refl _ _) (Nat.le_refl _) ?_; intro v82002 w4 ho5 hb hg_ hnew_; clear hg_ hnew_; (first | rw [← Ny82001.out] at ho5 | (simp only [Int.reduceToNat] at ho5; rw [← Ny82001.out] at ho5)); have n0_ := Aside0.mk (Kd.R_lower ho5 (below_size (by repeat (first | (with_reducible first | exact HB.out | apply below_alloc | apply pw_below_drewN | apply below_drew1) | exact HB.out)))); have n1_ := Aside0.mk (below_step (by repeat (first | (with_reducible first | exact HB.out | apply below_alloc | apply pw_below_drewN | apply below_drew1) | exact HB.out)) hb); clear HB; have HO82003 := n0_; have HB := n1_; clear n0_ n1_; clear hb ho5))
   first | go_loopg [4] k (fun kq v4 w' => ∃ (x3_1 : List (S44)) (x4_1 : Int), v4 = .int .i64 x4_1 ∧ Aside0 (laws_toConstraintS.l0 kq l0 x3_1 x4_1 = some r) ∧ Aside0 (kq ≤ k) ∧ Aside0 (Kd.R k44 44 w' w.heap.size (fun _ => True) v82002 x3_1) ∧ Aside0 (Below w.heap.size w w')) | (simp only [Act.put, List.setIfInBounds_toArray, List.set_cons_succ, List.set_cons_zero]; go_loopg [4] k (fun kq v4 w' => ∃ (x3_1 : List (S44)) (x4_1 : Int), v4 = .int .i64 x4_1 ∧ Aside0 (laws_toConstraintS.l0 kq l0 x3_1 x4_1 = some r) ∧ Aside0 (kq ≤ k) ∧ Aside0 (Kd.R k44 44 w' w.heap.size (fun _ => True) v82002 x3_1) ∧ Aside0 (Below w.heap.size w w')))
   case atStart => exact ⟨(y82001), (0), (by first | rfl | (simp; done) | (simp [*]; done)), H', ⟨Nat.le_refl _⟩, ⟨by (with_reducible repeat (first | apply Kd.R_alloc | apply Kd.R_drewN | apply Kd.R_drew)); exact HO82003.out⟩, ⟨by repeat (first | (with_reducible first | exact HB.out | apply below_alloc | apply pw_below_drewN | apply below_drew1) | exact HB.out)⟩⟩
   case round =>
    clear H'
    try clear c2
    try clear c2b0
    try clear c2b1
    try clear p2
    try clear c3
    try clear c3b0
    try clear c3b1
    obtain ⟨x3_1, x4_1, rfl, HA, HK1, HO_3, HB⟩ := hrel
    cases gk with
    | zero => exact absurd HA.out (by simp [laws_toConstraintS.l0])
    | succ k1 =>
     have H := HA.out
     clear HA
     simp only [laws_toConstraintS.l0] at H
     by_cases c6 : x4_1 < (l0.length : Int)
     ·rw [if_pos c6] at H
      have c6b0 : decide (x4_1 < (l0.length : Int)) = true := decide_eq_true c6
      clear c6
      by_cases c7 : 0 ≤ x4_1
      ·rw [if_pos c7] at H
       have c7b0 : decide (0 ≤ x4_1) = true := decide_eq_true c7
       clear c7
       replace H := Option.bind_eq_some_iff.mp H
       obtain ⟨⟨t82005, t82006, t82007, t82008, t82009, t82010, t82013, t82016⟩, A80, H⟩ := H
       replace H : (if x4_1 < (x3_1.length : Int) then (laws_toConstraintS.l0 k1 l0 (x3_1.set (x4_1 : Int).toNat (⟨t82005, t82006, t82007, (⟨t82008, t82009, t82010⟩ : S42), t82013, t82016⟩ : S44)) (wrap64 (x4_1 + 1))) else (none)) = some r := H
       have A8 := Aside0.mk A80
       clear A80
       by_cases c9 : x4_1 < (x3_1.length : Int)
       ·rw [if_pos c9] at H
        have c9b0 : decide (x4_1 < (x3_1.length : Int)) = true := decide_eq_true c9
        clear c9
        obtain ⟨y82017, hy82017⟩ : ∃ y_ : List (S44), y_ = (x3_1.set (x4_1 : Int).toNat (⟨t82005, t82006, t82007, (⟨t82008, t82009, t82010⟩ : S42), t82013, t82016⟩ : S44)) := ⟨_, rfl⟩
        replace H : (laws_toConstraintS.l0 k1 l0 y82017 (wrap64 (x4_1 + 1))) = some r := by first | (rw [hy82017]; with_reducible exact H) | (have H2_ := (Option.bind_some _ _).symm.trans H; rw [hy82017]; with_reducible exact H2_) | (have H2_ := (Option.bind_some _ _).symm.trans H; with_reducible exact H2_) | with_reducible exact H | (rw [hy82017]; exact H) | exact H
        have Ny82017 := Aside0.mk hy82017
        clear hy82017
        have H' := Aside0.mk H
        clear H
        have p82004 : 0 ≤ (x4_1 : Int) := of_decide_eq_true (by first | (with_reducible assumption) | assumption)
        have q82004 : x4_1 < (l0.length : Int) := of_decide_eq_true (by first | (with_reducible assumption) | assumption)
        obtain ⟨ad82004, A82004_5, c82004_5, A82004_6, c82004_6, e82004, hx82004_0, hx82004_1, hx82004_2, hx82004_3, hx82004_4, hx82004_5, hx82004_6, hx82004_7, hl82004_5, hi82004_5, hl82004_6, hi82004_6⟩ := at_T37 HR0.out x4_1 p82004 q82004
        cases e82004
        replace hx82004_0 := (HB.out.cell (World.block_lt_of_cell? w _ hx82004_0)).trans hx82004_0
        replace hx82004_1 := (HB.out.cell (World.block_lt_of_cell? w _ hx82004_1)).trans hx82004_1
        replace hx82004_2 := (HB.out.cell (World.block_lt_of_cell? w _ hx82004_2)).trans hx82004_2
        replace hx82004_3 := (HB.out.cell (World.block_lt_of_cell? w _ hx82004_3)).trans hx82004_3
        replace hx82004_4 := (HB.out.cell (World.block_lt_of_cell? w _ hx82004_4)).trans hx82004_4
        replace hx82004_5 := (HB.out.cell (World.block_lt_of_cell? w _ hx82004_5)).trans hx82004_5
        replace hx82004_6 := (HB.out.cell (World.block_lt_of_cell? w _ hx82004_6)).trans hx82004_6
        replace hx82004_7 := (HB.out.cell (World.block_lt_of_cell? w _ hx82004_7)).trans hx82004_7
        have HR82004_5 := Aside0.mk hi82004_5
        have HC82004_5 := Aside0.mk hl82004_5
        clear hi82004_5 hl82004_5
        have HR82004_6 := Aside0.mk hi82004_6
        have HC82004_6 := Aside0.mk hl82004_6
        clear hi82004_6 hl82004_6
        replace p82004 := eq_true p82004
        replace q82004 := eq_true q82004
        go_wp2_with (first | ((with_reducible refine gate_callee (f := 22) rfl ?_); refine goesL_ (some 20) rfl rfl Try.func22 (by kernel_rfl) rfl #[.agg #[.int .i64 ((rd_T37 l0 x4_1).f0), .string ((rd_T37 l0 x4_1).f1), .string ((rd_T37 l0 x4_1).f2), .int .i64 ((rd_T37 l0 x4_1).f3.f0), .string ((rd_T37 l0 x4_1).f3.f1), .slice A82004_5 ((rd_T37 l0 x4_1).f3.f2).length c82004_5, .slice A82004_6 ((rd_T37 l0 x4_1).f4).length c82004_6, .int .i64 ((rd_T37 l0 x4_1).f5)]] rfl (by (try simp only [List.map_toArray, List.map_cons, List.map_nil]); first | done | rfl | (simp only [List.length_drop, List.length_take]; rfl)) ?_; (with_reducible refine (laws_toConstraint.calls k1 ((rd_T37 l0 x4_1).f0) ((rd_T37 l0 x4_1).f1) ((rd_T37 l0 x4_1).f2) ((rd_T37 l0 x4_1).f3.f0) ((rd_T37 l0 x4_1).f3.f1) _ _ ((rd_T37 l0 x4_1).f3.f2) _ _ ((rd_T37 l0 x4_1).f4) ((rd_T37 l0 x4_1).f5) t82005 t82006 t82007 t82008 t82009 t82010 t82013 t82016 _ ?side1 ?side2 ?side3 ?side4 A8.out).mono ?_); (case side1 => repeat (first | exact (Kd.C_below HR82004_5.out HB.out) | (with_reducible refine Kd.C_alloc ?_ _) | (with_reducible refine Kd.C_drewN ?_ _) | (with_reducible refine Kd.C_drew ?_))); (case side2 => exact HC82004_5.out); (case side3 => repeat (first | exact (Kd.C_below HR82004_6.out HB.out) | (with_reducible refine Kd.C_alloc ?_ _) | (with_reducible refine Kd.C_drewN ?_ _) | (with_reducible refine Kd.C_drew ?_))); (case side4 => exact HC82004_6.out); rintro e w11 ⟨v82011, v82014, rfl, ho0, ho1, hb⟩; refine ⟨_, rfl, ?_⟩; have n0_ := Aside0.mk (Kd.R_mono (Kd.R_told (Kd.R_told (Kd.R_old (by (with_reducible repeat (first | apply Kd.R_alloc | apply Kd.R_drewN | apply Kd.R_drew)); exact HO_3.out) hb) (Kd.R_base ho0)) (Kd.R_base ho1)) (fun _ h_ => h_.1)); have n1_ := Aside0.mk (Kd.R_lower ho0 (below_size (by repeat (first | (with_reducible first | exact HB.out | apply below_alloc | apply pw_below_drewN | apply below_drew1) | exact HB.out)))); have n2_ := Aside0.mk (Kd.R_lower ho1 (below_size (by repeat (first | (with_reducible first | exact HB.out | apply below_alloc | apply pw_below_drewN | apply below_drew1) | exact HB.out)))); have n3_ := Aside0.mk (below_step (by repeat (first | (with_reducible first | exact HB.out | apply below_alloc | apply pw_below_drewN | apply below_drew1) | exact HB.out)) hb); clear HO_3; clear HB; have HO_3 := n0_; have HO82012 := n1_; have HO82015 := n2_; have HB := n3_; clear n0_ n1_ n2_ n3_; (try clear hb); (try clear hb2); (try clear hk); (try clear hi); (try clear ho0); (try clear ho1); have p10 : 0 ≤ (x4_1 : Int) := of_decide_eq_true (by first | (with_reducible assumption) | assumption); have q10 : (x4_1 : Int) < ((x3_1.length : Int) : Int) := of_decide_eq_true (by first | (with_reducible assumption) | assumption); obtain ⟨go10, co10, eo10, gb10, gl10, cl10, HG10⟩ := Kd.R_form HO_3.out (by omega); (first | cases eo10 | (injection eo10 with ea_ en_ ec_; (first | subst ea_ | (injection ea_ with ea_; subst ea_)); subst ec_; clear en_)); have GB10 := Aside0.mk gb10; have GG10 := Aside0.mk HG10; clear gb10 gl10 HG10; obtain ⟨ce10, hcl10, hM10, hcc10, hfr10⟩ := Kd.R_elem HO_3.out z44 (x4_1 : Int) p10 q10; obtain ⟨ve10_5, ve10_6, rfl, ge10_5, ge10_6⟩ := k44_openM hM10; have hx10_0 : w11.cell? ⟨go10, (x4_1 : Int).toNat * 8, none⟩ = some (.int .i64 ((rd_T44 x3_1 x4_1).f0)) := hcc10 0 _ rfl; have hx10_1 : w11.cell? ⟨go10, (x4_1 : Int).toNat * 8 + 1, none⟩ = some (.string ((rd_T44 x3_1 x4_1).f1)) := hcc10 1 _ rfl; have hx10_2 : w11.cell? ⟨go10, (x4_1 : Int).toNat * 8 + 2, none⟩ = some (.string ((rd_T44 x3_1 x4_1).f2)) := hcc10 2 _ rfl; have hx10_3 : w11.cell? ⟨go10, (x4_1 : Int).toNat * 8 + 3, none⟩ = some (.int .i64 ((rd_T44 x3_1 x4_1).f3.f0)) := hcc10 3 _ rfl; have hx10_4 : w11.cell? ⟨go10, (x4_1 : Int).toNat * 8 + 4, none⟩ = some (.string ((rd_T44 x3_1 x4_1).f3.f1)) := hcc10 4 _ rfl; have hx10_5 : w11.cell? ⟨go10, (x4_1 : Int).toNat * 8 + 5, none⟩ = some (ve10_5) := hcc10 5 _ rfl; have hx10_6 : w11.cell? ⟨go10, (x4_1 : Int).toNat * 8 + 6, none⟩ = some (ve10_6) := hcc10 6 _ rfl; have hx10_7 : w11.cell? ⟨go10, (x4_1 : Int).toNat * 8 + 7, none⟩ = some (.int .i64 ((rd_T44 x3_1 x4_1).f5)) := hcc10 7 _ rfl; have hf10_0 : w11.frozen? ⟨go10, (x4_1 : Int).toNat * 8, none⟩ = false := hfr10 0; have hf10_1 : w11.frozen? ⟨go10, (x4_1 : Int).toNat * 8 + 1, none⟩ = false := hfr10 1; have hf10_2 : w11.frozen? ⟨go10, (x4_1 : Int).toNat * 8 + 2, none⟩ = false := hfr10 2; have hf10_3 : w11.frozen? ⟨go10, (x4_1 : Int).toNat * 8 + 3, none⟩ = false := hfr10 3; have hf10_4 : w11.frozen? ⟨go10, (x4_1 : Int).toNat * 8 + 4, none⟩ = false := hfr10 4; have hf10_5 : w11.frozen? ⟨go10, (x4_1 : Int).toNat * 8 + 5, none⟩ = false := hfr10 5; have hf10_6 : w11.frozen? ⟨go10, (x4_1 : Int).toNat * 8 + 6, none⟩ = false := hfr10 6; have hf10_7 : w11.frozen? ⟨go10, (x4_1 : Int).toNat * 8 + 7, none⟩ = false := hfr10 7; clear hcl10 hcc10 hfr10; (try clear hM10); replace p10 := eq_true p10; replace q10 := eq_true q10; have n_ := Aside0.mk (Kd.R_mono (ok' := (fun k_ => some k_ ≠ (v82011 : Value).ownBlock ∧ some k_ ≠ (v82014 : Value).ownBlock)) HO_3.out (fun k_ hk => ⟨hk.1.2, hk.2⟩)); clear HO_3; have HO_3 := n_; clear n_; have HX12 := Aside0.mk (show Kd.R k44 44 w11 w.heap.size (fun _ => True) (.slice (some ⟨go10, 0, none⟩) x3_1.length co10) x3_1 from (by (with_reducible repeat (first | apply Kd.R_alloc | apply Kd.R_drewN | apply Kd.R_drew)); exact Kd.R_mono HO_3.out (fun _ hk => trivial))); obtain ⟨ce12, hcl12, hM12, hcc12, hfr12⟩ := Kd.R_elem HX12.out z44 (x4_1 : Int) (of_decide_eq_true (by first | (with_reducible assumption) | assumption)) (by have h_ : (x4_1 : Int) < ((x3_1.length : Int) : Int) := of_decide_eq_true (by first | (with_reducible assumption) | assumption); first | exact h_ | (have e_ := (Kd.R_reads' HO_3.out).1; omega) | simpa using h_); obtain ⟨ve12_5, ve12_6, rfl, ge12_5, ge12_6⟩ := k44_openM hM12; have HP12 := Kd.R_seg HX12.out (x4_1 : Int) (of_decide_eq_true (by first | (with_reducible assumption) | assumption)) (by have h_ : (x4_1 : Int) < ((x3_1.length : Int) : Int) := of_decide_eq_true (by first | (with_reducible assumption) | assumption); first | exact h_ | (have e_ := (Kd.R_reads' HO_3.out).1; omega) | simpa using h_) (seg := [.int .i64 t82005, .string t82006, .string t82007, .int .i64 t82008, .string t82009, v82011, v82014, .int .i64 t82016]) (j := 0) hcl12 hcc12 (show 8 ≤ 8 from by decide) (x' := (⟨t82005, t82006, t82007, (⟨t82008, t82009, t82010⟩ : S42), t82013, t82016⟩ : S44)) (k44_mkM _ _ _ (⟨t82005, t82006, t82007, (⟨t82008, t82009, t82010⟩ : S42), t82013, t82016⟩ : S44) (Kd.R_mono (Kd.R_apart' (HO82012.out) (Kd.R_typed HO_3.out) (by decide)) (fun k_ hk => ⟨trivial, fun e_ => (hk.2) (by rw [e_]; rfl)⟩)) (Kd.R_mono (Kd.R_apart' (HO82015.out) (Kd.R_typed HO_3.out) (by decide)) (fun k_ hk => ⟨trivial, fun e_ => (hk.2) (by rw [e_]; rfl)⟩))) (fun _ hk => hk); have hx12_0 := hcc12 0 _ rfl; (try simp only [show (k44).sz = 8 from rfl, Nat.mul_one, Nat.add_zero] at hx12_0); have hf12_0 := hfr12 0; (try simp only [show (k44).sz = 8 from rfl, Nat.mul_one, Nat.add_zero] at hf12_0); have hx12_1 := hcc12 1 _ rfl; (try simp only [show (k44).sz = 8 from rfl, Nat.mul_one, Nat.add_zero] at hx12_1); have hf12_1 := hfr12 1; (try simp only [show (k44).sz = 8 from rfl, Nat.mul_one, Nat.add_zero] at hf12_1); have hx12_2 := hcc12 2 _ rfl; (try simp only [show (k44).sz = 8 from rfl, Nat.mul_one, Nat.add_zero] at hx12_2); have hf12_2 := hfr12 2; (try simp only [show (k44).sz = 8 from rfl, Nat.mul_one, Nat.add_zero] at hf12_2); have hx12_3 := hcc12 3 _ rfl; (try simp only [show (k44).sz = 8 from rfl, Nat.mul_one, Nat.add_zero] at hx12_3); have hf12_3 := hfr12 3; (try simp only [show (k44).sz = 8 from rfl, Nat.mul_one, Nat.add_zero] at hf12_3); have hx12_4 := hcc12 4 _ rfl; (try simp only [show (k44).sz = 8 from rfl, Nat.mul_one, Nat.add_zero] at hx12_4); have hf12_4 := hfr12 4; (try simp only [show (k44).sz = 8 from rfl, Nat.mul_one, Nat.add_zero] at hf12_4); have hx12_5 := hcc12 5 _ rfl; (try simp only [show (k44).sz = 8 from rfl, Nat.mul_one, Nat.add_zero] at hx12_5); have hf12_5 := hfr12 5; (try simp only [show (k44).sz = 8 from rfl, Nat.mul_one, Nat.add_zero] at hf12_5); have hx12_6 := hcc12 6 _ rfl; (try simp only [show (k44).sz = 8 from rfl, Nat.mul_one, Nat.add_zero] at hx12_6); have hf12_6 := hfr12 6; (try simp only [show (k44).sz = 8 from rfl, Nat.mul_one, Nat.add_zero] at hf12_6); have hx12_7 := hcc12 7 _ rfl; (try simp only [show (k44).sz = 8 from rfl, Nat.mul_one, Nat.add_zero] at hx12_7); have hf12_7 := hfr12 7; (try simp only [show (k44).sz = 8 from rfl, Nat.mul_one, Nat.add_zero] at hf12_7); clear hcl12 hcc12 hfr12; (try clear hM12)) | ((with_reducible refine gate_store (t := 44) (p := 21) rfl ?_); refine store_event (t := 44) (p := 21) (v := ?vo_w13) (w1 := ((((((((w11.setCell ⟨go10, (x4_1 : Int).toNat * 8, none⟩ (.int .i64 t82005)).setCell ⟨go10, (x4_1 : Int).toNat * 8 + 1, none⟩ (.string t82006)).setCell ⟨go10, (x4_1 : Int).toNat * 8 + 2, none⟩ (.string t82007)).setCell ⟨go10, (x4_1 : Int).toNat * 8 + 3, none⟩ (.int .i64 t82008)).setCell ⟨go10, (x4_1 : Int).toNat * 8 + 4, none⟩ (.string t82009)).setCell ⟨go10, (x4_1 : Int).toNat * 8 + 5, none⟩ (v82011)).setCell ⟨go10, (x4_1 : Int).toNat * 8 + 6, none⟩ (v82014)).setCell ⟨go10, (x4_1 : Int).toNat * 8 + 7, none⟩ (.int .i64 t82016))) ?hg ?ho ?hn ?hr ?_; (case ho => rfl); (case hg => rfl); (case hn => rfl); (case hr => first | (go_simp; done) | (go_simp; rfl) | (obtain ⟨sA_, sc_, se_⟩ := Kd.R_slice HO82012.out; subst se_; first | (go_simp; done) | (go_simp; rfl)) | (obtain ⟨sA_, sc_, se_⟩ := Kd.R_slice HO82015.out; subst se_; first | (go_simp; done) | (go_simp; rfl)) | (obtain ⟨sA0_, sc0_, se0_⟩ := Kd.R_slice HO82012.out; subst se0_; obtain ⟨sA1_, sc1_, se1_⟩ := Kd.R_slice HO82015.out; subst se1_; first | (go_simp; done) | (go_simp; rfl))); intro w13 hw; have hg : w11.grownBy w13 (some go10) := (by rw [hw]; exact HP12.2); have hp_ : Kd.R k44 44 w13 w.heap.size (fun _ => True) (.slice (some ⟨go10, 0, none⟩) x3_1.length co10) y82017 := (by rw [hw, Ny82017.out]; exact HP12.1); clear HP12; have n0_ := Aside0.mk (hp_); have n1_ := Aside0.mk ((by rw [hw]; exact below_set (below_set (below_set (below_set (below_set (below_set (below_set (below_set (HB.out) GB10.out) GB10.out) GB10.out) GB10.out) GB10.out) GB10.out) GB10.out) GB10.out : Below w.heap.size w w13)); clear HO_3; clear HB; clear HO82012; clear HO82015; have HO_3 := n0_; have HB := n1_; clear n0_ n1_; clear hg hw hp_))
        go_roundg k1
        case measure => have := HK1.out; omega
        case rel => exact ⟨(y82017), (wrap64 (x4_1 + 1)), (by first | rfl | (simp; done) | (simp [*]; done)), H', ⟨by have := HK1.out; omega⟩, ⟨by (with_reducible repeat (first | apply Kd.R_alloc | apply Kd.R_drewN | apply Kd.R_drew)); exact HO_3.out⟩, ⟨by repeat (first | (with_reducible first | exact HB.out | apply below_alloc | apply pw_below_drewN | apply below_drew1) | exact HB.out)⟩⟩
       ·rw [if_neg c9] at H
        exact absurd H (by simp)
      ·rw [if_neg c7] at H
       exact absurd H (by simp)
     ·rw [if_neg c6] at H
      have c6b0 : decide (x4_1 < (l0.length : Int)) = false := decide_eq_false c6
      clear c6
      obtain rfl := Option.some.inj H
      go_wp2
      go_ret
      exact ⟨_, by first | rfl | (simp [errW_none, errW_some] <;> rfl) | (simp [*, errW_none, errW_some] <;> rfl), by (with_reducible repeat (first | apply Kd.R_alloc | apply Kd.R_drewN | apply Kd.R_drew)); exact HO_3.out, by repeat (first | (with_reducible first | exact HB.out | apply below_alloc | apply pw_below_drewN | apply below_drew1) | exact HB.out)⟩
  ·rw [if_neg c3] at H
   exact absurd H (by simp)
 ·rw [if_neg c2] at H
  exact absurd H (by simp)
def laws_eqConstraint.f (k : Nat) (a0_0 : Int) (a0_1 : ByteArray) (a0_2 : ByteArray) (a0_3 : Int) (a0_4 : ByteArray) (l0_5 : List (S42)) (l0_6 : List Int) (a0_7 : Int) (a1_0 : Int) (a1_1 : ByteArray) (a1_2 : ByteArray) (a1_3 : Int) (a1_4 : ByteArray) (l1_5 : List (S42)) (l1_6 : List Int) (a1_7 : Int) : Option (Bool) := if a0_0 = a1_0 then (if a0_1.toList = a1_1.toList then (if a0_2.toList = a1_2.toList then ((laws_eqRegex.f k a0_3 a0_4 l0_5 a1_3 a1_4 l1_5).bind fun t24003 => (if t24003 = true then ((laws_eqIntS.f k l0_6 l1_6).bind fun t24004 => (if t24004 = true then (if a0_7 = a1_7 then (some true) else (some false)) else (some false))) else (some false))) else (some false)) else (some false)) else (some false)
theorem laws_eqConstraint.mono : ∀ a0 a1 a2 a3 a4 a5 a6 a7 a8 a9 a10 a11 a12 a13 a14 a15 k, LeO (laws_eqConstraint.f k a0 a1 a2 a3 a4 a5 a6 a7 a8 a9 a10 a11 a12 a13 a14 a15) (laws_eqConstraint.f (k + 1) a0 a1 a2 a3 a4 a5 a6 a7 a8 a9 a10 a11 a12 a13 a14 a15) := by
 intro a0 a1 a2 a3 a4 a5 a6 a7 a8 a9 a10 a11 a12 a13 a14 a15 k
 unfold laws_eqConstraint.f
 repeat' first
   | (with_reducible exact laws_eqIntS.mono _ _ _)
   | (with_reducible exact laws_eqRegex.mono _ _ _ _ _ _ _)
   | (with_reducible exact LeO.refl _)
   | (with_reducible exact LeO.none _)
   | (with_reducible refine LeO.ite ?_ ?_)
   | (with_reducible refine LeO.bind ?_ (fun _ => ?_))
theorem laws_eqConstraint.calls (k : Nat) (a0_0 : Int) (a0_1 : ByteArray) (a0_2 : ByteArray) (a0_3 : Int) (a0_4 : ByteArray) (A0_5 : Option Addr) (c0_5 : Nat) (l0_5 : List (S42)) (A0_6 : Option Addr) (c0_6 : Nat) (l0_6 : List Int) (a0_7 : Int) (a1_0 : Int) (a1_1 : ByteArray) (a1_2 : ByteArray) (a1_3 : Int) (a1_4 : ByteArray) (A1_5 : Option Addr) (c1_5 : Nat) (l1_5 : List (S42)) (A1_6 : Option Addr) (c1_6 : Nat) (l1_6 : List Int) (a1_7 : Int) (r : Bool) (w : World) (hr0_5 : Kd.C k42 w A0_5 l0_5.length l0_5) (hc0_5 : l0_5.length ≤ c0_5) (hr0_6 : Kd.C (Kd.int .i64) w A0_6 l0_6.length l0_6) (hc0_6 : l0_6.length ≤ c0_6) (hr1_5 : Kd.C k42 w A1_5 l1_5.length l1_5) (hc1_5 : l1_5.length ≤ c1_5) (hr1_6 : Kd.C (Kd.int .i64) w A1_6 l1_6.length l1_6) (hc1_6 : l1_6.length ≤ c1_6) (h : laws_eqConstraint.f k a0_0 a0_1 a0_2 a0_3 a0_4 l0_5 l0_6 a0_7 a1_0 a1_1 a1_2 a1_3 a1_4 l1_5 l1_6 a1_7 = some r) :
  Calls Try.prog 24 #[.agg #[.int .i64 a0_0, .string a0_1, .string a0_2, .int .i64 a0_3, .string a0_4, .slice A0_5 l0_5.length c0_5, .slice A0_6 l0_6.length c0_6, .int .i64 a0_7], .agg #[.int .i64 a1_0, .string a1_1, .string a1_2, .int .i64 a1_3, .string a1_4, .slice A1_5 l1_5.length c1_5, .slice A1_6 l1_6.length c1_6, .int .i64 a1_7]] w fun e w' => e = .returned (.bool r) ∧ Below w.heap.size w w' := by
 have hu44 := Try.underlying44
 have hu42 := Try.underlying42
 have HR0_5 := Aside0.mk hr0_5
 have HC0_5 := Aside0.mk hc0_5
 clear hr0_5 hc0_5
 have HR0_6 := Aside0.mk hr0_6
 have HC0_6 := Aside0.mk hc0_6
 clear hr0_6 hc0_6
 have HR1_5 := Aside0.mk hr1_5
 have HC1_5 := Aside0.mk hc1_5
 clear hr1_5 hc1_5
 have HR1_6 := Aside0.mk hr1_6
 have HC1_6 := Aside0.mk hc1_6
 clear hr1_6 hc1_6
 have HB := Aside0.mk (Below.refl w.heap.size w)
 have H : (if a0_0 = a1_0 then (if a0_1.toList = a1_1.toList then (if a0_2.toList = a1_2.toList then ((laws_eqRegex.f k a0_3 a0_4 l0_5 a1_3 a1_4 l1_5).bind fun t24003 => (if t24003 = true then ((laws_eqIntS.f k l0_6 l1_6).bind fun t24004 => (if t24004 = true then (if a0_7 = a1_7 then (some true) else (some false)) else (some false))) else (some false))) else (some false)) else (some false)) else (some false)) = some r := h
 clear h
 by_cases c3 : a0_0 = a1_0
 ·rw [if_pos c3] at H
  have c3b0 : (a0_0 == a1_0) = true := beq_iff_eq.mpr c3
  have c3b1 : (a0_0 != a1_0) = false := bne_eq_false_iff_eq.mpr c3
  clear c3
  by_cases c4 : a0_1.toList = a1_1.toList
  ·rw [if_pos c4] at H
   have c4b0 : (a0_1.toList == a1_1.toList) = true := beq_iff_eq.mpr c4
   have c4b1 : (a0_1.toList != a1_1.toList) = false := bne_eq_false_iff_eq.mpr c4
   clear c4
   by_cases c5 : a0_2.toList = a1_2.toList
   ·rw [if_pos c5] at H
    have c5b0 : (a0_2.toList == a1_2.toList) = true := beq_iff_eq.mpr c5
    have c5b1 : (a0_2.toList != a1_2.toList) = false := bne_eq_false_iff_eq.mpr c5
    clear c5
    replace H := Option.bind_eq_some_iff.mp H
    obtain ⟨t24003, A60, H⟩ := H
    replace H : (if t24003 = true then ((laws_eqIntS.f k l0_6 l1_6).bind fun t24004 => (if t24004 = true then (if a0_7 = a1_7 then (some true) else (some false)) else (some false))) else (some false)) = some r := H
    have A6 := Aside0.mk A60
    clear A60
    by_cases c7 : t24003 = true
    ·subst c7
     have H1 : ((laws_eqIntS.f k l0_6 l1_6).bind fun t24004 => (if t24004 = true then (if a0_7 = a1_7 then (some true) else (some false)) else (some false))) = some r := by rw [if_pos rfl] at H; exact H
     clear H
     have H := H1
     clear H1
     replace H := Option.bind_eq_some_iff.mp H
     obtain ⟨t24004, A80, H⟩ := H
     replace H : (if t24004 = true then (if a0_7 = a1_7 then (some true) else (some false)) else (some false)) = some r := H
     have A8 := Aside0.mk A80
     clear A80
     by_cases c9 : t24004 = true
     ·subst c9
      have H1 : (if a0_7 = a1_7 then (some true) else (some false)) = some r := by rw [if_pos rfl] at H; exact H
      clear H
      have H := H1
      clear H1
      by_cases c10 : a0_7 = a1_7
      ·rw [if_pos c10] at H
       have c10b0 : (a0_7 == a1_7) = true := beq_iff_eq.mpr c10
       have c10b1 : (a0_7 != a1_7) = false := bne_eq_false_iff_eq.mpr c10
       clear c10
       obtain rfl := Option.some.inj H
       go_enter Try.func24, Try.ntmps24
       go_wp2_with (first | ((with_reducible refine gate_dst (N := 2) rfl ?_); refine box_event ?hg (N := 2) ?hd (cs := #[.int .i64 a0_0, .string a0_1, .string a0_2, .int .i64 a0_3, .string a0_4, .slice A0_5 l0_5.length c0_5, .slice A0_6 l0_6.length c0_6, .int .i64 a0_7]) (t := 44) ?hr ?_; (case hd => rfl); (case hg => rfl); (case hr => first | (go_simp; done) | (go_simp; rfl)); intro gb24001 hg w11 hbox hb; have n0_ := Aside0.mk (below_step (by repeat (first | (with_reducible first | exact HB.out | apply below_alloc | apply pw_below_drewN | apply below_drew1) | exact HB.out)) hb); have n1_ := Aside0.mk (hbox); have n2_ := Aside0.mk ((by rw [hg]; exact (below_size (by repeat (first | (with_reducible first | exact HB.out | apply below_alloc | apply pw_below_drewN | apply below_drew1) | exact HB.out))) : w.heap.size ≤ gb24001)); have n3_ := Aside0.mk ((by rw [hg]; exact (below_size (by repeat (first | (with_reducible first | exact HB.out | apply below_alloc | apply pw_below_drewN | apply below_drew1) | exact HB.out))) : w.heap.size ≤ gb24001)); clear HB; have HB := n0_; have BK24001 := n1_; have GW24001 := n2_; have GE24001 := n3_; clear n0_ n1_ n2_ n3_; clear hb hbox hg) | ((with_reducible refine gate_dst (N := 3) rfl ?_); refine box_event ?hg (N := 3) ?hd (cs := #[.int .i64 a1_0, .string a1_1, .string a1_2, .int .i64 a1_3, .string a1_4, .slice A1_5 l1_5.length c1_5, .slice A1_6 l1_6.length c1_6, .int .i64 a1_7]) (t := 44) ?hr ?_; (case hd => rfl); (case hg => rfl); (case hr => first | (go_simp; done) | (go_simp; rfl)); intro gb24002 hg w12 hbox hb; have n0_ := Aside0.mk (blk_below (g := gb24001) (o := .cells #[.int .i64 a0_0, .string a0_1, .string a0_2, .int .i64 a0_3, .string a0_4, .slice A0_5 l0_5.length c0_5, .slice A0_6 l0_6.length c0_6, .int .i64 a0_7] 44 (0, 0)) (by (with_reducible repeat (first | refine blk_drewN ?_ _ | refine blk_drew ?_ | refine blk_alloc ?_ _)); exact BK24001.out) hb); have n1_ := Aside0.mk (below_step (by repeat (first | (with_reducible first | exact HB.out | apply below_alloc | apply pw_below_drewN | apply below_drew1 | refine below_set ?_ GE24001.out) | exact HB.out)) hb); have n2_ := Aside0.mk (hbox); have n3_ := Aside0.mk ((by rw [hg]; exact (below_size (by repeat (first | (with_reducible first | exact HB.out | apply below_alloc | apply pw_below_drewN | apply below_drew1 | refine below_set ?_ GE24001.out) | exact HB.out))) : w.heap.size ≤ gb24002)); have n4_ := Aside0.mk ((by rw [hg]; exact (below_size (by repeat (first | (with_reducible first | exact HB.out | apply below_alloc | apply pw_below_drewN | apply below_drew1 | refine below_set ?_ GE24001.out) | exact HB.out))) : w.heap.size ≤ gb24002)); have n5_ := Aside0.mk ((by rw [hg]; exact Nat.ne_of_lt (blk_lt (g := gb24001) (o := .cells #[.int .i64 a0_0, .string a0_1, .string a0_2, .int .i64 a0_3, .string a0_4, .slice A0_5 l0_5.length c0_5, .slice A0_6 l0_6.length c0_6, .int .i64 a0_7] 44 (0, 0)) (by (with_reducible repeat (first | refine blk_drewN ?_ _ | refine blk_drew ?_ | refine blk_alloc ?_ _)); exact BK24001.out)) : gb24001 ≠ gb24002)); have n6_ := Aside0.mk ((by rw [hg]; exact Nat.ne_of_gt (blk_lt (g := gb24001) (o := .cells #[.int .i64 a0_0, .string a0_1, .string a0_2, .int .i64 a0_3, .string a0_4, .slice A0_5 l0_5.length c0_5, .slice A0_6 l0_6.length c0_6, .int .i64 a0_7] 44 (0, 0)) (by (with_reducible repeat (first | refine blk_drewN ?_ _ | refine blk_drew ?_ | refine blk_alloc ?_ _)); exact BK24001.out)) : gb24002 ≠ gb24001)); clear BK24001; clear HB; have BK24001 := n0_; have HB := n1_; have BK24002 := n2_; have GW24002 := n3_; have GE24002 := n4_; have NB24001_24002 := n5_; have NB24002_24001 := n6_; clear n0_ n1_ n2_ n3_ n4_ n5_ n6_; clear hb hbox hg; have hnb13 := NB24001_24002.out; have hnc13 := NB24002_24001.out; have hcz14_0 : w12.cell? ⟨gb24001, 0, none⟩ = some (.int .i64 a0_0) := (blk_cell BK24001.out 0).trans rfl; have hcz14_1 : w12.cell? ⟨gb24001, 1, none⟩ = some (.string a0_1) := (blk_cell BK24001.out 1).trans rfl; have hcz14_2 : w12.cell? ⟨gb24001, 2, none⟩ = some (.string a0_2) := (blk_cell BK24001.out 2).trans rfl; have hcz14_3 : w12.cell? ⟨gb24001, 3, none⟩ = some (.int .i64 a0_3) := (blk_cell BK24001.out 3).trans rfl; have hcz14_4 : w12.cell? ⟨gb24001, 4, none⟩ = some (.string a0_4) := (blk_cell BK24001.out 4).trans rfl; have hcz14_5 : w12.cell? ⟨gb24001, 5, none⟩ = some (.slice A0_5 l0_5.length c0_5) := (blk_cell BK24001.out 5).trans rfl; have hcz14_6 : w12.cell? ⟨gb24001, 6, none⟩ = some (.slice A0_6 l0_6.length c0_6) := (blk_cell BK24001.out 6).trans rfl; have hcz14_7 : w12.cell? ⟨gb24001, 7, none⟩ = some (.int .i64 a0_7) := (blk_cell BK24001.out 7).trans rfl; have hfz14_0 := blk_frozen BK24001.out 0; have hfz14_1 := blk_frozen BK24001.out 1; have hfz14_2 := blk_frozen BK24001.out 2; have hfz14_3 := blk_frozen BK24001.out 3; have hfz14_4 := blk_frozen BK24001.out 4; have hfz14_5 := blk_frozen BK24001.out 5; have hfz14_6 := blk_frozen BK24001.out 6; have hfz14_7 := blk_frozen BK24001.out 7; have hcz15_0 : w12.cell? ⟨gb24002, 0, none⟩ = some (.int .i64 a1_0) := (blk_cell BK24002.out 0).trans rfl; have hcz15_1 : w12.cell? ⟨gb24002, 1, none⟩ = some (.string a1_1) := (blk_cell BK24002.out 1).trans rfl; have hcz15_2 : w12.cell? ⟨gb24002, 2, none⟩ = some (.string a1_2) := (blk_cell BK24002.out 2).trans rfl; have hcz15_3 : w12.cell? ⟨gb24002, 3, none⟩ = some (.int .i64 a1_3) := (blk_cell BK24002.out 3).trans rfl; have hcz15_4 : w12.cell? ⟨gb24002, 4, none⟩ = some (.string a1_4) := (blk_cell BK24002.out 4).trans rfl; have hcz15_5 : w12.cell? ⟨gb24002, 5, none⟩ = some (.slice A1_5 l1_5.length c1_5) := (blk_cell BK24002.out 5).trans rfl; have hcz15_6 : w12.cell? ⟨gb24002, 6, none⟩ = some (.slice A1_6 l1_6.length c1_6) := (blk_cell BK24002.out 6).trans rfl; have hcz15_7 : w12.cell? ⟨gb24002, 7, none⟩ = some (.int .i64 a1_7) := (blk_cell BK24002.out 7).trans rfl; have hfz15_0 := blk_frozen BK24002.out 0; have hfz15_1 := blk_frozen BK24002.out 1; have hfz15_2 := blk_frozen BK24002.out 2; have hfz15_3 := blk_frozen BK24002.out 3; have hfz15_4 := blk_frozen BK24002.out 4; have hfz15_5 := blk_frozen BK24002.out 5; have hfz15_6 := blk_frozen BK24002.out 6; have hfz15_7 := blk_frozen BK24002.out 7) | ((with_reducible refine gate_callee (f := 99) rfl ?_); refine goesL_ (some 24) rfl rfl Try.func99 (by kernel_rfl) rfl #[.agg #[.int .i64 a0_3, .string a0_4, .slice A0_5 l0_5.length c0_5], .agg #[.int .i64 a1_3, .string a1_4, .slice A1_5 l1_5.length c1_5]] rfl (by (try simp only [List.map_toArray, List.map_cons, List.map_nil]); first | done | rfl | (simp only [List.length_drop, List.length_take]; rfl)) ?_; (with_reducible refine (laws_eqRegex.calls k a0_3 a0_4 _ _ l0_5 a1_3 a1_4 _ _ l1_5 true _ ?side1 ?side2 ?side3 ?side4 A6.out).mono ?_); (case side1 => repeat (first | exact (Kd.C_below HR0_5.out HB.out) | (with_reducible refine Kd.C_alloc ?_ _) | (with_reducible refine Kd.C_drewN ?_ _) | (with_reducible refine Kd.C_drew ?_))); (case side2 => exact HC0_5.out); (case side3 => repeat (first | exact (Kd.C_below HR1_5.out HB.out) | (with_reducible refine Kd.C_alloc ?_ _) | (with_reducible refine Kd.C_drewN ?_ _) | (with_reducible refine Kd.C_drew ?_))); (case side4 => exact HC1_5.out); rintro e w16 ⟨rfl, hb⟩; refine ⟨_, rfl, ?_⟩; have n0_ := Aside0.mk (blk_below (g := gb24001) (o := .cells #[.int .i64 a0_0, .string a0_1, .string a0_2, .int .i64 a0_3, .string a0_4, .slice A0_5 l0_5.length c0_5, .slice A0_6 l0_6.length c0_6, .int .i64 a0_7] 44 (0, 0)) (by (with_reducible repeat (first | refine blk_drewN ?_ _ | refine blk_drew ?_ | refine blk_alloc ?_ _)); exact BK24001.out) hb); have n1_ := Aside0.mk (blk_below (g := gb24002) (o := .cells #[.int .i64 a1_0, .string a1_1, .string a1_2, .int .i64 a1_3, .string a1_4, .slice A1_5 l1_5.length c1_5, .slice A1_6 l1_6.length c1_6, .int .i64 a1_7] 44 (0, 0)) (by (with_reducible repeat (first | refine blk_drewN ?_ _ | refine blk_drew ?_ | refine blk_alloc ?_ _)); exact BK24002.out) hb); have n2_ := Aside0.mk (below_step (by repeat (first | (with_reducible first | exact HB.out | apply below_alloc | apply pw_below_drewN | apply below_drew1 | refine below_set ?_ GE24001.out | refine below_set ?_ GE24002.out) | exact HB.out)) hb); clear BK24001; clear BK24002; clear HB; have BK24001 := n0_; have BK24002 := n1_; have HB := n2_; clear n0_ n1_ n2_; (try clear hb); (try clear hb2); (try clear hk); (try clear hi); have hcz17_0 : w16.cell? ⟨gb24001, 0, none⟩ = some (.int .i64 a0_0) := (blk_cell BK24001.out 0).trans rfl; have hcz17_1 : w16.cell? ⟨gb24001, 1, none⟩ = some (.string a0_1) := (blk_cell BK24001.out 1).trans rfl; have hcz17_2 : w16.cell? ⟨gb24001, 2, none⟩ = some (.string a0_2) := (blk_cell BK24001.out 2).trans rfl; have hcz17_3 : w16.cell? ⟨gb24001, 3, none⟩ = some (.int .i64 a0_3) := (blk_cell BK24001.out 3).trans rfl; have hcz17_4 : w16.cell? ⟨gb24001, 4, none⟩ = some (.string a0_4) := (blk_cell BK24001.out 4).trans rfl; have hcz17_5 : w16.cell? ⟨gb24001, 5, none⟩ = some (.slice A0_5 l0_5.length c0_5) := (blk_cell BK24001.out 5).trans rfl; have hcz17_6 : w16.cell? ⟨gb24001, 6, none⟩ = some (.slice A0_6 l0_6.length c0_6) := (blk_cell BK24001.out 6).trans rfl; have hcz17_7 : w16.cell? ⟨gb24001, 7, none⟩ = some (.int .i64 a0_7) := (blk_cell BK24001.out 7).trans rfl; have hfz17_0 := blk_frozen BK24001.out 0; have hfz17_1 := blk_frozen BK24001.out 1; have hfz17_2 := blk_frozen BK24001.out 2; have hfz17_3 := blk_frozen BK24001.out 3; have hfz17_4 := blk_frozen BK24001.out 4; have hfz17_5 := blk_frozen BK24001.out 5; have hfz17_6 := blk_frozen BK24001.out 6; have hfz17_7 := blk_frozen BK24001.out 7; have hcz18_0 : w16.cell? ⟨gb24002, 0, none⟩ = some (.int .i64 a1_0) := (blk_cell BK24002.out 0).trans rfl; have hcz18_1 : w16.cell? ⟨gb24002, 1, none⟩ = some (.string a1_1) := (blk_cell BK24002.out 1).trans rfl; have hcz18_2 : w16.cell? ⟨gb24002, 2, none⟩ = some (.string a1_2) := (blk_cell BK24002.out 2).trans rfl; have hcz18_3 : w16.cell? ⟨gb24002, 3, none⟩ = some (.int .i64 a1_3) := (blk_cell BK24002.out 3).trans rfl; have hcz18_4 : w16.cell? ⟨gb24002, 4, none⟩ = some (.string a1_4) := (blk_cell BK24002.out 4).trans rfl; have hcz18_5 : w16.cell? ⟨gb24002, 5, none⟩ = some (.slice A1_5 l1_5.length c1_5) := (blk_cell BK24002.out 5).trans rfl; have hcz18_6 : w16.cell? ⟨gb24002, 6, none⟩ = some (.slice A1_6 l1_6.length c1_6) := (blk_cell BK24002.out 6).trans rfl; have hcz18_7 : w16.cell? ⟨gb24002, 7, none⟩ = some (.int .i64 a1_7) := (blk_cell BK24002.out 7).trans rfl; have hfz18_0 := blk_frozen BK24002.out 0; have hfz18_1 := blk_frozen BK24002.out 1; have hfz18_2 := blk_frozen BK24002.out 2; have hfz18_3 := blk_frozen BK24002.out 3; have hfz18_4 := blk_frozen BK24002.out 4; have hfz18_5 := blk_frozen BK24002.out 5; have hfz18_6 := blk_frozen BK24002.out 6; have hfz18_7 := blk_frozen BK24002.out 7) | ((with_reducible refine gate_callee (f := 100) rfl ?_); refine goesL_ (some 30) rfl rfl Try.func100 (by kernel_rfl) rfl #[.slice A0_6 l0_6.length c0_6, .slice A1_6 l1_6.length c1_6] rfl (by (try simp only [List.map_toArray, List.map_cons, List.map_nil]); first | done | rfl | (simp only [List.length_drop, List.length_take]; rfl)) ?_; (with_reducible refine (laws_eqIntS.calls k _ _ l0_6 _ _ l1_6 true _ ?side1 ?side2 ?side3 ?side4 A8.out).mono ?_); (case side1 => repeat (first | exact (Kd.C_below HR0_6.out HB.out) | (with_reducible refine Kd.C_alloc ?_ _) | (with_reducible refine Kd.C_drewN ?_ _) | (with_reducible refine Kd.C_drew ?_))); (case side2 => exact HC0_6.out); (case side3 => repeat (first | exact (Kd.C_below HR1_6.out HB.out) | (with_reducible refine Kd.C_alloc ?_ _) | (with_reducible refine Kd.C_drewN ?_ _) | (with_reducible refine Kd.C_drew ?_))); (case side4 => exact HC1_6.out); rintro e w' ⟨rfl, ⟨nd, rfl⟩⟩; refine ⟨_, rfl, ?_⟩))
       go_ret
       exact ⟨by first | rfl | (simp [errW_none, errW_some] <;> rfl) | (simp [*, errW_none, errW_some] <;> rfl), by repeat (first | (with_reducible first | exact HB.out | apply below_alloc | apply pw_below_drewN | apply below_drew1 | refine below_set ?_ GE24001.out | refine below_set ?_ GE24002.out) | exact HB.out)⟩
      ·rw [if_neg c10] at H
       have c10b0 : (a0_7 == a1_7) = false := beq_eq_false_iff_ne.mpr c10
       have c10b1 : (a0_7 != a1_7) = true := bne_iff_ne.mpr c10
       obtain rfl := Option.some.inj H
       go_enter Try.func24, Try.ntmps24
       go_wp2_with (first | ((with_reducible refine gate_dst (N := 2) rfl ?_); refine box_event ?hg (N := 2) ?hd (cs := #[.int .i64 a0_0, .string a0_1, .string a0_2, .int .i64 a0_3, .string a0_4, .slice A0_5 l0_5.length c0_5, .slice A0_6 l0_6.length c0_6, .int .i64 a0_7]) (t := 44) ?hr ?_; (case hd => rfl); (case hg => rfl); (case hr => first | (go_simp; done) | (go_simp; rfl)); intro gb24001 hg w19 hbox hb; have n0_ := Aside0.mk (below_step (by repeat (first | (with_reducible first | exact HB.out | apply below_alloc | apply pw_below_drewN | apply below_drew1) | exact HB.out)) hb); have n1_ := Aside0.mk (hbox); have n2_ := Aside0.mk ((by rw [hg]; exact (below_size (by repeat (first | (with_reducible first | exact HB.out | apply below_alloc | apply pw_below_drewN | apply below_drew1) | exact HB.out))) : w.heap.size ≤ gb24001)); have n3_ := Aside0.mk ((by rw [hg]; exact (below_size (by repeat (first | (with_reducible first | exact HB.out | apply below_alloc | apply pw_below_drewN | apply below_drew1) | exact HB.out))) : w.heap.size ≤ gb24001)); clear HB; have HB := n0_; have BK24001 := n1_; have GW24001 := n2_; have GE24001 := n3_; clear n0_ n1_ n2_ n3_; clear hb hbox hg) | ((with_reducible refine gate_dst (N := 3) rfl ?_); refine box_event ?hg (N := 3) ?hd (cs := #[.int .i64 a1_0, .string a1_1, .string a1_2, .int .i64 a1_3, .string a1_4, .slice A1_5 l1_5.length c1_5, .slice A1_6 l1_6.length c1_6, .int .i64 a1_7]) (t := 44) ?hr ?_; (case hd => rfl); (case hg => rfl); (case hr => first | (go_simp; done) | (go_simp; rfl)); intro gb24002 hg w20 hbox hb; have n0_ := Aside0.mk (blk_below (g := gb24001) (o := .cells #[.int .i64 a0_0, .string a0_1, .string a0_2, .int .i64 a0_3, .string a0_4, .slice A0_5 l0_5.length c0_5, .slice A0_6 l0_6.length c0_6, .int .i64 a0_7] 44 (0, 0)) (by (with_reducible repeat (first | refine blk_drewN ?_ _ | refine blk_drew ?_ | refine blk_alloc ?_ _)); exact BK24001.out) hb); have n1_ := Aside0.mk (below_step (by repeat (first | (with_reducible first | exact HB.out | apply below_alloc | apply pw_below_drewN | apply below_drew1 | refine below_set ?_ GE24001.out) | exact HB.out)) hb); have n2_ := Aside0.mk (hbox); have n3_ := Aside0.mk ((by rw [hg]; exact (below_size (by repeat (first | (with_reducible first | exact HB.out | apply below_alloc | apply pw_below_drewN | apply below_drew1 | refine below_set ?_ GE24001.out) | exact HB.out))) : w.heap.size ≤ gb24002)); have n4_ := Aside0.mk ((by rw [hg]; exact (below_size (by repeat (first | (with_reducible first | exact HB.out | apply below_alloc | apply pw_below_drewN | apply below_drew1 | refine below_set ?_ GE24001.out) | exact HB.out))) : w.heap.size ≤ gb24002)); have n5_ := Aside0.mk ((by rw [hg]; exact Nat.ne_of_lt (blk_lt (g := gb24001) (o := .cells #[.int .i64 a0_0, .string a0_1, .string a0_2, .int .i64 a0_3, .string a0_4, .slice A0_5 l0_5.length c0_5, .slice A0_6 l0_6.length c0_6, .int .i64 a0_7] 44 (0, 0)) (by (with_reducible repeat (first | refine blk_drewN ?_ _ | refine blk_drew ?_ | refine blk_alloc ?_ _)); exact BK24001.out)) : gb24001 ≠ gb24002)); have n6_ := Aside0.mk ((by rw [hg]; exact Nat.ne_of_gt (blk_lt (g := gb24001) (o := .cells #[.int .i64 a0_0, .string a0_1, .string a0_2, .int .i64 a0_3, .string a0_4, .slice A0_5 l0_5.length c0_5, .slice A0_6 l0_6.length c0_6, .int .i64 a0_7] 44 (0, 0)) (by (with_reducible repeat (first | refine blk_drewN ?_ _ | refine blk_drew ?_ | refine blk_alloc ?_ _)); exact BK24001.out)) : gb24002 ≠ gb24001)); clear BK24001; clear HB; have BK24001 := n0_; have HB := n1_; have BK24002 := n2_; have GW24002 := n3_; have GE24002 := n4_; have NB24001_24002 := n5_; have NB24002_24001 := n6_; clear n0_ n1_ n2_ n3_ n4_ n5_ n6_; clear hb hbox hg; have hnb21 := NB24001_24002.out; have hnc21 := NB24002_24001.out; have hcz22_0 : w20.cell? ⟨gb24001, 0, none⟩ = some (.int .i64 a0_0) := (blk_cell BK24001.out 0).trans rfl; have hcz22_1 : w20.cell? ⟨gb24001, 1, none⟩ = some (.string a0_1) := (blk_cell BK24001.out 1).trans rfl; have hcz22_2 : w20.cell? ⟨gb24001, 2, none⟩ = some (.string a0_2) := (blk_cell BK24001.out 2).trans rfl; have hcz22_3 : w20.cell? ⟨gb24001, 3, none⟩ = some (.int .i64 a0_3) := (blk_cell BK24001.out 3).trans rfl; have hcz22_4 : w20.cell? ⟨gb24001, 4, none⟩ = some (.string a0_4) := (blk_cell BK24001.out 4).trans rfl; have hcz22_5 : w20.cell? ⟨gb24001, 5, none⟩ = some (.slice A0_5 l0_5.length c0_5) := (blk_cell BK24001.out 5).trans rfl; have hcz22_6 : w20.cell? ⟨gb24001, 6, none⟩ = some (.slice A0_6 l0_6.length c0_6) := (blk_cell BK24001.out 6).trans rfl; have hcz22_7 : w20.cell? ⟨gb24001, 7, none⟩ = some (.int .i64 a0_7) := (blk_cell BK24001.out 7).trans rfl; have hfz22_0 := blk_frozen BK24001.out 0; have hfz22_1 := blk_frozen BK24001.out 1; have hfz22_2 := blk_frozen BK24001.out 2; have hfz22_3 := blk_frozen BK24001.out 3; have hfz22_4 := blk_frozen BK24001.out 4; have hfz22_5 := blk_frozen BK24001.out 5; have hfz22_6 := blk_frozen BK24001.out 6; have hfz22_7 := blk_frozen BK24001.out 7; have hcz23_0 : w20.cell? ⟨gb24002, 0, none⟩ = some (.int .i64 a1_0) := (blk_cell BK24002.out 0).trans rfl; have hcz23_1 : w20.cell? ⟨gb24002, 1, none⟩ = some (.string a1_1) := (blk_cell BK24002.out 1).trans rfl; have hcz23_2 : w20.cell? ⟨gb24002, 2, none⟩ = some (.string a1_2) := (blk_cell BK24002.out 2).trans rfl; have hcz23_3 : w20.cell? ⟨gb24002, 3, none⟩ = some (.int .i64 a1_3) := (blk_cell BK24002.out 3).trans rfl; have hcz23_4 : w20.cell? ⟨gb24002, 4, none⟩ = some (.string a1_4) := (blk_cell BK24002.out 4).trans rfl; have hcz23_5 : w20.cell? ⟨gb24002, 5, none⟩ = some (.slice A1_5 l1_5.length c1_5) := (blk_cell BK24002.out 5).trans rfl; have hcz23_6 : w20.cell? ⟨gb24002, 6, none⟩ = some (.slice A1_6 l1_6.length c1_6) := (blk_cell BK24002.out 6).trans rfl; have hcz23_7 : w20.cell? ⟨gb24002, 7, none⟩ = some (.int .i64 a1_7) := (blk_cell BK24002.out 7).trans rfl; have hfz23_0 := blk_frozen BK24002.out 0; have hfz23_1 := blk_frozen BK24002.out 1; have hfz23_2 := blk_frozen BK24002.out 2; have hfz23_3 := blk_frozen BK24002.out 3; have hfz23_4 := blk_frozen BK24002.out 4; have hfz23_5 := blk_frozen BK24002.out 5; have hfz23_6 := blk_frozen BK24002.out 6; have hfz23_7 := blk_frozen BK24002.out 7) | ((with_reducible refine gate_callee (f := 99) rfl ?_); refine goesL_ (some 24) rfl rfl Try.func99 (by kernel_rfl) rfl #[.agg #[.int .i64 a0_3, .string a0_4, .slice A0_5 l0_5.length c0_5], .agg #[.int .i64 a1_3, .string a1_4, .slice A1_5 l1_5.length c1_5]] rfl (by (try simp only [List.map_toArray, List.map_cons, List.map_nil]); first | done | rfl | (simp only [List.length_drop, List.length_take]; rfl)) ?_; (with_reducible refine (laws_eqRegex.calls k a0_3 a0_4 _ _ l0_5 a1_3 a1_4 _ _ l1_5 true _ ?side1 ?side2 ?side3 ?side4 A6.out).mono ?_); (case side1 => repeat (first | exact (Kd.C_below HR0_5.out HB.out) | (with_reducible refine Kd.C_alloc ?_ _) | (with_reducible refine Kd.C_drewN ?_ _) | (with_reducible refine Kd.C_drew ?_))); (case side2 => exact HC0_5.out); (case side3 => repeat (first | exact (Kd.C_below HR1_5.out HB.out) | (with_reducible refine Kd.C_alloc ?_ _) | (with_reducible refine Kd.C_drewN ?_ _) | (with_reducible refine Kd.C_drew ?_))); (case side4 => exact HC1_5.out); rintro e w24 ⟨rfl, hb⟩; refine ⟨_, rfl, ?_⟩; have n0_ := Aside0.mk (blk_below (g := gb24001) (o := .cells #[.int .i64 a0_0, .string a0_1, .string a0_2, .int .i64 a0_3, .string a0_4, .slice A0_5 l0_5.length c0_5, .slice A0_6 l0_6.length c0_6, .int .i64 a0_7] 44 (0, 0)) (by (with_reducible repeat (first | refine blk_drewN ?_ _ | refine blk_drew ?_ | refine blk_alloc ?_ _)); exact BK24001.out) hb); have n1_ := Aside0.mk (blk_below (g := gb24002) (o := .cells #[.int .i64 a1_0, .string a1_1, .string a1_2, .int .i64 a1_3, .string a1_4, .slice A1_5 l1_5.length c1_5, .slice A1_6 l1_6.length c1_6, .int .i64 a1_7] 44 (0, 0)) (by (with_reducible repeat (first | refine blk_drewN ?_ _ | refine blk_drew ?_ | refine blk_alloc ?_ _)); exact BK24002.out) hb); have n2_ := Aside0.mk (below_step (by repeat (first | (with_reducible first | exact HB.out | apply below_alloc | apply pw_below_drewN | apply below_drew1 | refine below_set ?_ GE24001.out | refine below_set ?_ GE24002.out) | exact HB.out)) hb); clear BK24001; clear BK24002; clear HB; have BK24001 := n0_; have BK24002 := n1_; have HB := n2_; clear n0_ n1_ n2_; (try clear hb); (try clear hb2); (try clear hk); (try clear hi); have hcz25_0 : w24.cell? ⟨gb24001, 0, none⟩ = some (.int .i64 a0_0) := (blk_cell BK24001.out 0).trans rfl; have hcz25_1 : w24.cell? ⟨gb24001, 1, none⟩ = some (.string a0_1) := (blk_cell BK24001.out 1).trans rfl; have hcz25_2 : w24.cell? ⟨gb24001, 2, none⟩ = some (.string a0_2) := (blk_cell BK24001.out 2).trans rfl; have hcz25_3 : w24.cell? ⟨gb24001, 3, none⟩ = some (.int .i64 a0_3) := (blk_cell BK24001.out 3).trans rfl; have hcz25_4 : w24.cell? ⟨gb24001, 4, none⟩ = some (.string a0_4) := (blk_cell BK24001.out 4).trans rfl; have hcz25_5 : w24.cell? ⟨gb24001, 5, none⟩ = some (.slice A0_5 l0_5.length c0_5) := (blk_cell BK24001.out 5).trans rfl; have hcz25_6 : w24.cell? ⟨gb24001, 6, none⟩ = some (.slice A0_6 l0_6.length c0_6) := (blk_cell BK24001.out 6).trans rfl; have hcz25_7 : w24.cell? ⟨gb24001, 7, none⟩ = some (.int .i64 a0_7) := (blk_cell BK24001.out 7).trans rfl; have hfz25_0 := blk_frozen BK24001.out 0; have hfz25_1 := blk_frozen BK24001.out 1; have hfz25_2 := blk_frozen BK24001.out 2; have hfz25_3 := blk_frozen BK24001.out 3; have hfz25_4 := blk_frozen BK24001.out 4; have hfz25_5 := blk_frozen BK24001.out 5; have hfz25_6 := blk_frozen BK24001.out 6; have hfz25_7 := blk_frozen BK24001.out 7; have hcz26_0 : w24.cell? ⟨gb24002, 0, none⟩ = some (.int .i64 a1_0) := (blk_cell BK24002.out 0).trans rfl; have hcz26_1 : w24.cell? ⟨gb24002, 1, none⟩ = some (.string a1_1) := (blk_cell BK24002.out 1).trans rfl; have hcz26_2 : w24.cell? ⟨gb24002, 2, none⟩ = some (.string a1_2) := (blk_cell BK24002.out 2).trans rfl; have hcz26_3 : w24.cell? ⟨gb24002, 3, none⟩ = some (.int .i64 a1_3) := (blk_cell BK24002.out 3).trans rfl; have hcz26_4 : w24.cell? ⟨gb24002, 4, none⟩ = some (.string a1_4) := (blk_cell BK24002.out 4).trans rfl; have hcz26_5 : w24.cell? ⟨gb24002, 5, none⟩ = some (.slice A1_5 l1_5.length c1_5) := (blk_cell BK24002.out 5).trans rfl; have hcz26_6 : w24.cell? ⟨gb24002, 6, none⟩ = some (.slice A1_6 l1_6.length c1_6) := (blk_cell BK24002.out 6).trans rfl; have hcz26_7 : w24.cell? ⟨gb24002, 7, none⟩ = some (.int .i64 a1_7) := (blk_cell BK24002.out 7).trans rfl; have hfz26_0 := blk_frozen BK24002.out 0; have hfz26_1 := blk_frozen BK24002.out 1; have hfz26_2 := blk_frozen BK24002.out 2; have hfz26_3 := blk_frozen BK24002.out 3; have hfz26_4 := blk_frozen BK24002.out 4; have hfz26_5 := blk_frozen BK24002.out 5; have hfz26_6 := blk_frozen BK24002.out 6; have hfz26_7 := blk_frozen BK24002.out 7) | ((with_reducible refine gate_callee (f := 100) rfl ?_); refine goesL_ (some 30) rfl rfl Try.func100 (by kernel_rfl) rfl #[.slice A0_6 l0_6.length c0_6, .slice A1_6 l1_6.length c1_6] rfl (by (try simp only [List.map_toArray, List.map_cons, List.map_nil]); first | done | rfl | (simp only [List.length_drop, List.length_take]; rfl)) ?_; (with_reducible refine (laws_eqIntS.calls k _ _ l0_6 _ _ l1_6 true _ ?side1 ?side2 ?side3 ?side4 A8.out).mono ?_); (case side1 => repeat (first | exact (Kd.C_below HR0_6.out HB.out) | (with_reducible refine Kd.C_alloc ?_ _) | (with_reducible refine Kd.C_drewN ?_ _) | (with_reducible refine Kd.C_drew ?_))); (case side2 => exact HC0_6.out); (case side3 => repeat (first | exact (Kd.C_below HR1_6.out HB.out) | (with_reducible refine Kd.C_alloc ?_ _) | (with_reducible refine Kd.C_drewN ?_ _) | (with_reducible refine Kd.C_drew ?_))); (case side4 => exact HC1_6.out); rintro e w' ⟨rfl, ⟨nd, rfl⟩⟩; refine ⟨_, rfl, ?_⟩))
       go_ret
       exact ⟨by first | rfl | (simp [errW_none, errW_some] <;> rfl) | (simp [*, errW_none, errW_some] <;> rfl), by repeat (first | (with_reducible first | exact HB.out | apply below_alloc | apply pw_below_drewN | apply below_drew1 | refine below_set ?_ GE24001.out | refine below_set ?_ GE24002.out) | exact HB.out)⟩
     ·replace c9 := Bool.eq_false_iff.mpr c9
      subst c9
      have H1 : (some false) = some r := by rw [if_neg (show ¬ (false = true) by decide)] at H; exact H
      clear H
      have H := H1
      clear H1
      obtain rfl := Option.some.inj H
      go_enter Try.func24, Try.ntmps24
      go_wp2_with (first | ((with_reducible refine gate_dst (N := 2) rfl ?_); refine box_event ?hg (N := 2) ?hd (cs := #[.int .i64 a0_0, .string a0_1, .string a0_2, .int .i64 a0_3, .string a0_4, .slice A0_5 l0_5.length c0_5, .slice A0_6 l0_6.length c0_6, .int .i64 a0_7]) (t := 44) ?hr ?_; (case hd => rfl); (case hg => rfl); (case hr => first | (go_simp; done) | (go_simp; rfl)); intro gb24001 hg w27 hbox hb; have n0_ := Aside0.mk (below_step (by repeat (first | (with_reducible first | exact HB.out | apply below_alloc | apply pw_below_drewN | apply below_drew1) | exact HB.out)) hb); have n1_ := Aside0.mk (hbox); have n2_ := Aside0.mk ((by rw [hg]; exact (below_size (by repeat (first | (with_reducible first | exact HB.out | apply below_alloc | apply pw_below_drewN | apply below_drew1) | exact HB.out))) : w.heap.size ≤ gb24001)); have n3_ := Aside0.mk ((by rw [hg]; exact (below_size (by repeat (first | (with_reducible first | exact HB.out | apply below_alloc | apply pw_below_drewN | apply below_drew1) | exact HB.out))) : w.heap.size ≤ gb24001)); clear HB; have HB := n0_; have BK24001 := n1_; have GW24001 := n2_; have GE24001 := n3_; clear n0_ n1_ n2_ n3_; clear hb hbox hg) | ((with_reducible refine gate_dst (N := 3) rfl ?_); refine box_event ?hg (N := 3) ?hd (cs := #[.int .i64 a1_0, .string a1_1, .string a1_2, .int .i64 a1_3, .string a1_4, .slice A1_5 l1_5.length c1_5, .slice A1_6 l1_6.length c1_6, .int .i64 a1_7]) (t := 44) ?hr ?_; (case hd => rfl); (case hg => rfl); (case hr => first | (go_simp; done) | (go_simp; rfl)); intro gb24002 hg w28 hbox hb; have n0_ := Aside0.mk (blk_below (g := gb24001) (o := .cells #[.int .i64 a0_0, .string a0_1, .string a0_2, .int .i64 a0_3, .string a0_4, .slice A0_5 l0_5.length c0_5, .slice A0_6 l0_6.length c0_6, .int .i64 a0_7] 44 (0, 0)) (by (with_reducible repeat (first | refine blk_drewN ?_ _ | refine blk_drew ?_ | refine blk_alloc ?_ _)); exact BK24001.out) hb); have n1_ := Aside0.mk (below_step (by repeat (first | (with_reducible first | exact HB.out | apply below_alloc | apply pw_below_drewN | apply below_drew1 | refine below_set ?_ GE24001.out) | exact HB.out)) hb); have n2_ := Aside0.mk (hbox); have n3_ := Aside0.mk ((by rw [hg]; exact (below_size (by repeat (first | (with_reducible first | exact HB.out | apply below_alloc | apply pw_below_drewN | apply below_drew1 | refine below_set ?_ GE24001.out) | exact HB.out))) : w.heap.size ≤ gb24002)); have n4_ := Aside0.mk ((by rw [hg]; exact (below_size (by repeat (first | (with_reducible first | exact HB.out | apply below_alloc | apply pw_below_drewN | apply below_drew1 | refine below_set ?_ GE24001.out) | exact HB.out))) : w.heap.size ≤ gb24002)); have n5_ := Aside0.mk ((by rw [hg]; exact Nat.ne_of_lt (blk_lt (g := gb24001) (o := .cells #[.int .i64 a0_0, .string a0_1, .string a0_2, .int .i64 a0_3, .string a0_4, .slice A0_5 l0_5.length c0_5, .slice A0_6 l0_6.length c0_6, .int .i64 a0_7] 44 (0, 0)) (by (with_reducible repeat (first | refine blk_drewN ?_ _ | refine blk_drew ?_ | refine blk_alloc ?_ _)); exact BK24001.out)) : gb24001 ≠ gb24002)); have n6_ := Aside0.mk ((by rw [hg]; exact Nat.ne_of_gt (blk_lt (g := gb24001) (o := .cells #[.int .i64 a0_0, .string a0_1, .string a0_2, .int .i64 a0_3, .string a0_4, .slice A0_5 l0_5.length c0_5, .slice A0_6 l0_6.length c0_6, .int .i64 a0_7] 44 (0, 0)) (by (with_reducible repeat (first | refine blk_drewN ?_ _ | refine blk_drew ?_ | refine blk_alloc ?_ _)); exact BK24001.out)) : gb24002 ≠ gb24001)); clear BK24001; clear HB; have BK24001 := n0_; have HB := n1_; have BK24002 := n2_; have GW24002 := n3_; have GE24002 := n4_; have NB24001_24002 := n5_; have NB24002_24001 := n6_; clear n0_ n1_ n2_ n3_ n4_ n5_ n6_; clear hb hbox hg; have hnb29 := NB24001_24002.out; have hnc29 := NB24002_24001.out; have hcz30_0 : w28.cell? ⟨gb24001, 0, none⟩ = some (.int .i64 a0_0) := (blk_cell BK24001.out 0).trans rfl; have hcz30_1 : w28.cell? ⟨gb24001, 1, none⟩ = some (.string a0_1) := (blk_cell BK24001.out 1).trans rfl; have hcz30_2 : w28.cell? ⟨gb24001, 2, none⟩ = some (.string a0_2) := (blk_cell BK24001.out 2).trans rfl; have hcz30_3 : w28.cell? ⟨gb24001, 3, none⟩ = some (.int .i64 a0_3) := (blk_cell BK24001.out 3).trans rfl; have hcz30_4 : w28.cell? ⟨gb24001, 4, none⟩ = some (.string a0_4) := (blk_cell BK24001.out 4).trans rfl; have hcz30_5 : w28.cell? ⟨gb24001, 5, none⟩ = some (.slice A0_5 l0_5.length c0_5) := (blk_cell BK24001.out 5).trans rfl; have hcz30_6 : w28.cell? ⟨gb24001, 6, none⟩ = some (.slice A0_6 l0_6.length c0_6) := (blk_cell BK24001.out 6).trans rfl; have hcz30_7 : w28.cell? ⟨gb24001, 7, none⟩ = some (.int .i64 a0_7) := (blk_cell BK24001.out 7).trans rfl; have hfz30_0 := blk_frozen BK24001.out 0; have hfz30_1 := blk_frozen BK24001.out 1; have hfz30_2 := blk_frozen BK24001.out 2; have hfz30_3 := blk_frozen BK24001.out 3; have hfz30_4 := blk_frozen BK24001.out 4; have hfz30_5 := blk_frozen BK24001.out 5; have hfz30_6 := blk_frozen BK24001.out 6; have hfz30_7 := blk_frozen BK24001.out 7; have hcz31_0 : w28.cell? ⟨gb24002, 0, none⟩ = some (.int .i64 a1_0) := (blk_cell BK24002.out 0).trans rfl; have hcz31_1 : w28.cell? ⟨gb24002, 1, none⟩ = some (.string a1_1) := (blk_cell BK24002.out 1).trans rfl; have hcz31_2 : w28.cell? ⟨gb24002, 2, none⟩ = some (.string a1_2) := (blk_cell BK24002.out 2).trans rfl; have hcz31_3 : w28.cell? ⟨gb24002, 3, none⟩ = some (.int .i64 a1_3) := (blk_cell BK24002.out 3).trans rfl; have hcz31_4 : w28.cell? ⟨gb24002, 4, none⟩ = some (.string a1_4) := (blk_cell BK24002.out 4).trans rfl; have hcz31_5 : w28.cell? ⟨gb24002, 5, none⟩ = some (.slice A1_5 l1_5.length c1_5) := (blk_cell BK24002.out 5).trans rfl; have hcz31_6 : w28.cell? ⟨gb24002, 6, none⟩ = some (.slice A1_6 l1_6.length c1_6) := (blk_cell BK24002.out 6).trans rfl; have hcz31_7 : w28.cell? ⟨gb24002, 7, none⟩ = some (.int .i64 a1_7) := (blk_cell BK24002.out 7).trans rfl; have hfz31_0 := blk_frozen BK24002.out 0; have hfz31_1 := blk_frozen BK24002.out 1; have hfz31_2 := blk_frozen BK24002.out 2; have hfz31_3 := blk_frozen BK24002.out 3; have hfz31_4 := blk_frozen BK24002.out 4; have hfz31_5 := blk_frozen BK24002.out 5; have hfz31_6 := blk_frozen BK24002.out 6; have hfz31_7 := blk_frozen BK24002.out 7) | ((with_reducible refine gate_callee (f := 99) rfl ?_); refine goesL_ (some 24) rfl rfl Try.func99 (by kernel_rfl) rfl #[.agg #[.int .i64 a0_3, .string a0_4, .slice A0_5 l0_5.length c0_5], .agg #[.int .i64 a1_3, .string a1_4, .slice A1_5 l1_5.length c1_5]] rfl (by (try simp only [List.map_toArray, List.map_cons, List.map_nil]); first | done | rfl | (simp only [List.length_drop, List.length_take]; rfl)) ?_; (with_reducible refine (laws_eqRegex.calls k a0_3 a0_4 _ _ l0_5 a1_3 a1_4 _ _ l1_5 true _ ?side1 ?side2 ?side3 ?side4 A6.out).mono ?_); (case side1 => repeat (first | exact (Kd.C_below HR0_5.out HB.out) | (with_reducible refine Kd.C_alloc ?_ _) | (with_reducible refine Kd.C_drewN ?_ _) | (with_reducible refine Kd.C_drew ?_))); (case side2 => exact HC0_5.out); (case side3 => repeat (first | exact (Kd.C_below HR1_5.out HB.out) | (with_reducible refine Kd.C_alloc ?_ _) | (with_reducible refine Kd.C_drewN ?_ _) | (with_reducible refine Kd.C_drew ?_))); (case side4 => exact HC1_5.out); rintro e w32 ⟨rfl, hb⟩; refine ⟨_, rfl, ?_⟩; have n0_ := Aside0.mk (blk_below (g := gb24001) (o := .cells #[.int .i64 a0_0, .string a0_1, .string a0_2, .int .i64 a0_3, .string a0_4, .slice A0_5 l0_5.length c0_5, .slice A0_6 l0_6.length c0_6, .int .i64 a0_7] 44 (0, 0)) (by (with_reducible repeat (first | refine blk_drewN ?_ _ | refine blk_drew ?_ | refine blk_alloc ?_ _)); exact BK24001.out) hb); have n1_ := Aside0.mk (blk_below (g := gb24002) (o := .cells #[.int .i64 a1_0, .string a1_1, .string a1_2, .int .i64 a1_3, .string a1_4, .slice A1_5 l1_5.length c1_5, .slice A1_6 l1_6.length c1_6, .int .i64 a1_7] 44 (0, 0)) (by (with_reducible repeat (first | refine blk_drewN ?_ _ | refine blk_drew ?_ | refine blk_alloc ?_ _)); exact BK24002.out) hb); have n2_ := Aside0.mk (below_step (by repeat (first | (with_reducible first | exact HB.out | apply below_alloc | apply pw_below_drewN | apply below_drew1 | refine below_set ?_ GE24001.out | refine below_set ?_ GE24002.out) | exact HB.out)) hb); clear BK24001; clear BK24002; clear HB; have BK24001 := n0_; have BK24002 := n1_; have HB := n2_; clear n0_ n1_ n2_; (try clear hb); (try clear hb2); (try clear hk); (try clear hi); have hcz33_0 : w32.cell? ⟨gb24001, 0, none⟩ = some (.int .i64 a0_0) := (blk_cell BK24001.out 0).trans rfl; have hcz33_1 : w32.cell? ⟨gb24001, 1, none⟩ = some (.string a0_1) := (blk_cell BK24001.out 1).trans rfl; have hcz33_2 : w32.cell? ⟨gb24001, 2, none⟩ = some (.string a0_2) := (blk_cell BK24001.out 2).trans rfl; have hcz33_3 : w32.cell? ⟨gb24001, 3, none⟩ = some (.int .i64 a0_3) := (blk_cell BK24001.out 3).trans rfl; have hcz33_4 : w32.cell? ⟨gb24001, 4, none⟩ = some (.string a0_4) := (blk_cell BK24001.out 4).trans rfl; have hcz33_5 : w32.cell? ⟨gb24001, 5, none⟩ = some (.slice A0_5 l0_5.length c0_5) := (blk_cell BK24001.out 5).trans rfl; have hcz33_6 : w32.cell? ⟨gb24001, 6, none⟩ = some (.slice A0_6 l0_6.length c0_6) := (blk_cell BK24001.out 6).trans rfl; have hcz33_7 : w32.cell? ⟨gb24001, 7, none⟩ = some (.int .i64 a0_7) := (blk_cell BK24001.out 7).trans rfl; have hfz33_0 := blk_frozen BK24001.out 0; have hfz33_1 := blk_frozen BK24001.out 1; have hfz33_2 := blk_frozen BK24001.out 2; have hfz33_3 := blk_frozen BK24001.out 3; have hfz33_4 := blk_frozen BK24001.out 4; have hfz33_5 := blk_frozen BK24001.out 5; have hfz33_6 := blk_frozen BK24001.out 6; have hfz33_7 := blk_frozen BK24001.out 7; have hcz34_0 : w32.cell? ⟨gb24002, 0, none⟩ = some (.int .i64 a1_0) := (blk_cell BK24002.out 0).trans rfl; have hcz34_1 : w32.cell? ⟨gb24002, 1, none⟩ = some (.string a1_1) := (blk_cell BK24002.out 1).trans rfl; have hcz34_2 : w32.cell? ⟨gb24002, 2, none⟩ = some (.string a1_2) := (blk_cell BK24002.out 2).trans rfl; have hcz34_3 : w32.cell? ⟨gb24002, 3, none⟩ = some (.int .i64 a1_3) := (blk_cell BK24002.out 3).trans rfl; have hcz34_4 : w32.cell? ⟨gb24002, 4, none⟩ = some (.string a1_4) := (blk_cell BK24002.out 4).trans rfl; have hcz34_5 : w32.cell? ⟨gb24002, 5, none⟩ = some (.slice A1_5 l1_5.length c1_5) := (blk_cell BK24002.out 5).trans rfl; have hcz34_6 : w32.cell? ⟨gb24002, 6, none⟩ = some (.slice A1_6 l1_6.length c1_6) := (blk_cell BK24002.out 6).trans rfl; have hcz34_7 : w32.cell? ⟨gb24002, 7, none⟩ = some (.int .i64 a1_7) := (blk_cell BK24002.out 7).trans rfl; have hfz34_0 := blk_frozen BK24002.out 0; have hfz34_1 := blk_frozen BK24002.out 1; have hfz34_2 := blk_frozen BK24002.out 2; have hfz34_3 := blk_frozen BK24002.out 3; have hfz34_4 := blk_frozen BK24002.out 4; have hfz34_5 := blk_frozen BK24002.out 5; have hfz34_6 := blk_frozen BK24002.out 6; have hfz34_7 := blk_frozen BK24002.out 7) | ((with_reducible refine gate_callee (f := 100) rfl ?_); refine goesL_ (some 30) rfl rfl Try.func100 (by kernel_rfl) rfl #[.slice A0_6 l0_6.length c0_6, .slice A1_6 l1_6.length c1_6] rfl (by (try simp only [List.map_toArray, List.map_cons, List.map_nil]); first | done | rfl | (simp only [List.length_drop, List.length_take]; rfl)) ?_; (with_reducible refine (laws_eqIntS.calls k _ _ l0_6 _ _ l1_6 false _ ?side1 ?side2 ?side3 ?side4 A8.out).mono ?_); (case side1 => repeat (first | exact (Kd.C_below HR0_6.out HB.out) | (with_reducible refine Kd.C_alloc ?_ _) | (with_reducible refine Kd.C_drewN ?_ _) | (with_reducible refine Kd.C_drew ?_))); (case side2 => exact HC0_6.out); (case side3 => repeat (first | exact (Kd.C_below HR1_6.out HB.out) | (with_reducible refine Kd.C_alloc ?_ _) | (with_reducible refine Kd.C_drewN ?_ _) | (with_reducible refine Kd.C_drew ?_))); (case side4 => exact HC1_6.out); rintro e w' ⟨rfl, ⟨nd, rfl⟩⟩; refine ⟨_, rfl, ?_⟩))
      go_ret
      exact ⟨by first | rfl | (simp [errW_none, errW_some] <;> rfl) | (simp [*, errW_none, errW_some] <;> rfl), by repeat (first | (with_reducible first | exact HB.out | apply below_alloc | apply pw_below_drewN | apply below_drew1 | refine below_set ?_ GE24001.out | refine below_set ?_ GE24002.out) | exact HB.out)⟩
    ·replace c7 := Bool.eq_false_iff.mpr c7
     subst c7
     have H1 : (some false) = some r := by rw [if_neg (show ¬ (false = true) by decide)] at H; exact H
     clear H
     have H := H1
     clear H1
     obtain rfl := Option.some.inj H
     go_enter Try.func24, Try.ntmps24
     go_wp2_with (first | ((with_reducible refine gate_dst (N := 2) rfl ?_); refine box_event ?hg (N := 2) ?hd (cs := #[.int .i64 a0_0, .string a0_1, .string a0_2, .int .i64 a0_3, .string a0_4, .slice A0_5 l0_5.length c0_5, .slice A0_6 l0_6.length c0_6, .int .i64 a0_7]) (t := 44) ?hr ?_; (case hd => rfl); (case hg => rfl); (case hr => first | (go_simp; done) | (go_simp; rfl)); intro gb24001 hg w35 hbox hb; have n0_ := Aside0.mk (below_step (by repeat (first | (with_reducible first | exact HB.out | apply below_alloc | apply pw_below_drewN | apply below_drew1) | exact HB.out)) hb); have n1_ := Aside0.mk (hbox); have n2_ := Aside0.mk ((by rw [hg]; exact (below_size (by repeat (first | (with_reducible first | exact HB.out | apply below_alloc | apply pw_below_drewN | apply below_drew1) | exact HB.out))) : w.heap.size ≤ gb24001)); have n3_ := Aside0.mk ((by rw [hg]; exact (below_size (by repeat (first | (with_reducible first | exact HB.out | apply below_alloc | apply pw_below_drewN | apply below_drew1) | exact HB.out))) : w.heap.size ≤ gb24001)); clear HB; have HB := n0_; have BK24001 := n1_; have GW24001 := n2_; have GE24001 := n3_; clear n0_ n1_ n2_ n3_; clear hb hbox hg) | ((with_reducible refine gate_dst (N := 3) rfl ?_); refine box_event ?hg (N := 3) ?hd (cs := #[.int .i64 a1_0, .string a1_1, .string a1_2, .int .i64 a1_3, .string a1_4, .slice A1_5 l1_5.length c1_5, .slice A1_6 l1_6.length c1_6, .int .i64 a1_7]) (t := 44) ?hr ?_; (case hd => rfl); (case hg => rfl); (case hr => first | (go_simp; done) | (go_simp; rfl)); intro gb24002 hg w36 hbox hb; have n0_ := Aside0.mk (blk_below (g := gb24001) (o := .cells #[.int .i64 a0_0, .string a0_1, .string a0_2, .int .i64 a0_3, .string a0_4, .slice A0_5 l0_5.length c0_5, .slice A0_6 l0_6.length c0_6, .int .i64 a0_7] 44 (0, 0)) (by (with_reducible repeat (first | refine blk_drewN ?_ _ | refine blk_drew ?_ | refine blk_alloc ?_ _)); exact BK24001.out) hb); have n1_ := Aside0.mk (below_step (by repeat (first | (with_reducible first | exact HB.out | apply below_alloc | apply pw_below_drewN | apply below_drew1 | refine below_set ?_ GE24001.out) | exact HB.out)) hb); have n2_ := Aside0.mk (hbox); have n3_ := Aside0.mk ((by rw [hg]; exact (below_size (by repeat (first | (with_reducible first | exact HB.out | apply below_alloc | apply pw_below_drewN | apply below_drew1 | refine below_set ?_ GE24001.out) | exact HB.out))) : w.heap.size ≤ gb24002)); have n4_ := Aside0.mk ((by rw [hg]; exact (below_size (by repeat (first | (with_reducible first | exact HB.out | apply below_alloc | apply pw_below_drewN | apply below_drew1 | refine below_set ?_ GE24001.out) | exact HB.out))) : w.heap.size ≤ gb24002)); have n5_ := Aside0.mk ((by rw [hg]; exact Nat.ne_of_lt (blk_lt (g := gb24001) (o := .cells #[.int .i64 a0_0, .string a0_1, .string a0_2, .int .i64 a0_3, .string a0_4, .slice A0_5 l0_5.length c0_5, .slice A0_6 l0_6.length c0_6, .int .i64 a0_7] 44 (0, 0)) (by (with_reducible repeat (first | refine blk_drewN ?_ _ | refine blk_drew ?_ | refine blk_alloc ?_ _)); exact BK24001.out)) : gb24001 ≠ gb24002)); have n6_ := Aside0.mk ((by rw [hg]; exact Nat.ne_of_gt (blk_lt (g := gb24001) (o := .cells #[.int .i64 a0_0, .string a0_1, .string a0_2, .int .i64 a0_3, .string a0_4, .slice A0_5 l0_5.length c0_5, .slice A0_6 l0_6.length c0_6, .int .i64 a0_7] 44 (0, 0)) (by (with_reducible repeat (first | refine blk_drewN ?_ _ | refine blk_drew ?_ | refine blk_alloc ?_ _)); exact BK24001.out)) : gb24002 ≠ gb24001)); clear BK24001; clear HB; have BK24001 := n0_; have HB := n1_; have BK24002 := n2_; have GW24002 := n3_; have GE24002 := n4_; have NB24001_24002 := n5_; have NB24002_24001 := n6_; clear n0_ n1_ n2_ n3_ n4_ n5_ n6_; clear hb hbox hg; have hnb37 := NB24001_24002.out; have hnc37 := NB24002_24001.out; have hcz38_0 : w36.cell? ⟨gb24001, 0, none⟩ = some (.int .i64 a0_0) := (blk_cell BK24001.out 0).trans rfl; have hcz38_1 : w36.cell? ⟨gb24001, 1, none⟩ = some (.string a0_1) := (blk_cell BK24001.out 1).trans rfl; have hcz38_2 : w36.cell? ⟨gb24001, 2, none⟩ = some (.string a0_2) := (blk_cell BK24001.out 2).trans rfl; have hcz38_3 : w36.cell? ⟨gb24001, 3, none⟩ = some (.int .i64 a0_3) := (blk_cell BK24001.out 3).trans rfl; have hcz38_4 : w36.cell? ⟨gb24001, 4, none⟩ = some (.string a0_4) := (blk_cell BK24001.out 4).trans rfl; have hcz38_5 : w36.cell? ⟨gb24001, 5, none⟩ = some (.slice A0_5 l0_5.length c0_5) := (blk_cell BK24001.out 5).trans rfl; have hcz38_6 : w36.cell? ⟨gb24001, 6, none⟩ = some (.slice A0_6 l0_6.length c0_6) := (blk_cell BK24001.out 6).trans rfl; have hcz38_7 : w36.cell? ⟨gb24001, 7, none⟩ = some (.int .i64 a0_7) := (blk_cell BK24001.out 7).trans rfl; have hfz38_0 := blk_frozen BK24001.out 0; have hfz38_1 := blk_frozen BK24001.out 1; have hfz38_2 := blk_frozen BK24001.out 2; have hfz38_3 := blk_frozen BK24001.out 3; have hfz38_4 := blk_frozen BK24001.out 4; have hfz38_5 := blk_frozen BK24001.out 5; have hfz38_6 := blk_frozen BK24001.out 6; have hfz38_7 := blk_frozen BK24001.out 7; have hcz39_0 : w36.cell? ⟨gb24002, 0, none⟩ = some (.int .i64 a1_0) := (blk_cell BK24002.out 0).trans rfl; have hcz39_1 : w36.cell? ⟨gb24002, 1, none⟩ = some (.string a1_1) := (blk_cell BK24002.out 1).trans rfl; have hcz39_2 : w36.cell? ⟨gb24002, 2, none⟩ = some (.string a1_2) := (blk_cell BK24002.out 2).trans rfl; have hcz39_3 : w36.cell? ⟨gb24002, 3, none⟩ = some (.int .i64 a1_3) := (blk_cell BK24002.out 3).trans rfl; have hcz39_4 : w36.cell? ⟨gb24002, 4, none⟩ = some (.string a1_4) := (blk_cell BK24002.out 4).trans rfl; have hcz39_5 : w36.cell? ⟨gb24002, 5, none⟩ = some (.slice A1_5 l1_5.length c1_5) := (blk_cell BK24002.out 5).trans rfl; have hcz39_6 : w36.cell? ⟨gb24002, 6, none⟩ = some (.slice A1_6 l1_6.length c1_6) := (blk_cell BK24002.out 6).trans rfl; have hcz39_7 : w36.cell? ⟨gb24002, 7, none⟩ = some (.int .i64 a1_7) := (blk_cell BK24002.out 7).trans rfl; have hfz39_0 := blk_frozen BK24002.out 0; have hfz39_1 := blk_frozen BK24002.out 1; have hfz39_2 := blk_frozen BK24002.out 2; have hfz39_3 := blk_frozen BK24002.out 3; have hfz39_4 := blk_frozen BK24002.out 4; have hfz39_5 := blk_frozen BK24002.out 5; have hfz39_6 := blk_frozen BK24002.out 6; have hfz39_7 := blk_frozen BK24002.out 7) | ((with_reducible refine gate_callee (f := 99) rfl ?_); refine goesL_ (some 24) rfl rfl Try.func99 (by kernel_rfl) rfl #[.agg #[.int .i64 a0_3, .string a0_4, .slice A0_5 l0_5.length c0_5], .agg #[.int .i64 a1_3, .string a1_4, .slice A1_5 l1_5.length c1_5]] rfl (by (try simp only [List.map_toArray, List.map_cons, List.map_nil]); first | done | rfl | (simp only [List.length_drop, List.length_take]; rfl)) ?_; (with_reducible refine (laws_eqRegex.calls k a0_3 a0_4 _ _ l0_5 a1_3 a1_4 _ _ l1_5 false _ ?side1 ?side2 ?side3 ?side4 A6.out).mono ?_); (case side1 => repeat (first | exact (Kd.C_below HR0_5.out HB.out) | (with_reducible refine Kd.C_alloc ?_ _) | (with_reducible refine Kd.C_drewN ?_ _) | (with_reducible refine Kd.C_drew ?_))); (case side2 => exact HC0_5.out); (case side3 => repeat (first | exact (Kd.C_below HR1_5.out HB.out) | (with_reducible refine Kd.C_alloc ?_ _) | (with_reducible refine Kd.C_drewN ?_ _) | (with_reducible refine Kd.C_drew ?_))); (case side4 => exact HC1_5.out); rintro e w40 ⟨rfl, hb⟩; refine ⟨_, rfl, ?_⟩; have n0_ := Aside0.mk (blk_below (g := gb24001) (o := .cells #[.int .i64 a0_0, .string a0_1, .string a0_2, .int .i64 a0_3, .string a0_4, .slice A0_5 l0_5.length c0_5, .slice A0_6 l0_6.length c0_6, .int .i64 a0_7] 44 (0, 0)) (by (with_reducible repeat (first | refine blk_drewN ?_ _ | refine blk_drew ?_ | refine blk_alloc ?_ _)); exact BK24001.out) hb); have n1_ := Aside0.mk (blk_below (g := gb24002) (o := .cells #[.int .i64 a1_0, .string a1_1, .string a1_2, .int .i64 a1_3, .string a1_4, .slice A1_5 l1_5.length c1_5, .slice A1_6 l1_6.length c1_6, .int .i64 a1_7] 44 (0, 0)) (by (with_reducible repeat (first | refine blk_drewN ?_ _ | refine blk_drew ?_ | refine blk_alloc ?_ _)); exact BK24002.out) hb); have n2_ := Aside0.mk (below_step (by repeat (first | (with_reducible first | exact HB.out | apply below_alloc | apply pw_below_drewN | apply below_drew1 | refine below_set ?_ GE24001.out | refine below_set ?_ GE24002.out) | exact HB.out)) hb); clear BK24001; clear BK24002; clear HB; have BK24001 := n0_; have BK24002 := n1_; have HB := n2_; clear n0_ n1_ n2_; (try clear hb); (try clear hb2); (try clear hk); (try clear hi)))
     go_ret
     exact ⟨by first | rfl | (simp [errW_none, errW_some] <;> rfl) | (simp [*, errW_none, errW_some] <;> rfl), by repeat (first | (with_reducible first | exact HB.out | apply below_alloc | apply pw_below_drewN | apply below_drew1 | refine below_set ?_ GE24001.out | refine below_set ?_ GE24002.out) | exact HB.out)⟩
   ·rw [if_neg c5] at H
    have c5b0 : (a0_2.toList == a1_2.toList) = false := beq_eq_false_iff_ne.mpr c5
    have c5b1 : (a0_2.toList != a1_2.toList) = true := bne_iff_ne.mpr c5
    obtain rfl := Option.some.inj H
    go_enter Try.func24, Try.ntmps24
    go_wp2_with (first | ((with_reducible refine gate_dst (N := 2) rfl ?_); refine box_event ?hg (N := 2) ?hd (cs := #[.int .i64 a0_0, .string a0_1, .string a0_2, .int .i64 a0_3, .string a0_4, .slice A0_5 l0_5.length c0_5, .slice A0_6 l0_6.length c0_6, .int .i64 a0_7]) (t := 44) ?hr ?_; (case hd => rfl); (case hg => rfl); (case hr => first | (go_simp; done) | (go_simp; rfl)); intro gb24001 hg w41 hbox hb; have n0_ := Aside0.mk (below_step (by repeat (first | (with_reducible first | exact HB.out | apply below_alloc | apply pw_below_drewN | apply below_drew1) | exact HB.out)) hb); have n1_ := Aside0.mk (hbox); have n2_ := Aside0.mk ((by rw [hg]; exact (below_size (by repeat (first | (with_reducible first | exact HB.out | apply below_alloc | apply pw_below_drewN | apply below_drew1) | exact HB.out))) : w.heap.size ≤ gb24001)); have n3_ := Aside0.mk ((by rw [hg]; exact (below_size (by repeat (first | (with_reducible first | exact HB.out | apply below_alloc | apply pw_below_drewN | apply below_drew1) | exact HB.out))) : w.heap.size ≤ gb24001)); clear HB; have HB := n0_; have BK24001 := n1_; have GW24001 := n2_; have GE24001 := n3_; clear n0_ n1_ n2_ n3_; clear hb hbox hg) | ((with_reducible refine gate_dst (N := 3) rfl ?_); refine box_event ?hg (N := 3) ?hd (cs := #[.int .i64 a1_0, .string a1_1, .string a1_2, .int .i64 a1_3, .string a1_4, .slice A1_5 l1_5.length c1_5, .slice A1_6 l1_6.length c1_6, .int .i64 a1_7]) (t := 44) ?hr ?_; (case hd => rfl); (case hg => rfl); (case hr => first | (go_simp; done) | (go_simp; rfl)); intro gb24002 hg w42 hbox hb; have n0_ := Aside0.mk (blk_below (g := gb24001) (o := .cells #[.int .i64 a0_0, .string a0_1, .string a0_2, .int .i64 a0_3, .string a0_4, .slice A0_5 l0_5.length c0_5, .slice A0_6 l0_6.length c0_6, .int .i64 a0_7] 44 (0, 0)) (by (with_reducible repeat (first | refine blk_drewN ?_ _ | refine blk_drew ?_ | refine blk_alloc ?_ _)); exact BK24001.out) hb); have n1_ := Aside0.mk (below_step (by repeat (first | (with_reducible first | exact HB.out | apply below_alloc | apply pw_below_drewN | apply below_drew1 | refine below_set ?_ GE24001.out) | exact HB.out)) hb); have n2_ := Aside0.mk (hbox); have n3_ := Aside0.mk ((by rw [hg]; exact (below_size (by repeat (first | (with_reducible first | exact HB.out | apply below_alloc | apply pw_below_drewN | apply below_drew1 | refine below_set ?_ GE24001.out) | exact HB.out))) : w.heap.size ≤ gb24002)); have n4_ := Aside0.mk ((by rw [hg]; exact (below_size (by repeat (first | (with_reducible first | exact HB.out | apply below_alloc | apply pw_below_drewN | apply below_drew1 | refine below_set ?_ GE24001.out) | exact HB.out))) : w.heap.size ≤ gb24002)); have n5_ := Aside0.mk ((by rw [hg]; exact Nat.ne_of_lt (blk_lt (g := gb24001) (o := .cells #[.int .i64 a0_0, .string a0_1, .string a0_2, .int .i64 a0_3, .string a0_4, .slice A0_5 l0_5.length c0_5, .slice A0_6 l0_6.length c0_6, .int .i64 a0_7] 44 (0, 0)) (by (with_reducible repeat (first | refine blk_drewN ?_ _ | refine blk_drew ?_ | refine blk_alloc ?_ _)); exact BK24001.out)) : gb24001 ≠ gb24002)); have n6_ := Aside0.mk ((by rw [hg]; exact Nat.ne_of_gt (blk_lt (g := gb24001) (o := .cells #[.int .i64 a0_0, .string a0_1, .string a0_2, .int .i64 a0_3, .string a0_4, .slice A0_5 l0_5.length c0_5, .slice A0_6 l0_6.length c0_6, .int .i64 a0_7] 44 (0, 0)) (by (with_reducible repeat (first | refine blk_drewN ?_ _ | refine blk_drew ?_ | refine blk_alloc ?_ _)); exact BK24001.out)) : gb24002 ≠ gb24001)); clear BK24001; clear HB; have BK24001 := n0_; have HB := n1_; have BK24002 := n2_; have GW24002 := n3_; have GE24002 := n4_; have NB24001_24002 := n5_; have NB24002_24001 := n6_; clear n0_ n1_ n2_ n3_ n4_ n5_ n6_; clear hb hbox hg; have hnb43 := NB24001_24002.out; have hnc43 := NB24002_24001.out; have hcz44_0 : w42.cell? ⟨gb24001, 0, none⟩ = some (.int .i64 a0_0) := (blk_cell BK24001.out 0).trans rfl; have hcz44_1 : w42.cell? ⟨gb24001, 1, none⟩ = some (.string a0_1) := (blk_cell BK24001.out 1).trans rfl; have hcz44_2 : w42.cell? ⟨gb24001, 2, none⟩ = some (.string a0_2) := (blk_cell BK24001.out 2).trans rfl; have hcz44_3 : w42.cell? ⟨gb24001, 3, none⟩ = some (.int .i64 a0_3) := (blk_cell BK24001.out 3).trans rfl; have hcz44_4 : w42.cell? ⟨gb24001, 4, none⟩ = some (.string a0_4) := (blk_cell BK24001.out 4).trans rfl; have hcz44_5 : w42.cell? ⟨gb24001, 5, none⟩ = some (.slice A0_5 l0_5.length c0_5) := (blk_cell BK24001.out 5).trans rfl; have hcz44_6 : w42.cell? ⟨gb24001, 6, none⟩ = some (.slice A0_6 l0_6.length c0_6) := (blk_cell BK24001.out 6).trans rfl; have hcz44_7 : w42.cell? ⟨gb24001, 7, none⟩ = some (.int .i64 a0_7) := (blk_cell BK24001.out 7).trans rfl; have hfz44_0 := blk_frozen BK24001.out 0; have hfz44_1 := blk_frozen BK24001.out 1; have hfz44_2 := blk_frozen BK24001.out 2; have hfz44_3 := blk_frozen BK24001.out 3; have hfz44_4 := blk_frozen BK24001.out 4; have hfz44_5 := blk_frozen BK24001.out 5; have hfz44_6 := blk_frozen BK24001.out 6; have hfz44_7 := blk_frozen BK24001.out 7; have hcz45_0 : w42.cell? ⟨gb24002, 0, none⟩ = some (.int .i64 a1_0) := (blk_cell BK24002.out 0).trans rfl; have hcz45_1 : w42.cell? ⟨gb24002, 1, none⟩ = some (.string a1_1) := (blk_cell BK24002.out 1).trans rfl; have hcz45_2 : w42.cell? ⟨gb24002, 2, none⟩ = some (.string a1_2) := (blk_cell BK24002.out 2).trans rfl; have hcz45_3 : w42.cell? ⟨gb24002, 3, none⟩ = some (.int .i64 a1_3) := (blk_cell BK24002.out 3).trans rfl; have hcz45_4 : w42.cell? ⟨gb24002, 4, none⟩ = some (.string a1_4) := (blk_cell BK24002.out 4).trans rfl; have hcz45_5 : w42.cell? ⟨gb24002, 5, none⟩ = some (.slice A1_5 l1_5.length c1_5) := (blk_cell BK24002.out 5).trans rfl; have hcz45_6 : w42.cell? ⟨gb24002, 6, none⟩ = some (.slice A1_6 l1_6.length c1_6) := (blk_cell BK24002.out 6).trans rfl; have hcz45_7 : w42.cell? ⟨gb24002, 7, none⟩ = some (.int .i64 a1_7) := (blk_cell BK24002.out 7).trans rfl; have hfz45_0 := blk_frozen BK24002.out 0; have hfz45_1 := blk_frozen BK24002.out 1; have hfz45_2 := blk_frozen BK24002.out 2; have hfz45_3 := blk_frozen BK24002.out 3; have hfz45_4 := blk_frozen BK24002.out 4; have hfz45_5 := blk_frozen BK24002.out 5; have hfz45_6 := blk_frozen BK24002.out 6; have hfz45_7 := blk_frozen BK24002.out 7))
    go_ret
    exact ⟨by first | rfl | (simp [errW_none, errW_some] <;> rfl) | (simp [*, errW_none, errW_some] <;> rfl), by repeat (first | (with_reducible first | exact HB.out | apply below_alloc | apply pw_below_drewN | apply below_drew1 | refine below_set ?_ GE24001.out | refine below_set ?_ GE24002.out) | exact HB.out)⟩
  ·rw [if_neg c4] at H
   have c4b0 : (a0_1.toList == a1_1.toList) = false := beq_eq_false_iff_ne.mpr c4
   have c4b1 : (a0_1.toList != a1_1.toList) = true := bne_iff_ne.mpr c4
   obtain rfl := Option.some.inj H
   go_enter Try.func24, Try.ntmps24
   go_wp2_with (first | ((with_reducible refine gate_dst (N := 2) rfl ?_); refine box_event ?hg (N := 2) ?hd (cs := #[.int .i64 a0_0, .string a0_1, .string a0_2, .int .i64 a0_3, .string a0_4, .slice A0_5 l0_5.length c0_5, .slice A0_6 l0_6.length c0_6, .int .i64 a0_7]) (t := 44) ?hr ?_; (case hd => rfl); (case hg => rfl); (case hr => first | (go_simp; done) | (go_simp; rfl)); intro gb24001 hg w46 hbox hb; have n0_ := Aside0.mk (below_step (by repeat (first | (with_reducible first | exact HB.out | apply below_alloc | apply pw_below_drewN | apply below_drew1) | exact HB.out)) hb); have n1_ := Aside0.mk (hbox); have n2_ := Aside0.mk ((by rw [hg]; exact (below_size (by repeat (first | (with_reducible first | exact HB.out | apply below_alloc | apply pw_below_drewN | apply below_drew1) | exact HB.out))) : w.heap.size ≤ gb24001)); have n3_ := Aside0.mk ((by rw [hg]; exact (below_size (by repeat (first | (with_reducible first | exact HB.out | apply below_alloc | apply pw_below_drewN | apply below_drew1) | exact HB.out))) : w.heap.size ≤ gb24001)); clear HB; have HB := n0_; have BK24001 := n1_; have GW24001 := n2_; have GE24001 := n3_; clear n0_ n1_ n2_ n3_; clear hb hbox hg) | ((with_reducible refine gate_dst (N := 3) rfl ?_); refine box_event ?hg (N := 3) ?hd (cs := #[.int .i64 a1_0, .string a1_1, .string a1_2, .int .i64 a1_3, .string a1_4, .slice A1_5 l1_5.length c1_5, .slice A1_6 l1_6.length c1_6, .int .i64 a1_7]) (t := 44) ?hr ?_; (case hd => rfl); (case hg => rfl); (case hr => first | (go_simp; done) | (go_simp; rfl)); intro gb24002 hg w47 hbox hb; have n0_ := Aside0.mk (blk_below (g := gb24001) (o := .cells #[.int .i64 a0_0, .string a0_1, .string a0_2, .int .i64 a0_3, .string a0_4, .slice A0_5 l0_5.length c0_5, .slice A0_6 l0_6.length c0_6, .int .i64 a0_7] 44 (0, 0)) (by (with_reducible repeat (first | refine blk_drewN ?_ _ | refine blk_drew ?_ | refine blk_alloc ?_ _)); exact BK24001.out) hb); have n1_ := Aside0.mk (below_step (by repeat (first | (with_reducible first | exact HB.out | apply below_alloc | apply pw_below_drewN | apply below_drew1 | refine below_set ?_ GE24001.out) | exact HB.out)) hb); have n2_ := Aside0.mk (hbox); have n3_ := Aside0.mk ((by rw [hg]; exact (below_size (by repeat (first | (with_reducible first | exact HB.out | apply below_alloc | apply pw_below_drewN | apply below_drew1 | refine below_set ?_ GE24001.out) | exact HB.out))) : w.heap.size ≤ gb24002)); have n4_ := Aside0.mk ((by rw [hg]; exact (below_size (by repeat (first | (with_reducible first | exact HB.out | apply below_alloc | apply pw_below_drewN | apply below_drew1 | refine below_set ?_ GE24001.out) | exact HB.out))) : w.heap.size ≤ gb24002)); have n5_ := Aside0.mk ((by rw [hg]; exact Nat.ne_of_lt (blk_lt (g := gb24001) (o := .cells #[.int .i64 a0_0, .string a0_1, .string a0_2, .int .i64 a0_3, .string a0_4, .slice A0_5 l0_5.length c0_5, .slice A0_6 l0_6.length c0_6, .int .i64 a0_7] 44 (0, 0)) (by (with_reducible repeat (first | refine blk_drewN ?_ _ | refine blk_drew ?_ | refine blk_alloc ?_ _)); exact BK24001.out)) : gb24001 ≠ gb24002)); have n6_ := Aside0.mk ((by rw [hg]; exact Nat.ne_of_gt (blk_lt (g := gb24001) (o := .cells #[.int .i64 a0_0, .string a0_1, .string a0_2, .int .i64 a0_3, .string a0_4, .slice A0_5 l0_5.length c0_5, .slice A0_6 l0_6.length c0_6, .int .i64 a0_7] 44 (0, 0)) (by (with_reducible repeat (first | refine blk_drewN ?_ _ | refine blk_drew ?_ | refine blk_alloc ?_ _)); exact BK24001.out)) : gb24002 ≠ gb24001)); clear BK24001; clear HB; have BK24001 := n0_; have HB := n1_; have BK24002 := n2_; have GW24002 := n3_; have GE24002 := n4_; have NB24001_24002 := n5_; have NB24002_24001 := n6_; clear n0_ n1_ n2_ n3_ n4_ n5_ n6_; clear hb hbox hg; have hnb48 := NB24001_24002.out; have hnc48 := NB24002_24001.out; have hcz49_0 : w47.cell? ⟨gb24001, 0, none⟩ = some (.int .i64 a0_0) := (blk_cell BK24001.out 0).trans rfl; have hcz49_1 : w47.cell? ⟨gb24001, 1, none⟩ = some (.string a0_1) := (blk_cell BK24001.out 1).trans rfl; have hcz49_2 : w47.cell? ⟨gb24001, 2, none⟩ = some (.string a0_2) := (blk_cell BK24001.out 2).trans rfl; have hcz49_3 : w47.cell? ⟨gb24001, 3, none⟩ = some (.int .i64 a0_3) := (blk_cell BK24001.out 3).trans rfl; have hcz49_4 : w47.cell? ⟨gb24001, 4, none⟩ = some (.string a0_4) := (blk_cell BK24001.out 4).trans rfl; have hcz49_5 : w47.cell? ⟨gb24001, 5, none⟩ = some (.slice A0_5 l0_5.length c0_5) := (blk_cell BK24001.out 5).trans rfl; have hcz49_6 : w47.cell? ⟨gb24001, 6, none⟩ = some (.slice A0_6 l0_6.length c0_6) := (blk_cell BK24001.out 6).trans rfl; have hcz49_7 : w47.cell? ⟨gb24001, 7, none⟩ = some (.int .i64 a0_7) := (blk_cell BK24001.out 7).trans rfl; have hfz49_0 := blk_frozen BK24001.out 0; have hfz49_1 := blk_frozen BK24001.out 1; have hfz49_2 := blk_frozen BK24001.out 2; have hfz49_3 := blk_frozen BK24001.out 3; have hfz49_4 := blk_frozen BK24001.out 4; have hfz49_5 := blk_frozen BK24001.out 5; have hfz49_6 := blk_frozen BK24001.out 6; have hfz49_7 := blk_frozen BK24001.out 7; have hcz50_0 : w47.cell? ⟨gb24002, 0, none⟩ = some (.int .i64 a1_0) := (blk_cell BK24002.out 0).trans rfl; have hcz50_1 : w47.cell? ⟨gb24002, 1, none⟩ = some (.string a1_1) := (blk_cell BK24002.out 1).trans rfl; have hcz50_2 : w47.cell? ⟨gb24002, 2, none⟩ = some (.string a1_2) := (blk_cell BK24002.out 2).trans rfl; have hcz50_3 : w47.cell? ⟨gb24002, 3, none⟩ = some (.int .i64 a1_3) := (blk_cell BK24002.out 3).trans rfl; have hcz50_4 : w47.cell? ⟨gb24002, 4, none⟩ = some (.string a1_4) := (blk_cell BK24002.out 4).trans rfl; have hcz50_5 : w47.cell? ⟨gb24002, 5, none⟩ = some (.slice A1_5 l1_5.length c1_5) := (blk_cell BK24002.out 5).trans rfl; have hcz50_6 : w47.cell? ⟨gb24002, 6, none⟩ = some (.slice A1_6 l1_6.length c1_6) := (blk_cell BK24002.out 6).trans rfl; have hcz50_7 : w47.cell? ⟨gb24002, 7, none⟩ = some (.int .i64 a1_7) := (blk_cell BK24002.out 7).trans rfl; have hfz50_0 := blk_frozen BK24002.out 0; have hfz50_1 := blk_frozen BK24002.out 1; have hfz50_2 := blk_frozen BK24002.out 2; have hfz50_3 := blk_frozen BK24002.out 3; have hfz50_4 := blk_frozen BK24002.out 4; have hfz50_5 := blk_frozen BK24002.out 5; have hfz50_6 := blk_frozen BK24002.out 6; have hfz50_7 := blk_frozen BK24002.out 7))
   go_ret
   exact ⟨by first | rfl | (simp [errW_none, errW_some] <;> rfl) | (simp [*, errW_none, errW_some] <;> rfl), by repeat (first | (with_reducible first | exact HB.out | apply below_alloc | apply pw_below_drewN | apply below_drew1 | refine below_set ?_ GE24001.out | refine below_set ?_ GE24002.out) | exact HB.out)⟩
 ·rw [if_neg c3] at H
  have c3b0 : (a0_0 == a1_0) = false := beq_eq_false_iff_ne.mpr c3
  have c3b1 : (a0_0 != a1_0) = true := bne_iff_ne.mpr c3
  obtain rfl := Option.some.inj H
  go_enter Try.func24, Try.ntmps24
  go_wp2_with (first | ((with_reducible refine gate_dst (N := 2) rfl ?_); refine box_event ?hg (N := 2) ?hd (cs := #[.int .i64 a0_0, .string a0_1, .string a0_2, .int .i64 a0_3, .string a0_4, .slice A0_5 l0_5.length c0_5, .slice A0_6 l0_6.length c0_6, .int .i64 a0_7]) (t := 44) ?hr ?_; (case hd => rfl); (case hg => rfl); (case hr => first | (go_simp; done) | (go_simp; rfl)); intro gb24001 hg w51 hbox hb; have n0_ := Aside0.mk (below_step (by repeat (first | (with_reducible first | exact HB.out | apply below_alloc | apply pw_below_drewN | apply below_drew1) | exact HB.out)) hb); have n1_ := Aside0.mk (hbox); have n2_ := Aside0.mk ((by rw [hg]; exact (below_size (by repeat (first | (with_reducible first | exact HB.out | apply below_alloc | apply pw_below_drewN | apply below_drew1) | exact HB.out))) : w.heap.size ≤ gb24001)); have n3_ := Aside0.mk ((by rw [hg]; exact (below_size (by repeat (first | (with_reducible first | exact HB.out | apply below_alloc | apply pw_below_drewN | apply below_drew1) | exact HB.out))) : w.heap.size ≤ gb24001)); clear HB; have HB := n0_; have BK24001 := n1_; have GW24001 := n2_; have GE24001 := n3_; clear n0_ n1_ n2_ n3_; clear hb hbox hg) | ((with_reducible refine gate_dst (N := 3) rfl ?_); refine box_event ?hg (N := 3) ?hd (cs := #[.int .i64 a1_0, .string a1_1, .string a1_2, .int .i64 a1_3, .string a1_4, .slice A1_5 l1_5.length c1_5, .slice A1_6 l1_6.length c1_6, .int .i64 a1_7]) (t := 44) ?hr ?_; (case hd => rfl); (case hg => rfl); (case hr => first | (go_simp; done) | (go_simp; rfl)); intro gb24002 hg w52 hbox hb; have n0_ := Aside0.mk (blk_below (g := gb24001) (o := .cells #[.int .i64 a0_0, .string a0_1, .string a0_2, .int .i64 a0_3, .string a0_4, .slice A0_5 l0_5.length c0_5, .slice A0_6 l0_6.length c0_6, .int .i64 a0_7] 44 (0, 0)) (by (with_reducible repeat (first | refine blk_drewN ?_ _ | refine blk_drew ?_ | refine blk_alloc ?_ _)); exact BK24001.out) hb); have n1_ := Aside0.mk (below_step (by repeat (first | (with_reducible first | exact HB.out | apply below_alloc | apply pw_below_drewN | apply below_drew1 | refine below_set ?_ GE24001.out) | exact HB.out)) hb); have n2_ := Aside0.mk (hbox); have n3_ := Aside0.mk ((by rw [hg]; exact (below_size (by repeat (first | (with_reducible first | exact HB.out | apply below_alloc | apply pw_below_drewN | apply below_drew1 | refine below_set ?_ GE24001.out) | exact HB.out))) : w.heap.size ≤ gb24002)); have n4_ := Aside0.mk ((by rw [hg]; exact (below_size (by repeat (first | (with_reducible first | exact HB.out | apply below_alloc | apply pw_below_drewN | apply below_drew1 | refine below_set ?_ GE24001.out) | exact HB.out))) : w.heap.size ≤ gb24002)); have n5_ := Aside0.mk ((by rw [hg]; exact Nat.ne_of_lt (blk_lt (g := gb24001) (o := .cells #[.int .i64 a0_0, .string a0_1, .string a0_2, .int .i64 a0_3, .string a0_4, .slice A0_5 l0_5.length c0_5, .slice A0_6 l0_6.length c0_6, .int .i64 a0_7] 44 (0, 0)) (by (with_reducible repeat (first | refine blk_drewN ?_ _ | refine blk_drew ?_ | refine blk_alloc ?_ _)); exact BK24001.out)) : gb24001 ≠ gb24002)); have n6_ := Aside0.mk ((by rw [hg]; exact Nat.ne_of_gt (blk_lt (g := gb24001) (o := .cells #[.int .i64 a0_0, .string a0_1, .string a0_2, .int .i64 a0_3, .string a0_4, .slice A0_5 l0_5.length c0_5, .slice A0_6 l0_6.length c0_6, .int .i64 a0_7] 44 (0, 0)) (by (with_reducible repeat (first | refine blk_drewN ?_ _ | refine blk_drew ?_ | refine blk_alloc ?_ _)); exact BK24001.out)) : gb24002 ≠ gb24001)); clear BK24001; clear HB; have BK24001 := n0_; have HB := n1_; have BK24002 := n2_; have GW24002 := n3_; have GE24002 := n4_; have NB24001_24002 := n5_; have NB24002_24001 := n6_; clear n0_ n1_ n2_ n3_ n4_ n5_ n6_; clear hb hbox hg; have hnb53 := NB24001_24002.out; have hnc53 := NB24002_24001.out; have hcz54_0 : w52.cell? ⟨gb24001, 0, none⟩ = some (.int .i64 a0_0) := (blk_cell BK24001.out 0).trans rfl; have hcz54_1 : w52.cell? ⟨gb24001, 1, none⟩ = some (.string a0_1) := (blk_cell BK24001.out 1).trans rfl; have hcz54_2 : w52.cell? ⟨gb24001, 2, none⟩ = some (.string a0_2) := (blk_cell BK24001.out 2).trans rfl; have hcz54_3 : w52.cell? ⟨gb24001, 3, none⟩ = some (.int .i64 a0_3) := (blk_cell BK24001.out 3).trans rfl; have hcz54_4 : w52.cell? ⟨gb24001, 4, none⟩ = some (.string a0_4) := (blk_cell BK24001.out 4).trans rfl; have hcz54_5 : w52.cell? ⟨gb24001, 5, none⟩ = some (.slice A0_5 l0_5.length c0_5) := (blk_cell BK24001.out 5).trans rfl; have hcz54_6 : w52.cell? ⟨gb24001, 6, none⟩ = some (.slice A0_6 l0_6.length c0_6) := (blk_cell BK24001.out 6).trans rfl; have hcz54_7 : w52.cell? ⟨gb24001, 7, none⟩ = some (.int .i64 a0_7) := (blk_cell BK24001.out 7).trans rfl; have hfz54_0 := blk_frozen BK24001.out 0; have hfz54_1 := blk_frozen BK24001.out 1; have hfz54_2 := blk_frozen BK24001.out 2; have hfz54_3 := blk_frozen BK24001.out 3; have hfz54_4 := blk_frozen BK24001.out 4; have hfz54_5 := blk_frozen BK24001.out 5; have hfz54_6 := blk_frozen BK24001.out 6; have hfz54_7 := blk_frozen BK24001.out 7; have hcz55_0 : w52.cell? ⟨gb24002, 0, none⟩ = some (.int .i64 a1_0) := (blk_cell BK24002.out 0).trans rfl; have hcz55_1 : w52.cell? ⟨gb24002, 1, none⟩ = some (.string a1_1) := (blk_cell BK24002.out 1).trans rfl; have hcz55_2 : w52.cell? ⟨gb24002, 2, none⟩ = some (.string a1_2) := (blk_cell BK24002.out 2).trans rfl; have hcz55_3 : w52.cell? ⟨gb24002, 3, none⟩ = some (.int .i64 a1_3) := (blk_cell BK24002.out 3).trans rfl; have hcz55_4 : w52.cell? ⟨gb24002, 4, none⟩ = some (.string a1_4) := (blk_cell BK24002.out 4).trans rfl; have hcz55_5 : w52.cell? ⟨gb24002, 5, none⟩ = some (.slice A1_5 l1_5.length c1_5) := (blk_cell BK24002.out 5).trans rfl; have hcz55_6 : w52.cell? ⟨gb24002, 6, none⟩ = some (.slice A1_6 l1_6.length c1_6) := (blk_cell BK24002.out 6).trans rfl; have hcz55_7 : w52.cell? ⟨gb24002, 7, none⟩ = some (.int .i64 a1_7) := (blk_cell BK24002.out 7).trans rfl; have hfz55_0 := blk_frozen BK24002.out 0; have hfz55_1 := blk_frozen BK24002.out 1; have hfz55_2 := blk_frozen BK24002.out 2; have hfz55_3 := blk_frozen BK24002.out 3; have hfz55_4 := blk_frozen BK24002.out 4; have hfz55_5 := blk_frozen BK24002.out 5; have hfz55_6 := blk_frozen BK24002.out 6; have hfz55_7 := blk_frozen BK24002.out 7))
  go_ret
  exact ⟨by first | rfl | (simp [errW_none, errW_some] <;> rfl) | (simp [*, errW_none, errW_some] <;> rfl), by repeat (first | (with_reducible first | exact HB.out | apply below_alloc | apply pw_below_drewN | apply below_drew1 | refine below_set ?_ GE24001.out | refine below_set ?_ GE24002.out) | exact HB.out)⟩
end Go.Proofs.Ytpppopdmnejcfaa.A
namespace Go.Proofs.Ytpppopdmnejcfaa.A
open Go.RowKit Go.Proofs.Ytpppopdmnejcfaa.Ext Go.Proofs.YtpppopdmnejcfaaW.PrintWords Go.Proofs.YtpppopdmnejcfaaW.PrintLast Go.Proofs.YtpppopdmnejcfaaW.PrintMore
attribute [local go_sem] max2_int min2_int max_two min_two max_three min_three max_four min_four
def laws_eqConstraintS.l0 : Nat → List (S44) → List (S44) → Int → Option (Bool)
 | 0, _, _, _ => none
 | k + 1, x0, x1, x5 => if x5 < (x0.length : Int) then (if 0 ≤ x5 then (if x5 < (x1.length : Int) then ((laws_eqConstraint.f k ((rd_T44 x0 x5).f0) ((rd_T44 x0 x5).f1) ((rd_T44 x0 x5).f2) ((rd_T44 x0 x5).f3.f0) ((rd_T44 x0 x5).f3.f1) ((rd_T44 x0 x5).f3.f2) ((rd_T44 x0 x5).f4) ((rd_T44 x0 x5).f5) ((rd_T44 x1 x5).f0) ((rd_T44 x1 x5).f1) ((rd_T44 x1 x5).f2) ((rd_T44 x1 x5).f3.f0) ((rd_T44 x1 x5).f3.f1) ((rd_T44 x1 x5).f3.f2) ((rd_T44 x1 x5).f4) ((rd_T44 x1 x5).f5)).bind fun t85003 => (if t85003 = true then (laws_eqConstraintS.l0 k x0 x1 (wrap64 (x5 + 1))) else (some false))) else (none)) else (none)) else (some true)
def laws_eqConstraintS.f (k : Nat) (l0 : List (S44)) (l1 : List (S44)) : Option (Bool) := if (l0.length : Int) = (l1.length : Int) then (laws_eqConstraintS.l0 k l0 l1 0) else (some false)
theorem laws_eqConstraintS.mono_l : ∀ k, (∀ y0 y1 y2, LeO (laws_eqConstraintS.l0 k y0 y1 y2) (laws_eqConstraintS.l0 (k + 1) y0 y1 y2))
 | 0 => fun _ _ _ r h => by simp [laws_eqConstraintS.l0] at h
 | k + 1 => by
  have ih0 := laws_eqConstraintS.mono_l k
  ·intro y0 y1 y2
   unfold laws_eqConstraintS.l0
   repeat' first
   | (with_reducible exact ih0 _ _ _)
   | (with_reducible exact laws_eqConstraint.mono _ _ _ _ _ _ _ _ _ _ _ _ _ _ _ _ _)
   | (with_reducible exact LeO.refl _)
   | (with_reducible exact LeO.none _)
   | (with_reducible refine LeO.ite ?_ ?_)
   | (with_reducible refine LeO.bind ?_ (fun _ => ?_))
theorem laws_eqConstraintS.mono : ∀ a0 a1 k, LeO (laws_eqConstraintS.f k a0 a1) (laws_eqConstraintS.f (k + 1) a0 a1) := by
 intro a0 a1 k
 have ih0 := laws_eqConstraintS.mono_l k
 unfold laws_eqConstraintS.f
 repeat' first
   | (with_reducible exact ih0 _ _ _)
   | (with_reducible exact laws_eqConstraint.mono _ _ _ _ _ _ _ _ _ _ _ _ _ _ _ _ _)
   | (with_reducible exact LeO.refl _)
   | (with_reducible exact LeO.none _)
   | (with_reducible refine LeO.ite ?_ ?_)
   | (with_reducible refine LeO.bind ?_ (fun _ => ?_))
def laws_eqConstraintS.T6 : Bool × List (List Nat × List Nat) := (true, [([], []), ([], []), ([0, 1], [0, 1]), ([2], [2]), ([], []), ([], []), ([4, 5], [4, 5]), ([6], [6]), ([3, 7], [3, 7]), ([8], [8])])
def laws_eqConstraintS.B6 : List Nat := [0, 0, 3, 7, 0, 0, 48, 112, 255, 511]
theorem laws_eqConstraintS.tab6 : rtab .any (opsOf Try.f85 6) = laws_eqConstraintS.T6 := by kernel_rfl
theorem laws_eqConstraintS.bits6 : waitsOk laws_eqConstraintS.T6.2 laws_eqConstraintS.B6 = true := by kernel_rfl
theorem laws_eqConstraintS.calls (k : Nat) (A0 : Option Addr) (c0 : Nat) (l0 : List (S44)) (A1 : Option Addr) (c1 : Nat) (l1 : List (S44)) (r : Bool) (w : World) (hr0 : Kd.C k44 w A0 l0.length l0) (hc0 : l0.length ≤ c0) (hr1 : Kd.C k44 w A1 l1.length l1) (hc1 : l1.length ≤ c1) (h : laws_eqConstraintS.f k l0 l1 = some r) :
  Calls Try.prog 85 #[.slice A0 l0.length c0, .slice A1 l1.length c1] w fun e w' => e = .returned (.bool r) ∧ Below w.heap.size w w' := by
 have hu44 := Try.underlying44
 have HR0 := Aside0.mk hr0
 have HC0 := Aside0.mk hc0
 clear hr0 hc0
 have HR1 := Aside0.mk hr1
 have HC1 := Aside0.mk hc1
 clear hr1 hc1
 have HB := Aside0.mk (Below.refl w.heap.size w)
 have H : (if (l0.length : Int) = (l1.length : Int) then (laws_eqConstraintS.l0 k l0 l1 0) else (some false)) = some r := h
 clear h
 by_cases c3 : (l0.length : Int) = (l1.length : Int)
 ·rw [if_pos c3] at H
  have c3b0 : ((l0.length : Int) == (l1.length : Int)) = true := beq_iff_eq.mpr c3
  have c3b1 : ((l0.length : Int) != (l1.length : Int)) = false := bne_eq_false_iff_eq.mpr c3
  have c3b2 : (l0.length == l1.length) = true := by first | simpa using c3 | (simp at c3 ⊢; omega)
  clear c3
  have H' := Aside0.mk H
  clear H
  go_enter Try.func85, Try.ntmps85
  go_wp2
  first | go_loopg [5] k (fun kq v5 w' => ∃ (x5_1 : Int), v5 = .int .i64 x5_1 ∧ Aside0 (laws_eqConstraintS.l0 kq l0 l1 x5_1 = some r) ∧ Aside0 (kq ≤ k) ∧ Aside0 (Below w.heap.size w w')) | (simp only [Act.put, List.setIfInBounds_toArray, List.set_cons_succ, List.set_cons_zero]; go_loopg [5] k (fun kq v5 w' => ∃ (x5_1 : Int), v5 = .int .i64 x5_1 ∧ Aside0 (laws_eqConstraintS.l0 kq l0 l1 x5_1 = some r) ∧ Aside0 (kq ≤ k) ∧ Aside0 (Below w.heap.size w w')))
  case atStart => exact ⟨(0), (by first | rfl | (simp; done) | (simp [*]; done)), H', ⟨Nat.le_refl _⟩, ⟨by repeat (first | (with_reducible first | exact HB.out | apply below_alloc | apply pw_below_drewN | apply below_drew1) | exact HB.out)⟩⟩
  case round =>
   clear H'
   try clear c1
   try clear p2
   try clear c3
   try clear c3b0
   try clear c3b1
   try clear c3b2
   obtain ⟨x5_1, rfl, HA, HK1, HB⟩ := hrel
   cases gk with
   | zero => exact absurd HA.out (by simp [laws_eqConstraintS.l0])
   | succ k1 =>
    have H := HA.out
    clear HA
    simp only [laws_eqConstraintS.l0] at H
    by_cases c4 : x5_1 < (l0.length : Int)
    ·rw [if_pos c4] at H
     have c4b0 : decide (x5_1 < (l0.length : Int)) = true := decide_eq_true c4
     clear c4
     by_cases c5 : 0 ≤ x5_1
     ·rw [if_pos c5] at H
      have c5b0 : decide (0 ≤ x5_1) = true := decide_eq_true c5
      clear c5
      by_cases c6 : x5_1 < (l1.length : Int)
      ·rw [if_pos c6] at H
       have c6b0 : decide (x5_1 < (l1.length : Int)) = true := decide_eq_true c6
       clear c6
       replace H := Option.bind_eq_some_iff.mp H
       obtain ⟨t85003, A70, H⟩ := H
       replace H : (if t85003 = true then (laws_eqConstraintS.l0 k1 l0 l1 (wrap64 (x5_1 + 1))) else (some false)) = some r := H
       have A7 := Aside0.mk A70
       clear A70
       by_cases c8 : t85003 = true
       ·subst c8
        have H1 : (laws_eqConstraintS.l0 k1 l0 l1 (wrap64 (x5_1 + 1))) = some r := by rw [if_pos rfl] at H; exact H
        clear H
        have H := H1
        clear H1
        have H' := Aside0.mk H
        clear H
        try go_wp2
        have n0_ := Aside0.mk (below_drew1 HB.out)
        clear HB
        have HB := n0_
        clear n0_
        have p85001 : 0 ≤ (x5_1 : Int) := of_decide_eq_true (by first | (with_reducible assumption) | assumption)
        have q85001 : x5_1 < (l0.length : Int) := of_decide_eq_true (by first | (with_reducible assumption) | assumption)
        obtain ⟨ad85001, A85001_5, c85001_5, A85001_6, c85001_6, e85001, hx85001_0, hx85001_1, hx85001_2, hx85001_3, hx85001_4, hx85001_5, hx85001_6, hx85001_7, hl85001_5, hi85001_5, hl85001_6, hi85001_6⟩ := at_T44 HR0.out x5_1 p85001 q85001
        have hw85001_7 := hx85001_7
        have hw85001_6 := hx85001_6
        have hw85001_5 := hx85001_5
        have hw85001_4 := hx85001_4
        have hw85001_3 := hx85001_3
        have hw85001_2 := hx85001_2
        have hw85001_1 := hx85001_1
        have hw85001_0 := hx85001_0
        cases e85001
        replace hx85001_0 := (HB.out.cell (World.block_lt_of_cell? w _ hx85001_0)).trans hx85001_0
        replace hx85001_1 := (HB.out.cell (World.block_lt_of_cell? w _ hx85001_1)).trans hx85001_1
        replace hx85001_2 := (HB.out.cell (World.block_lt_of_cell? w _ hx85001_2)).trans hx85001_2
        replace hx85001_3 := (HB.out.cell (World.block_lt_of_cell? w _ hx85001_3)).trans hx85001_3
        replace hx85001_4 := (HB.out.cell (World.block_lt_of_cell? w _ hx85001_4)).trans hx85001_4
        replace hx85001_5 := (HB.out.cell (World.block_lt_of_cell? w _ hx85001_5)).trans hx85001_5
        replace hx85001_6 := (HB.out.cell (World.block_lt_of_cell? w _ hx85001_6)).trans hx85001_6
        replace hx85001_7 := (HB.out.cell (World.block_lt_of_cell? w _ hx85001_7)).trans hx85001_7
        have HR85001_5 := Aside0.mk hi85001_5
        have HC85001_5 := Aside0.mk hl85001_5
        clear hi85001_5 hl85001_5
        have HR85001_6 := Aside0.mk hi85001_6
        have HC85001_6 := Aside0.mk hl85001_6
        clear hi85001_6 hl85001_6
        replace p85001 := eq_true p85001
        replace q85001 := eq_true q85001
        have p85002 : 0 ≤ (x5_1 : Int) := of_decide_eq_true (by first | (with_reducible assumption) | assumption)
        have q85002 : x5_1 < (l1.length : Int) := of_decide_eq_true (by first | (with_reducible assumption) | assumption)
        obtain ⟨ad85002, A85002_5, c85002_5, A85002_6, c85002_6, e85002, hx85002_0, hx85002_1, hx85002_2, hx85002_3, hx85002_4, hx85002_5, hx85002_6, hx85002_7, hl85002_5, hi85002_5, hl85002_6, hi85002_6⟩ := at_T44 HR1.out x5_1 p85002 q85002
        have hw85002_7 := hx85002_7
        have hw85002_6 := hx85002_6
        have hw85002_5 := hx85002_5
        have hw85002_4 := hx85002_4
        have hw85002_3 := hx85002_3
        have hw85002_2 := hx85002_2
        have hw85002_1 := hx85002_1
        have hw85002_0 := hx85002_0
        cases e85002
        replace hx85002_0 := (HB.out.cell (World.block_lt_of_cell? w _ hx85002_0)).trans hx85002_0
        replace hx85002_1 := (HB.out.cell (World.block_lt_of_cell? w _ hx85002_1)).trans hx85002_1
        replace hx85002_2 := (HB.out.cell (World.block_lt_of_cell? w _ hx85002_2)).trans hx85002_2
        replace hx85002_3 := (HB.out.cell (World.block_lt_of_cell? w _ hx85002_3)).trans hx85002_3
        replace hx85002_4 := (HB.out.cell (World.block_lt_of_cell? w _ hx85002_4)).trans hx85002_4
        replace hx85002_5 := (HB.out.cell (World.block_lt_of_cell? w _ hx85002_5)).trans hx85002_5
        replace hx85002_6 := (HB.out.cell (World.block_lt_of_cell? w _ hx85002_6)).trans hx85002_6
        replace hx85002_7 := (HB.out.cell (World.block_lt_of_cell? w _ hx85002_7)).trans hx85002_7
        have HR85002_5 := Aside0.mk hi85002_5
        have HC85002_5 := Aside0.mk hl85002_5
        clear hi85002_5 hl85002_5
        have HR85002_6 := Aside0.mk hi85002_6
        have HC85002_6 := Aside0.mk hl85002_6
        clear hi85002_6 hl85002_6
        replace p85002 := eq_true p85002
        replace q85002 := eq_true q85002
        refine start_ (n := 10) (S := fun w' => w'.cell? (ad85001.add ((x5_1).toNat * 8)) = some (.int .i64 ((rd_T44 l0 x5_1).f0)) ∧ w'.cell? ⟨(ad85001.add ((x5_1).toNat * 8)).block, (ad85001.add ((x5_1).toNat * 8)).off + 1, none⟩ = some (.string ((rd_T44 l0 x5_1).f1)) ∧ w'.cell? ⟨(ad85001.add ((x5_1).toNat * 8)).block, (ad85001.add ((x5_1).toNat * 8)).off + 2, none⟩ = some (.string ((rd_T44 l0 x5_1).f2)) ∧ w'.cell? ⟨(ad85001.add ((x5_1).toNat * 8)).block, (ad85001.add ((x5_1).toNat * 8)).off + 3, none⟩ = some (.int .i64 ((rd_T44 l0 x5_1).f3.f0)) ∧ w'.cell? ⟨(ad85001.add ((x5_1).toNat * 8)).block, (ad85001.add ((x5_1).toNat * 8)).off + 4, none⟩ = some (.string ((rd_T44 l0 x5_1).f3.f1)) ∧ w'.cell? ⟨(ad85001.add ((x5_1).toNat * 8)).block, (ad85001.add ((x5_1).toNat * 8)).off + 5, none⟩ = some (.slice A85001_5 ((rd_T44 l0 x5_1).f3.f2).length c85001_5) ∧ w'.cell? ⟨(ad85001.add ((x5_1).toNat * 8)).block, (ad85001.add ((x5_1).toNat * 8)).off + 6, none⟩ = some (.slice A85001_6 ((rd_T44 l0 x5_1).f4).length c85001_6) ∧ w'.cell? ⟨(ad85001.add ((x5_1).toNat * 8)).block, (ad85001.add ((x5_1).toNat * 8)).off + 7, none⟩ = some (.int .i64 ((rd_T44 l0 x5_1).f5)) ∧ w'.cell? (ad85002.add ((x5_1).toNat * 8)) = some (.int .i64 ((rd_T44 l1 x5_1).f0)) ∧ w'.cell? ⟨(ad85002.add ((x5_1).toNat * 8)).block, (ad85002.add ((x5_1).toNat * 8)).off + 1, none⟩ = some (.string ((rd_T44 l1 x5_1).f1)) ∧ w'.cell? ⟨(ad85002.add ((x5_1).toNat * 8)).block, (ad85002.add ((x5_1).toNat * 8)).off + 2, none⟩ = some (.string ((rd_T44 l1 x5_1).f2)) ∧ w'.cell? ⟨(ad85002.add ((x5_1).toNat * 8)).block, (ad85002.add ((x5_1).toNat * 8)).off + 3, none⟩ = some (.int .i64 ((rd_T44 l1 x5_1).f3.f0)) ∧ w'.cell? ⟨(ad85002.add ((x5_1).toNat * 8)).block, (ad85002.add ((x5_1).toNat * 8)).off + 4, none⟩ = some (.string ((rd_T44 l1 x5_1).f3.f1)) ∧ w'.cell? ⟨(ad85002.add ((x5_1).toNat * 8)).block, (ad85002.add ((x5_1).toNat * 8)).off + 5, none⟩ = some (.slice A85002_5 ((rd_T44 l1 x5_1).f3.f2).length c85002_5) ∧ w'.cell? ⟨(ad85002.add ((x5_1).toNat * 8)).block, (ad85002.add ((x5_1).toNat * 8)).off + 6, none⟩ = some (.slice A85002_6 ((rd_T44 l1 x5_1).f4).length c85002_6) ∧ w'.cell? ⟨(ad85002.add ((x5_1).toNat * 8)).block, (ad85002.add ((x5_1).toNat * 8)).off + 7, none⟩ = some (.int .i64 ((rd_T44 l1 x5_1).f5))) (ds := []) #[false, false, false, false, false, false, false, false, false, false] (by kernel_rfl) rfl rfl ⟨((HB.out.cell (World.block_lt_of_cell? w _ hw85001_0)).trans hw85001_0), ((HB.out.cell (World.block_lt_of_cell? w _ hw85001_1)).trans hw85001_1), ((HB.out.cell (World.block_lt_of_cell? w _ hw85001_2)).trans hw85001_2), ((HB.out.cell (World.block_lt_of_cell? w _ hw85001_3)).trans hw85001_3), ((HB.out.cell (World.block_lt_of_cell? w _ hw85001_4)).trans hw85001_4), ((HB.out.cell (World.block_lt_of_cell? w _ hw85001_5)).trans hw85001_5), ((HB.out.cell (World.block_lt_of_cell? w _ hw85001_6)).trans hw85001_6), ((HB.out.cell (World.block_lt_of_cell? w _ hw85001_7)).trans hw85001_7), ((HB.out.cell (World.block_lt_of_cell? w _ hw85002_0)).trans hw85002_0), ((HB.out.cell (World.block_lt_of_cell? w _ hw85002_1)).trans hw85002_1), ((HB.out.cell (World.block_lt_of_cell? w _ hw85002_2)).trans hw85002_2), ((HB.out.cell (World.block_lt_of_cell? w _ hw85002_3)).trans hw85002_3), ((HB.out.cell (World.block_lt_of_cell? w _ hw85002_4)).trans hw85002_4), ((HB.out.cell (World.block_lt_of_cell? w _ hw85002_5)).trans hw85002_5), ((HB.out.cell (World.block_lt_of_cell? w _ hw85002_6)).trans hw85002_6), ((HB.out.cell (World.block_lt_of_cell? w _ hw85002_7)).trans hw85002_7)⟩ (fun hHeld => ?_); refine with_tabW laws_eqConstraintS.tab6 laws_eqConstraintS.bits6 (fun HT_ HW_ => ?_)
        generalize wr.drew = w9 at HB HR85001_5 HR85001_6 HR85002_5 HR85002_6 hx85001_0 hx85001_1 hx85001_2 hx85001_3 hx85001_4 hx85001_5 hx85001_6 hx85001_7 hx85002_0 hx85002_1 hx85002_2 hx85002_3 hx85002_4 hx85002_5 hx85002_6 hx85002_7 hHeld ⊢
        refine pure_ (i := 0) (N := some 17) (v := ?_) (a' := ?_) #[true, false, false, false, false, false, false, false, false, false] rfl rfl (any_of HT_.out (by kernel_rfl)) (fun _ _ _ h => h) (Or.inl ⟨by rfl, ?_⟩) ?_ ?_
        rotate_left
        ·intro w'
         go_simp
         first | with_reducible rfl | (rw [if_neg (by omega)]; done)
        rotate_left
        ·simp only [Act.put, List.setIfInBounds_toArray, List.set_cons_zero, List.set_cons_succ, i64_w, i32_w]
         rfl
        refine pure_ (i := 1) (N := some 18) (v := ?_) (a' := ?_) #[true, true, false, false, false, false, false, false, false, false] rfl rfl (any_of HT_.out (by kernel_rfl)) (fun _ _ _ h => h) (Or.inl ⟨by rfl, ?_⟩) ?_ ?_
        rotate_left
        ·intro w'
         go_simp
         first | with_reducible rfl | (rw [if_neg (by omega)]; done)
        rotate_left
        ·simp only [Act.put, List.setIfInBounds_toArray, List.set_cons_zero, List.set_cons_succ, i64_w, i32_w]
         rfl
        refine pure_ (i := 2) (N := some 19) (v := ?_) (a' := ?_) #[true, true, true, false, false, false, false, false, false, false] rfl rfl (any_of HT_.out (by kernel_rfl)) (fun _ _ _ h => h) (Or.inl ⟨by rfl, ?_⟩) ?_ ?_
        rotate_left
        ·intro w'
         go_simp
         first | with_reducible rfl | (rw [if_neg (by omega)]; done)
        rotate_left
        ·simp only [Act.put, List.setIfInBounds_toArray, List.set_cons_zero, List.set_cons_succ, i64_w, i32_w]
         rfl
        refine pure_ (i := 4) (N := some 21) (v := ?_) (a' := ?_) #[true, true, true, false, true, false, false, false, false, false] rfl rfl (any_of HT_.out (by kernel_rfl)) (fun _ _ _ h => h) (Or.inl ⟨by rfl, ?_⟩) ?_ ?_
        rotate_left
        ·intro w'
         go_simp
         first | with_reducible rfl | (rw [if_neg (by omega)]; done)
        rotate_left
        ·simp only [Act.put, List.setIfInBounds_toArray, List.set_cons_zero, List.set_cons_succ, i64_w, i32_w]
         rfl
        refine pure_ (i := 5) (N := some 22) (v := ?_) (a' := ?_) #[true, true, true, false, true, true, false, false, false, false] rfl rfl (any_of HT_.out (by kernel_rfl)) (fun _ _ _ h => h) (Or.inl ⟨by rfl, ?_⟩) ?_ ?_
        rotate_left
        ·intro w'
         go_simp
         first | with_reducible rfl | (rw [if_neg (by omega)]; done)
        rotate_left
        ·simp only [Act.put, List.setIfInBounds_toArray, List.set_cons_zero, List.set_cons_succ, i64_w, i32_w]
         rfl
        refine pure_ (i := 6) (N := some 23) (v := ?_) (a' := ?_) #[true, true, true, false, true, true, true, false, false, false] rfl rfl (any_of HT_.out (by kernel_rfl)) (fun _ _ _ h => h) (Or.inl ⟨by rfl, ?_⟩) ?_ ?_
        rotate_left
        ·intro w'
         go_simp
         first | with_reducible rfl | (rw [if_neg (by omega)]; done)
        rotate_left
        ·simp only [Act.put, List.setIfInBounds_toArray, List.set_cons_zero, List.set_cons_succ, i64_w, i32_w]
         rfl
        refine take_ (i := 3) (N := some 20) (v := ?_) (a' := ?_) #[true, true, true, true, true, true, true, false, false, false] rfl rfl (take_ofW HT_.out HW_.out (by kernel_rfl)) (fun _ _ _ h => h) (Or.inl ⟨by rfl, ?_⟩) hHeld ?_ ?_
        rotate_left
        ·rintro w' ⟨s0, s1, s2, s3, s4, s5, s6, s7, s8, s9, s10, s11, s12, s13, s14, s15⟩
         go_simp
         first | with_reducible rfl | (rw [if_neg (by omega)]; done)
        rotate_left
        ·simp only [Act.put, List.setIfInBounds_toArray, List.set_cons_zero, List.set_cons_succ, i64_w, i32_w]
         rfl
        refine take_ (i := 7) (N := some 24) (v := ?_) (a' := ?_) #[true, true, true, true, true, true, true, true, false, false] rfl rfl (take_ofW HT_.out HW_.out (by kernel_rfl)) (fun _ _ _ h => h) (Or.inl ⟨by rfl, ?_⟩) hHeld ?_ ?_
        rotate_left
        ·rintro w' ⟨s0, s1, s2, s3, s4, s5, s6, s7, s8, s9, s10, s11, s12, s13, s14, s15⟩
         go_simp
         first | with_reducible rfl | (rw [if_neg (by omega)]; done)
        rotate_left
        ·simp only [Act.put, List.setIfInBounds_toArray, List.set_cons_zero, List.set_cons_succ, i64_w, i32_w]
         rfl
        refine one_ (i := 8) (N := some 25) #[true, true, true, true, true, true, true, true, true, false] rfl rfl (one_of HT_.out (by kernel_rfl)) (by decide) (fun K hK => ?_)
        refine goes_ Try.func24 (by kernel_rfl) rfl #[.agg #[.int .i64 ((rd_T44 l0 x5_1).f0), .string ((rd_T44 l0 x5_1).f1), .string ((rd_T44 l0 x5_1).f2), .int .i64 ((rd_T44 l0 x5_1).f3.f0), .string ((rd_T44 l0 x5_1).f3.f1), .slice A85001_5 ((rd_T44 l0 x5_1).f3.f2).length c85001_5, .slice A85001_6 ((rd_T44 l0 x5_1).f4).length c85001_6, .int .i64 ((rd_T44 l0 x5_1).f5)], .agg #[.int .i64 ((rd_T44 l1 x5_1).f0), .string ((rd_T44 l1 x5_1).f1), .string ((rd_T44 l1 x5_1).f2), .int .i64 ((rd_T44 l1 x5_1).f3.f0), .string ((rd_T44 l1 x5_1).f3.f1), .slice A85002_5 ((rd_T44 l1 x5_1).f3.f2).length c85002_5, .slice A85002_6 ((rd_T44 l1 x5_1).f4).length c85002_6, .int .i64 ((rd_T44 l1 x5_1).f5)]] (by rfl) rfl rfl (by (try simp only [List.map_toArray, List.map_cons, List.map_nil]); first | done | rfl | (simp only [List.length_drop, List.length_take]; rfl)) ?_
        with_reducible refine (laws_eqConstraint.calls k1 ((rd_T44 l0 x5_1).f0) ((rd_T44 l0 x5_1).f1) ((rd_T44 l0 x5_1).f2) ((rd_T44 l0 x5_1).f3.f0) ((rd_T44 l0 x5_1).f3.f1) _ _ ((rd_T44 l0 x5_1).f3.f2) _ _ ((rd_T44 l0 x5_1).f4) ((rd_T44 l0 x5_1).f5) ((rd_T44 l1 x5_1).f0) ((rd_T44 l1 x5_1).f1) ((rd_T44 l1 x5_1).f2) ((rd_T44 l1 x5_1).f3.f0) ((rd_T44 l1 x5_1).f3.f1) _ _ ((rd_T44 l1 x5_1).f3.f2) _ _ ((rd_T44 l1 x5_1).f4) ((rd_T44 l1 x5_1).f5) true _ ?side1 ?side2 ?side3 ?side4 ?side5 ?side6 ?side7 ?side8 A7.out).mono ?_
        (case side1 => repeat (first | exact (Kd.C_below HR85001_5.out HB.out) | (with_reducible refine Kd.C_alloc ?_ _) | (with_reducible refine Kd.C_drewN ?_ _) | (with_reducible refine Kd.C_drew ?_)))
        (case side2 => exact HC85001_5.out)
        (case side3 => repeat (first | exact (Kd.C_below HR85001_6.out HB.out) | (with_reducible refine Kd.C_alloc ?_ _) | (with_reducible refine Kd.C_drewN ?_ _) | (with_reducible refine Kd.C_drew ?_)))
        (case side4 => exact HC85001_6.out)
        (case side5 => repeat (first | exact (Kd.C_below HR85002_5.out HB.out) | (with_reducible refine Kd.C_alloc ?_ _) | (with_reducible refine Kd.C_drewN ?_ _) | (with_reducible refine Kd.C_drew ?_)))
        (case side6 => exact HC85002_5.out)
        (case side7 => repeat (first | exact (Kd.C_below HR85002_6.out HB.out) | (with_reducible refine Kd.C_alloc ?_ _) | (with_reducible refine Kd.C_drewN ?_ _) | (with_reducible refine Kd.C_drew ?_)))
        (case side8 => exact HC85002_6.out)
        rintro e w10 ⟨rfl, hb⟩
        refine ⟨_, rfl, ?_⟩
        have n0_ := Aside0.mk (below_step (by repeat (first | (with_reducible first | exact HB.out | apply below_alloc | apply pw_below_drewN | apply below_drew1) | exact HB.out)) hb)
        clear HB
        have HB := n0_
        clear n0_
        (try clear hb)
        (try clear hb2)
        (try clear hk)
        (try clear hi)
        refine hK.out _ _ ⟨((HB.out.cell (World.block_lt_of_cell? w _ hw85001_0)).trans hw85001_0), ((HB.out.cell (World.block_lt_of_cell? w _ hw85001_1)).trans hw85001_1), ((HB.out.cell (World.block_lt_of_cell? w _ hw85001_2)).trans hw85001_2), ((HB.out.cell (World.block_lt_of_cell? w _ hw85001_3)).trans hw85001_3), ((HB.out.cell (World.block_lt_of_cell? w _ hw85001_4)).trans hw85001_4), ((HB.out.cell (World.block_lt_of_cell? w _ hw85001_5)).trans hw85001_5), ((HB.out.cell (World.block_lt_of_cell? w _ hw85001_6)).trans hw85001_6), ((HB.out.cell (World.block_lt_of_cell? w _ hw85001_7)).trans hw85001_7), ((HB.out.cell (World.block_lt_of_cell? w _ hw85002_0)).trans hw85002_0), ((HB.out.cell (World.block_lt_of_cell? w _ hw85002_1)).trans hw85002_1), ((HB.out.cell (World.block_lt_of_cell? w _ hw85002_2)).trans hw85002_2), ((HB.out.cell (World.block_lt_of_cell? w _ hw85002_3)).trans hw85002_3), ((HB.out.cell (World.block_lt_of_cell? w _ hw85002_4)).trans hw85002_4), ((HB.out.cell (World.block_lt_of_cell? w _ hw85002_5)).trans hw85002_5), ((HB.out.cell (World.block_lt_of_cell? w _ hw85002_6)).trans hw85002_6), ((HB.out.cell (World.block_lt_of_cell? w _ hw85002_7)).trans hw85002_7)⟩ (fun hHeld => ?_)
        clear hK K
        refine norm_ (a' := ?_) ?_ ?_
        rotate_left
        ·show Act.put _ (some 25) _ = _
         simp only [Act.put, List.setIfInBounds_toArray, List.set_cons_zero, List.set_cons_succ, i64_w, i32_w]
         rfl
        refine pure_ (i := 9) (N := some 26) (v := ?_) (a' := ?_) #[true, true, true, true, true, true, true, true, true, true] rfl rfl (any_of HT_.out (by kernel_rfl)) (fun _ _ _ h => h) (Or.inl ⟨by rfl, ?_⟩) ?_ ?_
        rotate_left
        ·intro w'
         go_simp
         first | with_reducible rfl | (rw [if_neg (by omega)]; done)
        rotate_left
        ·simp only [Act.put, List.setIfInBounds_toArray, List.set_cons_zero, List.set_cons_succ, i64_w, i32_w]
         rfl
        refine done_ (done_of HT_.out (by kernel_rfl)) ?_
        try go_wp2
        go_roundg k1
        case measure => have := HK1.out; omega
        case rel => exact ⟨(wrap64 (x5_1 + 1)), (by first | rfl | (simp; done) | (simp [*]; done)), H', ⟨by have := HK1.out; omega⟩, ⟨by repeat (first | (with_reducible first | exact HB.out | apply below_alloc | apply pw_below_drewN | apply below_drew1) | exact HB.out)⟩⟩
       ·replace c8 := Bool.eq_false_iff.mpr c8
        subst c8
        have H1 : (some false) = some r := by rw [if_neg (show ¬ (false = true) by decide)] at H; exact H
        clear H
        have H := H1
        clear H1
        obtain rfl := Option.some.inj H
        try go_wp2
        have n0_ := Aside0.mk (below_drew1 HB.out)
        clear HB
        have HB := n0_
        clear n0_
        have p85001 : 0 ≤ (x5_1 : Int) := of_decide_eq_true (by first | (with_reducible assumption) | assumption)
        have q85001 : x5_1 < (l0.length : Int) := of_decide_eq_true (by first | (with_reducible assumption) | assumption)
        obtain ⟨ad85001, A85001_5, c85001_5, A85001_6, c85001_6, e85001, hx85001_0, hx85001_1, hx85001_2, hx85001_3, hx85001_4, hx85001_5, hx85001_6, hx85001_7, hl85001_5, hi85001_5, hl85001_6, hi85001_6⟩ := at_T44 HR0.out x5_1 p85001 q85001
        have hw85001_7 := hx85001_7
        have hw85001_6 := hx85001_6
        have hw85001_5 := hx85001_5
        have hw85001_4 := hx85001_4
        have hw85001_3 := hx85001_3
        have hw85001_2 := hx85001_2
        have hw85001_1 := hx85001_1
        have hw85001_0 := hx85001_0
        cases e85001
        replace hx85001_0 := (HB.out.cell (World.block_lt_of_cell? w _ hx85001_0)).trans hx85001_0
        replace hx85001_1 := (HB.out.cell (World.block_lt_of_cell? w _ hx85001_1)).trans hx85001_1
        replace hx85001_2 := (HB.out.cell (World.block_lt_of_cell? w _ hx85001_2)).trans hx85001_2
        replace hx85001_3 := (HB.out.cell (World.block_lt_of_cell? w _ hx85001_3)).trans hx85001_3
        replace hx85001_4 := (HB.out.cell (World.block_lt_of_cell? w _ hx85001_4)).trans hx85001_4
        replace hx85001_5 := (HB.out.cell (World.block_lt_of_cell? w _ hx85001_5)).trans hx85001_5
        replace hx85001_6 := (HB.out.cell (World.block_lt_of_cell? w _ hx85001_6)).trans hx85001_6
        replace hx85001_7 := (HB.out.cell (World.block_lt_of_cell? w _ hx85001_7)).trans hx85001_7
        have HR85001_5 := Aside0.mk hi85001_5
        have HC85001_5 := Aside0.mk hl85001_5
        clear hi85001_5 hl85001_5
        have HR85001_6 := Aside0.mk hi85001_6
        have HC85001_6 := Aside0.mk hl85001_6
        clear hi85001_6 hl85001_6
        replace p85001 := eq_true p85001
        replace q85001 := eq_true q85001
        have p85002 : 0 ≤ (x5_1 : Int) := of_decide_eq_true (by first | (with_reducible assumption) | assumption)
        have q85002 : x5_1 < (l1.length : Int) := of_decide_eq_true (by first | (with_reducible assumption) | assumption)
        obtain ⟨ad85002, A85002_5, c85002_5, A85002_6, c85002_6, e85002, hx85002_0, hx85002_1, hx85002_2, hx85002_3, hx85002_4, hx85002_5, hx85002_6, hx85002_7, hl85002_5, hi85002_5, hl85002_6, hi85002_6⟩ := at_T44 HR1.out x5_1 p85002 q85002
        have hw85002_7 := hx85002_7
        have hw85002_6 := hx85002_6
        have hw85002_5 := hx85002_5
        have hw85002_4 := hx85002_4
        have hw85002_3 := hx85002_3
        have hw85002_2 := hx85002_2
        have hw85002_1 := hx85002_1
        have hw85002_0 := hx85002_0
        cases e85002
        replace hx85002_0 := (HB.out.cell (World.block_lt_of_cell? w _ hx85002_0)).trans hx85002_0
        replace hx85002_1 := (HB.out.cell (World.block_lt_of_cell? w _ hx85002_1)).trans hx85002_1
        replace hx85002_2 := (HB.out.cell (World.block_lt_of_cell? w _ hx85002_2)).trans hx85002_2
        replace hx85002_3 := (HB.out.cell (World.block_lt_of_cell? w _ hx85002_3)).trans hx85002_3
        replace hx85002_4 := (HB.out.cell (World.block_lt_of_cell? w _ hx85002_4)).trans hx85002_4
        replace hx85002_5 := (HB.out.cell (World.block_lt_of_cell? w _ hx85002_5)).trans hx85002_5
        replace hx85002_6 := (HB.out.cell (World.block_lt_of_cell? w _ hx85002_6)).trans hx85002_6
        replace hx85002_7 := (HB.out.cell (World.block_lt_of_cell? w _ hx85002_7)).trans hx85002_7
        have HR85002_5 := Aside0.mk hi85002_5
        have HC85002_5 := Aside0.mk hl85002_5
        clear hi85002_5 hl85002_5
        have HR85002_6 := Aside0.mk hi85002_6
        have HC85002_6 := Aside0.mk hl85002_6
        clear hi85002_6 hl85002_6
        replace p85002 := eq_true p85002
        replace q85002 := eq_true q85002
        refine start_ (n := 10) (S := fun w' => w'.cell? (ad85001.add ((x5_1).toNat * 8)) = some (.int .i64 ((rd_T44 l0 x5_1).f0)) ∧ w'.cell? ⟨(ad85001.add ((x5_1).toNat * 8)).block, (ad85001.add ((x5_1).toNat * 8)).off + 1, none⟩ = some (.string ((rd_T44 l0 x5_1).f1)) ∧ w'.cell? ⟨(ad85001.add ((x5_1).toNat * 8)).block, (ad85001.add ((x5_1).toNat * 8)).off + 2, none⟩ = some (.string ((rd_T44 l0 x5_1).f2)) ∧ w'.cell? ⟨(ad85001.add ((x5_1).toNat * 8)).block, (ad85001.add ((x5_1).toNat * 8)).off + 3, none⟩ = some (.int .i64 ((rd_T44 l0 x5_1).f3.f0)) ∧ w'.cell? ⟨(ad85001.add ((x5_1).toNat * 8)).block, (ad85001.add ((x5_1).toNat * 8)).off + 4, none⟩ = some (.string ((rd_T44 l0 x5_1).f3.f1)) ∧ w'.cell? ⟨(ad85001.add ((x5_1).toNat * 8)).block, (ad85001.add ((x5_1).toNat * 8)).off + 5, none⟩ = some (.slice A85001_5 ((rd_T44 l0 x5_1).f3.f2).length c85001_5) ∧ w'.cell? ⟨(ad85001.add ((x5_1).toNat * 8)).block, (ad85001.add ((x5_1).toNat * 8)).off + 6, none⟩ = some (.slice A85001_6 ((rd_T44 l0 x5_1).f4).length c85001_6) ∧ w'.cell? ⟨(ad85001.add ((x5_1).toNat * 8)).block, (ad85001.add ((x5_1).toNat * 8)).off + 7, none⟩ = some (.int .i64 ((rd_T44 l0 x5_1).f5)) ∧ w'.cell? (ad85002.add ((x5_1).toNat * 8)) = some (.int .i64 ((rd_T44 l1 x5_1).f0)) ∧ w'.cell? ⟨(ad85002.add ((x5_1).toNat * 8)).block, (ad85002.add ((x5_1).toNat * 8)).off + 1, none⟩ = some (.string ((rd_T44 l1 x5_1).f1)) ∧ w'.cell? ⟨(ad85002.add ((x5_1).toNat * 8)).block, (ad85002.add ((x5_1).toNat * 8)).off + 2, none⟩ = some (.string ((rd_T44 l1 x5_1).f2)) ∧ w'.cell? ⟨(ad85002.add ((x5_1).toNat * 8)).block, (ad85002.add ((x5_1).toNat * 8)).off + 3, none⟩ = some (.int .i64 ((rd_T44 l1 x5_1).f3.f0)) ∧ w'.cell? ⟨(ad85002.add ((x5_1).toNat * 8)).block, (ad85002.add ((x5_1).toNat * 8)).off + 4, none⟩ = some (.string ((rd_T44 l1 x5_1).f3.f1)) ∧ w'.cell? ⟨(ad85002.add ((x5_1).toNat * 8)).block, (ad85002.add ((x5_1).toNat * 8)).off + 5, none⟩ = some (.slice A85002_5 ((rd_T44 l1 x5_1).f3.f2).length c85002_5) ∧ w'.cell? ⟨(ad85002.add ((x5_1).toNat * 8)).block, (ad85002.add ((x5_1).toNat * 8)).off + 6, none⟩ = some (.slice A85002_6 ((rd_T44 l1 x5_1).f4).length c85002_6) ∧ w'.cell? ⟨(ad85002.add ((x5_1).toNat * 8)).block, (ad85002.add ((x5_1).toNat * 8)).off + 7, none⟩ = some (.int .i64 ((rd_T44 l1 x5_1).f5))) (ds := []) #[false, false, false, false, false, false, false, false, false, false] (by kernel_rfl) rfl rfl ⟨((HB.out.cell (World.block_lt_of_cell? w _ hw85001_0)).trans hw85001_0), ((HB.out.cell (World.block_lt_of_cell? w _ hw85001_1)).trans hw85001_1), ((HB.out.cell (World.block_lt_of_cell? w _ hw85001_2)).trans hw85001_2), ((HB.out.cell (World.block_lt_of_cell? w _ hw85001_3)).trans hw85001_3), ((HB.out.cell (World.block_lt_of_cell? w _ hw85001_4)).trans hw85001_4), ((HB.out.cell (World.block_lt_of_cell? w _ hw85001_5)).trans hw85001_5), ((HB.out.cell (World.block_lt_of_cell? w _ hw85001_6)).trans hw85001_6), ((HB.out.cell (World.block_lt_of_cell? w _ hw85001_7)).trans hw85001_7), ((HB.out.cell (World.block_lt_of_cell? w _ hw85002_0)).trans hw85002_0), ((HB.out.cell (World.block_lt_of_cell? w _ hw85002_1)).trans hw85002_1), ((HB.out.cell (World.block_lt_of_cell? w _ hw85002_2)).trans hw85002_2), ((HB.out.cell (World.block_lt_of_cell? w _ hw85002_3)).trans hw85002_3), ((HB.out.cell (World.block_lt_of_cell? w _ hw85002_4)).trans hw85002_4), ((HB.out.cell (World.block_lt_of_cell? w _ hw85002_5)).trans hw85002_5), ((HB.out.cell (World.block_lt_of_cell? w _ hw85002_6)).trans hw85002_6), ((HB.out.cell (World.block_lt_of_cell? w _ hw85002_7)).trans hw85002_7)⟩ (fun hHeld => ?_); refine with_tabW laws_eqConstraintS.tab6 laws_eqConstraintS.bits6 (fun HT_ HW_ => ?_)
        generalize wr.drew = w11 at HB HR85001_5 HR85001_6 HR85002_5 HR85002_6 hx85001_0 hx85001_1 hx85001_2 hx85001_3 hx85001_4 hx85001_5 hx85001_6 hx85001_7 hx85002_0 hx85002_1 hx85002_2 hx85002_3 hx85002_4 hx85002_5 hx85002_6 hx85002_7 hHeld ⊢
        refine pure_ (i := 0) (N := some 17) (v := ?_) (a' := ?_) #[true, false, false, false, false, false, false, false, false, false] rfl rfl (any_of HT_.out (by kernel_rfl)) (fun _ _ _ h => h) (Or.inl ⟨by rfl, ?_⟩) ?_ ?_
        rotate_left
        ·intro w'
         go_simp
         first | with_reducible rfl | (rw [if_neg (by omega)]; done)
        rotate_left
        ·simp only [Act.put, List.setIfInBounds_toArray, List.set_cons_zero, List.set_cons_succ, i64_w, i32_w]
         rfl
        refine pure_ (i := 1) (N := some 18) (v := ?_) (a' := ?_) #[true, true, false, false, false, false, false, false, false, false] rfl rfl (any_of HT_.out (by kernel_rfl)) (fun _ _ _ h => h) (Or.inl ⟨by rfl, ?_⟩) ?_ ?_
        rotate_left
        ·intro w'
         go_simp
         first | with_reducible rfl | (rw [if_neg (by omega)]; done)
        rotate_left
        ·simp only [Act.put, List.setIfInBounds_toArray, List.set_cons_zero, List.set_cons_succ, i64_w, i32_w]
         rfl
        refine pure_ (i := 2) (N := some 19) (v := ?_) (a' := ?_) #[true, true, true, false, false, false, false, false, false, false] rfl rfl (any_of HT_.out (by kernel_rfl)) (fun _ _ _ h => h) (Or.inl ⟨by rfl, ?_⟩) ?_ ?_
        rotate_left
        ·intro w'
         go_simp
         first | with_reducible rfl | (rw [if_neg (by omega)]; done)
        rotate_left
        ·simp only [Act.put, List.setIfInBounds_toArray, List.set_cons_zero, List.set_cons_succ, i64_w, i32_w]
         rfl
        refine pure_ (i := 4) (N := some 21) (v := ?_) (a' := ?_) #[true, true, true, false, true, false, false, false, false, false] rfl rfl (any_of HT_.out (by kernel_rfl)) (fun _ _ _ h => h) (Or.inl ⟨by rfl, ?_⟩) ?_ ?_
        rotate_left
        ·intro w'
         go_simp
         first | with_reducible rfl | (rw [if_neg (by omega)]; done)
        rotate_left
        ·simp only [Act.put, List.setIfInBounds_toArray, List.set_cons_zero, List.set_cons_succ, i64_w, i32_w]
         rfl
        refine pure_ (i := 5) (N := some 22) (v := ?_) (a' := ?_) #[true, true, true, false, true, true, false, false, false, false] rfl rfl (any_of HT_.out (by kernel_rfl)) (fun _ _ _ h => h) (Or.inl ⟨by rfl, ?_⟩) ?_ ?_
        rotate_left
        ·intro w'
         go_simp
         first | with_reducible rfl | (rw [if_neg (by omega)]; done)
        rotate_left
        ·simp only [Act.put, List.setIfInBounds_toArray, List.set_cons_zero, List.set_cons_succ, i64_w, i32_w]
         rfl
        refine pure_ (i := 6) (N := some 23) (v := ?_) (a' := ?_) #[true, true, true, false, true, true, true, false, false, false] rfl rfl (any_of HT_.out (by kernel_rfl)) (fun _ _ _ h => h) (Or.inl ⟨by rfl, ?_⟩) ?_ ?_
        rotate_left
        ·intro w'
         go_simp
         first | with_reducible rfl | (rw [if_neg (by omega)]; done)
        rotate_left
        ·simp only [Act.put, List.setIfInBounds_toArray, List.set_cons_zero, List.set_cons_succ, i64_w, i32_w]
         rfl
        refine take_ (i := 3) (N := some 20) (v := ?_) (a' := ?_) #[true, true, true, true, true, true, true, false, false, false] rfl rfl (take_ofW HT_.out HW_.out (by kernel_rfl)) (fun _ _ _ h => h) (Or.inl ⟨by rfl, ?_⟩) hHeld ?_ ?_
        rotate_left
        ·rintro w' ⟨s0, s1, s2, s3, s4, s5, s6, s7, s8, s9, s10, s11, s12, s13, s14, s15⟩
         go_simp
         first | with_reducible rfl | (rw [if_neg (by omega)]; done)
        rotate_left
        ·simp only [Act.put, List.setIfInBounds_toArray, List.set_cons_zero, List.set_cons_succ, i64_w, i32_w]
         rfl
        refine take_ (i := 7) (N := some 24) (v := ?_) (a' := ?_) #[true, true, true, true, true, true, true, true, false, false] rfl rfl (take_ofW HT_.out HW_.out (by kernel_rfl)) (fun _ _ _ h => h) (Or.inl ⟨by rfl, ?_⟩) hHeld ?_ ?_
        rotate_left
        ·rintro w' ⟨s0, s1, s2, s3, s4, s5, s6, s7, s8, s9, s10, s11, s12, s13, s14, s15⟩
         go_simp
         first | with_reducible rfl | (rw [if_neg (by omega)]; done)
        rotate_left
        ·simp only [Act.put, List.setIfInBounds_toArray, List.set_cons_zero, List.set_cons_succ, i64_w, i32_w]
         rfl
        refine one_ (i := 8) (N := some 25) #[true, true, true, true, true, true, true, true, true, false] rfl rfl (one_of HT_.out (by kernel_rfl)) (by decide) (fun K hK => ?_)
        refine goes_ Try.func24 (by kernel_rfl) rfl #[.agg #[.int .i64 ((rd_T44 l0 x5_1).f0), .string ((rd_T44 l0 x5_1).f1), .string ((rd_T44 l0 x5_1).f2), .int .i64 ((rd_T44 l0 x5_1).f3.f0), .string ((rd_T44 l0 x5_1).f3.f1), .slice A85001_5 ((rd_T44 l0 x5_1).f3.f2).length c85001_5, .slice A85001_6 ((rd_T44 l0 x5_1).f4).length c85001_6, .int .i64 ((rd_T44 l0 x5_1).f5)], .agg #[.int .i64 ((rd_T44 l1 x5_1).f0), .string ((rd_T44 l1 x5_1).f1), .string ((rd_T44 l1 x5_1).f2), .int .i64 ((rd_T44 l1 x5_1).f3.f0), .string ((rd_T44 l1 x5_1).f3.f1), .slice A85002_5 ((rd_T44 l1 x5_1).f3.f2).length c85002_5, .slice A85002_6 ((rd_T44 l1 x5_1).f4).length c85002_6, .int .i64 ((rd_T44 l1 x5_1).f5)]] (by rfl) rfl rfl (by (try simp only [List.map_toArray, List.map_cons, List.map_nil]); first | done | rfl | (simp only [List.length_drop, List.length_take]; rfl)) ?_
        with_reducible refine (laws_eqConstraint.calls k1 ((rd_T44 l0 x5_1).f0) ((rd_T44 l0 x5_1).f1) ((rd_T44 l0 x5_1).f2) ((rd_T44 l0 x5_1).f3.f0) ((rd_T44 l0 x5_1).f3.f1) _ _ ((rd_T44 l0 x5_1).f3.f2) _ _ ((rd_T44 l0 x5_1).f4) ((rd_T44 l0 x5_1).f5) ((rd_T44 l1 x5_1).f0) ((rd_T44 l1 x5_1).f1) ((rd_T44 l1 x5_1).f2) ((rd_T44 l1 x5_1).f3.f0) ((rd_T44 l1 x5_1).f3.f1) _ _ ((rd_T44 l1 x5_1).f3.f2) _ _ ((rd_T44 l1 x5_1).f4) ((rd_T44 l1 x5_1).f5) false _ ?side1 ?side2 ?side3 ?side4 ?side5 ?side6 ?side7 ?side8 A7.out).mono ?_
        (case side1 => repeat (first | exact (Kd.C_below HR85001_5.out HB.out) | (with_reducible refine Kd.C_alloc ?_ _) | (with_reducible refine Kd.C_drewN ?_ _) | (with_reducible refine Kd.C_drew ?_)))
        (case side2 => exact HC85001_5.out)
        (case side3 => repeat (first | exact (Kd.C_below HR85001_6.out HB.out) | (with_reducible refine Kd.C_alloc ?_ _) | (with_reducible refine Kd.C_drewN ?_ _) | (with_reducible refine Kd.C_drew ?_)))
        (case side4 => exact HC85001_6.out)
        (case side5 => repeat (first | exact (Kd.C_below HR85002_5.out HB.out) | (with_reducible refine Kd.C_alloc ?_ _) | (with_reducible refine Kd.C_drewN ?_ _) | (with_reducible refine Kd.C_drew ?_)))
        (case side6 => exact HC85002_5.out)
        (case side7 => repeat (first | exact (Kd.C_below HR85002_6.out HB.out) | (with_reducible refine Kd.C_alloc ?_ _) | (with_reducible refine Kd.C_drewN ?_ _) | (with_reducible refine Kd.C_drew ?_)))
        (case side8 => exact HC85002_6.out)
        rintro e w12 ⟨rfl, hb⟩
        refine ⟨_, rfl, ?_⟩
        have n0_ := Aside0.mk (below_step (by repeat (first | (with_reducible first | exact HB.out | apply below_alloc | apply pw_below_drewN | apply below_drew1) | exact HB.out)) hb)
        clear HB
        have HB := n0_
        clear n0_
        (try clear hb)
        (try clear hb2)
        (try clear hk)
        (try clear hi)
        refine hK.out _ _ ⟨((HB.out.cell (World.block_lt_of_cell? w _ hw85001_0)).trans hw85001_0), ((HB.out.cell (World.block_lt_of_cell? w _ hw85001_1)).trans hw85001_1), ((HB.out.cell (World.block_lt_of_cell? w _ hw85001_2)).trans hw85001_2), ((HB.out.cell (World.block_lt_of_cell? w _ hw85001_3)).trans hw85001_3), ((HB.out.cell (World.block_lt_of_cell? w _ hw85001_4)).trans hw85001_4), ((HB.out.cell (World.block_lt_of_cell? w _ hw85001_5)).trans hw85001_5), ((HB.out.cell (World.block_lt_of_cell? w _ hw85001_6)).trans hw85001_6), ((HB.out.cell (World.block_lt_of_cell? w _ hw85001_7)).trans hw85001_7), ((HB.out.cell (World.block_lt_of_cell? w _ hw85002_0)).trans hw85002_0), ((HB.out.cell (World.block_lt_of_cell? w _ hw85002_1)).trans hw85002_1), ((HB.out.cell (World.block_lt_of_cell? w _ hw85002_2)).trans hw85002_2), ((HB.out.cell (World.block_lt_of_cell? w _ hw85002_3)).trans hw85002_3), ((HB.out.cell (World.block_lt_of_cell? w _ hw85002_4)).trans hw85002_4), ((HB.out.cell (World.block_lt_of_cell? w _ hw85002_5)).trans hw85002_5), ((HB.out.cell (World.block_lt_of_cell? w _ hw85002_6)).trans hw85002_6), ((HB.out.cell (World.block_lt_of_cell? w _ hw85002_7)).trans hw85002_7)⟩ (fun hHeld => ?_)
        clear hK K
        refine norm_ (a' := ?_) ?_ ?_
        rotate_left
        ·show Act.put _ (some 25) _ = _
         simp only [Act.put, List.setIfInBounds_toArray, List.set_cons_zero, List.set_cons_succ, i64_w, i32_w]
         rfl
        refine pure_ (i := 9) (N := some 26) (v := ?_) (a' := ?_) #[true, true, true, true, true, true, true, true, true, true] rfl rfl (any_of HT_.out (by kernel_rfl)) (fun _ _ _ h => h) (Or.inl ⟨by rfl, ?_⟩) ?_ ?_
        rotate_left
        ·intro w'
         go_simp
         first | with_reducible rfl | (rw [if_neg (by omega)]; done)
        rotate_left
        ·simp only [Act.put, List.setIfInBounds_toArray, List.set_cons_zero, List.set_cons_succ, i64_w, i32_w]
         rfl
        refine done_ (done_of HT_.out (by kernel_rfl)) ?_
        try go_wp2
        go_ret
        exact ⟨by first | rfl | (simp [errW_none, errW_some] <;> rfl) | (simp [*, errW_none, errW_some] <;> rfl), by repeat (first | (with_reducible first | exact HB.out | apply below_alloc | apply pw_below_drewN | apply below_drew1) | exact HB.out)⟩
      ·rw [if_neg c6] at H
       exact absurd H (by simp)
     ·rw [if_neg c5] at H
      exact absurd H (by simp)
    ·rw [if_neg c4] at H
     have c4b0 : decide (x5_1 < (l0.length : Int)) = false := decide_eq_false c4
     clear c4
     obtain rfl := Option.some.inj H
     go_wp2
     go_ret
     exact ⟨by first | rfl | (simp [errW_none, errW_some] <;> rfl) | (simp [*, errW_none, errW_some] <;> rfl), by repeat (first | (with_reducible first | exact HB.out | apply below_alloc | apply pw_below_drewN | apply below_drew1) | exact HB.out)⟩
 ·rw [if_neg c3] at H
  have c3b0 : ((l0.length : Int) == (l1.length : Int)) = false := beq_eq_false_iff_ne.mpr c3
  have c3b1 : ((l0.length : Int) != (l1.length : Int)) = true := bne_iff_ne.mpr c3
  have c3b2 : (l0.length == l1.length) = false := by first | simpa using c3 | (simp at c3 ⊢; omega)
  obtain rfl := Option.some.inj H
  go_enter Try.func85, Try.ntmps85
  go_wp2
  go_ret
  exact ⟨by first | rfl | (simp [errW_none, errW_some] <;> rfl) | (simp [*, errW_none, errW_some] <;> rfl), by repeat (first | (with_reducible first | exact HB.out | apply below_alloc | apply pw_below_drewN | apply below_drew1) | exact HB.out)⟩
end Go.Proofs.Ytpppopdmnejcfaa.A
namespace Go.Proofs.Ytpppopdmnejcfaa.A
open Go.RowKit Go.Proofs.Ytpppopdmnejcfaa.Ext Go.Proofs.YtpppopdmnejcfaaW.PrintWords Go.Proofs.YtpppopdmnejcfaaW.PrintLast Go.Proofs.YtpppopdmnejcfaaW.PrintMore
attribute [local go_sem] max2_int min2_int max_two min_two max_three min_three max_four min_four
def laws_szProblem.f (k : Nat) (l0_0 : List (S37)) (a1 : Int) : Option (Int) := (laws_szConstraintS.f k l0_0 a1).bind fun t15002 => (if t15002 < 0 then (some (-1)) else (some t15002))
theorem laws_szProblem.mono : ∀ a0 a1 k, LeO (laws_szProblem.f k a0 a1) (laws_szProblem.f (k + 1) a0 a1) := by
 intro a0 a1 k
 unfold laws_szProblem.f
 repeat' first
   | (with_reducible exact laws_szConstraintS.mono _ _ _)
   | (with_reducible exact LeO.refl _)
   | (with_reducible exact LeO.none _)
   | (with_reducible refine LeO.ite ?_ ?_)
   | (with_reducible refine LeO.bind ?_ (fun _ => ?_))
theorem laws_szProblem.calls (k : Nat) (A0_0 : Option Addr) (c0_0 : Nat) (l0_0 : List (S37)) (a1 : Int) (r : Int) (w : World) (hr0_0 : Kd.C k37 w A0_0 l0_0.length l0_0) (hc0_0 : l0_0.length ≤ c0_0) (h : laws_szProblem.f k l0_0 a1 = some r) :
  Calls Try.prog 15 #[.agg #[.slice A0_0 l0_0.length c0_0], .int .i64 a1] w fun e w' => e = .returned (.int .i64 r) ∧ Below w.heap.size w w' := by
 have hu24 := Try.underlying24
 have HR0_0 := Aside0.mk hr0_0
 have HC0_0 := Aside0.mk hc0_0
 clear hr0_0 hc0_0
 have HB := Aside0.mk (Below.refl w.heap.size w)
 have H : ((laws_szConstraintS.f k l0_0 a1).bind fun t15002 => (if t15002 < 0 then (some (-1)) else (some t15002))) = some r := h
 clear h
 replace H := Option.bind_eq_some_iff.mp H
 obtain ⟨t15002, A30, H⟩ := H
 replace H : (if t15002 < 0 then (some (-1)) else (some t15002)) = some r := H
 have A3 := Aside0.mk A30
 clear A30
 by_cases c4 : t15002 < 0
 ·rw [if_pos c4] at H
  have c4b0 : decide (t15002 < 0) = true := decide_eq_true c4
  clear c4
  obtain rfl := Option.some.inj H
  go_enter Try.func15, Try.ntmps15
  go_wp2_with (first | ((with_reducible refine gate_dst (N := 2) rfl ?_); refine box_event ?hg (N := 2) ?hd (cs := #[.slice A0_0 l0_0.length c0_0]) (t := 24) ?hr ?_; (case hd => rfl); (case hg => rfl); (case hr => first | (go_simp; done) | (go_simp; rfl)); intro gb15001 hg w5 hbox hb; have n0_ := Aside0.mk (below_step (by repeat (first | (with_reducible first | exact HB.out | apply below_alloc | apply pw_below_drewN | apply below_drew1) | exact HB.out)) hb); have n1_ := Aside0.mk (hbox); have n2_ := Aside0.mk ((by rw [hg]; exact (below_size (by repeat (first | (with_reducible first | exact HB.out | apply below_alloc | apply pw_below_drewN | apply below_drew1) | exact HB.out))) : w.heap.size ≤ gb15001)); have n3_ := Aside0.mk ((by rw [hg]; exact (below_size (by repeat (first | (with_reducible first | exact HB.out | apply below_alloc | apply pw_below_drewN | apply below_drew1) | exact HB.out))) : w.heap.size ≤ gb15001)); clear HB; have HB := n0_; have BK15001 := n1_; have GW15001 := n2_; have GE15001 := n3_; clear n0_ n1_ n2_ n3_; clear hb hbox hg; have hcz6_0 : w5.cell? ⟨gb15001, 0, none⟩ = some (.slice A0_0 l0_0.length c0_0) := (blk_cell BK15001.out 0).trans rfl; have hfz6_0 := blk_frozen BK15001.out 0) | ((with_reducible refine gate_callee (f := 80) rfl ?_); refine goesL_ (some 8) rfl rfl Try.func80 (by kernel_rfl) rfl #[.slice A0_0 l0_0.length c0_0, .int .i64 a1] rfl (by (try simp only [List.map_toArray, List.map_cons, List.map_nil]); first | done | rfl | (simp only [List.length_drop, List.length_take]; rfl)) ?_; (with_reducible refine (laws_szConstraintS.calls k _ _ l0_0 a1 t15002 _ ?side1 ?side2 A3.out).mono ?_); (case side1 => repeat (first | exact (Kd.C_below HR0_0.out HB.out) | (with_reducible refine Kd.C_alloc ?_ _) | (with_reducible refine Kd.C_drewN ?_ _) | (with_reducible refine Kd.C_drew ?_))); (case side2 => exact HC0_0.out); rintro e w7 ⟨rfl, hb⟩; refine ⟨_, rfl, ?_⟩; have n0_ := Aside0.mk (blk_below (g := gb15001) (o := .cells #[.slice A0_0 l0_0.length c0_0] 24 (0, 0)) (by (with_reducible repeat (first | refine blk_drewN ?_ _ | refine blk_drew ?_ | refine blk_alloc ?_ _)); exact BK15001.out) hb); have n1_ := Aside0.mk (below_step (by repeat (first | (with_reducible first | exact HB.out | apply below_alloc | apply pw_below_drewN | apply below_drew1 | refine below_set ?_ GE15001.out) | exact HB.out)) hb); clear BK15001; clear HB; have BK15001 := n0_; have HB := n1_; clear n0_ n1_; (try clear hb); (try clear hb2); (try clear hk); (try clear hi)))
  go_ret
  exact ⟨by first | rfl | (simp [errW_none, errW_some] <;> rfl) | (simp [*, errW_none, errW_some] <;> rfl), by repeat (first | (with_reducible first | exact HB.out | apply below_alloc | apply pw_below_drewN | apply below_drew1 | refine below_set ?_ GE15001.out) | exact HB.out)⟩
 ·rw [if_neg c4] at H
  have c4b0 : decide (t15002 < 0) = false := decide_eq_false c4
  clear c4
  obtain rfl := Option.some.inj H
  go_enter Try.func15, Try.ntmps15
  go_wp2_with (first | ((with_reducible refine gate_dst (N := 2) rfl ?_); refine box_event ?hg (N := 2) ?hd (cs := #[.slice A0_0 l0_0.length c0_0]) (t := 24) ?hr ?_; (case hd => rfl); (case hg => rfl); (case hr => first | (go_simp; done) | (go_simp; rfl)); intro gb15001 hg w8 hbox hb; have n0_ := Aside0.mk (below_step (by repeat (first | (with_reducible first | exact HB.out | apply below_alloc | apply pw_below_drewN | apply below_drew1) | exact HB.out)) hb); have n1_ := Aside0.mk (hbox); have n2_ := Aside0.mk ((by rw [hg]; exact (below_size (by repeat (first | (with_reducible first | exact HB.out | apply below_alloc | apply pw_below_drewN | apply below_drew1) | exact HB.out))) : w.heap.size ≤ gb15001)); have n3_ := Aside0.mk ((by rw [hg]; exact (below_size (by repeat (first | (with_reducible first | exact HB.out | apply below_alloc | apply pw_below_drewN | apply below_drew1) | exact HB.out))) : w.heap.size ≤ gb15001)); clear HB; have HB := n0_; have BK15001 := n1_; have GW15001 := n2_; have GE15001 := n3_; clear n0_ n1_ n2_ n3_; clear hb hbox hg; have hcz9_0 : w8.cell? ⟨gb15001, 0, none⟩ = some (.slice A0_0 l0_0.length c0_0) := (blk_cell BK15001.out 0).trans rfl; have hfz9_0 := blk_frozen BK15001.out 0) | ((with_reducible refine gate_callee (f := 80) rfl ?_); refine goesL_ (some 8) rfl rfl Try.func80 (by kernel_rfl) rfl #[.slice A0_0 l0_0.length c0_0, .int .i64 a1] rfl (by (try simp only [List.map_toArray, List.map_cons, List.map_nil]); first | done | rfl | (simp only [List.length_drop, List.length_take]; rfl)) ?_; (with_reducible refine (laws_szConstraintS.calls k _ _ l0_0 a1 t15002 _ ?side1 ?side2 A3.out).mono ?_); (case side1 => repeat (first | exact (Kd.C_below HR0_0.out HB.out) | (with_reducible refine Kd.C_alloc ?_ _) | (with_reducible refine Kd.C_drewN ?_ _) | (with_reducible refine Kd.C_drew ?_))); (case side2 => exact HC0_0.out); rintro e w10 ⟨rfl, hb⟩; refine ⟨_, rfl, ?_⟩; have n0_ := Aside0.mk (blk_below (g := gb15001) (o := .cells #[.slice A0_0 l0_0.length c0_0] 24 (0, 0)) (by (with_reducible repeat (first | refine blk_drewN ?_ _ | refine blk_drew ?_ | refine blk_alloc ?_ _)); exact BK15001.out) hb); have n1_ := Aside0.mk (below_step (by repeat (first | (with_reducible first | exact HB.out | apply below_alloc | apply pw_below_drewN | apply below_drew1 | refine below_set ?_ GE15001.out) | exact HB.out)) hb); clear BK15001; clear HB; have BK15001 := n0_; have HB := n1_; clear n0_ n1_; (try clear hb); (try clear hb2); (try clear hk); (try clear hi)))
  go_ret
  exact ⟨by first | rfl | (simp [errW_none, errW_some] <;> rfl) | (simp [*, errW_none, errW_some] <;> rfl), by repeat (first | (with_reducible first | exact HB.out | apply below_alloc | apply pw_below_drewN | apply below_drew1 | refine below_set ?_ GE15001.out) | exact HB.out)⟩
def laws_toProblem.f (k : Nat) (l0_0 : List (S37)) : Option ((List (S44))) := (laws_toConstraintS.f k l0_0).bind fun t17004 => (some t17004)
theorem laws_toProblem.mono : ∀ a0 k, LeO (laws_toProblem.f k a0) (laws_toProblem.f (k + 1) a0) := by
 intro a0 k
 unfold laws_toProblem.f
 repeat' first
   | (with_reducible exact laws_toConstraintS.mono _ _)
   | (with_reducible exact LeO.refl _)
   | (with_reducible exact LeO.none _)
   | (with_reducible refine LeO.ite ?_ ?_)
   | (with_reducible refine LeO.bind ?_ (fun _ => ?_))
theorem laws_toProblem.calls (k : Nat) (A0_0 : Option Addr) (c0_0 : Nat) (l0_0 : List (S37)) (r : List (S44)) (w : World) (hr0_0 : Kd.C k37 w A0_0 l0_0.length l0_0) (hc0_0 : l0_0.length ≤ c0_0) (h : laws_toProblem.f k l0_0 = some r) :
  Calls Try.prog 17 #[.agg #[.slice A0_0 l0_0.length c0_0]] w fun e w' => ∃ v0_ : Value, e = .returned (.agg #[v0_]) ∧ Kd.R k44 44 w' w.heap.size (fun _ => True) v0_ r ∧ Below w.heap.size w w' := by
 have hu24 := Try.underlying24
 have hu29 := Try.underlying29
 have HR0_0 := Aside0.mk hr0_0
 have HC0_0 := Aside0.mk hc0_0
 clear hr0_0 hc0_0
 have HB := Aside0.mk (Below.refl w.heap.size w)
 have H : ((laws_toConstraintS.f k l0_0).bind fun t17004 => (some t17004)) = some r := h
 clear h
 replace H := Option.bind_eq_some_iff.mp H
 obtain ⟨t17004, A20, H⟩ := H
 replace H : (some t17004) = some r := H
 have A2 := Aside0.mk A20
 clear A20
 obtain rfl := Option.some.inj H
 go_enter Try.func17, Try.ntmps17
 go_wp2_with (first | ((with_reducible refine gate_dst (N := 1) rfl ?_); refine box_event ?hg (N := 1) ?hd (cs := #[.slice A0_0 l0_0.length c0_0]) (t := 24) ?hr ?_; (case hd => rfl); (case hg => rfl); (case hr => first | (go_simp; done) | (go_simp; rfl)); intro gb17001 hg w3 hbox hb; have n0_ := Aside0.mk (below_step (by repeat (first | (with_reducible first | exact HB.out | apply below_alloc | apply pw_below_drewN | apply below_drew1) | exact HB.out)) hb); have n1_ := Aside0.mk (hbox); have n2_ := Aside0.mk ((by rw [hg]; exact (below_size (by repeat (first | (with_reducible first | exact HB.out | apply below_alloc | apply pw_below_drewN | apply below_drew1) | exact HB.out))) : w.heap.size ≤ gb17001)); have n3_ := Aside0.mk ((by rw [hg]; exact (below_size (by repeat (first | (with_reducible first | exact HB.out | apply below_alloc | apply pw_below_drewN | apply below_drew1) | exact HB.out))) : w.heap.size ≤ gb17001)); clear HB; have HB := n0_; have BK17001 := n1_; have GW17001 := n2_; have GE17001 := n3_; clear n0_ n1_ n2_ n3_; clear hb hbox hg) | ((with_reducible refine gate_dst (N := 2) rfl ?_); refine box_event ?hg (N := 2) ?hd (cs := #[.slice none 0 0]) (t := 29) ?hr ?_; (case hd => rfl); (case hg => rfl); (case hr => first | (go_simp; done) | (go_simp; rfl)); intro gb17002 hg w4 hbox hb; have n0_ := Aside0.mk (blk_below (g := gb17001) (o := .cells #[.slice A0_0 l0_0.length c0_0] 24 (0, 0)) (by (with_reducible repeat (first | refine blk_drewN ?_ _ | refine blk_drew ?_ | refine blk_alloc ?_ _)); exact BK17001.out) hb); have n1_ := Aside0.mk (below_step (by repeat (first | (with_reducible first | exact HB.out | apply below_alloc | apply pw_below_drewN | apply below_drew1 | refine below_set ?_ GE17001.out) | exact HB.out)) hb); have n2_ := Aside0.mk (hbox); have n3_ := Aside0.mk ((by rw [hg]; exact (below_size (by repeat (first | (with_reducible first | exact HB.out | apply below_alloc | apply pw_below_drewN | apply below_drew1 | refine below_set ?_ GE17001.out) | exact HB.out))) : w.heap.size ≤ gb17002)); have n4_ := Aside0.mk ((by rw [hg]; exact (below_size (by repeat (first | (with_reducible first | exact HB.out | apply below_alloc | apply pw_below_drewN | apply below_drew1 | refine below_set ?_ GE17001.out) | exact HB.out))) : w.heap.size ≤ gb17002)); have n5_ := Aside0.mk ((by rw [hg]; exact Nat.ne_of_lt (blk_lt (g := gb17001) (o := .cells #[.slice A0_0 l0_0.length c0_0] 24 (0, 0)) (by (with_reducible repeat (first | refine blk_drewN ?_ _ | refine blk_drew ?_ | refine blk_alloc ?_ _)); exact BK17001.out)) : gb17001 ≠ gb17002)); have n6_ := Aside0.mk ((by rw [hg]; exact Nat.ne_of_gt (blk_lt (g := gb17001) (o := .cells #[.slice A0_0 l0_0.length c0_0] 24 (0, 0)) (by (with_reducible repeat (first | refine blk_drewN ?_ _ | refine blk_drew ?_ | refine blk_alloc ?_ _)); exact BK17001.out)) : gb17002 ≠ gb17001)); clear BK17001; clear HB; have BK17001 := n0_; have HB := n1_; have BK17002 := n2_; have GW17002 := n3_; have GE17002 := n4_; have NB17001_17002 := n5_; have NB17002_17001 := n6_; clear n0_ n1_ n2_ n3_ n4_ n5_ n6_; clear hb hbox hg) | ((with_reducible refine gate_dst (N := 3) rfl ?_); refine box_event ?hg (N := 3) ?hd (cs := #[.slice none 0 0]) (t := 29) ?hr ?_; (case hd => rfl); (case hg => rfl); (case hr => first | (go_simp; done) | (go_simp; rfl)); intro gb17003 hg w5 hbox hb; have n0_ := Aside0.mk (blk_below (g := gb17001) (o := .cells #[.slice A0_0 l0_0.length c0_0] 24 (0, 0)) (by (with_reducible repeat (first | refine blk_drewN ?_ _ | refine blk_drew ?_ | refine blk_alloc ?_ _)); exact BK17001.out) hb); have n1_ := Aside0.mk (blk_below (g := gb17002) (o := .cells #[.slice none 0 0] 29 (0, 0)) (by (with_reducible repeat (first | refine blk_drewN ?_ _ | refine blk_drew ?_ | refine blk_alloc ?_ _)); exact BK17002.out) hb); have n2_ := Aside0.mk (below_step (by repeat (first | (with_reducible first | exact HB.out | apply below_alloc | apply pw_below_drewN | apply below_drew1 | refine below_set ?_ GE17001.out | refine below_set ?_ GE17002.out) | exact HB.out)) hb); have n3_ := Aside0.mk (hbox); have n4_ := Aside0.mk ((by rw [hg]; exact (below_size (by repeat (first | (with_reducible first | exact HB.out | apply below_alloc | apply pw_below_drewN | apply below_drew1 | refine below_set ?_ GE17001.out | refine below_set ?_ GE17002.out) | exact HB.out))) : w.heap.size ≤ gb17003)); have n5_ := Aside0.mk ((by rw [hg]; exact (below_size (by repeat (first | (with_reducible first | exact HB.out | apply below_alloc | apply pw_below_drewN | apply below_drew1 | refine below_set ?_ GE17001.out | refine below_set ?_ GE17002.out) | exact HB.out))) : w.heap.size ≤ gb17003)); have n6_ := Aside0.mk ((by rw [hg]; exact Nat.ne_of_lt (blk_lt (g := gb17001) (o := .cells #[.slice A0_0 l0_0.length c0_0] 24 (0, 0)) (by (with_reducible repeat (first | refine blk_drewN ?_ _ | refine blk_drew ?_ | refine blk_alloc ?_ _)); exact BK17001.out)) : gb17001 ≠ gb17003)); have n7_ := Aside0.mk ((by rw [hg]; exact Nat.ne_of_gt (blk_lt (g := gb17001) (o := .cells #[.slice A0_0 l0_0.length c0_0] 24 (0, 0)) (by (with_reducible repeat (first | refine blk_drewN ?_ _ | refine blk_drew ?_ | refine blk_alloc ?_ _)); exact BK17001.out)) : gb17003 ≠ gb17001)); have n8_ := Aside0.mk ((by rw [hg]; exact Nat.ne_of_lt (blk_lt (g := gb17002) (o := .cells #[.slice none 0 0] 29 (0, 0)) (by (with_reducible repeat (first | refine blk_drewN ?_ _ | refine blk_drew ?_ | refine blk_alloc ?_ _)); exact BK17002.out)) : gb17002 ≠ gb17003)); have n9_ := Aside0.mk ((by rw [hg]; exact Nat.ne_of_gt (blk_lt (g := gb17002) (o := .cells #[.slice none 0 0] 29 (0, 0)) (by (with_reducible repeat (first | refine blk_drewN ?_ _ | refine blk_drew ?_ | refine blk_alloc ?_ _)); exact BK17002.out)) : gb17003 ≠ gb17002)); clear BK17001; clear BK17002; clear HB; have BK17001 := n0_; have BK17002 := n1_; have HB := n2_; have BK17003 := n3_; have GW17003 := n4_; have GE17003 := n5_; have NB17001_17003 := n6_; have NB17003_17001 := n7_; have NB17002_17003 := n8_; have NB17003_17002 := n9_; clear n0_ n1_ n2_ n3_ n4_ n5_ n6_ n7_ n8_ n9_; clear hb hbox hg; have hnb6 := NB17001_17002.out; have hnc6 := NB17002_17001.out; have hnb7 := NB17001_17003.out; have hnc7 := NB17003_17001.out; have hcz8_0 : w5.cell? ⟨gb17001, 0, none⟩ = some (.slice A0_0 l0_0.length c0_0) := (blk_cell BK17001.out 0).trans rfl; have hfz8_0 := blk_frozen BK17001.out 0) | ((with_reducible refine gate_callee (f := 82) rfl ?_); refine goesL_ (some 6) rfl rfl Try.func82 (by kernel_rfl) rfl #[.slice A0_0 l0_0.length c0_0] rfl (by (try simp only [List.map_toArray, List.map_cons, List.map_nil]); first | done | rfl | (simp only [List.length_drop, List.length_take]; rfl)) ?_; (with_reducible refine (laws_toConstraintS.calls k _ _ l0_0 t17004 _ ?side1 ?side2 A2.out).mono ?_); (case side1 => repeat (first | exact (Kd.C_below HR0_0.out HB.out) | (with_reducible refine Kd.C_alloc ?_ _) | (with_reducible refine Kd.C_drewN ?_ _) | (with_reducible refine Kd.C_drew ?_))); (case side2 => exact HC0_0.out); rintro e w9 ⟨v17005, rfl, ho0, hb⟩; refine ⟨_, rfl, ?_⟩; have n0_ := Aside0.mk (Kd.R_lower ho0 (below_size (by repeat (first | (with_reducible first | exact HB.out | apply below_alloc | apply pw_below_drewN | apply below_drew1 | refine below_set ?_ GE17001.out | refine below_set ?_ GE17002.out | refine below_set ?_ GE17003.out) | exact HB.out)))); have n1_ := Aside0.mk (blk_below (g := gb17001) (o := .cells #[.slice A0_0 l0_0.length c0_0] 24 (0, 0)) (by (with_reducible repeat (first | refine blk_drewN ?_ _ | refine blk_drew ?_ | refine blk_alloc ?_ _)); exact BK17001.out) hb); have n2_ := Aside0.mk (blk_below (g := gb17002) (o := .cells #[.slice none 0 0] 29 (0, 0)) (by (with_reducible repeat (first | refine blk_drewN ?_ _ | refine blk_drew ?_ | refine blk_alloc ?_ _)); exact BK17002.out) hb); have n3_ := Aside0.mk (blk_below (g := gb17003) (o := .cells #[.slice none 0 0] 29 (0, 0)) (by (with_reducible repeat (first | refine blk_drewN ?_ _ | refine blk_drew ?_ | refine blk_alloc ?_ _)); exact BK17003.out) hb); have n4_ := Aside0.mk (below_step (by repeat (first | (with_reducible first | exact HB.out | apply below_alloc | apply pw_below_drewN | apply below_drew1 | refine below_set ?_ GE17001.out | refine below_set ?_ GE17002.out | refine below_set ?_ GE17003.out) | exact HB.out)) hb); clear BK17001; clear BK17002; clear BK17003; clear HB; have HO17006 := n0_; have BK17001 := n1_; have BK17002 := n2_; have BK17003 := n3_; have HB := n4_; clear n0_ n1_ n2_ n3_ n4_; (try clear hb); (try clear hb2); (try clear hk); (try clear hi); (try clear ho0); obtain ⟨Ao10, co10, eo10⟩ := Kd.R_slice HO17006.out; subst eo10; have hnb11 := NB17003_17002.out; have hnc11 := NB17002_17003.out; have hcz12_0 : w9.cell? ⟨gb17003, 0, none⟩ = some (.slice none 0 0) := (blk_cell BK17003.out 0).trans rfl; have hfz12_0 := blk_frozen BK17003.out 0; have hcz13_0 : w9.cell? ⟨gb17002, 0, none⟩ = some (.slice none 0 0) := (blk_cell BK17002.out 0).trans rfl; have hfz13_0 := blk_frozen BK17002.out 0))
 refine bodyPost_ret (results_cell_row rfl _ _ gb17002 29 #[.slice Ao10 t17004.length co10] (0, 0) _ rfl (by (with_reducible repeat (first | refine blk_drewN ?_ _ | refine blk_drew ?_ | refine blk_alloc ?_ _)); refine blk_put (cs := #[.slice none 0 0]) ?_ 0 _ rfl; (with_reducible repeat (first | refine blk_drewN ?_ _ | refine blk_drew ?_ | refine blk_alloc ?_ _)); refine blk_far ?_ NB17002_17003.out _; (with_reducible repeat (first | refine blk_drewN ?_ _ | refine blk_drew ?_ | refine blk_alloc ?_ _)); exact BK17002.out) Try.underlying29 rfl (by kernel_rfl)) rfl ?_
 exact ⟨_, by first | rfl | (simp [errW_none, errW_some] <;> rfl) | (simp [*, errW_none, errW_some] <;> rfl), by (with_reducible repeat (first | apply Kd.R_alloc | apply Kd.R_drewN | apply Kd.R_drew)); exact Kd.R_mono (Kd.R_far (p := ⟨gb17002, 0, none⟩) (Kd.R_far (p := ⟨gb17003, 0, none⟩) (Kd.R_types (Kd.R_types HO17006.out BK17003.out (by decide)) BK17002.out (by decide)) (fun _ hk => hk.1.2) (.slice Ao10 t17004.length co10)) (fun _ hk => hk.2) (.slice Ao10 t17004.length co10)) (fun _ hk => trivial), by repeat (first | (with_reducible first | exact HB.out | apply below_alloc | apply pw_below_drewN | apply below_drew1 | refine below_set ?_ GE17001.out | refine below_set ?_ GE17002.out | refine below_set ?_ GE17003.out) | exact HB.out)⟩
def laws_eqProblem.f (k : Nat) (l0_0 : List (S44)) (l1_0 : List (S44)) : Option (Bool) := (laws_eqConstraintS.f k l0_0 l1_0).bind fun t19003 => (if t19003 = true then (some true) else (some false))
theorem laws_eqProblem.mono : ∀ a0 a1 k, LeO (laws_eqProblem.f k a0 a1) (laws_eqProblem.f (k + 1) a0 a1) := by
 intro a0 a1 k
 unfold laws_eqProblem.f
 repeat' first
   | (with_reducible exact laws_eqConstraintS.mono _ _ _)
   | (with_reducible exact LeO.refl _)
   | (with_reducible exact LeO.none _)
   | (with_reducible refine LeO.ite ?_ ?_)
   | (with_reducible refine LeO.bind ?_ (fun _ => ?_))
theorem laws_eqProblem.calls (k : Nat) (A0_0 : Option Addr) (c0_0 : Nat) (l0_0 : List (S44)) (A1_0 : Option Addr) (c1_0 : Nat) (l1_0 : List (S44)) (r : Bool) (w : World) (hr0_0 : Kd.C k44 w A0_0 l0_0.length l0_0) (hc0_0 : l0_0.length ≤ c0_0) (hr1_0 : Kd.C k44 w A1_0 l1_0.length l1_0) (hc1_0 : l1_0.length ≤ c1_0) (h : laws_eqProblem.f k l0_0 l1_0 = some r) :
  Calls Try.prog 19 #[.agg #[.slice A0_0 l0_0.length c0_0], .agg #[.slice A1_0 l1_0.length c1_0]] w fun e w' => e = .returned (.bool r) ∧ Below w.heap.size w w' := by
 have hu29 := Try.underlying29
 have HR0_0 := Aside0.mk hr0_0
 have HC0_0 := Aside0.mk hc0_0
 clear hr0_0 hc0_0
 have HR1_0 := Aside0.mk hr1_0
 have HC1_0 := Aside0.mk hc1_0
 clear hr1_0 hc1_0
 have HB := Aside0.mk (Below.refl w.heap.size w)
 have H : ((laws_eqConstraintS.f k l0_0 l1_0).bind fun t19003 => (if t19003 = true then (some true) else (some false))) = some r := h
 clear h
 replace H := Option.bind_eq_some_iff.mp H
 obtain ⟨t19003, A30, H⟩ := H
 replace H : (if t19003 = true then (some true) else (some false)) = some r := H
 have A3 := Aside0.mk A30
 clear A30
 by_cases c4 : t19003 = true
 ·subst c4
  have H1 : (some true) = some r := by rw [if_pos rfl] at H; exact H
  clear H
  have H := H1
  clear H1
  obtain rfl := Option.some.inj H
  go_enter Try.func19, Try.ntmps19
  go_wp2_with (first | ((with_reducible refine gate_dst (N := 2) rfl ?_); refine box_event ?hg (N := 2) ?hd (cs := #[.slice A0_0 l0_0.length c0_0]) (t := 29) ?hr ?_; (case hd => rfl); (case hg => rfl); (case hr => first | (go_simp; done) | (go_simp; rfl)); intro gb19001 hg w5 hbox hb; have n0_ := Aside0.mk (below_step (by repeat (first | (with_reducible first | exact HB.out | apply below_alloc | apply pw_below_drewN | apply below_drew1) | exact HB.out)) hb); have n1_ := Aside0.mk (hbox); have n2_ := Aside0.mk ((by rw [hg]; exact (below_size (by repeat (first | (with_reducible first | exact HB.out | apply below_alloc | apply pw_below_drewN | apply below_drew1) | exact HB.out))) : w.heap.size ≤ gb19001)); have n3_ := Aside0.mk ((by rw [hg]; exact (below_size (by repeat (first | (with_reducible first | exact HB.out | apply below_alloc | apply pw_below_drewN | apply below_drew1) | exact HB.out))) : w.heap.size ≤ gb19001)); clear HB; have HB := n0_; have BK19001 := n1_; have GW19001 := n2_; have GE19001 := n3_; clear n0_ n1_ n2_ n3_; clear hb hbox hg) | ((with_reducible refine gate_dst (N := 3) rfl ?_); refine box_event ?hg (N := 3) ?hd (cs := #[.slice A1_0 l1_0.length c1_0]) (t := 29) ?hr ?_; (case hd => rfl); (case hg => rfl); (case hr => first | (go_simp; done) | (go_simp; rfl)); intro gb19002 hg w6 hbox hb; have n0_ := Aside0.mk (blk_below (g := gb19001) (o := .cells #[.slice A0_0 l0_0.length c0_0] 29 (0, 0)) (by (with_reducible repeat (first | refine blk_drewN ?_ _ | refine blk_drew ?_ | refine blk_alloc ?_ _)); exact BK19001.out) hb); have n1_ := Aside0.mk (below_step (by repeat (first | (with_reducible first | exact HB.out | apply below_alloc | apply pw_below_drewN | apply below_drew1 | refine below_set ?_ GE19001.out) | exact HB.out)) hb); have n2_ := Aside0.mk (hbox); have n3_ := Aside0.mk ((by rw [hg]; exact (below_size (by repeat (first | (with_reducible first | exact HB.out | apply below_alloc | apply pw_below_drewN | apply below_drew1 | refine below_set ?_ GE19001.out) | exact HB.out))) : w.heap.size ≤ gb19002)); have n4_ := Aside0.mk ((by rw [hg]; exact (below_size (by repeat (first | (with_reducible first | exact HB.out | apply below_alloc | apply pw_below_drewN | apply below_drew1 | refine below_set ?_ GE19001.out) | exact HB.out))) : w.heap.size ≤ gb19002)); have n5_ := Aside0.mk ((by rw [hg]; exact Nat.ne_of_lt (blk_lt (g := gb19001) (o := .cells #[.slice A0_0 l0_0.length c0_0] 29 (0, 0)) (by (with_reducible repeat (first | refine blk_drewN ?_ _ | refine blk_drew ?_ | refine blk_alloc ?_ _)); exact BK19001.out)) : gb19001 ≠ gb19002)); have n6_ := Aside0.mk ((by rw [hg]; exact Nat.ne_of_gt (blk_lt (g := gb19001) (o := .cells #[.slice A0_0 l0_0.length c0_0] 29 (0, 0)) (by (with_reducible repeat (first | refine blk_drewN ?_ _ | refine blk_drew ?_ | refine blk_alloc ?_ _)); exact BK19001.out)) : gb19002 ≠ gb19001)); clear BK19001; clear HB; have BK19001 := n0_; have HB := n1_; have BK19002 := n2_; have GW19002 := n3_; have GE19002 := n4_; have NB19001_19002 := n5_; have NB19002_19001 := n6_; clear n0_ n1_ n2_ n3_ n4_ n5_ n6_; clear hb hbox hg; have hnb7 := NB19001_19002.out; have hnc7 := NB19002_19001.out; have hcz8_0 : w6.cell? ⟨gb19001, 0, none⟩ = some (.slice A0_0 l0_0.length c0_0) := (blk_cell BK19001.out 0).trans rfl; have hfz8_0 := blk_frozen BK19001.out 0; have hcz9_0 : w6.cell? ⟨gb19002, 0, none⟩ = some (.slice A1_0 l1_0.length c1_0) := (blk_cell BK19002.out 0).trans rfl; have hfz9_0 := blk_frozen BK19002.out 0) | ((with_reducible refine gate_callee (f := 85) rfl ?_); refine goesL_ (some 9) rfl rfl Try.func85 (by kernel_rfl) rfl #[.slice A0_0 l0_0.length c0_0, .slice A1_0 l1_0.length c1_0] rfl (by (try simp only [List.map_toArray, List.map_cons, List.map_nil]); first | done | rfl | (simp only [List.length_drop, List.length_take]; rfl)) ?_; (with_reducible refine (laws_eqConstraintS.calls k _ _ l0_0 _ _ l1_0 true _ ?side1 ?side2 ?side3 ?side4 A3.out).mono ?_); (case side1 => repeat (first | exact (Kd.C_below HR0_0.out HB.out) | (with_reducible refine Kd.C_alloc ?_ _) | (with_reducible refine Kd.C_drewN ?_ _) | (with_reducible refine Kd.C_drew ?_))); (case side2 => exact HC0_0.out); (case side3 => repeat (first | exact (Kd.C_below HR1_0.out HB.out) | (with_reducible refine Kd.C_alloc ?_ _) | (with_reducible refine Kd.C_drewN ?_ _) | (with_reducible refine Kd.C_drew ?_))); (case side4 => exact HC1_0.out); rintro e w10 ⟨rfl, hb⟩; refine ⟨_, rfl, ?_⟩; have n0_ := Aside0.mk (blk_below (g := gb19001) (o := .cells #[.slice A0_0 l0_0.length c0_0] 29 (0, 0)) (by (with_reducible repeat (first | refine blk_drewN ?_ _ | refine blk_drew ?_ | refine blk_alloc ?_ _)); exact BK19001.out) hb); have n1_ := Aside0.mk (blk_below (g := gb19002) (o := .cells #[.slice A1_0 l1_0.length c1_0] 29 (0, 0)) (by (with_reducible repeat (first | refine blk_drewN ?_ _ | refine blk_drew ?_ | refine blk_alloc ?_ _)); exact BK19002.out) hb); have n2_ := Aside0.mk (below_step (by repeat (first | (with_reducible first | exact HB.out | apply below_alloc | apply pw_below_drewN | apply below_drew1 | refine below_set ?_ GE19001.out | refine below_set ?_ GE19002.out) | exact HB.out)) hb); clear BK19001; clear BK19002; clear HB; have BK19001 := n0_; have BK19002 := n1_; have HB := n2_; clear n0_ n1_ n2_; (try clear hb); (try clear hb2); (try clear hk); (try clear hi)))
  go_ret
  exact ⟨by first | rfl | (simp [errW_none, errW_some] <;> rfl) | (simp [*, errW_none, errW_some] <;> rfl), by repeat (first | (with_reducible first | exact HB.out | apply below_alloc | apply pw_below_drewN | apply below_drew1 | refine below_set ?_ GE19001.out | refine below_set ?_ GE19002.out) | exact HB.out)⟩
 ·replace c4 := Bool.eq_false_iff.mpr c4
  subst c4
  have H1 : (some false) = some r := by rw [if_neg (show ¬ (false = true) by decide)] at H; exact H
  clear H
  have H := H1
  clear H1
  obtain rfl := Option.some.inj H
  go_enter Try.func19, Try.ntmps19
  go_wp2_with (first | ((with_reducible refine gate_dst (N := 2) rfl ?_); refine box_event ?hg (N := 2) ?hd (cs := #[.slice A0_0 l0_0.length c0_0]) (t := 29) ?hr ?_; (case hd => rfl); (case hg => rfl); (case hr => first | (go_simp; done) | (go_simp; rfl)); intro gb19001 hg w11 hbox hb; have n0_ := Aside0.mk (below_step (by repeat (first | (with_reducible first | exact HB.out | apply below_alloc | apply pw_below_drewN | apply below_drew1) | exact HB.out)) hb); have n1_ := Aside0.mk (hbox); have n2_ := Aside0.mk ((by rw [hg]; exact (below_size (by repeat (first | (with_reducible first | exact HB.out | apply below_alloc | apply pw_below_drewN | apply below_drew1) | exact HB.out))) : w.heap.size ≤ gb19001)); have n3_ := Aside0.mk ((by rw [hg]; exact (below_size (by repeat (first | (with_reducible first | exact HB.out | apply below_alloc | apply pw_below_drewN | apply below_drew1) | exact HB.out))) : w.heap.size ≤ gb19001)); clear HB; have HB := n0_; have BK19001 := n1_; have GW19001 := n2_; have GE19001 := n3_; clear n0_ n1_ n2_ n3_; clear hb hbox hg) | ((with_reducible refine gate_dst (N := 3) rfl ?_); refine box_event ?hg (N := 3) ?hd (cs := #[.slice A1_0 l1_0.length c1_0]) (t := 29) ?hr ?_; (case hd => rfl); (case hg => rfl); (case hr => first | (go_simp; done) | (go_simp; rfl)); intro gb19002 hg w12 hbox hb; have n0_ := Aside0.mk (blk_below (g := gb19001) (o := .cells #[.slice A0_0 l0_0.length c0_0] 29 (0, 0)) (by (with_reducible repeat (first | refine blk_drewN ?_ _ | refine blk_drew ?_ | refine blk_alloc ?_ _)); exact BK19001.out) hb); have n1_ := Aside0.mk (below_step (by repeat (first | (with_reducible first | exact HB.out | apply below_alloc | apply pw_below_drewN | apply below_drew1 | refine below_set ?_ GE19001.out) | exact HB.out)) hb); have n2_ := Aside0.mk (hbox); have n3_ := Aside0.mk ((by rw [hg]; exact (below_size (by repeat (first | (with_reducible first | exact HB.out | apply below_alloc | apply pw_below_drewN | apply below_drew1 | refine below_set ?_ GE19001.out) | exact HB.out))) : w.heap.size ≤ gb19002)); have n4_ := Aside0.mk ((by rw [hg]; exact (below_size (by repeat (first | (with_reducible first | exact HB.out | apply below_alloc | apply pw_below_drewN | apply below_drew1 | refine below_set ?_ GE19001.out) | exact HB.out))) : w.heap.size ≤ gb19002)); have n5_ := Aside0.mk ((by rw [hg]; exact Nat.ne_of_lt (blk_lt (g := gb19001) (o := .cells #[.slice A0_0 l0_0.length c0_0] 29 (0, 0)) (by (with_reducible repeat (first | refine blk_drewN ?_ _ | refine blk_drew ?_ | refine blk_alloc ?_ _)); exact BK19001.out)) : gb19001 ≠ gb19002)); have n6_ := Aside0.mk ((by rw [hg]; exact Nat.ne_of_gt (blk_lt (g := gb19001) (o := .cells #[.slice A0_0 l0_0.length c0_0] 29 (0, 0)) (by (with_reducible repeat (first | refine blk_drewN ?_ _ | refine blk_drew ?_ | refine blk_alloc ?_ _)); exact BK19001.out)) : gb19002 ≠ gb19001)); clear BK19001; clear HB; have BK19001 := n0_; have HB := n1_; have BK19002 := n2_; have GW19002 := n3_; have GE19002 := n4_; have NB19001_19002 := n5_; have NB19002_19001 := n6_; clear n0_ n1_ n2_ n3_ n4_ n5_ n6_; clear hb hbox hg; have hnb13 := NB19001_19002.out; have hnc13 := NB19002_19001.out; have hcz14_0 : w12.cell? ⟨gb19001, 0, none⟩ = some (.slice A0_0 l0_0.length c0_0) := (blk_cell BK19001.out 0).trans rfl; have hfz14_0 := blk_frozen BK19001.out 0; have hcz15_0 : w12.cell? ⟨gb19002, 0, none⟩ = some (.slice A1_0 l1_0.length c1_0) := (blk_cell BK19002.out 0).trans rfl; have hfz15_0 := blk_frozen BK19002.out 0) | ((with_reducible refine gate_callee (f := 85) rfl ?_); refine goesL_ (some 9) rfl rfl Try.func85 (by kernel_rfl) rfl #[.slice A0_0 l0_0.length c0_0, .slice A1_0 l1_0.length c1_0] rfl (by (try simp only [List.map_toArray, List.map_cons, List.map_nil]); first | done | rfl | (simp only [List.length_drop, List.length_take]; rfl)) ?_; (with_reducible refine (laws_eqConstraintS.calls k _ _ l0_0 _ _ l1_0 false _ ?side1 ?side2 ?side3 ?side4 A3.out).mono ?_); (case side1 => repeat (first | exact (Kd.C_below HR0_0.out HB.out) | (with_reducible refine Kd.C_alloc ?_ _) | (with_reducible refine Kd.C_drewN ?_ _) | (with_reducible refine Kd.C_drew ?_))); (case side2 => exact HC0_0.out); (case side3 => repeat (first | exact (Kd.C_below HR1_0.out HB.out) | (with_reducible refine Kd.C_alloc ?_ _) | (with_reducible refine Kd.C_drewN ?_ _) | (with_reducible refine Kd.C_drew ?_))); (case side4 => exact HC1_0.out); rintro e w16 ⟨rfl, hb⟩; refine ⟨_, rfl, ?_⟩; have n0_ := Aside0.mk (blk_below (g := gb19001) (o := .cells #[.slice A0_0 l0_0.length c0_0] 29 (0, 0)) (by (with_reducible repeat (first | refine blk_drewN ?_ _ | refine blk_drew ?_ | refine blk_alloc ?_ _)); exact BK19001.out) hb); have n1_ := Aside0.mk (blk_below (g := gb19002) (o := .cells #[.slice A1_0 l1_0.length c1_0] 29 (0, 0)) (by (with_reducible repeat (first | refine blk_drewN ?_ _ | refine blk_drew ?_ | refine blk_alloc ?_ _)); exact BK19002.out) hb); have n2_ := Aside0.mk (below_step (by repeat (first | (with_reducible first | exact HB.out | apply below_alloc | apply pw_below_drewN | apply below_drew1 | refine below_set ?_ GE19001.out | refine below_set ?_ GE19002.out) | exact HB.out)) hb); clear BK19001; clear BK19002; clear HB; have BK19001 := n0_; have BK19002 := n1_; have HB := n2_; clear n0_ n1_ n2_; (try clear hb); (try clear hb2); (try clear hk); (try clear hi)))
  go_ret
  exact ⟨by first | rfl | (simp [errW_none, errW_some] <;> rfl) | (simp [*, errW_none, errW_some] <;> rfl), by repeat (first | (with_reducible first | exact HB.out | apply below_alloc | apply pw_below_drewN | apply below_drew1 | refine below_set ?_ GE19001.out | refine below_set ?_ GE19002.out) | exact HB.out)⟩
end Go.Proofs.Ytpppopdmnejcfaa.A
namespace Go.Proofs.Ytpppopdmnejcfaa.A
open Go.RowKit Go.Proofs.Ytpppopdmnejcfaa.Ext Go.Proofs.YtpppopdmnejcfaaW.PrintWords Go.Proofs.YtpppopdmnejcfaaW.PrintLast Go.Proofs.YtpppopdmnejcfaaW.PrintMore
attribute [local go_sem] max2_int min2_int max_two min_two max_three min_three max_four min_four
def laws_eqEquation.f (a0_0 : ByteArray) (a0_1 : ByteArray) (a1_0 : ByteArray) (a1_1 : ByteArray) : Option (Bool) := if a0_0.toList = a1_0.toList then (if a0_1.toList = a1_1.toList then (some true) else (some false)) else (some false)
theorem laws_eqEquation.calls (a0_0 : ByteArray) (a0_1 : ByteArray) (a1_0 : ByteArray) (a1_1 : ByteArray) (r : Bool) (w : World) (h : laws_eqEquation.f a0_0 a0_1 a1_0 a1_1 = some r) :
  Calls Try.prog 71 #[.agg #[.string a0_0, .string a0_1], .agg #[.string a1_0, .string a1_1]] w fun e w' => e = .returned (.bool r) ∧ Below w.heap.size w w' := by
 have hu58 := Try.underlying58
 have HB := Aside0.mk (Below.refl w.heap.size w)
 have H : (if a0_0.toList = a1_0.toList then (if a0_1.toList = a1_1.toList then (some true) else (some false)) else (some false)) = some r := h
 clear h
 by_cases c3 : a0_0.toList = a1_0.toList
 ·rw [if_pos c3] at H
  have c3b0 : (a0_0.toList == a1_0.toList) = true := beq_iff_eq.mpr c3
  have c3b1 : (a0_0.toList != a1_0.toList) = false := bne_eq_false_iff_eq.mpr c3
  clear c3
  by_cases c4 : a0_1.toList = a1_1.toList
  ·rw [if_pos c4] at H
   have c4b0 : (a0_1.toList == a1_1.toList) = true := beq_iff_eq.mpr c4
   have c4b1 : (a0_1.toList != a1_1.toList) = false := bne_eq_false_iff_eq.mpr c4
   clear c4
   obtain rfl := Option.some.inj H
   go_enter Try.func71, Try.ntmps71
   go_wp2_with (first | ((with_reducible refine gate_dst (N := 2) rfl ?_); refine box_event ?hg (N := 2) ?hd (cs := #[.string a0_0, .string a0_1]) (t := 58) ?hr ?_; (case hd => rfl); (case hg => rfl); (case hr => first | (go_simp; done) | (go_simp; rfl)); intro gb71001 hg w5 hbox hb; have n0_ := Aside0.mk (below_step (by repeat (first | (with_reducible first | exact HB.out | apply below_alloc | apply pw_below_drewN | apply below_drew1) | exact HB.out)) hb); have n1_ := Aside0.mk (hbox); have n2_ := Aside0.mk ((by rw [hg]; exact (below_size (by repeat (first | (with_reducible first | exact HB.out | apply below_alloc | apply pw_below_drewN | apply below_drew1) | exact HB.out))) : w.heap.size ≤ gb71001)); have n3_ := Aside0.mk ((by rw [hg]; exact (below_size (by repeat (first | (with_reducible first | exact HB.out | apply below_alloc | apply pw_below_drewN | apply below_drew1) | exact HB.out))) : w.heap.size ≤ gb71001)); clear HB; have HB := n0_; have BK71001 := n1_; have GW71001 := n2_; have GE71001 := n3_; clear n0_ n1_ n2_ n3_; clear hb hbox hg) | ((with_reducible refine gate_dst (N := 3) rfl ?_); refine box_event ?hg (N := 3) ?hd (cs := #[.string a1_0, .string a1_1]) (t := 58) ?hr ?_; (case hd => rfl); (case hg => rfl); (case hr => first | (go_simp; done) | (go_simp; rfl)); intro gb71002 hg w6 hbox hb; have n0_ := Aside0.mk (blk_below (g := gb71001) (o := .cells #[.string a0_0, .string a0_1] 58 (0, 0)) (by (with_reducible repeat (first | refine blk_drewN ?_ _ | refine blk_drew ?_ | refine blk_alloc ?_ _)); exact BK71001.out) hb); have n1_ := Aside0.mk (below_step (by repeat (first | (with_reducible first | exact HB.out | apply below_alloc | apply pw_below_drewN | apply below_drew1 | refine below_set ?_ GE71001.out) | exact HB.out)) hb); have n2_ := Aside0.mk (hbox); have n3_ := Aside0.mk ((by rw [hg]; exact (below_size (by repeat (first | (with_reducible first | exact HB.out | apply below_alloc | apply pw_below_drewN | apply below_drew1 | refine below_set ?_ GE71001.out) | exact HB.out))) : w.heap.size ≤ gb71002)); have n4_ := Aside0.mk ((by rw [hg]; exact (below_size (by repeat (first | (with_reducible first | exact HB.out | apply below_alloc | apply pw_below_drewN | apply below_drew1 | refine below_set ?_ GE71001.out) | exact HB.out))) : w.heap.size ≤ gb71002)); have n5_ := Aside0.mk ((by rw [hg]; exact Nat.ne_of_lt (blk_lt (g := gb71001) (o := .cells #[.string a0_0, .string a0_1] 58 (0, 0)) (by (with_reducible repeat (first | refine blk_drewN ?_ _ | refine blk_drew ?_ | refine blk_alloc ?_ _)); exact BK71001.out)) : gb71001 ≠ gb71002)); have n6_ := Aside0.mk ((by rw [hg]; exact Nat.ne_of_gt (blk_lt (g := gb71001) (o := .cells #[.string a0_0, .string a0_1] 58 (0, 0)) (by (with_reducible repeat (first | refine blk_drewN ?_ _ | refine blk_drew ?_ | refine blk_alloc ?_ _)); exact BK71001.out)) : gb71002 ≠ gb71001)); clear BK71001; clear HB; have BK71001 := n0_; have HB := n1_; have BK71002 := n2_; have GW71002 := n3_; have GE71002 := n4_; have NB71001_71002 := n5_; have NB71002_71001 := n6_; clear n0_ n1_ n2_ n3_ n4_ n5_ n6_; clear hb hbox hg; have hnb7 := NB71001_71002.out; have hnc7 := NB71002_71001.out; have hcz8_0 : w6.cell? ⟨gb71001, 0, none⟩ = some (.string a0_0) := (blk_cell BK71001.out 0).trans rfl; have hcz8_1 : w6.cell? ⟨gb71001, 1, none⟩ = some (.string a0_1) := (blk_cell BK71001.out 1).trans rfl; have hfz8_0 := blk_frozen BK71001.out 0; have hfz8_1 := blk_frozen BK71001.out 1; have hcz9_0 : w6.cell? ⟨gb71002, 0, none⟩ = some (.string a1_0) := (blk_cell BK71002.out 0).trans rfl; have hcz9_1 : w6.cell? ⟨gb71002, 1, none⟩ = some (.string a1_1) := (blk_cell BK71002.out 1).trans rfl; have hfz9_0 := blk_frozen BK71002.out 0; have hfz9_1 := blk_frozen BK71002.out 1))
   go_ret
   exact ⟨by first | rfl | (simp [errW_none, errW_some] <;> rfl) | (simp [*, errW_none, errW_some] <;> rfl), by repeat (first | (with_reducible first | exact HB.out | apply below_alloc | apply pw_below_drewN | apply below_drew1 | refine below_set ?_ GE71001.out | refine below_set ?_ GE71002.out) | exact HB.out)⟩
  ·rw [if_neg c4] at H
   have c4b0 : (a0_1.toList == a1_1.toList) = false := beq_eq_false_iff_ne.mpr c4
   have c4b1 : (a0_1.toList != a1_1.toList) = true := bne_iff_ne.mpr c4
   obtain rfl := Option.some.inj H
   go_enter Try.func71, Try.ntmps71
   go_wp2_with (first | ((with_reducible refine gate_dst (N := 2) rfl ?_); refine box_event ?hg (N := 2) ?hd (cs := #[.string a0_0, .string a0_1]) (t := 58) ?hr ?_; (case hd => rfl); (case hg => rfl); (case hr => first | (go_simp; done) | (go_simp; rfl)); intro gb71001 hg w10 hbox hb; have n0_ := Aside0.mk (below_step (by repeat (first | (with_reducible first | exact HB.out | apply below_alloc | apply pw_below_drewN | apply below_drew1) | exact HB.out)) hb); have n1_ := Aside0.mk (hbox); have n2_ := Aside0.mk ((by rw [hg]; exact (below_size (by repeat (first | (with_reducible first | exact HB.out | apply below_alloc | apply pw_below_drewN | apply below_drew1) | exact HB.out))) : w.heap.size ≤ gb71001)); have n3_ := Aside0.mk ((by rw [hg]; exact (below_size (by repeat (first | (with_reducible first | exact HB.out | apply below_alloc | apply pw_below_drewN | apply below_drew1) | exact HB.out))) : w.heap.size ≤ gb71001)); clear HB; have HB := n0_; have BK71001 := n1_; have GW71001 := n2_; have GE71001 := n3_; clear n0_ n1_ n2_ n3_; clear hb hbox hg) | ((with_reducible refine gate_dst (N := 3) rfl ?_); refine box_event ?hg (N := 3) ?hd (cs := #[.string a1_0, .string a1_1]) (t := 58) ?hr ?_; (case hd => rfl); (case hg => rfl); (case hr => first | (go_simp; done) | (go_simp; rfl)); intro gb71002 hg w11 hbox hb; have n0_ := Aside0.mk (blk_below (g := gb71001) (o := .cells #[.string a0_0, .string a0_1] 58 (0, 0)) (by (with_reducible repeat (first | refine blk_drewN ?_ _ | refine blk_drew ?_ | refine blk_alloc ?_ _)); exact BK71001.out) hb); have n1_ := Aside0.mk (below_step (by repeat (first | (with_reducible first | exact HB.out | apply below_alloc | apply pw_below_drewN | apply below_drew1 | refine below_set ?_ GE71001.out) | exact HB.out)) hb); have n2_ := Aside0.mk (hbox); have n3_ := Aside0.mk ((by rw [hg]; exact (below_size (by repeat (first | (with_reducible first | exact HB.out | apply below_alloc | apply pw_below_drewN | apply below_drew1 | refine below_set ?_ GE71001.out) | exact HB.out))) : w.heap.size ≤ gb71002)); have n4_ := Aside0.mk ((by rw [hg]; exact (below_size (by repeat (first | (with_reducible first | exact HB.out | apply below_alloc | apply pw_below_drewN | apply below_drew1 | refine below_set ?_ GE71001.out) | exact HB.out))) : w.heap.size ≤ gb71002)); have n5_ := Aside0.mk ((by rw [hg]; exact Nat.ne_of_lt (blk_lt (g := gb71001) (o := .cells #[.string a0_0, .string a0_1] 58 (0, 0)) (by (with_reducible repeat (first | refine blk_drewN ?_ _ | refine blk_drew ?_ | refine blk_alloc ?_ _)); exact BK71001.out)) : gb71001 ≠ gb71002)); have n6_ := Aside0.mk ((by rw [hg]; exact Nat.ne_of_gt (blk_lt (g := gb71001) (o := .cells #[.string a0_0, .string a0_1] 58 (0, 0)) (by (with_reducible repeat (first | refine blk_drewN ?_ _ | refine blk_drew ?_ | refine blk_alloc ?_ _)); exact BK71001.out)) : gb71002 ≠ gb71001)); clear BK71001; clear HB; have BK71001 := n0_; have HB := n1_; have BK71002 := n2_; have GW71002 := n3_; have GE71002 := n4_; have NB71001_71002 := n5_; have NB71002_71001 := n6_; clear n0_ n1_ n2_ n3_ n4_ n5_ n6_; clear hb hbox hg; have hnb12 := NB71001_71002.out; have hnc12 := NB71002_71001.out; have hcz13_0 : w11.cell? ⟨gb71001, 0, none⟩ = some (.string a0_0) := (blk_cell BK71001.out 0).trans rfl; have hcz13_1 : w11.cell? ⟨gb71001, 1, none⟩ = some (.string a0_1) := (blk_cell BK71001.out 1).trans rfl; have hfz13_0 := blk_frozen BK71001.out 0; have hfz13_1 := blk_frozen BK71001.out 1; have hcz14_0 : w11.cell? ⟨gb71002, 0, none⟩ = some (.string a1_0) := (blk_cell BK71002.out 0).trans rfl; have hcz14_1 : w11.cell? ⟨gb71002, 1, none⟩ = some (.string a1_1) := (blk_cell BK71002.out 1).trans rfl; have hfz14_0 := blk_frozen BK71002.out 0; have hfz14_1 := blk_frozen BK71002.out 1))
   go_ret
   exact ⟨by first | rfl | (simp [errW_none, errW_some] <;> rfl) | (simp [*, errW_none, errW_some] <;> rfl), by repeat (first | (with_reducible first | exact HB.out | apply below_alloc | apply pw_below_drewN | apply below_drew1 | refine below_set ?_ GE71001.out | refine below_set ?_ GE71002.out) | exact HB.out)⟩
 ·rw [if_neg c3] at H
  have c3b0 : (a0_0.toList == a1_0.toList) = false := beq_eq_false_iff_ne.mpr c3
  have c3b1 : (a0_0.toList != a1_0.toList) = true := bne_iff_ne.mpr c3
  obtain rfl := Option.some.inj H
  go_enter Try.func71, Try.ntmps71
  go_wp2_with (first | ((with_reducible refine gate_dst (N := 2) rfl ?_); refine box_event ?hg (N := 2) ?hd (cs := #[.string a0_0, .string a0_1]) (t := 58) ?hr ?_; (case hd => rfl); (case hg => rfl); (case hr => first | (go_simp; done) | (go_simp; rfl)); intro gb71001 hg w15 hbox hb; have n0_ := Aside0.mk (below_step (by repeat (first | (with_reducible first | exact HB.out | apply below_alloc | apply pw_below_drewN | apply below_drew1) | exact HB.out)) hb); have n1_ := Aside0.mk (hbox); have n2_ := Aside0.mk ((by rw [hg]; exact (below_size (by repeat (first | (with_reducible first | exact HB.out | apply below_alloc | apply pw_below_drewN | apply below_drew1) | exact HB.out))) : w.heap.size ≤ gb71001)); have n3_ := Aside0.mk ((by rw [hg]; exact (below_size (by repeat (first | (with_reducible first | exact HB.out | apply below_alloc | apply pw_below_drewN | apply below_drew1) | exact HB.out))) : w.heap.size ≤ gb71001)); clear HB; have HB := n0_; have BK71001 := n1_; have GW71001 := n2_; have GE71001 := n3_; clear n0_ n1_ n2_ n3_; clear hb hbox hg) | ((with_reducible refine gate_dst (N := 3) rfl ?_); refine box_event ?hg (N := 3) ?hd (cs := #[.string a1_0, .string a1_1]) (t := 58) ?hr ?_; (case hd => rfl); (case hg => rfl); (case hr => first | (go_simp; done) | (go_simp; rfl)); intro gb71002 hg w16 hbox hb; have n0_ := Aside0.mk (blk_below (g := gb71001) (o := .cells #[.string a0_0, .string a0_1] 58 (0, 0)) (by (with_reducible repeat (first | refine blk_drewN ?_ _ | refine blk_drew ?_ | refine blk_alloc ?_ _)); exact BK71001.out) hb); have n1_ := Aside0.mk (below_step (by repeat (first | (with_reducible first | exact HB.out | apply below_alloc | apply pw_below_drewN | apply below_drew1 | refine below_set ?_ GE71001.out) | exact HB.out)) hb); have n2_ := Aside0.mk (hbox); have n3_ := Aside0.mk ((by rw [hg]; exact (below_size (by repeat (first | (with_reducible first | exact HB.out | apply below_alloc | apply pw_below_drewN | apply below_drew1 | refine below_set ?_ GE71001.out) | exact HB.out))) : w.heap.size ≤ gb71002)); have n4_ := Aside0.mk ((by rw [hg]; exact (below_size (by repeat (first | (with_reducible first | exact HB.out | apply below_alloc | apply pw_below_drewN | apply below_drew1 | refine below_set ?_ GE71001.out) | exact HB.out))) : w.heap.size ≤ gb71002)); have n5_ := Aside0.mk ((by rw [hg]; exact Nat.ne_of_lt (blk_lt (g := gb71001) (o := .cells #[.string a0_0, .string a0_1] 58 (0, 0)) (by (with_reducible repeat (first | refine blk_drewN ?_ _ | refine blk_drew ?_ | refine blk_alloc ?_ _)); exact BK71001.out)) : gb71001 ≠ gb71002)); have n6_ := Aside0.mk ((by rw [hg]; exact Nat.ne_of_gt (blk_lt (g := gb71001) (o := .cells #[.string a0_0, .string a0_1] 58 (0, 0)) (by (with_reducible repeat (first | refine blk_drewN ?_ _ | refine blk_drew ?_ | refine blk_alloc ?_ _)); exact BK71001.out)) : gb71002 ≠ gb71001)); clear BK71001; clear HB; have BK71001 := n0_; have HB := n1_; have BK71002 := n2_; have GW71002 := n3_; have GE71002 := n4_; have NB71001_71002 := n5_; have NB71002_71001 := n6_; clear n0_ n1_ n2_ n3_ n4_ n5_ n6_; clear hb hbox hg; have hnb17 := NB71001_71002.out; have hnc17 := NB71002_71001.out; have hcz18_0 : w16.cell? ⟨gb71001, 0, none⟩ = some (.string a0_0) := (blk_cell BK71001.out 0).trans rfl; have hcz18_1 : w16.cell? ⟨gb71001, 1, none⟩ = some (.string a0_1) := (blk_cell BK71001.out 1).trans rfl; have hfz18_0 := blk_frozen BK71001.out 0; have hfz18_1 := blk_frozen BK71001.out 1; have hcz19_0 : w16.cell? ⟨gb71002, 0, none⟩ = some (.string a1_0) := (blk_cell BK71002.out 0).trans rfl; have hcz19_1 : w16.cell? ⟨gb71002, 1, none⟩ = some (.string a1_1) := (blk_cell BK71002.out 1).trans rfl; have hfz19_0 := blk_frozen BK71002.out 0; have hfz19_1 := blk_frozen BK71002.out 1))
  go_ret
  exact ⟨by first | rfl | (simp [errW_none, errW_some] <;> rfl) | (simp [*, errW_none, errW_some] <;> rfl), by repeat (first | (with_reducible first | exact HB.out | apply below_alloc | apply pw_below_drewN | apply below_drew1 | refine below_set ?_ GE71001.out | refine below_set ?_ GE71002.out) | exact HB.out)⟩
end Go.Proofs.Ytpppopdmnejcfaa.A
namespace Go.Proofs.Ytpppopdmnejcfaa.A
open Go.RowKit Go.Proofs.Ytpppopdmnejcfaa.Ext Go.Proofs.YtpppopdmnejcfaaW.PrintWords Go.Proofs.YtpppopdmnejcfaaW.PrintLast Go.Proofs.YtpppopdmnejcfaaW.PrintMore
attribute [local go_sem] max2_int min2_int max_two min_two max_three min_three max_four min_four
def spec_LetterIndex.l0 : Nat → Int → Int → Option (Int)
 | 0, _, _ => none
 | k + 1, x0, x3 => if x3 < 3 then (if 0 ≤ x3 then (if (bt (⟨#[97, 98, 99]⟩ : ByteArray) x3) = x0 then (some x3) else (spec_LetterIndex.l0 k x0 (wrap64 (x3 + 1)))) else (none)) else (some (-1))
def spec_LetterIndex.f (k : Nat) (a0 : Int) : Option (Int) := spec_LetterIndex.l0 k a0 0
theorem spec_LetterIndex.mono_l : ∀ k, (∀ y0 y1, LeO (spec_LetterIndex.l0 k y0 y1) (spec_LetterIndex.l0 (k + 1) y0 y1))
 | 0 => fun _ _ r h => by simp [spec_LetterIndex.l0] at h
 | k + 1 => by
  have ih0 := spec_LetterIndex.mono_l k
  ·intro y0 y1
   unfold spec_LetterIndex.l0
   repeat' first
   | (with_reducible exact ih0 _ _)
   | (with_reducible exact LeO.refl _)
   | (with_reducible exact LeO.none _)
   | (with_reducible refine LeO.ite ?_ ?_)
   | (with_reducible refine LeO.bind ?_ (fun _ => ?_))
theorem spec_LetterIndex.mono : ∀ a0 k, LeO (spec_LetterIndex.f k a0) (spec_LetterIndex.f (k + 1) a0) := by
 intro a0 k
 have ih0 := spec_LetterIndex.mono_l k
 unfold spec_LetterIndex.f
 repeat' first
   | (with_reducible exact ih0 _ _)
   | (with_reducible exact LeO.refl _)
   | (with_reducible exact LeO.none _)
   | (with_reducible refine LeO.ite ?_ ?_)
   | (with_reducible refine LeO.bind ?_ (fun _ => ?_))
theorem spec_LetterIndex.calls (k : Nat) (a0 : Int) (r : Int) (w : World) (h : spec_LetterIndex.f k a0 = some r) :
  Calls Try.prog 141 #[.int .u8 a0] w fun e w' => e = .returned (.int .i64 r) ∧ Drawn0 w w' := by
 have H : (spec_LetterIndex.l0 k a0 0) = some r := h
 clear h
 have H' := Aside0.mk H
 clear H
 go_enter Try.func141, Try.ntmps141
 go_wp2
 first | go_loopg [3] k (fun kq v3 w' => ∃ (x3_1 : Int), v3 = .int .i64 x3_1 ∧ Aside0 (spec_LetterIndex.l0 kq a0 x3_1 = some r) ∧ Aside0 (kq ≤ k) ∧ Drawn0 w w') | (simp only [Act.put, List.setIfInBounds_toArray, List.set_cons_succ, List.set_cons_zero]; go_loopg [3] k (fun kq v3 w' => ∃ (x3_1 : Int), v3 = .int .i64 x3_1 ∧ Aside0 (spec_LetterIndex.l0 kq a0 x3_1 = some r) ∧ Aside0 (kq ≤ k) ∧ Drawn0 w w'))
 case atStart => exact ⟨(0), (by first | rfl | (simp; done) | (simp [*]; done)), H', ⟨Nat.le_refl _⟩, by repeat (first | exact Drawn0.refl _ | apply Drawn0.step)⟩
 case round =>
  clear H'
  try clear c1
  obtain ⟨x3_1, rfl, HA, HK1, ⟨m1, rfl⟩⟩ := hrel
  cases gk with
  | zero => exact absurd HA.out (by simp [spec_LetterIndex.l0])
  | succ k1 =>
   have H := HA.out
   clear HA
   simp only [spec_LetterIndex.l0] at H
   by_cases c2 : x3_1 < 3
   ·rw [if_pos c2] at H
    have c2b0 : decide (x3_1 < 3) = true := decide_eq_true c2
    clear c2
    by_cases c3 : 0 ≤ x3_1
    ·rw [if_pos c3] at H
     have c3b0 : decide (0 ≤ x3_1) = true := decide_eq_true c3
     clear c3
     by_cases c5 : (bt (⟨#[97, 98, 99]⟩ : ByteArray) x3_1) = a0
     ·rw [if_pos c5] at H
      have c5b0 : ((bt (⟨#[97, 98, 99]⟩ : ByteArray) x3_1) == a0) = true := beq_iff_eq.mpr c5
      have c5b1 : ((bt (⟨#[97, 98, 99]⟩ : ByteArray) x3_1) != a0) = false := bne_eq_false_iff_eq.mpr c5
      clear c5
      obtain rfl := Option.some.inj H
      have p4 : 0 ≤ (x3_1 : Int) := of_decide_eq_true (by first | (with_reducible assumption) | assumption)
      have q4 : x3_1 < (3 : Int) := of_decide_eq_true (by first | (with_reducible assumption) | assumption)
      have hx4 := bt_at (⟨#[97, 98, 99]⟩ : ByteArray) x3_1
      replace p4 := eq_true p4
      replace q4 := eq_true q4
      go_wp2
      go_ret
      exact ⟨by first | rfl | (simp; done) | (simp [*]; done), by repeat (first | exact Drawn0.refl _ | apply Drawn0.step)⟩
     ·rw [if_neg c5] at H
      have c5b0 : ((bt (⟨#[97, 98, 99]⟩ : ByteArray) x3_1) == a0) = false := beq_eq_false_iff_ne.mpr c5
      have c5b1 : ((bt (⟨#[97, 98, 99]⟩ : ByteArray) x3_1) != a0) = true := bne_iff_ne.mpr c5
      have H' := Aside0.mk H
      clear H
      have p4 : 0 ≤ (x3_1 : Int) := of_decide_eq_true (by first | (with_reducible assumption) | assumption)
      have q4 : x3_1 < (3 : Int) := of_decide_eq_true (by first | (with_reducible assumption) | assumption)
      have hx4 := bt_at (⟨#[97, 98, 99]⟩ : ByteArray) x3_1
      replace p4 := eq_true p4
      replace q4 := eq_true q4
      go_wp2
      go_roundg k1
      case measure => have := HK1.out; omega
      case rel => exact ⟨(wrap64 (x3_1 + 1)), (by first | rfl | (simp; done) | (simp [*]; done)), H', ⟨by have := HK1.out; omega⟩, by repeat (first | exact Drawn0.refl _ | apply Drawn0.step)⟩
    ·rw [if_neg c3] at H
     exact absurd H (by simp)
   ·rw [if_neg c2] at H
    have c2b0 : decide (x3_1 < 3) = false := decide_eq_false c2
    clear c2
    obtain rfl := Option.some.inj H
    go_wp2
    go_ret
    exact ⟨by first | rfl | (simp; done) | (simp [*]; done), by repeat (first | exact Drawn0.refl _ | apply Drawn0.step)⟩
def spec_IsWord.l0 : Nat → ByteArray → Int → Option (Bool)
 | 0, _, _ => none
 | k + 1, x0, x3 => if x3 < (x0.size : Int) then (if 0 ≤ x3 then ((spec_LetterIndex.f k (bt x0 x3)).bind fun t143001 => (if t143001 < 0 then (some false) else (spec_IsWord.l0 k x0 (wrap64 (x3 + 1))))) else (none)) else (some (decide ((x0.size : Int) ≤ 30)))
def spec_IsWord.f (k : Nat) (a0 : ByteArray) : Option (Bool) := spec_IsWord.l0 k a0 0
theorem spec_IsWord.mono_l : ∀ k, (∀ y0 y1, LeO (spec_IsWord.l0 k y0 y1) (spec_IsWord.l0 (k + 1) y0 y1))
 | 0 => fun _ _ r h => by simp [spec_IsWord.l0] at h
 | k + 1 => by
  have ih0 := spec_IsWord.mono_l k
  ·intro y0 y1
   unfold spec_IsWord.l0
   repeat' first
   | (with_reducible exact ih0 _ _)
   | (with_reducible exact spec_LetterIndex.mono _ _)
   | (with_reducible exact LeO.refl _)
   | (with_reducible exact LeO.none _)
   | (with_reducible refine LeO.ite ?_ ?_)
   | (with_reducible refine LeO.bind ?_ (fun _ => ?_))
theorem spec_IsWord.mono : ∀ a0 k, LeO (spec_IsWord.f k a0) (spec_IsWord.f (k + 1) a0) := by
 intro a0 k
 have ih0 := spec_IsWord.mono_l k
 unfold spec_IsWord.f
 repeat' first
   | (with_reducible exact ih0 _ _)
   | (with_reducible exact spec_LetterIndex.mono _ _)
   | (with_reducible exact LeO.refl _)
   | (with_reducible exact LeO.none _)
   | (with_reducible refine LeO.ite ?_ ?_)
   | (with_reducible refine LeO.bind ?_ (fun _ => ?_))
theorem spec_IsWord.calls (k : Nat) (a0 : ByteArray) (r : Bool) (w : World) (h : spec_IsWord.f k a0 = some r) :
  Calls Try.prog 143 #[.string a0] w fun e w' => e = .returned (.bool r) ∧ Drawn0 w w' := by
 have H : (spec_IsWord.l0 k a0 0) = some r := h
 clear h
 have H' := Aside0.mk H
 clear H
 go_enter Try.func143, Try.ntmps143
 go_wp2
 first | go_loopg [3] k (fun kq v3 w' => ∃ (x3_1 : Int), v3 = .int .i64 x3_1 ∧ Aside0 (spec_IsWord.l0 kq a0 x3_1 = some r) ∧ Aside0 (kq ≤ k) ∧ Drawn0 w w') | (simp only [Act.put, List.setIfInBounds_toArray, List.set_cons_succ, List.set_cons_zero]; go_loopg [3] k (fun kq v3 w' => ∃ (x3_1 : Int), v3 = .int .i64 x3_1 ∧ Aside0 (spec_IsWord.l0 kq a0 x3_1 = some r) ∧ Aside0 (kq ≤ k) ∧ Drawn0 w w'))
 case atStart => exact ⟨(0), (by first | rfl | (simp; done) | (simp [*]; done)), H', ⟨Nat.le_refl _⟩, by repeat (first | exact Drawn0.refl _ | apply Drawn0.step)⟩
 case round =>
  clear H'
  try clear c1
  obtain ⟨x3_1, rfl, HA, HK1, ⟨m1, rfl⟩⟩ := hrel
  cases gk with
  | zero => exact absurd HA.out (by simp [spec_IsWord.l0])
  | succ k1 =>
   have H := HA.out
   clear HA
   simp only [spec_IsWord.l0] at H
   by_cases c2 : x3_1 < (a0.size : Int)
   ·rw [if_pos c2] at H
    have c2b0 : decide (x3_1 < (a0.size : Int)) = true := decide_eq_true c2
    clear c2
    by_cases c3 : 0 ≤ x3_1
    ·rw [if_pos c3] at H
     have c3b0 : decide (0 ≤ x3_1) = true := decide_eq_true c3
     clear c3
     replace H := Option.bind_eq_some_iff.mp H
     obtain ⟨t143001, A50, H⟩ := H
     replace H : (if t143001 < 0 then (some false) else (spec_IsWord.l0 k1 a0 (wrap64 (x3_1 + 1)))) = some r := H
     have A5 := Aside0.mk A50
     clear A50
     by_cases c6 : t143001 < 0
     ·rw [if_pos c6] at H
      have c6b0 : decide (t143001 < 0) = true := decide_eq_true c6
      clear c6
      obtain rfl := Option.some.inj H
      have p4 : 0 ≤ (x3_1 : Int) := of_decide_eq_true (by first | (with_reducible assumption) | assumption)
      have q4 : x3_1 < (a0.size : Int) := of_decide_eq_true (by first | (with_reducible assumption) | assumption)
      have hx4 := bt_at a0 x3_1
      replace p4 := eq_true p4
      replace q4 := eq_true q4
      go_wp2_with (first | ((with_reducible refine gate_callee (f := 141) rfl ?_); refine goesL_ (some 13) rfl rfl Try.func141 (by kernel_rfl) rfl #[.int .u8 (bt a0 x3_1)] rfl (by (try simp only [List.map_toArray, List.map_cons, List.map_nil]); first | done | rfl | (simp only [List.length_drop, List.length_take]; rfl)) ?_; (with_reducible refine (spec_LetterIndex.calls k1 (bt a0 x3_1) t143001 _ A5.out).mono ?_); rintro e w' ⟨rfl, ⟨nd, rfl⟩⟩; refine ⟨_, rfl, ?_⟩))
      go_ret
      exact ⟨by first | rfl | (simp; done) | (simp [*]; done), by repeat (first | exact Drawn0.refl _ | apply Drawn0.step)⟩
     ·rw [if_neg c6] at H
      have c6b0 : decide (t143001 < 0) = false := decide_eq_false c6
      clear c6
      have H' := Aside0.mk H
      clear H
      have p4 : 0 ≤ (x3_1 : Int) := of_decide_eq_true (by first | (with_reducible assumption) | assumption)
      have q4 : x3_1 < (a0.size : Int) := of_decide_eq_true (by first | (with_reducible assumption) | assumption)
      have hx4 := bt_at a0 x3_1
      replace p4 := eq_true p4
      replace q4 := eq_true q4
      go_wp2_with (first | ((with_reducible refine gate_callee (f := 141) rfl ?_); refine goesL_ (some 13) rfl rfl Try.func141 (by kernel_rfl) rfl #[.int .u8 (bt a0 x3_1)] rfl (by (try simp only [List.map_toArray, List.map_cons, List.map_nil]); first | done | rfl | (simp only [List.length_drop, List.length_take]; rfl)) ?_; (with_reducible refine (spec_LetterIndex.calls k1 (bt a0 x3_1) t143001 _ A5.out).mono ?_); rintro e w' ⟨rfl, ⟨nd, rfl⟩⟩; refine ⟨_, rfl, ?_⟩))
      go_roundg k1
      case measure => have := HK1.out; omega
      case rel => exact ⟨(wrap64 (x3_1 + 1)), (by first | rfl | (simp; done) | (simp [*]; done)), H', ⟨by have := HK1.out; omega⟩, by repeat (first | exact Drawn0.refl _ | apply Drawn0.step)⟩
    ·rw [if_neg c3] at H
     exact absurd H (by simp)
   ·rw [if_neg c2] at H
    have c2b0 : decide (x3_1 < (a0.size : Int)) = false := decide_eq_false c2
    clear c2
    obtain rfl := Option.some.inj H
    go_wp2
    go_ret
    exact ⟨by first | rfl | (simp; done) | (simp [*]; done), by repeat (first | exact Drawn0.refl _ | apply Drawn0.step)⟩
end Go.Proofs.Ytpppopdmnejcfaa.A
namespace Go.Proofs.Ytpppopdmnejcfaa.A
open Go.RowKit Go.Proofs.Ytpppopdmnejcfaa.Ext Go.Proofs.YtpppopdmnejcfaaW.PrintWords Go.Proofs.YtpppopdmnejcfaaW.PrintLast Go.Proofs.YtpppopdmnejcfaaW.PrintMore
attribute [local go_sem] max2_int min2_int max_two min_two max_three min_three max_four min_four
def spec_l1Max.f (a0 : Int) (a1 : Int) : Option (Int) := if a0 > a1 then (some a0) else (some a1)
theorem spec_l1Max.calls (a0 : Int) (a1 : Int) (r : Int) (w : World) (h : spec_l1Max.f a0 a1 = some r) :
  Calls Try.prog 194 #[.int .i64 a0, .int .i64 a1] w fun e w' => e = .returned (.int .i64 r) ∧ Drawn0 w w' := by
 have H : (if a0 > a1 then (some a0) else (some a1)) = some r := h
 clear h
 by_cases c3 : a0 > a1
 ·rw [if_pos c3] at H
  have c3b0 : decide (a1 < a0) = true := decide_eq_true c3
  clear c3
  obtain rfl := Option.some.inj H
  go_enter Try.func194, Try.ntmps194
  go_wp2
  go_ret
  exact ⟨by first | rfl | (simp; done) | (simp [*]; done), by repeat (first | exact Drawn0.refl _ | apply Drawn0.step)⟩
 ·rw [if_neg c3] at H
  have c3b0 : decide (a1 < a0) = false := decide_eq_false c3
  clear c3
  obtain rfl := Option.some.inj H
  go_enter Try.func194, Try.ntmps194
  go_wp2
  go_ret
  exact ⟨by first | rfl | (simp; done) | (simp [*]; done), by repeat (first | exact Drawn0.refl _ | apply Drawn0.step)⟩
def spec_l1In.f (a0 : Int) (a1 : Int) (a2 : Int) : Option (Bool) := if a0 ≥ a1 then (some (decide (a0 ≤ a2))) else (some false)
theorem spec_l1In.calls (a0 : Int) (a1 : Int) (a2 : Int) (r : Bool) (w : World) (h : spec_l1In.f a0 a1 a2 = some r) :
  Calls Try.prog 91 #[.int .i64 a0, .int .i64 a1, .int .i64 a2] w fun e w' => e = .returned (.bool r) ∧ Drawn0 w w' := by
 have H : (if a0 ≥ a1 then (some (decide (a0 ≤ a2))) else (some false)) = some r := h
 clear h
 by_cases c4 : a0 ≥ a1
 ·rw [if_pos c4] at H
  have c4b0 : decide (a1 ≤ a0) = true := decide_eq_true c4
  clear c4
  obtain rfl := Option.some.inj H
  go_enter Try.func91, Try.ntmps91
  go_wp2
  go_ret
  exact ⟨by first | rfl | (simp; done) | (simp [*]; done), by repeat (first | exact Drawn0.refl _ | apply Drawn0.step)⟩
 ·rw [if_neg c4] at H
  have c4b0 : decide (a1 ≤ a0) = false := decide_eq_false c4
  clear c4
  obtain rfl := Option.some.inj H
  go_enter Try.func91, Try.ntmps91
  go_wp2
  go_ret
  exact ⟨by first | rfl | (simp; done) | (simp [*]; done), by repeat (first | exact Drawn0.refl _ | apply Drawn0.step)⟩
def spec_Join.l0 : Nat → List ByteArray → ByteArray → List Int → Int → Option (ByteArray)
 | 0, _, _, _, _ => none
 | k + 1, x0, x1, x5, x6 => if x6 < (x0.length : Int) then (if x6 > 0 then (if x5.length + x1.size < 140737488355328 then ((some (x5 ++ bytesOf x1 : List Int)).bind fun y147004 => (if 0 ≤ x6 then (if y147004.length + (rdOf ByteArray.empty x0 x6).size < 140737488355328 then ((some (y147004 ++ bytesOf (rdOf ByteArray.empty x0 x6) : List Int)).bind fun y147008 => (if (y147008.length : Int) > 1048576 then (some (⟨#[]⟩ : ByteArray)) else (spec_Join.l0 k x0 x1 y147008 (wrap64 (x6 + 1))))) else (none)) else (none))) else (none)) else (if 0 ≤ x6 then (if x5.length + (rdOf ByteArray.empty x0 x6).size < 140737488355328 then ((some (x5 ++ bytesOf (rdOf ByteArray.empty x0 x6) : List Int)).bind fun y147012 => (if (y147012.length : Int) > 1048576 then (some (⟨#[]⟩ : ByteArray)) else (spec_Join.l0 k x0 x1 y147012 (wrap64 (x6 + 1))))) else (none)) else (none))) else (some (strOfNums x5))
def spec_Join.f (k : Nat) (l0 : List ByteArray) (a1 : ByteArray) : Option (ByteArray) := spec_Join.l0 k l0 a1 (([] : List Int)) 0
theorem spec_Join.mono_l : ∀ k, (∀ y0 y1 y2 y3, LeO (spec_Join.l0 k y0 y1 y2 y3) (spec_Join.l0 (k + 1) y0 y1 y2 y3))
 | 0 => fun _ _ _ _ r h => by simp [spec_Join.l0] at h
 | k + 1 => by
  have ih0 := spec_Join.mono_l k
  ·intro y0 y1 y2 y3
   unfold spec_Join.l0
   repeat' first
   | (with_reducible exact ih0 _ _ _ _)
   | (with_reducible exact LeO.refl _)
   | (with_reducible exact LeO.none _)
   | (with_reducible refine LeO.ite ?_ ?_)
   | (with_reducible refine LeO.bind ?_ (fun _ => ?_))
theorem spec_Join.mono : ∀ a0 a1 k, LeO (spec_Join.f k a0 a1) (spec_Join.f (k + 1) a0 a1) := by
 intro a0 a1 k
 have ih0 := spec_Join.mono_l k
 unfold spec_Join.f
 repeat' first
   | (with_reducible exact ih0 _ _ _ _)
   | (with_reducible exact LeO.refl _)
   | (with_reducible exact LeO.none _)
   | (with_reducible refine LeO.ite ?_ ?_)
   | (with_reducible refine LeO.bind ?_ (fun _ => ?_))
theorem spec_Join.calls (k : Nat) (A0 : Option Addr) (c0 : Nat) (l0 : List ByteArray) (a1 : ByteArray) (r : ByteArray) (w : World) (hr0 : Kd.C Kd.string w A0 l0.length l0) (hc0 : l0.length ≤ c0) (h : spec_Join.f k l0 a1 = some r) :
  Calls Try.prog 147 #[.slice A0 l0.length c0, .string a1] w fun e w' => e = .returned (.string r) ∧ Below w.heap.size w w' := by
 have HR0 := Aside0.mk hr0
 have HC0 := Aside0.mk hc0
 clear hr0 hc0
 have HB := Aside0.mk (Below.refl w.heap.size w)
 have H : (spec_Join.l0 k l0 a1 (([] : List Int)) 0) = some r := h
 clear h
 obtain ⟨y147001, hy147001⟩ : ∃ y_ : List Int, y_ = (([] : List Int)) := ⟨_, rfl⟩
 replace H : (spec_Join.l0 k l0 a1 y147001 0) = some r := by first | (rw [hy147001]; with_reducible exact H) | (have H2_ := (Option.bind_some _ _).symm.trans H; rw [hy147001]; with_reducible exact H2_) | (have H2_ := (Option.bind_some _ _).symm.trans H; with_reducible exact H2_) | with_reducible exact H | (rw [hy147001]; exact H) | exact H
 have Ny147001 := Aside0.mk hy147001
 clear hy147001
 have H' := Aside0.mk H
 clear H
 go_enter Try.func147, Try.ntmps147
 go_wp2_with (first | ((with_reducible refine gate_dst (N := 7) rfl ?_); refine Kd.R_lit (Kd.int .u8) _ 5 ?hg (N := 7) ?hd (xs := ([] : List Int)) (inner := []) (ok := fun _ => True) (okp := fun _ => True) ?hr ?hp (fun _ hk => hk) trivial (Below.refl _ _) (Nat.le_refl _) (by simp) ?_; (case hd => rfl); (case hg => rfl); (case hr => first | (go_simp; done) | (go_simp; rfl)); (case hp => exact (Reps.none _ _)); intro v147002 w3 ho4 hb hg_ hnew_; clear hg_ hnew_; (first | rw [← Ny147001.out] at ho4 | (simp only [Int.reduceToNat] at ho4; rw [← Ny147001.out] at ho4)); have n0_ := Aside0.mk (Kd.R_lower ho4 (below_size (by repeat (first | (with_reducible first | exact HB.out | apply below_alloc | apply pw_below_drewN | apply below_drew1) | exact HB.out)))); have n1_ := Aside0.mk (below_step (by repeat (first | (with_reducible first | exact HB.out | apply below_alloc | apply pw_below_drewN | apply below_drew1) | exact HB.out)) hb); clear HB; have HO147003 := n0_; have HB := n1_; clear n0_ n1_; clear hb ho4))
 first | go_loopg [5, 6] k (fun kq v5 v6 w' => ∃ (x5_1 : List Int) (x6_1 : Int), v6 = .int .i64 x6_1 ∧ Aside0 (spec_Join.l0 kq l0 a1 x5_1 x6_1 = some r) ∧ Aside0 (kq ≤ k) ∧ Aside0 (Kd.R (Kd.int .u8) 5 w' w.heap.size (fun _ => True) v5 x5_1) ∧ Aside0 (Below w.heap.size w w')) | (simp only [Act.put, List.setIfInBounds_toArray, List.set_cons_succ, List.set_cons_zero]; go_loopg [5, 6] k (fun kq v5 v6 w' => ∃ (x5_1 : List Int) (x6_1 : Int), v6 = .int .i64 x6_1 ∧ Aside0 (spec_Join.l0 kq l0 a1 x5_1 x6_1 = some r) ∧ Aside0 (kq ≤ k) ∧ Aside0 (Kd.R (Kd.int .u8) 5 w' w.heap.size (fun _ => True) v5 x5_1) ∧ Aside0 (Below w.heap.size w w')))
 case atStart => exact ⟨(y147001), (0), (by first | rfl | (simp; done) | (simp [*]; done)), H', ⟨Nat.le_refl _⟩, ⟨by (with_reducible repeat (first | apply Kd.R_alloc | apply Kd.R_drewN | apply Kd.R_drew)); exact HO147003.out⟩, ⟨by repeat (first | (with_reducible first | exact HB.out | apply below_alloc | apply pw_below_drewN | apply below_drew1) | exact HB.out)⟩⟩
 case round =>
  clear H'
  try clear c1
  try clear p2
  obtain ⟨x5_1, x6_1, rfl, HA, HK1, HO_5, HB⟩ := hrel
  cases gk with
  | zero => exact absurd HA.out (by simp [spec_Join.l0])
  | succ k1 =>
   have H := HA.out
   clear HA
   simp only [spec_Join.l0] at H
   by_cases c5 : x6_1 < (l0.length : Int)
   ·rw [if_pos c5] at H
    have c5b0 : decide (x6_1 < (l0.length : Int)) = true := decide_eq_true c5
    clear c5
    by_cases c6 : x6_1 > 0
    ·rw [if_pos c6] at H
     have c6b0 : decide (0 < x6_1) = true := decide_eq_true c6
     clear c6
     by_cases c7 : x5_1.length + a1.size < 140737488355328
     ·rw [if_pos c7] at H
      have LMc7 := Aside0.mk c7
      clear c7
      obtain ⟨y147004, hy147004⟩ : ∃ y_ : List Int, y_ = (x5_1 ++ bytesOf a1) := ⟨_, rfl⟩
      replace H : (if 0 ≤ x6_1 then (if y147004.length + (rdOf ByteArray.empty l0 x6_1).size < 140737488355328 then ((some (y147004 ++ bytesOf (rdOf ByteArray.empty l0 x6_1) : List Int)).bind fun y147008 => (if (y147008.length : Int) > 1048576 then (some (⟨#[]⟩ : ByteArray)) else (spec_Join.l0 k1 l0 a1 y147008 (wrap64 (x6_1 + 1))))) else (none)) else (none)) = some r := by first | (rw [hy147004]; with_reducible exact H) | (have H2_ := (Option.bind_some _ _).symm.trans H; rw [hy147004]; with_reducible exact H2_) | (have H2_ := (Option.bind_some _ _).symm.trans H; with_reducible exact H2_) | with_reducible exact H | (rw [hy147004]; exact H) | exact H
      have Ny147004 := Aside0.mk hy147004
      clear hy147004
      by_cases c8 : 0 ≤ x6_1
      ·rw [if_pos c8] at H
       have c8b0 : decide (0 ≤ x6_1) = true := decide_eq_true c8
       clear c8
       by_cases c9 : y147004.length + (rdOf ByteArray.empty l0 x6_1).size < 140737488355328
       ·rw [if_pos c9] at H
        have LMc9 := Aside0.mk c9
        clear c9
        obtain ⟨y147008, hy147008⟩ : ∃ y_ : List Int, y_ = (y147004 ++ bytesOf (rdOf ByteArray.empty l0 x6_1)) := ⟨_, rfl⟩
        replace H : (if (y147008.length : Int) > 1048576 then (some (⟨#[]⟩ : ByteArray)) else (spec_Join.l0 k1 l0 a1 y147008 (wrap64 (x6_1 + 1)))) = some r := by first | (rw [hy147008]; with_reducible exact H) | (have H2_ := (Option.bind_some _ _).symm.trans H; rw [hy147008]; with_reducible exact H2_) | (have H2_ := (Option.bind_some _ _).symm.trans H; with_reducible exact H2_) | with_reducible exact H | (rw [hy147008]; exact H) | exact H
        have Ny147008 := Aside0.mk hy147008
        clear hy147008
        by_cases c10 : (y147008.length : Int) > 1048576
        ·rw [if_pos c10] at H
         have c10b0 : decide (1048576 < (y147008.length : Int)) = true := decide_eq_true c10
         have c10b1 : decide (1048576 < y147008.length) = true := decide_eq_true (by omega)
         clear c10
         obtain rfl := Option.some.inj H
         go_wp2_with (first | (at_builtin; refine print_append_str (w0 := w) w.heap.size rfl (.tmp 16) _ 81 9 5 rfl Try.underlying81 Try.underlying9 info5 u5 x5_1 a1 rfl rfl ?aO ?aB ?aS ?aL ?_; (case aB => exact (by repeat (first | (with_reducible first | exact HB.out | apply below_alloc | apply pw_below_drewN | apply below_drew1) | exact HB.out))); (case aO => exact (Kd.own_of_R (by (with_reducible repeat (first | apply Kd.R_alloc | apply Kd.R_drewN | apply Kd.R_drew)); exact HO_5.out))); (case aS => exact (below_size (by repeat (first | (with_reducible first | exact HB.out | apply below_alloc | apply pw_below_drewN | apply below_drew1) | exact HB.out)))); (case aL => have := LMc7.out; omega); intro v147005 w11 ho0 hb hg; have ho := Kd.R_of_own (h1 := fun _ => rfl) (ok := fun _ => True) ho0 (fun _ _ => trivial); clear ho0; have hat := True.intro; rw [← Ny147004.out] at ho; change Kd.R (Kd.int .u8) 5 w11 w.heap.size (fun _ => True) v147005 y147004 at ho; have n0_ := Aside0.mk (hb); have n1_ := Aside0.mk (ho); clear HB; clear HO_5; have HB := n0_; have HO147006 := n1_; clear n0_ n1_; clear ho hb hg hat; have p147007 : 0 ≤ (x6_1 : Int) := of_decide_eq_true (by first | (with_reducible assumption) | assumption); have q147007 : x6_1 < (l0.length : Int) := of_decide_eq_true (by first | (with_reducible assumption) | assumption); obtain ⟨ad147007, e147007, hx147007_0⟩ := Kd.at_string HR0.out x6_1 p147007 q147007; cases e147007; replace hx147007_0 := (HB.out.cell (World.block_lt_of_cell? w _ hx147007_0)).trans hx147007_0; replace p147007 := eq_true p147007; replace q147007 := eq_true q147007) | (at_builtin; refine print_append_str (w0 := w) w.heap.size rfl (.tmp 19) _ 81 9 5 rfl Try.underlying81 Try.underlying9 info5 v147005 y147004 (rdOf ByteArray.empty l0 x6_1) rfl rfl ?aO ?aB ?aS ?aL ?_; (case aB => exact (by repeat (first | (with_reducible first | exact HB.out | apply below_alloc | apply pw_below_drewN | apply below_drew1) | exact HB.out))); (case aO => exact (Kd.own_of_R (by (with_reducible repeat (first | apply Kd.R_alloc | apply Kd.R_drewN | apply Kd.R_drew)); exact HO147006.out))); (case aS => exact (below_size (by repeat (first | (with_reducible first | exact HB.out | apply below_alloc | apply pw_below_drewN | apply below_drew1) | exact HB.out)))); (case aL => have := LMc9.out; omega); intro v147009 w12 ho0 hb hg; have ho := Kd.R_of_own (h1 := fun _ => rfl) (ok := fun _ => True) ho0 (fun _ _ => trivial); clear ho0; have hat := True.intro; rw [← Ny147008.out] at ho; change Kd.R (Kd.int .u8) 5 w12 w.heap.size (fun _ => True) v147009 y147008 at ho; have n0_ := Aside0.mk (hb); have n1_ := Aside0.mk (ho); clear HB; clear HO147006; have HB := n0_; have HO147010 := n1_; clear n0_ n1_; clear ho hb hg hat; obtain ⟨Ao13, co13, eo13⟩ := Kd.R_slice HO147010.out; subst eo13))
         go_ret
         exact ⟨by first | rfl | (simp [errW_none, errW_some] <;> rfl) | (simp [*, errW_none, errW_some] <;> rfl), by repeat (first | (with_reducible first | exact HB.out | apply below_alloc | apply pw_below_drewN | apply below_drew1) | exact HB.out)⟩
        ·rw [if_neg c10] at H
         have c10b0 : decide (1048576 < (y147008.length : Int)) = false := decide_eq_false c10
         have c10b1 : decide (1048576 < y147008.length) = false := decide_eq_false (by omega)
         clear c10
         have H' := Aside0.mk H
         clear H
         go_wp2_with (first | (at_builtin; refine print_append_str (w0 := w) w.heap.size rfl (.tmp 16) _ 81 9 5 rfl Try.underlying81 Try.underlying9 info5 u5 x5_1 a1 rfl rfl ?aO ?aB ?aS ?aL ?_; (case aB => exact (by repeat (first | (with_reducible first | exact HB.out | apply below_alloc | apply pw_below_drewN | apply below_drew1) | exact HB.out))); (case aO => exact (Kd.own_of_R (by (with_reducible repeat (first | apply Kd.R_alloc | apply Kd.R_drewN | apply Kd.R_drew)); exact HO_5.out))); (case aS => exact (below_size (by repeat (first | (with_reducible first | exact HB.out | apply below_alloc | apply pw_below_drewN | apply below_drew1) | exact HB.out)))); (case aL => have := LMc7.out; omega); intro v147005 w14 ho0 hb hg; have ho := Kd.R_of_own (h1 := fun _ => rfl) (ok := fun _ => True) ho0 (fun _ _ => trivial); clear ho0; have hat := True.intro; rw [← Ny147004.out] at ho; change Kd.R (Kd.int .u8) 5 w14 w.heap.size (fun _ => True) v147005 y147004 at ho; have n0_ := Aside0.mk (hb); have n1_ := Aside0.mk (ho); clear HB; clear HO_5; have HB := n0_; have HO147006 := n1_; clear n0_ n1_; clear ho hb hg hat; have p147007 : 0 ≤ (x6_1 : Int) := of_decide_eq_true (by first | (with_reducible assumption) | assumption); have q147007 : x6_1 < (l0.length : Int) := of_decide_eq_true (by first | (with_reducible assumption) | assumption); obtain ⟨ad147007, e147007, hx147007_0⟩ := Kd.at_string HR0.out x6_1 p147007 q147007; cases e147007; replace hx147007_0 := (HB.out.cell (World.block_lt_of_cell? w _ hx147007_0)).trans hx147007_0; replace p147007 := eq_true p147007; replace q147007 := eq_true q147007) | (at_builtin; refine print_append_str (w0 := w) w.heap.size rfl (.tmp 19) _ 81 9 5 rfl Try.underlying81 Try.underlying9 info5 v147005 y147004 (rdOf ByteArray.empty l0 x6_1) rfl rfl ?aO ?aB ?aS ?aL ?_; (case aB => exact (by repeat (first | (with_reducible first | exact HB.out | apply below_alloc | apply pw_below_drewN | apply below_drew1) | exact HB.out))); (case aO => exact (Kd.own_of_R (by (with_reducible repeat (first | apply Kd.R_alloc | apply Kd.R_drewN | apply Kd.R_drew)); exact HO147006.out))); (case aS => exact (below_size (by repeat (first | (with_reducible first | exact HB.out | apply below_alloc | apply pw_below_drewN | apply below_drew1) | exact HB.out)))); (case aL => have := LMc9.out; omega); intro v147009 w15 ho0 hb hg; have ho := Kd.R_of_own (h1 := fun _ => rfl) (ok := fun _ => True) ho0 (fun _ _ => trivial); clear ho0; have hat := True.intro; rw [← Ny147008.out] at ho; change Kd.R (Kd.int .u8) 5 w15 w.heap.size (fun _ => True) v147009 y147008 at ho; have n0_ := Aside0.mk (hb); have n1_ := Aside0.mk (ho); clear HB; clear HO147006; have HB := n0_; have HO147010 := n1_; clear n0_ n1_; clear ho hb hg hat; obtain ⟨Ao16, co16, eo16⟩ := Kd.R_slice HO147010.out; subst eo16))
         go_roundg k1
         case measure => have := HK1.out; omega
         case rel => exact ⟨(y147008), (wrap64 (x6_1 + 1)), (by first | rfl | (simp; done) | (simp [*]; done)), H', ⟨by have := HK1.out; omega⟩, ⟨by (with_reducible repeat (first | apply Kd.R_alloc | apply Kd.R_drewN | apply Kd.R_drew)); exact HO147010.out⟩, ⟨by repeat (first | (with_reducible first | exact HB.out | apply below_alloc | apply pw_below_drewN | apply below_drew1) | exact HB.out)⟩⟩
       ·rw [if_neg c9] at H
        exact absurd H (by simp)
      ·rw [if_neg c8] at H
       exact absurd H (by simp)
     ·rw [if_neg c7] at H
      exact absurd H (by simp)
    ·rw [if_neg c6] at H
     have c6b0 : decide (0 < x6_1) = false := decide_eq_false c6
     clear c6
     by_cases c17 : 0 ≤ x6_1
     ·rw [if_pos c17] at H
      have c17b0 : decide (0 ≤ x6_1) = true := decide_eq_true c17
      clear c17
      by_cases c18 : x5_1.length + (rdOf ByteArray.empty l0 x6_1).size < 140737488355328
      ·rw [if_pos c18] at H
       have LMc18 := Aside0.mk c18
       clear c18
       obtain ⟨y147012, hy147012⟩ : ∃ y_ : List Int, y_ = (x5_1 ++ bytesOf (rdOf ByteArray.empty l0 x6_1)) := ⟨_, rfl⟩
       replace H : (if (y147012.length : Int) > 1048576 then (some (⟨#[]⟩ : ByteArray)) else (spec_Join.l0 k1 l0 a1 y147012 (wrap64 (x6_1 + 1)))) = some r := by first | (rw [hy147012]; with_reducible exact H) | (have H2_ := (Option.bind_some _ _).symm.trans H; rw [hy147012]; with_reducible exact H2_) | (have H2_ := (Option.bind_some _ _).symm.trans H; with_reducible exact H2_) | with_reducible exact H | (rw [hy147012]; exact H) | exact H
       have Ny147012 := Aside0.mk hy147012
       clear hy147012
       by_cases c19 : (y147012.length : Int) > 1048576
       ·rw [if_pos c19] at H
        have c19b0 : decide (1048576 < (y147012.length : Int)) = true := decide_eq_true c19
        have c19b1 : decide (1048576 < y147012.length) = true := decide_eq_true (by omega)
        clear c19
        obtain rfl := Option.some.inj H
        have p147011 : 0 ≤ (x6_1 : Int) := of_decide_eq_true (by first | (with_reducible assumption) | assumption)
        have q147011 : x6_1 < (l0.length : Int) := of_decide_eq_true (by first | (with_reducible assumption) | assumption)
        obtain ⟨ad147011, e147011, hx147011_0⟩ := Kd.at_string HR0.out x6_1 p147011 q147011
        cases e147011
        replace hx147011_0 := (HB.out.cell (World.block_lt_of_cell? w _ hx147011_0)).trans hx147011_0
        replace p147011 := eq_true p147011
        replace q147011 := eq_true q147011
        go_wp2_with (first | (at_builtin; refine print_append_str (w0 := w) w.heap.size rfl (.tmp 19) _ 81 9 5 rfl Try.underlying81 Try.underlying9 info5 u5 x5_1 (rdOf ByteArray.empty l0 x6_1) rfl rfl ?aO ?aB ?aS ?aL ?_; (case aB => exact (by repeat (first | (with_reducible first | exact HB.out | apply below_alloc | apply pw_below_drewN | apply below_drew1) | exact HB.out))); (case aO => exact (Kd.own_of_R (by (with_reducible repeat (first | apply Kd.R_alloc | apply Kd.R_drewN | apply Kd.R_drew)); exact HO_5.out))); (case aS => exact (below_size (by repeat (first | (with_reducible first | exact HB.out | apply below_alloc | apply pw_below_drewN | apply below_drew1) | exact HB.out)))); (case aL => have := LMc18.out; omega); intro v147013 w20 ho0 hb hg; have ho := Kd.R_of_own (h1 := fun _ => rfl) (ok := fun _ => True) ho0 (fun _ _ => trivial); clear ho0; have hat := True.intro; rw [← Ny147012.out] at ho; change Kd.R (Kd.int .u8) 5 w20 w.heap.size (fun _ => True) v147013 y147012 at ho; have n0_ := Aside0.mk (hb); have n1_ := Aside0.mk (ho); clear HB; clear HO_5; have HB := n0_; have HO147014 := n1_; clear n0_ n1_; clear ho hb hg hat; obtain ⟨Ao21, co21, eo21⟩ := Kd.R_slice HO147014.out; subst eo21))
        go_ret
        exact ⟨by first | rfl | (simp [errW_none, errW_some] <;> rfl) | (simp [*, errW_none, errW_some] <;> rfl), by repeat (first | (with_reducible first | exact HB.out | apply below_alloc | apply pw_below_drewN | apply below_drew1) | exact HB.out)⟩
       ·rw [if_neg c19] at H
        have c19b0 : decide (1048576 < (y147012.length : Int)) = false := decide_eq_false c19
        have c19b1 : decide (1048576 < y147012.length) = false := decide_eq_false (by omega)
        clear c19
        have H' := Aside0.mk H
        clear H
        have p147011 : 0 ≤ (x6_1 : Int) := of_decide_eq_true (by first | (with_reducible assumption) | assumption)
        have q147011 : x6_1 < (l0.length : Int) := of_decide_eq_true (by first | (with_reducible assumption) | assumption)
        obtain ⟨ad147011, e147011, hx147011_0⟩ := Kd.at_string HR0.out x6_1 p147011 q147011
        cases e147011
        replace hx147011_0 := (HB.out.cell (World.block_lt_of_cell? w _ hx147011_0)).trans hx147011_0
        replace p147011 := eq_true p147011
        replace q147011 := eq_true q147011
        go_wp2_with (first | (at_builtin; refine print_append_str (w0 := w) w.heap.size rfl (.tmp 19) _ 81 9 5 rfl Try.underlying81 Try.underlying9 info5 u5 x5_1 (rdOf ByteArray.empty l0 x6_1) rfl rfl ?aO ?aB ?aS ?aL ?_; (case aB => exact (by repeat (first | (with_reducible first | exact HB.out | apply below_alloc | apply pw_below_drewN | apply below_drew1) | exact HB.out))); (case aO => exact (Kd.own_of_R (by (with_reducible repeat (first | apply Kd.R_alloc | apply Kd.R_drewN | apply Kd.R_drew)); exact HO_5.out))); (case aS => exact (below_size (by repeat (first | (with_reducible first | exact HB.out | apply below_alloc | apply pw_below_drewN | apply below_drew1) | exact HB.out)))); (case aL => have := LMc18.out; omega); intro v147013 w22 ho0 hb hg; have ho := Kd.R_of_own (h1 := fun _ => rfl) (ok := fun _ => True) ho0 (fun _ _ => trivial); clear ho0; have hat := True.intro; rw [← Ny147012.out] at ho; change Kd.R (Kd.int .u8) 5 w22 w.heap.size (fun _ => True) v147013 y147012 at ho; have n0_ := Aside0.mk (hb); have n1_ := Aside0.mk (ho); clear HB; clear HO_5; have HB := n0_; have HO147014 := n1_; clear n0_ n1_; clear ho hb hg hat; obtain ⟨Ao23, co23, eo23⟩ := Kd.R_slice HO147014.out; subst eo23))
        go_roundg k1
        case measure => have := HK1.out; omega
        case rel => exact ⟨(y147012), (wrap64 (x6_1 + 1)), (by first | rfl | (simp; done) | (simp [*]; done)), H', ⟨by have := HK1.out; omega⟩, ⟨by (with_reducible repeat (first | apply Kd.R_alloc | apply Kd.R_drewN | apply Kd.R_drew)); exact HO147014.out⟩, ⟨by repeat (first | (with_reducible first | exact HB.out | apply below_alloc | apply pw_below_drewN | apply below_drew1) | exact HB.out)⟩⟩
      ·rw [if_neg c18] at H
       exact absurd H (by simp)
     ·rw [if_neg c17] at H
      exact absurd H (by simp)
   ·rw [if_neg c5] at H
    have c5b0 : decide (x6_1 < (l0.length : Int)) = false := decide_eq_false c5
    clear c5
    obtain rfl := Option.some.inj H
    have hcv24 := own_string (P := Try.prog) Try.underlying81 Try.underlying5 Try.underlying9 (Kd.own_of_R HO_5.out)
    go_wp2
    go_ret
    exact ⟨by first | rfl | (simp [errW_none, errW_some] <;> rfl) | (simp [*, errW_none, errW_some] <;> rfl), by repeat (first | (with_reducible first | exact HB.out | apply below_alloc | apply pw_below_drewN | apply below_drew1) | exact HB.out)⟩
end Go.Proofs.Ytpppopdmnejcfaa.A
