/- FnExactEqualProblem: what its proof needs, put together by this session's program wip/merge.py out of the texts that wip/xp.py printed and of this session's own. -/
import Derived.Test.YtpppopdmnejcfaaQFnExactEqualProblem3
import Derived.ChangeArms
import Derived.ChangeReads
import Derived.DataReads
import Derived.DataElems
import Derived.Lib.Strings
import Derived.Lib.Bytealg
import Derived.Test.YtpppopdmnejcfaaRows
import Derived.WalkKit
import Derived.ProofKit
import Derived.OpenShut
import Derived.ShutString
import Derived.ChangeOld
import Derived.Below
import Derived.SizedLaws
import Derived.Lib.SmallJoins
namespace Go.Proofs.Ytpppopdmnejcfaa.A
open Go.RowKit Go.Proofs.Ytpppopdmnejcfaa.Ext Go.Proofs.YtpppopdmnejcfaaW.PrintWords Go.Proofs.YtpppopdmnejcfaaW.PrintLast Go.Proofs.YtpppopdmnejcfaaW.PrintMore
attribute [local go_sem] max2_int min2_int max_two min_two max_three min_three max_four min_four   -- for this text's walks alone
set_option linter.unusedVariables false
set_option linter.unusedSimpArgs false

/-! ### impl_Constraint_83: function 83 -/
def impl_Constraint_83.l0 : Nat → List (S44) → List (S44) → Int → Int → Option (Bool)
  | 0, _, _, _, _ => none
  | k + 1, x1, x15, x16, x17 => if x17 < x16 then (if 0 ≤ x17 then (if x17 < (x15.length : Int) then (if x17 < (x1.length : Int) then ((impl_EqualConstraint.f k ((rd_T44 x15 x17).f0) ((rd_T44 x15 x17).f1) ((rd_T44 x15 x17).f2) ((rd_T44 x15 x17).f3.f0) ((rd_T44 x15 x17).f3.f1) ((rd_T44 x15 x17).f3.f2) ((rd_T44 x15 x17).f4) ((rd_T44 x15 x17).f5) ((rd_T44 x1 x17).f0) ((rd_T44 x1 x17).f1) ((rd_T44 x1 x17).f2) ((rd_T44 x1 x17).f3.f0) ((rd_T44 x1 x17).f3.f1) ((rd_T44 x1 x17).f3.f2) ((rd_T44 x1 x17).f4) ((rd_T44 x1 x17).f5)).bind fun t83005 => (if t83005 = true then (impl_Constraint_83.l0 k x1 x15 x16 (wrap64 (x17 + 1))) else (some false))) else (none)) else (none)) else (none)) else (some true)
def impl_Constraint_83.f (k : Nat) (l0 : List (S44)) (l1 : List (S44)) : Option (Bool) := if (l0.length : Int) = (l1.length : Int) then (impl_Constraint_83.l0 k l1 l0 (l0.length : Int) 0) else (some false)
theorem impl_Constraint_83.mono_l : ∀ k, (∀ y0 y1 y2 y3, LeO (impl_Constraint_83.l0 k y0 y1 y2 y3) (impl_Constraint_83.l0 (k + 1) y0 y1 y2 y3))
  | 0 => fun _ _ _ _ r h => by simp [impl_Constraint_83.l0] at h
  | k + 1 => by
    have ih0 := impl_Constraint_83.mono_l k
    · intro y0 y1 y2 y3
      unfold impl_Constraint_83.l0
      repeat' first
      | (with_reducible exact ih0 _ _ _ _)
      | (with_reducible exact impl_EqualConstraint.mono _ _ _ _ _ _ _ _ _ _ _ _ _ _ _ _ _)
      | (with_reducible exact LeO.refl _)
      | (with_reducible exact LeO.none _)
      | (with_reducible refine LeO.ite ?_ ?_)
      | (with_reducible refine LeO.bind ?_ (fun _ => ?_))
      | exact ih0 _ _ _ _
      | exact impl_EqualConstraint.mono _ _ _ _ _ _ _ _ _ _ _ _ _ _ _ _ _
      | exact LeO.none _
      | refine LeO.ite ?_ ?_
      | refine LeO.bind ?_ (fun _ => ?_)
theorem impl_Constraint_83.mono : ∀ a0 a1 k, LeO (impl_Constraint_83.f k a0 a1) (impl_Constraint_83.f (k + 1) a0 a1) := by
  intro a0 a1 k
  have ih0 := impl_Constraint_83.mono_l k
  unfold impl_Constraint_83.f
  repeat' first
      | (with_reducible exact ih0 _ _ _ _)
      | (with_reducible exact impl_EqualConstraint.mono _ _ _ _ _ _ _ _ _ _ _ _ _ _ _ _ _)
      | (with_reducible exact LeO.refl _)
      | (with_reducible exact LeO.none _)
      | (with_reducible refine LeO.ite ?_ ?_)
      | (with_reducible refine LeO.bind ?_ (fun _ => ?_))
      | exact ih0 _ _ _ _
      | exact impl_EqualConstraint.mono _ _ _ _ _ _ _ _ _ _ _ _ _ _ _ _ _
      | exact LeO.none _
      | refine LeO.ite ?_ ?_
      | refine LeO.bind ?_ (fun _ => ?_)
set_option maxHeartbeats 8000000 in
set_option maxRecDepth 100000 in
theorem impl_Constraint_83.calls (k : Nat) (A0 : Option Addr) (c0 : Nat) (l0 : List (S44)) (A1 : Option Addr) (c1 : Nat) (l1 : List (S44)) (r : Bool) (w : World) (hr0 : Kd.C k44 w A0 l0.length l0) (hc0 : l0.length ≤ c0) (hr1 : Kd.C k44 w A1 l1.length l1) (hc1 : l1.length ≤ c1) (h : impl_Constraint_83.f k l0 l1 = some r) :
    Calls Try.prog 83 #[.slice A0 l0.length c0, .slice A1 l1.length c1, .func (.func 84) #[] #[]] w fun e w' => e = .returned (.bool r) ∧ Below w.heap.size w w' := by
  have hu44 := Try.underlying44
  have HR0 := Aside0.mk hr0
  have HC0 := Aside0.mk hc0
  clear hr0 hc0
  have HR1 := Aside0.mk hr1
  have HC1 := Aside0.mk hc1
  clear hr1 hc1
  have HB := Aside0.mk (Below.refl w.heap.size w)
  have H : (if (l0.length : Int) = (l1.length : Int) then (impl_Constraint_83.l0 k l1 l0 (l0.length : Int) 0) else (some false)) = some r := h
  clear h
  by_cases c3 : (l0.length : Int) = (l1.length : Int)
  · rw [if_pos c3] at H
    have c3b0 : ((l0.length : Int) == (l1.length : Int)) = true := beq_iff_eq.mpr c3
    have c3b1 : ((l0.length : Int) != (l1.length : Int)) = false := bne_eq_false_iff_eq.mpr c3
    have c3b2 : (l0.length == l1.length) = true := by first | simpa using c3 | (simp at c3 ⊢; omega)
    clear c3
    have H' := Aside0.mk H
    clear H
    go_enter Try.func83, Try.ntmps83
    go_wp2
    first | go_loopg [17] k (fun kq v17 w' => ∃ (x17_1 : Int), v17 = .int .i64 x17_1 ∧ Aside0 (impl_Constraint_83.l0 kq l1 l0 (l0.length : Int) x17_1 = some r) ∧ Aside0 (kq ≤ k) ∧ Aside0 (Below w.heap.size w w')) | (simp only [Act.put, List.setIfInBounds_toArray, List.set_cons_succ, List.set_cons_zero]; go_loopg [17] k (fun kq v17 w' => ∃ (x17_1 : Int), v17 = .int .i64 x17_1 ∧ Aside0 (impl_Constraint_83.l0 kq l1 l0 (l0.length : Int) x17_1 = some r) ∧ Aside0 (kq ≤ k) ∧ Aside0 (Below w.heap.size w w')))
    case atStart => exact ⟨(0), (by first | rfl | (simp; done) | (simp [*]; done)), H', ⟨Nat.le_refl _⟩, ⟨by repeat (first | (with_reducible first | exact HB.out | apply below_alloc | apply pw_below_drewN | apply below_drew1) | exact HB.out)⟩⟩
    case round =>
      clear H'
      try clear c1
      try clear p2
      try clear c3
      try clear c3b0
      try clear c3b1
      try clear c3b2
      obtain ⟨x17_1, rfl, HA, HK1, HB⟩ := hrel
      cases gk with
      | zero => exact absurd HA.out (by simp [impl_Constraint_83.l0])
      | succ k1 =>
        have H := HA.out
        clear HA
        simp only [impl_Constraint_83.l0] at H
        by_cases c4 : x17_1 < (l0.length : Int)
        · rw [if_pos c4] at H
          have c4b0 : decide (x17_1 < (l0.length : Int)) = true := decide_eq_true c4
          clear c4
          by_cases c5 : 0 ≤ x17_1
          · rw [if_pos c5] at H
            have c5b0 : decide (0 ≤ x17_1) = true := decide_eq_true c5
            clear c5
            by_cases c6 : x17_1 < (l0.length : Int)
            · rw [if_pos c6] at H
              have c6b0 : decide (x17_1 < (l0.length : Int)) = true := decide_eq_true c6
              clear c6
              by_cases c7 : x17_1 < (l1.length : Int)
              · rw [if_pos c7] at H
                have c7b0 : decide (x17_1 < (l1.length : Int)) = true := decide_eq_true c7
                clear c7
                replace H := Option.bind_eq_some_iff.mp H
                obtain ⟨t83005, A80, H⟩ := H
                replace H : (if t83005 = true then (impl_Constraint_83.l0 k1 l1 l0 (l0.length : Int) (wrap64 (x17_1 + 1))) else (some false)) = some r := H
                have A8 := Aside0.mk A80
                clear A80
                by_cases c9 : t83005 = true
                · subst c9
                  have H1 : (impl_Constraint_83.l0 k1 l1 l0 (l0.length : Int) (wrap64 (x17_1 + 1))) = some r := by rw [if_pos rfl] at H; exact H
                  clear H
                  have H := H1
                  clear H1
                  have H' := Aside0.mk H
                  clear H
                  have p83001 : 0 ≤ (x17_1 : Int) := of_decide_eq_true (by first | (with_reducible assumption) | assumption)
                  have q83001 : x17_1 < (l0.length : Int) := of_decide_eq_true (by first | (with_reducible assumption) | assumption)
                  obtain ⟨ad83001, A83001_5, c83001_5, A83001_6, c83001_6, e83001, hx83001_0, hx83001_1, hx83001_2, hx83001_3, hx83001_4, hx83001_5, hx83001_6, hx83001_7, hl83001_5, hi83001_5, hl83001_6, hi83001_6⟩ := at_T44 HR0.out x17_1 p83001 q83001
                  cases e83001
                  replace hx83001_0 := (HB.out.cell (World.block_lt_of_cell? w _ hx83001_0)).trans hx83001_0
                  replace hx83001_1 := (HB.out.cell (World.block_lt_of_cell? w _ hx83001_1)).trans hx83001_1
                  replace hx83001_2 := (HB.out.cell (World.block_lt_of_cell? w _ hx83001_2)).trans hx83001_2
                  replace hx83001_3 := (HB.out.cell (World.block_lt_of_cell? w _ hx83001_3)).trans hx83001_3
                  replace hx83001_4 := (HB.out.cell (World.block_lt_of_cell? w _ hx83001_4)).trans hx83001_4
                  replace hx83001_5 := (HB.out.cell (World.block_lt_of_cell? w _ hx83001_5)).trans hx83001_5
                  replace hx83001_6 := (HB.out.cell (World.block_lt_of_cell? w _ hx83001_6)).trans hx83001_6
                  replace hx83001_7 := (HB.out.cell (World.block_lt_of_cell? w _ hx83001_7)).trans hx83001_7
                  have HR83001_5 := Aside0.mk hi83001_5
                  have HC83001_5 := Aside0.mk hl83001_5
                  clear hi83001_5 hl83001_5
                  have HR83001_6 := Aside0.mk hi83001_6
                  have HC83001_6 := Aside0.mk hl83001_6
                  clear hi83001_6 hl83001_6
                  replace p83001 := eq_true p83001
                  replace q83001 := eq_true q83001
                  go_wp2_with (first | ((with_reducible refine gate_dst (N := 8) rfl ?_); refine box_event ?hg (N := 8) ?hd (cs := #[.int .i64 0, .string (⟨#[]⟩ : ByteArray), .string (⟨#[]⟩ : ByteArray), .int .i64 0, .string (⟨#[]⟩ : ByteArray), .slice none 0 0, .slice none 0 0, .int .i64 0]) (t := 44) ?hr ?_; (case hd => rfl); (case hg => rfl); (case hr => first | (go_simp; done) | (go_simp; rfl)); intro gb83002 hg w10 hbox hb; have n0_ := Aside0.mk (below_step (by repeat (first | (with_reducible first | exact HB.out | apply below_alloc | apply pw_below_drewN | apply below_drew1) | exact HB.out)) hb); have n1_ := Aside0.mk (hbox); have n2_ := Aside0.mk ((by rw [hg]; exact (below_size (by repeat (first | (with_reducible first | exact HB.out | apply below_alloc | apply pw_below_drewN | apply below_drew1) | exact HB.out))) : w.heap.size ≤ gb83002)); have n3_ := Aside0.mk ((by rw [hg]; exact (below_size (by repeat (first | (with_reducible first | exact HB.out | apply below_alloc | apply pw_below_drewN | apply below_drew1) | exact HB.out))) : w.heap.size ≤ gb83002)); clear HB; have HB := n0_; have BK83002 := n1_; have GW83002 := n2_; have GE83002 := n3_; clear n0_ n1_ n2_ n3_; clear hb hbox hg; have hcz11_0 : w10.cell? ⟨gb83002, 0, none⟩ = some (.int .i64 0) := (blk_cell BK83002.out 0).trans rfl; have hcz11_1 : w10.cell? ⟨gb83002, 1, none⟩ = some (.string (⟨#[]⟩ : ByteArray)) := (blk_cell BK83002.out 1).trans rfl; have hcz11_2 : w10.cell? ⟨gb83002, 2, none⟩ = some (.string (⟨#[]⟩ : ByteArray)) := (blk_cell BK83002.out 2).trans rfl; have hcz11_3 : w10.cell? ⟨gb83002, 3, none⟩ = some (.int .i64 0) := (blk_cell BK83002.out 3).trans rfl; have hcz11_4 : w10.cell? ⟨gb83002, 4, none⟩ = some (.string (⟨#[]⟩ : ByteArray)) := (blk_cell BK83002.out 4).trans rfl; have hcz11_5 : w10.cell? ⟨gb83002, 5, none⟩ = some (.slice none 0 0) := (blk_cell BK83002.out 5).trans rfl; have hcz11_6 : w10.cell? ⟨gb83002, 6, none⟩ = some (.slice none 0 0) := (blk_cell BK83002.out 6).trans rfl; have hcz11_7 : w10.cell? ⟨gb83002, 7, none⟩ = some (.int .i64 0) := (blk_cell BK83002.out 7).trans rfl; have hfz11_0 := blk_frozen BK83002.out 0; have hfz11_1 := blk_frozen BK83002.out 1; have hfz11_2 := blk_frozen BK83002.out 2; have hfz11_3 := blk_frozen BK83002.out 3; have hfz11_4 := blk_frozen BK83002.out 4; have hfz11_5 := blk_frozen BK83002.out 5; have hfz11_6 := blk_frozen BK83002.out 6; have hfz11_7 := blk_frozen BK83002.out 7; have p83003 : 0 ≤ (x17_1 : Int) := of_decide_eq_true (by first | (with_reducible assumption) | assumption); have q83003 : x17_1 < (l1.length : Int) := of_decide_eq_true (by first | (with_reducible assumption) | assumption); obtain ⟨ad83003, A83003_5, c83003_5, A83003_6, c83003_6, e83003, hx83003_0, hx83003_1, hx83003_2, hx83003_3, hx83003_4, hx83003_5, hx83003_6, hx83003_7, hl83003_5, hi83003_5, hl83003_6, hi83003_6⟩ := at_T44 HR1.out x17_1 p83003 q83003; cases e83003; have hn83003_0 : ad83003.block ≠ gb83002 := Nat.ne_of_lt (Nat.lt_of_lt_of_le (by have := World.block_lt_of_cell? _ _ hx83003_0; first | rwa [add_block] at this | exact this) GW83002.out); have hn83003_1 : ad83003.block ≠ gb83002 := Nat.ne_of_lt (Nat.lt_of_lt_of_le (by have := World.block_lt_of_cell? _ _ hx83003_0; first | rwa [add_block] at this | exact this) GW83002.out); have hn83003_2 : ad83003.block ≠ gb83002 := Nat.ne_of_lt (Nat.lt_of_lt_of_le (by have := World.block_lt_of_cell? _ _ hx83003_0; first | rwa [add_block] at this | exact this) GW83002.out); have hn83003_3 : ad83003.block ≠ gb83002 := Nat.ne_of_lt (Nat.lt_of_lt_of_le (by have := World.block_lt_of_cell? _ _ hx83003_0; first | rwa [add_block] at this | exact this) GW83002.out); have hn83003_4 : ad83003.block ≠ gb83002 := Nat.ne_of_lt (Nat.lt_of_lt_of_le (by have := World.block_lt_of_cell? _ _ hx83003_0; first | rwa [add_block] at this | exact this) GW83002.out); have hn83003_5 : ad83003.block ≠ gb83002 := Nat.ne_of_lt (Nat.lt_of_lt_of_le (by have := World.block_lt_of_cell? _ _ hx83003_0; first | rwa [add_block] at this | exact this) GW83002.out); have hn83003_6 : ad83003.block ≠ gb83002 := Nat.ne_of_lt (Nat.lt_of_lt_of_le (by have := World.block_lt_of_cell? _ _ hx83003_0; first | rwa [add_block] at this | exact this) GW83002.out); have hn83003_7 : ad83003.block ≠ gb83002 := Nat.ne_of_lt (Nat.lt_of_lt_of_le (by have := World.block_lt_of_cell? _ _ hx83003_0; first | rwa [add_block] at this | exact this) GW83002.out); replace hx83003_0 := (HB.out.cell (World.block_lt_of_cell? w _ hx83003_0)).trans hx83003_0; replace hx83003_1 := (HB.out.cell (World.block_lt_of_cell? w _ hx83003_1)).trans hx83003_1; replace hx83003_2 := (HB.out.cell (World.block_lt_of_cell? w _ hx83003_2)).trans hx83003_2; replace hx83003_3 := (HB.out.cell (World.block_lt_of_cell? w _ hx83003_3)).trans hx83003_3; replace hx83003_4 := (HB.out.cell (World.block_lt_of_cell? w _ hx83003_4)).trans hx83003_4; replace hx83003_5 := (HB.out.cell (World.block_lt_of_cell? w _ hx83003_5)).trans hx83003_5; replace hx83003_6 := (HB.out.cell (World.block_lt_of_cell? w _ hx83003_6)).trans hx83003_6; replace hx83003_7 := (HB.out.cell (World.block_lt_of_cell? w _ hx83003_7)).trans hx83003_7; have HR83003_5 := Aside0.mk hi83003_5; have HC83003_5 := Aside0.mk hl83003_5; clear hi83003_5 hl83003_5; have HR83003_6 := Aside0.mk hi83003_6; have HC83003_6 := Aside0.mk hl83003_6; clear hi83003_6 hl83003_6; replace hx83003_0 := (cell_far (p := ⟨gb83002, 0, none⟩) (by first | (rw [add_block]; exact hn83003_0) | (show (Addr.add _ _).block ≠ _; rw [add_block]; exact hn83003_0) | exact hn83003_0) (.int .i64 ((rd_T44 l0 x17_1).f0))).trans hx83003_0; replace hx83003_1 := (cell_far (p := ⟨gb83002, 0, none⟩) (by first | (rw [add_block]; exact hn83003_0) | (show (Addr.add _ _).block ≠ _; rw [add_block]; exact hn83003_0) | exact hn83003_0) (.int .i64 ((rd_T44 l0 x17_1).f0))).trans hx83003_1; replace hx83003_2 := (cell_far (p := ⟨gb83002, 0, none⟩) (by first | (rw [add_block]; exact hn83003_0) | (show (Addr.add _ _).block ≠ _; rw [add_block]; exact hn83003_0) | exact hn83003_0) (.int .i64 ((rd_T44 l0 x17_1).f0))).trans hx83003_2; replace hx83003_3 := (cell_far (p := ⟨gb83002, 0, none⟩) (by first | (rw [add_block]; exact hn83003_0) | (show (Addr.add _ _).block ≠ _; rw [add_block]; exact hn83003_0) | exact hn83003_0) (.int .i64 ((rd_T44 l0 x17_1).f0))).trans hx83003_3; replace hx83003_4 := (cell_far (p := ⟨gb83002, 0, none⟩) (by first | (rw [add_block]; exact hn83003_0) | (show (Addr.add _ _).block ≠ _; rw [add_block]; exact hn83003_0) | exact hn83003_0) (.int .i64 ((rd_T44 l0 x17_1).f0))).trans hx83003_4; replace hx83003_5 := (cell_far (p := ⟨gb83002, 0, none⟩) (by first | (rw [add_block]; exact hn83003_0) | (show (Addr.add _ _).block ≠ _; rw [add_block]; exact hn83003_0) | exact hn83003_0) (.int .i64 ((rd_T44 l0 x17_1).f0))).trans hx83003_5; replace hx83003_6 := (cell_far (p := ⟨gb83002, 0, none⟩) (by first | (rw [add_block]; exact hn83003_0) | (show (Addr.add _ _).block ≠ _; rw [add_block]; exact hn83003_0) | exact hn83003_0) (.int .i64 ((rd_T44 l0 x17_1).f0))).trans hx83003_6; replace hx83003_7 := (cell_far (p := ⟨gb83002, 0, none⟩) (by first | (rw [add_block]; exact hn83003_0) | (show (Addr.add _ _).block ≠ _; rw [add_block]; exact hn83003_0) | exact hn83003_0) (.int .i64 ((rd_T44 l0 x17_1).f0))).trans hx83003_7; replace hx83003_0 := (cell_far (p := ⟨gb83002, 1, none⟩) (by first | (rw [add_block]; exact hn83003_1) | (show (Addr.add _ _).block ≠ _; rw [add_block]; exact hn83003_1) | exact hn83003_1) (.string ((rd_T44 l0 x17_1).f1))).trans hx83003_0; replace hx83003_1 := (cell_far (p := ⟨gb83002, 1, none⟩) (by first | (rw [add_block]; exact hn83003_1) | (show (Addr.add _ _).block ≠ _; rw [add_block]; exact hn83003_1) | exact hn83003_1) (.string ((rd_T44 l0 x17_1).f1))).trans hx83003_1; replace hx83003_2 := (cell_far (p := ⟨gb83002, 1, none⟩) (by first | (rw [add_block]; exact hn83003_1) | (show (Addr.add _ _).block ≠ _; rw [add_block]; exact hn83003_1) | exact hn83003_1) (.string ((rd_T44 l0 x17_1).f1))).trans hx83003_2; replace hx83003_3 := (cell_far (p := ⟨gb83002, 1, none⟩) (by first | (rw [add_block]; exact hn83003_1) | (show (Addr.add _ _).block ≠ _; rw [add_block]; exact hn83003_1) | exact hn83003_1) (.string ((rd_T44 l0 x17_1).f1))).trans hx83003_3; replace hx83003_4 := (cell_far (p := ⟨gb83002, 1, none⟩) (by first | (rw [add_block]; exact hn83003_1) | (show (Addr.add _ _).block ≠ _; rw [add_block]; exact hn83003_1) | exact hn83003_1) (.string ((rd_T44 l0 x17_1).f1))).trans hx83003_4; replace hx83003_5 := (cell_far (p := ⟨gb83002, 1, none⟩) (by first | (rw [add_block]; exact hn83003_1) | (show (Addr.add _ _).block ≠ _; rw [add_block]; exact hn83003_1) | exact hn83003_1) (.string ((rd_T44 l0 x17_1).f1))).trans hx83003_5; replace hx83003_6 := (cell_far (p := ⟨gb83002, 1, none⟩) (by first | (rw [add_block]; exact hn83003_1) | (show (Addr.add _ _).block ≠ _; rw [add_block]; exact hn83003_1) | exact hn83003_1) (.string ((rd_T44 l0 x17_1).f1))).trans hx83003_6; replace hx83003_7 := (cell_far (p := ⟨gb83002, 1, none⟩) (by first | (rw [add_block]; exact hn83003_1) | (show (Addr.add _ _).block ≠ _; rw [add_block]; exact hn83003_1) | exact hn83003_1) (.string ((rd_T44 l0 x17_1).f1))).trans hx83003_7; replace hx83003_0 := (cell_far (p := ⟨gb83002, 2, none⟩) (by first | (rw [add_block]; exact hn83003_2) | (show (Addr.add _ _).block ≠ _; rw [add_block]; exact hn83003_2) | exact hn83003_2) (.string ((rd_T44 l0 x17_1).f2))).trans hx83003_0; replace hx83003_1 := (cell_far (p := ⟨gb83002, 2, none⟩) (by first | (rw [add_block]; exact hn83003_2) | (show (Addr.add _ _).block ≠ _; rw [add_block]; exact hn83003_2) | exact hn83003_2) (.string ((rd_T44 l0 x17_1).f2))).trans hx83003_1; replace hx83003_2 := (cell_far (p := ⟨gb83002, 2, none⟩) (by first | (rw [add_block]; exact hn83003_2) | (show (Addr.add _ _).block ≠ _; rw [add_block]; exact hn83003_2) | exact hn83003_2) (.string ((rd_T44 l0 x17_1).f2))).trans hx83003_2; replace hx83003_3 := (cell_far (p := ⟨gb83002, 2, none⟩) (by first | (rw [add_block]; exact hn83003_2) | (show (Addr.add _ _).block ≠ _; rw [add_block]; exact hn83003_2) | exact hn83003_2) (.string ((rd_T44 l0 x17_1).f2))).trans hx83003_3; replace hx83003_4 := (cell_far (p := ⟨gb83002, 2, none⟩) (by first | (rw [add_block]; exact hn83003_2) | (show (Addr.add _ _).block ≠ _; rw [add_block]; exact hn83003_2) | exact hn83003_2) (.string ((rd_T44 l0 x17_1).f2))).trans hx83003_4; replace hx83003_5 := (cell_far (p := ⟨gb83002, 2, none⟩) (by first | (rw [add_block]; exact hn83003_2) | (show (Addr.add _ _).block ≠ _; rw [add_block]; exact hn83003_2) | exact hn83003_2) (.string ((rd_T44 l0 x17_1).f2))).trans hx83003_5; replace hx83003_6 := (cell_far (p := ⟨gb83002, 2, none⟩) (by first | (rw [add_block]; exact hn83003_2) | (show (Addr.add _ _).block ≠ _; rw [add_block]; exact hn83003_2) | exact hn83003_2) (.string ((rd_T44 l0 x17_1).f2))).trans hx83003_6; replace hx83003_7 := (cell_far (p := ⟨gb83002, 2, none⟩) (by first | (rw [add_block]; exact hn83003_2) | (show (Addr.add _ _).block ≠ _; rw [add_block]; exact hn83003_2) | exact hn83003_2) (.string ((rd_T44 l0 x17_1).f2))).trans hx83003_7; replace hx83003_0 := (cell_far (p := ⟨gb83002, 3, none⟩) (by first | (rw [add_block]; exact hn83003_3) | (show (Addr.add _ _).block ≠ _; rw [add_block]; exact hn83003_3) | exact hn83003_3) (.int .i64 ((rd_T44 l0 x17_1).f3.f0))).trans hx83003_0; replace hx83003_1 := (cell_far (p := ⟨gb83002, 3, none⟩) (by first | (rw [add_block]; exact hn83003_3) | (show (Addr.add _ _).block ≠ _; rw [add_block]; exact hn83003_3) | exact hn83003_3) (.int .i64 ((rd_T44 l0 x17_1).f3.f0))).trans hx83003_1; replace hx83003_2 := (cell_far (p := ⟨gb83002, 3, none⟩) (by first | (rw [add_block]; exact hn83003_3) | (show (Addr.add _ _).block ≠ _; rw [add_block]; exact hn83003_3) | exact hn83003_3) (.int .i64 ((rd_T44 l0 x17_1).f3.f0))).trans hx83003_2; replace hx83003_3 := (cell_far (p := ⟨gb83002, 3, none⟩) (by first | (rw [add_block]; exact hn83003_3) | (show (Addr.add _ _).block ≠ _; rw [add_block]; exact hn83003_3) | exact hn83003_3) (.int .i64 ((rd_T44 l0 x17_1).f3.f0))).trans hx83003_3; replace hx83003_4 := (cell_far (p := ⟨gb83002, 3, none⟩) (by first | (rw [add_block]; exact hn83003_3) | (show (Addr.add _ _).block ≠ _; rw [add_block]; exact hn83003_3) | exact hn83003_3) (.int .i64 ((rd_T44 l0 x17_1).f3.f0))).trans hx83003_4; replace hx83003_5 := (cell_far (p := ⟨gb83002, 3, none⟩) (by first | (rw [add_block]; exact hn83003_3) | (show (Addr.add _ _).block ≠ _; rw [add_block]; exact hn83003_3) | exact hn83003_3) (.int .i64 ((rd_T44 l0 x17_1).f3.f0))).trans hx83003_5; replace hx83003_6 := (cell_far (p := ⟨gb83002, 3, none⟩) (by first | (rw [add_block]; exact hn83003_3) | (show (Addr.add _ _).block ≠ _; rw [add_block]; exact hn83003_3) | exact hn83003_3) (.int .i64 ((rd_T44 l0 x17_1).f3.f0))).trans hx83003_6; replace hx83003_7 := (cell_far (p := ⟨gb83002, 3, none⟩) (by first | (rw [add_block]; exact hn83003_3) | (show (Addr.add _ _).block ≠ _; rw [add_block]; exact hn83003_3) | exact hn83003_3) (.int .i64 ((rd_T44 l0 x17_1).f3.f0))).trans hx83003_7; replace hx83003_0 := (cell_far (p := ⟨gb83002, 4, none⟩) (by first | (rw [add_block]; exact hn83003_4) | (show (Addr.add _ _).block ≠ _; rw [add_block]; exact hn83003_4) | exact hn83003_4) (.string ((rd_T44 l0 x17_1).f3.f1))).trans hx83003_0; replace hx83003_1 := (cell_far (p := ⟨gb83002, 4, none⟩) (by first | (rw [add_block]; exact hn83003_4) | (show (Addr.add _ _).block ≠ _; rw [add_block]; exact hn83003_4) | exact hn83003_4) (.string ((rd_T44 l0 x17_1).f3.f1))).trans hx83003_1; replace hx83003_2 := (cell_far (p := ⟨gb83002, 4, none⟩) (by first | (rw [add_block]; exact hn83003_4) | (show (Addr.add _ _).block ≠ _; rw [add_block]; exact hn83003_4) | exact hn83003_4) (.string ((rd_T44 l0 x17_1).f3.f1))).trans hx83003_2; replace hx83003_3 := (cell_far (p := ⟨gb83002, 4, none⟩) (by first | (rw [add_block]; exact hn83003_4) | (show (Addr.add _ _).block ≠ _; rw [add_block]; exact hn83003_4) | exact hn83003_4) (.string ((rd_T44 l0 x17_1).f3.f1))).trans hx83003_3; replace hx83003_4 := (cell_far (p := ⟨gb83002, 4, none⟩) (by first | (rw [add_block]; exact hn83003_4) | (show (Addr.add _ _).block ≠ _; rw [add_block]; exact hn83003_4) | exact hn83003_4) (.string ((rd_T44 l0 x17_1).f3.f1))).trans hx83003_4; replace hx83003_5 := (cell_far (p := ⟨gb83002, 4, none⟩) (by first | (rw [add_block]; exact hn83003_4) | (show (Addr.add _ _).block ≠ _; rw [add_block]; exact hn83003_4) | exact hn83003_4) (.string ((rd_T44 l0 x17_1).f3.f1))).trans hx83003_5; replace hx83003_6 := (cell_far (p := ⟨gb83002, 4, none⟩) (by first | (rw [add_block]; exact hn83003_4) | (show (Addr.add _ _).block ≠ _; rw [add_block]; exact hn83003_4) | exact hn83003_4) (.string ((rd_T44 l0 x17_1).f3.f1))).trans hx83003_6; replace hx83003_7 := (cell_far (p := ⟨gb83002, 4, none⟩) (by first | (rw [add_block]; exact hn83003_4) | (show (Addr.add _ _).block ≠ _; rw [add_block]; exact hn83003_4) | exact hn83003_4) (.string ((rd_T44 l0 x17_1).f3.f1))).trans hx83003_7; replace hx83003_0 := (cell_far (p := ⟨gb83002, 5, none⟩) (by first | (rw [add_block]; exact hn83003_5) | (show (Addr.add _ _).block ≠ _; rw [add_block]; exact hn83003_5) | exact hn83003_5) (.slice A83001_5 ((rd_T44 l0 x17_1).f3.f2).length c83001_5)).trans hx83003_0; replace hx83003_1 := (cell_far (p := ⟨gb83002, 5, none⟩) (by first | (rw [add_block]; exact hn83003_5) | (show (Addr.add _ _).block ≠ _; rw [add_block]; exact hn83003_5) | exact hn83003_5) (.slice A83001_5 ((rd_T44 l0 x17_1).f3.f2).length c83001_5)).trans hx83003_1; replace hx83003_2 := (cell_far (p := ⟨gb83002, 5, none⟩) (by first | (rw [add_block]; exact hn83003_5) | (show (Addr.add _ _).block ≠ _; rw [add_block]; exact hn83003_5) | exact hn83003_5) (.slice A83001_5 ((rd_T44 l0 x17_1).f3.f2).length c83001_5)).trans hx83003_2; replace hx83003_3 := (cell_far (p := ⟨gb83002, 5, none⟩) (by first | (rw [add_block]; exact hn83003_5) | (show (Addr.add _ _).block ≠ _; rw [add_block]; exact hn83003_5) | exact hn83003_5) (.slice A83001_5 ((rd_T44 l0 x17_1).f3.f2).length c83001_5)).trans hx83003_3; replace hx83003_4 := (cell_far (p := ⟨gb83002, 5, none⟩) (by first | (rw [add_block]; exact hn83003_5) | (show (Addr.add _ _).block ≠ _; rw [add_block]; exact hn83003_5) | exact hn83003_5) (.slice A83001_5 ((rd_T44 l0 x17_1).f3.f2).length c83001_5)).trans hx83003_4; replace hx83003_5 := (cell_far (p := ⟨gb83002, 5, none⟩) (by first | (rw [add_block]; exact hn83003_5) | (show (Addr.add _ _).block ≠ _; rw [add_block]; exact hn83003_5) | exact hn83003_5) (.slice A83001_5 ((rd_T44 l0 x17_1).f3.f2).length c83001_5)).trans hx83003_5; replace hx83003_6 := (cell_far (p := ⟨gb83002, 5, none⟩) (by first | (rw [add_block]; exact hn83003_5) | (show (Addr.add _ _).block ≠ _; rw [add_block]; exact hn83003_5) | exact hn83003_5) (.slice A83001_5 ((rd_T44 l0 x17_1).f3.f2).length c83001_5)).trans hx83003_6; replace hx83003_7 := (cell_far (p := ⟨gb83002, 5, none⟩) (by first | (rw [add_block]; exact hn83003_5) | (show (Addr.add _ _).block ≠ _; rw [add_block]; exact hn83003_5) | exact hn83003_5) (.slice A83001_5 ((rd_T44 l0 x17_1).f3.f2).length c83001_5)).trans hx83003_7; replace hx83003_0 := (cell_far (p := ⟨gb83002, 6, none⟩) (by first | (rw [add_block]; exact hn83003_6) | (show (Addr.add _ _).block ≠ _; rw [add_block]; exact hn83003_6) | exact hn83003_6) (.slice A83001_6 ((rd_T44 l0 x17_1).f4).length c83001_6)).trans hx83003_0; replace hx83003_1 := (cell_far (p := ⟨gb83002, 6, none⟩) (by first | (rw [add_block]; exact hn83003_6) | (show (Addr.add _ _).block ≠ _; rw [add_block]; exact hn83003_6) | exact hn83003_6) (.slice A83001_6 ((rd_T44 l0 x17_1).f4).length c83001_6)).trans hx83003_1; replace hx83003_2 := (cell_far (p := ⟨gb83002, 6, none⟩) (by first | (rw [add_block]; exact hn83003_6) | (show (Addr.add _ _).block ≠ _; rw [add_block]; exact hn83003_6) | exact hn83003_6) (.slice A83001_6 ((rd_T44 l0 x17_1).f4).length c83001_6)).trans hx83003_2; replace hx83003_3 := (cell_far (p := ⟨gb83002, 6, none⟩) (by first | (rw [add_block]; exact hn83003_6) | (show (Addr.add _ _).block ≠ _; rw [add_block]; exact hn83003_6) | exact hn83003_6) (.slice A83001_6 ((rd_T44 l0 x17_1).f4).length c83001_6)).trans hx83003_3; replace hx83003_4 := (cell_far (p := ⟨gb83002, 6, none⟩) (by first | (rw [add_block]; exact hn83003_6) | (show (Addr.add _ _).block ≠ _; rw [add_block]; exact hn83003_6) | exact hn83003_6) (.slice A83001_6 ((rd_T44 l0 x17_1).f4).length c83001_6)).trans hx83003_4; replace hx83003_5 := (cell_far (p := ⟨gb83002, 6, none⟩) (by first | (rw [add_block]; exact hn83003_6) | (show (Addr.add _ _).block ≠ _; rw [add_block]; exact hn83003_6) | exact hn83003_6) (.slice A83001_6 ((rd_T44 l0 x17_1).f4).length c83001_6)).trans hx83003_5; replace hx83003_6 := (cell_far (p := ⟨gb83002, 6, none⟩) (by first | (rw [add_block]; exact hn83003_6) | (show (Addr.add _ _).block ≠ _; rw [add_block]; exact hn83003_6) | exact hn83003_6) (.slice A83001_6 ((rd_T44 l0 x17_1).f4).length c83001_6)).trans hx83003_6; replace hx83003_7 := (cell_far (p := ⟨gb83002, 6, none⟩) (by first | (rw [add_block]; exact hn83003_6) | (show (Addr.add _ _).block ≠ _; rw [add_block]; exact hn83003_6) | exact hn83003_6) (.slice A83001_6 ((rd_T44 l0 x17_1).f4).length c83001_6)).trans hx83003_7; replace hx83003_0 := (cell_far (p := ⟨gb83002, 7, none⟩) (by first | (rw [add_block]; exact hn83003_7) | (show (Addr.add _ _).block ≠ _; rw [add_block]; exact hn83003_7) | exact hn83003_7) (.int .i64 ((rd_T44 l0 x17_1).f5))).trans hx83003_0; replace hx83003_1 := (cell_far (p := ⟨gb83002, 7, none⟩) (by first | (rw [add_block]; exact hn83003_7) | (show (Addr.add _ _).block ≠ _; rw [add_block]; exact hn83003_7) | exact hn83003_7) (.int .i64 ((rd_T44 l0 x17_1).f5))).trans hx83003_1; replace hx83003_2 := (cell_far (p := ⟨gb83002, 7, none⟩) (by first | (rw [add_block]; exact hn83003_7) | (show (Addr.add _ _).block ≠ _; rw [add_block]; exact hn83003_7) | exact hn83003_7) (.int .i64 ((rd_T44 l0 x17_1).f5))).trans hx83003_2; replace hx83003_3 := (cell_far (p := ⟨gb83002, 7, none⟩) (by first | (rw [add_block]; exact hn83003_7) | (show (Addr.add _ _).block ≠ _; rw [add_block]; exact hn83003_7) | exact hn83003_7) (.int .i64 ((rd_T44 l0 x17_1).f5))).trans hx83003_3; replace hx83003_4 := (cell_far (p := ⟨gb83002, 7, none⟩) (by first | (rw [add_block]; exact hn83003_7) | (show (Addr.add _ _).block ≠ _; rw [add_block]; exact hn83003_7) | exact hn83003_7) (.int .i64 ((rd_T44 l0 x17_1).f5))).trans hx83003_4; replace hx83003_5 := (cell_far (p := ⟨gb83002, 7, none⟩) (by first | (rw [add_block]; exact hn83003_7) | (show (Addr.add _ _).block ≠ _; rw [add_block]; exact hn83003_7) | exact hn83003_7) (.int .i64 ((rd_T44 l0 x17_1).f5))).trans hx83003_5; replace hx83003_6 := (cell_far (p := ⟨gb83002, 7, none⟩) (by first | (rw [add_block]; exact hn83003_7) | (show (Addr.add _ _).block ≠ _; rw [add_block]; exact hn83003_7) | exact hn83003_7) (.int .i64 ((rd_T44 l0 x17_1).f5))).trans hx83003_6; replace hx83003_7 := (cell_far (p := ⟨gb83002, 7, none⟩) (by first | (rw [add_block]; exact hn83003_7) | (show (Addr.add _ _).block ≠ _; rw [add_block]; exact hn83003_7) | exact hn83003_7) (.int .i64 ((rd_T44 l0 x17_1).f5))).trans hx83003_7; clear hn83003_0; clear hn83003_1; clear hn83003_2; clear hn83003_3; clear hn83003_4; clear hn83003_5; clear hn83003_6; clear hn83003_7; replace p83003 := eq_true p83003; replace q83003 := eq_true q83003) | ((with_reducible refine gate_dst (N := 9) rfl ?_); refine box_event ?hg (N := 9) ?hd (cs := #[.int .i64 0, .string (⟨#[]⟩ : ByteArray), .string (⟨#[]⟩ : ByteArray), .int .i64 0, .string (⟨#[]⟩ : ByteArray), .slice none 0 0, .slice none 0 0, .int .i64 0]) (t := 44) ?hr ?_; (case hd => rfl); (case hg => rfl); (case hr => first | (go_simp; done) | (go_simp; rfl)); intro gb83004 hg w12 hbox hb; have n0_ := Aside0.mk (blk_below (g := gb83002) (o := .cells #[.int .i64 ((rd_T44 l0 x17_1).f0), .string ((rd_T44 l0 x17_1).f1), .string ((rd_T44 l0 x17_1).f2), .int .i64 ((rd_T44 l0 x17_1).f3.f0), .string ((rd_T44 l0 x17_1).f3.f1), .slice A83001_5 ((rd_T44 l0 x17_1).f3.f2).length c83001_5, .slice A83001_6 ((rd_T44 l0 x17_1).f4).length c83001_6, .int .i64 ((rd_T44 l0 x17_1).f5)] 44 (0, 0)) (by (with_reducible repeat (first | refine blk_drewN ?_ _ | refine blk_drew ?_ | refine blk_alloc ?_ _)); refine blk_put (cs := #[.int .i64 ((rd_T44 l0 x17_1).f0), .string ((rd_T44 l0 x17_1).f1), .string ((rd_T44 l0 x17_1).f2), .int .i64 ((rd_T44 l0 x17_1).f3.f0), .string ((rd_T44 l0 x17_1).f3.f1), .slice A83001_5 ((rd_T44 l0 x17_1).f3.f2).length c83001_5, .slice A83001_6 ((rd_T44 l0 x17_1).f4).length c83001_6, .int .i64 0]) ?_ 7 _ rfl; (with_reducible repeat (first | refine blk_drewN ?_ _ | refine blk_drew ?_ | refine blk_alloc ?_ _)); refine blk_put (cs := #[.int .i64 ((rd_T44 l0 x17_1).f0), .string ((rd_T44 l0 x17_1).f1), .string ((rd_T44 l0 x17_1).f2), .int .i64 ((rd_T44 l0 x17_1).f3.f0), .string ((rd_T44 l0 x17_1).f3.f1), .slice A83001_5 ((rd_T44 l0 x17_1).f3.f2).length c83001_5, .slice none 0 0, .int .i64 0]) ?_ 6 _ rfl; (with_reducible repeat (first | refine blk_drewN ?_ _ | refine blk_drew ?_ | refine blk_alloc ?_ _)); refine blk_put (cs := #[.int .i64 ((rd_T44 l0 x17_1).f0), .string ((rd_T44 l0 x17_1).f1), .string ((rd_T44 l0 x17_1).f2), .int .i64 ((rd_T44 l0 x17_1).f3.f0), .string ((rd_T44 l0 x17_1).f3.f1), .slice none 0 0, .slice none 0 0, .int .i64 0]) ?_ 5 _ rfl; (with_reducible repeat (first | refine blk_drewN ?_ _ | refine blk_drew ?_ | refine blk_alloc ?_ _)); refine blk_put (cs := #[.int .i64 ((rd_T44 l0 x17_1).f0), .string ((rd_T44 l0 x17_1).f1), .string ((rd_T44 l0 x17_1).f2), .int .i64 ((rd_T44 l0 x17_1).f3.f0), .string (⟨#[]⟩ : ByteArray), .slice none 0 0, .slice none 0 0, .int .i64 0]) ?_ 4 _ rfl; (with_reducible repeat (first | refine blk_drewN ?_ _ | refine blk_drew ?_ | refine blk_alloc ?_ _)); refine blk_put (cs := #[.int .i64 ((rd_T44 l0 x17_1).f0), .string ((rd_T44 l0 x17_1).f1), .string ((rd_T44 l0 x17_1).f2), .int .i64 0, .string (⟨#[]⟩ : ByteArray), .slice none 0 0, .slice none 0 0, .int .i64 0]) ?_ 3 _ rfl; (with_reducible repeat (first | refine blk_drewN ?_ _ | refine blk_drew ?_ | refine blk_alloc ?_ _)); refine blk_put (cs := #[.int .i64 ((rd_T44 l0 x17_1).f0), .string ((rd_T44 l0 x17_1).f1), .string (⟨#[]⟩ : ByteArray), .int .i64 0, .string (⟨#[]⟩ : ByteArray), .slice none 0 0, .slice none 0 0, .int .i64 0]) ?_ 2 _ rfl; (with_reducible repeat (first | refine blk_drewN ?_ _ | refine blk_drew ?_ | refine blk_alloc ?_ _)); refine blk_put (cs := #[.int .i64 ((rd_T44 l0 x17_1).f0), .string (⟨#[]⟩ : ByteArray), .string (⟨#[]⟩ : ByteArray), .int .i64 0, .string (⟨#[]⟩ : ByteArray), .slice none 0 0, .slice none 0 0, .int .i64 0]) ?_ 1 _ rfl; (with_reducible repeat (first | refine blk_drewN ?_ _ | refine blk_drew ?_ | refine blk_alloc ?_ _)); refine blk_put (cs := #[.int .i64 0, .string (⟨#[]⟩ : ByteArray), .string (⟨#[]⟩ : ByteArray), .int .i64 0, .string (⟨#[]⟩ : ByteArray), .slice none 0 0, .slice none 0 0, .int .i64 0]) ?_ 0 _ rfl; (with_reducible repeat (first | refine blk_drewN ?_ _ | refine blk_drew ?_ | refine blk_alloc ?_ _)); exact BK83002.out) hb); have n1_ := Aside0.mk (below_step (by repeat (first | (with_reducible first | exact HB.out | apply below_alloc | apply pw_below_drewN | apply below_drew1 | refine below_set ?_ GE83002.out) | exact HB.out)) hb); have n2_ := Aside0.mk (hbox); have n3_ := Aside0.mk ((by rw [hg]; exact (below_size (by repeat (first | (with_reducible first | exact HB.out | apply below_alloc | apply pw_below_drewN | apply below_drew1 | refine below_set ?_ GE83002.out) | exact HB.out))) : w.heap.size ≤ gb83004)); have n4_ := Aside0.mk ((by rw [hg]; exact (below_size (by repeat (first | (with_reducible first | exact HB.out | apply below_alloc | apply pw_below_drewN | apply below_drew1 | refine below_set ?_ GE83002.out) | exact HB.out))) : w.heap.size ≤ gb83004)); have n5_ := Aside0.mk ((by rw [hg]; exact Nat.ne_of_lt (blk_lt (g := gb83002) (o := .cells #[.int .i64 ((rd_T44 l0 x17_1).f0), .string ((rd_T44 l0 x17_1).f1), .string ((rd_T44 l0 x17_1).f2), .int .i64 ((rd_T44 l0 x17_1).f3.f0), .string ((rd_T44 l0 x17_1).f3.f1), .slice A83001_5 ((rd_T44 l0 x17_1).f3.f2).length c83001_5, .slice A83001_6 ((rd_T44 l0 x17_1).f4).length c83001_6, .int .i64 ((rd_T44 l0 x17_1).f5)] 44 (0, 0)) (by (with_reducible repeat (first | refine blk_drewN ?_ _ | refine blk_drew ?_ | refine blk_alloc ?_ _)); refine blk_put (cs := #[.int .i64 ((rd_T44 l0 x17_1).f0), .string ((rd_T44 l0 x17_1).f1), .string ((rd_T44 l0 x17_1).f2), .int .i64 ((rd_T44 l0 x17_1).f3.f0), .string ((rd_T44 l0 x17_1).f3.f1), .slice A83001_5 ((rd_T44 l0 x17_1).f3.f2).length c83001_5, .slice A83001_6 ((rd_T44 l0 x17_1).f4).length c83001_6, .int .i64 0]) ?_ 7 _ rfl; (with_reducible repeat (first | refine blk_drewN ?_ _ | refine blk_drew ?_ | refine blk_alloc ?_ _)); refine blk_put (cs := #[.int .i64 ((rd_T44 l0 x17_1).f0), .string ((rd_T44 l0 x17_1).f1), .string ((rd_T44 l0 x17_1).f2), .int .i64 ((rd_T44 l0 x17_1).f3.f0), .string ((rd_T44 l0 x17_1).f3.f1), .slice A83001_5 ((rd_T44 l0 x17_1).f3.f2).length c83001_5, .slice none 0 0, .int .i64 0]) ?_ 6 _ rfl; (with_reducible repeat (first | refine blk_drewN ?_ _ | refine blk_drew ?_ | refine blk_alloc ?_ _)); refine blk_put (cs := #[.int .i64 ((rd_T44 l0 x17_1).f0), .string ((rd_T44 l0 x17_1).f1), .string ((rd_T44 l0 x17_1).f2), .int .i64 ((rd_T44 l0 x17_1).f3.f0), .string ((rd_T44 l0 x17_1).f3.f1), .slice none 0 0, .slice none 0 0, .int .i64 0]) ?_ 5 _ rfl; (with_reducible repeat (first | refine blk_drewN ?_ _ | refine blk_drew ?_ | refine blk_alloc ?_ _)); refine blk_put (cs := #[.int .i64 ((rd_T44 l0 x17_1).f0), .string ((rd_T44 l0 x17_1).f1), .string ((rd_T44 l0 x17_1).f2), .int .i64 ((rd_T44 l0 x17_1).f3.f0), .string (⟨#[]⟩ : ByteArray), .slice none 0 0, .slice none 0 0, .int .i64 0]) ?_ 4 _ rfl; (with_reducible repeat (first | refine blk_drewN ?_ _ | refine blk_drew ?_ | refine blk_alloc ?_ _)); refine blk_put (cs := #[.int .i64 ((rd_T44 l0 x17_1).f0), .string ((rd_T44 l0 x17_1).f1), .string ((rd_T44 l0 x17_1).f2), .int .i64 0, .string (⟨#[]⟩ : ByteArray), .slice none 0 0, .slice none 0 0, .int .i64 0]) ?_ 3 _ rfl; (with_reducible repeat (first | refine blk_drewN ?_ _ | refine blk_drew ?_ | refine blk_alloc ?_ _)); refine blk_put (cs := #[.int .i64 ((rd_T44 l0 x17_1).f0), .string ((rd_T44 l0 x17_1).f1), .string (⟨#[]⟩ : ByteArray), .int .i64 0, .string (⟨#[]⟩ : ByteArray), .slice none 0 0, .slice none 0 0, .int .i64 0]) ?_ 2 _ rfl; (with_reducible repeat (first | refine blk_drewN ?_ _ | refine blk_drew ?_ | refine blk_alloc ?_ _)); refine blk_put (cs := #[.int .i64 ((rd_T44 l0 x17_1).f0), .string (⟨#[]⟩ : ByteArray), .string (⟨#[]⟩ : ByteArray), .int .i64 0, .string (⟨#[]⟩ : ByteArray), .slice none 0 0, .slice none 0 0, .int .i64 0]) ?_ 1 _ rfl; (with_reducible repeat (first | refine blk_drewN ?_ _ | refine blk_drew ?_ | refine blk_alloc ?_ _)); refine blk_put (cs := #[.int .i64 0, .string (⟨#[]⟩ : ByteArray), .string (⟨#[]⟩ : ByteArray), .int .i64 0, .string (⟨#[]⟩ : ByteArray), .slice none 0 0, .slice none 0 0, .int .i64 0]) ?_ 0 _ rfl; (with_reducible repeat (first | refine blk_drewN ?_ _ | refine blk_drew ?_ | refine blk_alloc ?_ _)); exact BK83002.out)) : gb83002 ≠ gb83004)); have n6_ := Aside0.mk ((by rw [hg]; exact Nat.ne_of_gt (blk_lt (g := gb83002) (o := .cells #[.int .i64 ((rd_T44 l0 x17_1).f0), .string ((rd_T44 l0 x17_1).f1), .string ((rd_T44 l0 x17_1).f2), .int .i64 ((rd_T44 l0 x17_1).f3.f0), .string ((rd_T44 l0 x17_1).f3.f1), .slice A83001_5 ((rd_T44 l0 x17_1).f3.f2).length c83001_5, .slice A83001_6 ((rd_T44 l0 x17_1).f4).length c83001_6, .int .i64 ((rd_T44 l0 x17_1).f5)] 44 (0, 0)) (by (with_reducible repeat (first | refine blk_drewN ?_ _ | refine blk_drew ?_ | refine blk_alloc ?_ _)); refine blk_put (cs := #[.int .i64 ((rd_T44 l0 x17_1).f0), .string ((rd_T44 l0 x17_1).f1), .string ((rd_T44 l0 x17_1).f2), .int .i64 ((rd_T44 l0 x17_1).f3.f0), .string ((rd_T44 l0 x17_1).f3.f1), .slice A83001_5 ((rd_T44 l0 x17_1).f3.f2).length c83001_5, .slice A83001_6 ((rd_T44 l0 x17_1).f4).length c83001_6, .int .i64 0]) ?_ 7 _ rfl; (with_reducible repeat (first | refine blk_drewN ?_ _ | refine blk_drew ?_ | refine blk_alloc ?_ _)); refine blk_put (cs := #[.int .i64 ((rd_T44 l0 x17_1).f0), .string ((rd_T44 l0 x17_1).f1), .string ((rd_T44 l0 x17_1).f2), .int .i64 ((rd_T44 l0 x17_1).f3.f0), .string ((rd_T44 l0 x17_1).f3.f1), .slice A83001_5 ((rd_T44 l0 x17_1).f3.f2).length c83001_5, .slice none 0 0, .int .i64 0]) ?_ 6 _ rfl; (with_reducible repeat (first | refine blk_drewN ?_ _ | refine blk_drew ?_ | refine blk_alloc ?_ _)); refine blk_put (cs := #[.int .i64 ((rd_T44 l0 x17_1).f0), .string ((rd_T44 l0 x17_1).f1), .string ((rd_T44 l0 x17_1).f2), .int .i64 ((rd_T44 l0 x17_1).f3.f0), .string ((rd_T44 l0 x17_1).f3.f1), .slice none 0 0, .slice none 0 0, .int .i64 0]) ?_ 5 _ rfl; (with_reducible repeat (first | refine blk_drewN ?_ _ | refine blk_drew ?_ | refine blk_alloc ?_ _)); refine blk_put (cs := #[.int .i64 ((rd_T44 l0 x17_1).f0), .string ((rd_T44 l0 x17_1).f1), .string ((rd_T44 l0 x17_1).f2), .int .i64 ((rd_T44 l0 x17_1).f3.f0), .string (⟨#[]⟩ : ByteArray), .slice none 0 0, .slice none 0 0, .int .i64 0]) ?_ 4 _ rfl; (with_reducible repeat (first | refine blk_drewN ?_ _ | refine blk_drew ?_ | refine blk_alloc ?_ _)); refine blk_put (cs := #[.int .i64 ((rd_T44 l0 x17_1).f0), .string ((rd_T44 l0 x17_1).f1), .string ((rd_T44 l0 x17_1).f2), .int .i64 0, .string (⟨#[]⟩ : ByteArray), .slice none 0 0, .slice none 0 0, .int .i64 0]) ?_ 3 _ rfl; (with_reducible repeat (first | refine blk_drewN ?_ _ | refine blk_drew ?_ | refine blk_alloc ?_ _)); refine blk_put (cs := #[.int .i64 ((rd_T44 l0 x17_1).f0), .string ((rd_T44 l0 x17_1).f1), .string (⟨#[]⟩ : ByteArray), .int .i64 0, .string (⟨#[]⟩ : ByteArray), .slice none 0 0, .slice none 0 0, .int .i64 0]) ?_ 2 _ rfl; (with_reducible repeat (first | refine blk_drewN ?_ _ | refine blk_drew ?_ | refine blk_alloc ?_ _)); refine blk_put (cs := #[.int .i64 ((rd_T44 l0 x17_1).f0), .string (⟨#[]⟩ : ByteArray), .string (⟨#[]⟩ : ByteArray), .int .i64 0, .string (⟨#[]⟩ : ByteArray), .slice none 0 0, .slice none 0 0, .int .i64 0]) ?_ 1 _ rfl; (with_reducible repeat (first | refine blk_drewN ?_ _ | refine blk_drew ?_ | refine blk_alloc ?_ _)); refine blk_put (cs := #[.int .i64 0, .string (⟨#[]⟩ : ByteArray), .string (⟨#[]⟩ : ByteArray), .int .i64 0, .string (⟨#[]⟩ : ByteArray), .slice none 0 0, .slice none 0 0, .int .i64 0]) ?_ 0 _ rfl; (with_reducible repeat (first | refine blk_drewN ?_ _ | refine blk_drew ?_ | refine blk_alloc ?_ _)); exact BK83002.out)) : gb83004 ≠ gb83002)); clear BK83002; clear HB; have BK83002 := n0_; have HB := n1_; have BK83004 := n2_; have GW83004 := n3_; have GE83004 := n4_; have NB83002_83004 := n5_; have NB83004_83002 := n6_; clear n0_ n1_ n2_ n3_ n4_ n5_ n6_; clear hb hbox hg; have hnb13 := NB83004_83002.out; have hnc13 := NB83002_83004.out; have hcz14_0 : w12.cell? ⟨gb83004, 0, none⟩ = some (.int .i64 0) := (blk_cell BK83004.out 0).trans rfl; have hcz14_1 : w12.cell? ⟨gb83004, 1, none⟩ = some (.string (⟨#[]⟩ : ByteArray)) := (blk_cell BK83004.out 1).trans rfl; have hcz14_2 : w12.cell? ⟨gb83004, 2, none⟩ = some (.string (⟨#[]⟩ : ByteArray)) := (blk_cell BK83004.out 2).trans rfl; have hcz14_3 : w12.cell? ⟨gb83004, 3, none⟩ = some (.int .i64 0) := (blk_cell BK83004.out 3).trans rfl; have hcz14_4 : w12.cell? ⟨gb83004, 4, none⟩ = some (.string (⟨#[]⟩ : ByteArray)) := (blk_cell BK83004.out 4).trans rfl; have hcz14_5 : w12.cell? ⟨gb83004, 5, none⟩ = some (.slice none 0 0) := (blk_cell BK83004.out 5).trans rfl; have hcz14_6 : w12.cell? ⟨gb83004, 6, none⟩ = some (.slice none 0 0) := (blk_cell BK83004.out 6).trans rfl; have hcz14_7 : w12.cell? ⟨gb83004, 7, none⟩ = some (.int .i64 0) := (blk_cell BK83004.out 7).trans rfl; have hfz14_0 := blk_frozen BK83004.out 0; have hfz14_1 := blk_frozen BK83004.out 1; have hfz14_2 := blk_frozen BK83004.out 2; have hfz14_3 := blk_frozen BK83004.out 3; have hfz14_4 := blk_frozen BK83004.out 4; have hfz14_5 := blk_frozen BK83004.out 5; have hfz14_6 := blk_frozen BK83004.out 6; have hfz14_7 := blk_frozen BK83004.out 7; have hcz15_0 : w12.cell? ⟨gb83002, 0, none⟩ = some (.int .i64 ((rd_T44 l0 x17_1).f0)) := (blk_cell BK83002.out 0).trans rfl; have hcz15_1 : w12.cell? ⟨gb83002, 1, none⟩ = some (.string ((rd_T44 l0 x17_1).f1)) := (blk_cell BK83002.out 1).trans rfl; have hcz15_2 : w12.cell? ⟨gb83002, 2, none⟩ = some (.string ((rd_T44 l0 x17_1).f2)) := (blk_cell BK83002.out 2).trans rfl; have hcz15_3 : w12.cell? ⟨gb83002, 3, none⟩ = some (.int .i64 ((rd_T44 l0 x17_1).f3.f0)) := (blk_cell BK83002.out 3).trans rfl; have hcz15_4 : w12.cell? ⟨gb83002, 4, none⟩ = some (.string ((rd_T44 l0 x17_1).f3.f1)) := (blk_cell BK83002.out 4).trans rfl; have hcz15_5 : w12.cell? ⟨gb83002, 5, none⟩ = some (.slice A83001_5 ((rd_T44 l0 x17_1).f3.f2).length c83001_5) := (blk_cell BK83002.out 5).trans rfl; have hcz15_6 : w12.cell? ⟨gb83002, 6, none⟩ = some (.slice A83001_6 ((rd_T44 l0 x17_1).f4).length c83001_6) := (blk_cell BK83002.out 6).trans rfl; have hcz15_7 : w12.cell? ⟨gb83002, 7, none⟩ = some (.int .i64 ((rd_T44 l0 x17_1).f5)) := (blk_cell BK83002.out 7).trans rfl; have hfz15_0 := blk_frozen BK83002.out 0; have hfz15_1 := blk_frozen BK83002.out 1; have hfz15_2 := blk_frozen BK83002.out 2; have hfz15_3 := blk_frozen BK83002.out 3; have hfz15_4 := blk_frozen BK83002.out 4; have hfz15_5 := blk_frozen BK83002.out 5; have hfz15_6 := blk_frozen BK83002.out 6; have hfz15_7 := blk_frozen BK83002.out 7) | ((with_reducible refine gate_dst (N := 29) rfl ?_); refine goesF_ (some 29) rfl rfl Try.func84 (by kernel_rfl) rfl #[.agg #[.int .i64 ((rd_T44 l0 x17_1).f0), .string ((rd_T44 l0 x17_1).f1), .string ((rd_T44 l0 x17_1).f2), .int .i64 ((rd_T44 l0 x17_1).f3.f0), .string ((rd_T44 l0 x17_1).f3.f1), .slice A83001_5 ((rd_T44 l0 x17_1).f3.f2).length c83001_5, .slice A83001_6 ((rd_T44 l0 x17_1).f4).length c83001_6, .int .i64 ((rd_T44 l0 x17_1).f5)], .agg #[.int .i64 ((rd_T44 l1 x17_1).f0), .string ((rd_T44 l1 x17_1).f1), .string ((rd_T44 l1 x17_1).f2), .int .i64 ((rd_T44 l1 x17_1).f3.f0), .string ((rd_T44 l1 x17_1).f3.f1), .slice A83003_5 ((rd_T44 l1 x17_1).f3.f2).length c83003_5, .slice A83003_6 ((rd_T44 l1 x17_1).f4).length c83003_6, .int .i64 ((rd_T44 l1 x17_1).f5)]] rfl (by first | rfl | (go_simp; done)) (by (try simp only [List.map_toArray, List.map_cons, List.map_nil]); first | done | rfl | (simp only [List.length_drop, List.length_take]; rfl)) ?_; (with_reducible refine (impl_EqualConstraint.calls k1 ((rd_T44 l0 x17_1).f0) ((rd_T44 l0 x17_1).f1) ((rd_T44 l0 x17_1).f2) ((rd_T44 l0 x17_1).f3.f0) ((rd_T44 l0 x17_1).f3.f1) _ _ ((rd_T44 l0 x17_1).f3.f2) _ _ ((rd_T44 l0 x17_1).f4) ((rd_T44 l0 x17_1).f5) ((rd_T44 l1 x17_1).f0) ((rd_T44 l1 x17_1).f1) ((rd_T44 l1 x17_1).f2) ((rd_T44 l1 x17_1).f3.f0) ((rd_T44 l1 x17_1).f3.f1) _ _ ((rd_T44 l1 x17_1).f3.f2) _ _ ((rd_T44 l1 x17_1).f4) ((rd_T44 l1 x17_1).f5) true _ ?side1 ?side2 ?side3 ?side4 ?side5 ?side6 ?side7 ?side8 A8.out).mono ?_); (case side1 => exact Kd.C_below HR83001_5.out (by repeat (first | (with_reducible first | exact HB.out | apply below_alloc | apply pw_below_drewN | apply below_drew1 | refine below_set ?_ GE83002.out | refine below_set ?_ GE83004.out) | exact HB.out))); (case side2 => exact HC83001_5.out); (case side3 => exact Kd.C_below HR83001_6.out (by repeat (first | (with_reducible first | exact HB.out | apply below_alloc | apply pw_below_drewN | apply below_drew1 | refine below_set ?_ GE83002.out | refine below_set ?_ GE83004.out) | exact HB.out))); (case side4 => exact HC83001_6.out); (case side5 => exact Kd.C_below HR83003_5.out (by repeat (first | (with_reducible first | exact HB.out | apply below_alloc | apply pw_below_drewN | apply below_drew1 | refine below_set ?_ GE83002.out | refine below_set ?_ GE83004.out) | exact HB.out))); (case side6 => exact HC83003_5.out); (case side7 => exact Kd.C_below HR83003_6.out (by repeat (first | (with_reducible first | exact HB.out | apply below_alloc | apply pw_below_drewN | apply below_drew1 | refine below_set ?_ GE83002.out | refine below_set ?_ GE83004.out) | exact HB.out))); (case side8 => exact HC83003_6.out); rintro e w16 ⟨rfl, hb⟩; refine ⟨_, rfl, ?_⟩; have n0_ := Aside0.mk (blk_below (g := gb83002) (o := .cells #[.int .i64 ((rd_T44 l0 x17_1).f0), .string ((rd_T44 l0 x17_1).f1), .string ((rd_T44 l0 x17_1).f2), .int .i64 ((rd_T44 l0 x17_1).f3.f0), .string ((rd_T44 l0 x17_1).f3.f1), .slice A83001_5 ((rd_T44 l0 x17_1).f3.f2).length c83001_5, .slice A83001_6 ((rd_T44 l0 x17_1).f4).length c83001_6, .int .i64 ((rd_T44 l0 x17_1).f5)] 44 (0, 0)) (by (with_reducible repeat (first | refine blk_drewN ?_ _ | refine blk_drew ?_ | refine blk_alloc ?_ _)); refine blk_far ?_ NB83002_83004.out _; (with_reducible repeat (first | refine blk_drewN ?_ _ | refine blk_drew ?_ | refine blk_alloc ?_ _)); refine blk_far ?_ NB83002_83004.out _; (with_reducible repeat (first | refine blk_drewN ?_ _ | refine blk_drew ?_ | refine blk_alloc ?_ _)); refine blk_far ?_ NB83002_83004.out _; (with_reducible repeat (first | refine blk_drewN ?_ _ | refine blk_drew ?_ | refine blk_alloc ?_ _)); refine blk_far ?_ NB83002_83004.out _; (with_reducible repeat (first | refine blk_drewN ?_ _ | refine blk_drew ?_ | refine blk_alloc ?_ _)); refine blk_far ?_ NB83002_83004.out _; (with_reducible repeat (first | refine blk_drewN ?_ _ | refine blk_drew ?_ | refine blk_alloc ?_ _)); refine blk_far ?_ NB83002_83004.out _; (with_reducible repeat (first | refine blk_drewN ?_ _ | refine blk_drew ?_ | refine blk_alloc ?_ _)); refine blk_far ?_ NB83002_83004.out _; (with_reducible repeat (first | refine blk_drewN ?_ _ | refine blk_drew ?_ | refine blk_alloc ?_ _)); refine blk_far ?_ NB83002_83004.out _; (with_reducible repeat (first | refine blk_drewN ?_ _ | refine blk_drew ?_ | refine blk_alloc ?_ _)); exact BK83002.out) hb); have n1_ := Aside0.mk (blk_below (g := gb83004) (o := .cells #[.int .i64 ((rd_T44 l1 x17_1).f0), .string ((rd_T44 l1 x17_1).f1), .string ((rd_T44 l1 x17_1).f2), .int .i64 ((rd_T44 l1 x17_1).f3.f0), .string ((rd_T44 l1 x17_1).f3.f1), .slice A83003_5 ((rd_T44 l1 x17_1).f3.f2).length c83003_5, .slice A83003_6 ((rd_T44 l1 x17_1).f4).length c83003_6, .int .i64 ((rd_T44 l1 x17_1).f5)] 44 (0, 0)) (by (with_reducible repeat (first | refine blk_drewN ?_ _ | refine blk_drew ?_ | refine blk_alloc ?_ _)); refine blk_put (cs := #[.int .i64 ((rd_T44 l1 x17_1).f0), .string ((rd_T44 l1 x17_1).f1), .string ((rd_T44 l1 x17_1).f2), .int .i64 ((rd_T44 l1 x17_1).f3.f0), .string ((rd_T44 l1 x17_1).f3.f1), .slice A83003_5 ((rd_T44 l1 x17_1).f3.f2).length c83003_5, .slice A83003_6 ((rd_T44 l1 x17_1).f4).length c83003_6, .int .i64 0]) ?_ 7 _ rfl; (with_reducible repeat (first | refine blk_drewN ?_ _ | refine blk_drew ?_ | refine blk_alloc ?_ _)); refine blk_put (cs := #[.int .i64 ((rd_T44 l1 x17_1).f0), .string ((rd_T44 l1 x17_1).f1), .string ((rd_T44 l1 x17_1).f2), .int .i64 ((rd_T44 l1 x17_1).f3.f0), .string ((rd_T44 l1 x17_1).f3.f1), .slice A83003_5 ((rd_T44 l1 x17_1).f3.f2).length c83003_5, .slice none 0 0, .int .i64 0]) ?_ 6 _ rfl; (with_reducible repeat (first | refine blk_drewN ?_ _ | refine blk_drew ?_ | refine blk_alloc ?_ _)); refine blk_put (cs := #[.int .i64 ((rd_T44 l1 x17_1).f0), .string ((rd_T44 l1 x17_1).f1), .string ((rd_T44 l1 x17_1).f2), .int .i64 ((rd_T44 l1 x17_1).f3.f0), .string ((rd_T44 l1 x17_1).f3.f1), .slice none 0 0, .slice none 0 0, .int .i64 0]) ?_ 5 _ rfl; (with_reducible repeat (first | refine blk_drewN ?_ _ | refine blk_drew ?_ | refine blk_alloc ?_ _)); refine blk_put (cs := #[.int .i64 ((rd_T44 l1 x17_1).f0), .string ((rd_T44 l1 x17_1).f1), .string ((rd_T44 l1 x17_1).f2), .int .i64 ((rd_T44 l1 x17_1).f3.f0), .string (⟨#[]⟩ : ByteArray), .slice none 0 0, .slice none 0 0, .int .i64 0]) ?_ 4 _ rfl; (with_reducible repeat (first | refine blk_drewN ?_ _ | refine blk_drew ?_ | refine blk_alloc ?_ _)); refine blk_put (cs := #[.int .i64 ((rd_T44 l1 x17_1).f0), .string ((rd_T44 l1 x17_1).f1), .string ((rd_T44 l1 x17_1).f2), .int .i64 0, .string (⟨#[]⟩ : ByteArray), .slice none 0 0, .slice none 0 0, .int .i64 0]) ?_ 3 _ rfl; (with_reducible repeat (first | refine blk_drewN ?_ _ | refine blk_drew ?_ | refine blk_alloc ?_ _)); refine blk_put (cs := #[.int .i64 ((rd_T44 l1 x17_1).f0), .string ((rd_T44 l1 x17_1).f1), .string (⟨#[]⟩ : ByteArray), .int .i64 0, .string (⟨#[]⟩ : ByteArray), .slice none 0 0, .slice none 0 0, .int .i64 0]) ?_ 2 _ rfl; (with_reducible repeat (first | refine blk_drewN ?_ _ | refine blk_drew ?_ | refine blk_alloc ?_ _)); refine blk_put (cs := #[.int .i64 ((rd_T44 l1 x17_1).f0), .string (⟨#[]⟩ : ByteArray), .string (⟨#[]⟩ : ByteArray), .int .i64 0, .string (⟨#[]⟩ : ByteArray), .slice none 0 0, .slice none 0 0, .int .i64 0]) ?_ 1 _ rfl; (with_reducible repeat (first | refine blk_drewN ?_ _ | refine blk_drew ?_ | refine blk_alloc ?_ _)); refine blk_put (cs := #[.int .i64 0, .string (⟨#[]⟩ : ByteArray), .string (⟨#[]⟩ : ByteArray), .int .i64 0, .string (⟨#[]⟩ : ByteArray), .slice none 0 0, .slice none 0 0, .int .i64 0]) ?_ 0 _ rfl; (with_reducible repeat (first | refine blk_drewN ?_ _ | refine blk_drew ?_ | refine blk_alloc ?_ _)); exact BK83004.out) hb); have n2_ := Aside0.mk (below_step (by repeat (first | (with_reducible first | exact HB.out | apply below_alloc | apply pw_below_drewN | apply below_drew1 | refine below_set ?_ GE83002.out | refine below_set ?_ GE83004.out) | exact HB.out)) hb); clear BK83002; clear BK83004; clear HB; have BK83002 := n0_; have BK83004 := n1_; have HB := n2_; clear n0_ n1_ n2_; (try clear hb); (try clear hb2); (try clear hk); (try clear hi)))
                  go_roundg k1
                  case measure => have := HK1.out; omega
                  case rel => exact ⟨(wrap64 (x17_1 + 1)), (by first | rfl | (simp; done) | (simp [*]; done)), H', ⟨by have := HK1.out; omega⟩, ⟨by repeat (first | (with_reducible first | exact HB.out | apply below_alloc | apply pw_below_drewN | apply below_drew1 | refine below_set ?_ GE83002.out | refine below_set ?_ GE83004.out) | exact HB.out)⟩⟩
                · replace c9 := Bool.eq_false_iff.mpr c9
                  subst c9
                  have H1 : (some false) = some r := by rw [if_neg (show ¬ (false = true) by decide)] at H; exact H
                  clear H
                  have H := H1
                  clear H1
                  obtain rfl := Option.some.inj H
                  have p83001 : 0 ≤ (x17_1 : Int) := of_decide_eq_true (by first | (with_reducible assumption) | assumption)
                  have q83001 : x17_1 < (l0.length : Int) := of_decide_eq_true (by first | (with_reducible assumption) | assumption)
                  obtain ⟨ad83001, A83001_5, c83001_5, A83001_6, c83001_6, e83001, hx83001_0, hx83001_1, hx83001_2, hx83001_3, hx83001_4, hx83001_5, hx83001_6, hx83001_7, hl83001_5, hi83001_5, hl83001_6, hi83001_6⟩ := at_T44 HR0.out x17_1 p83001 q83001
                  cases e83001
                  replace hx83001_0 := (HB.out.cell (World.block_lt_of_cell? w _ hx83001_0)).trans hx83001_0
                  replace hx83001_1 := (HB.out.cell (World.block_lt_of_cell? w _ hx83001_1)).trans hx83001_1
                  replace hx83001_2 := (HB.out.cell (World.block_lt_of_cell? w _ hx83001_2)).trans hx83001_2
                  replace hx83001_3 := (HB.out.cell (World.block_lt_of_cell? w _ hx83001_3)).trans hx83001_3
                  replace hx83001_4 := (HB.out.cell (World.block_lt_of_cell? w _ hx83001_4)).trans hx83001_4
                  replace hx83001_5 := (HB.out.cell (World.block_lt_of_cell? w _ hx83001_5)).trans hx83001_5
                  replace hx83001_6 := (HB.out.cell (World.block_lt_of_cell? w _ hx83001_6)).trans hx83001_6
                  replace hx83001_7 := (HB.out.cell (World.block_lt_of_cell? w _ hx83001_7)).trans hx83001_7
                  have HR83001_5 := Aside0.mk hi83001_5
                  have HC83001_5 := Aside0.mk hl83001_5
                  clear hi83001_5 hl83001_5
                  have HR83001_6 := Aside0.mk hi83001_6
                  have HC83001_6 := Aside0.mk hl83001_6
                  clear hi83001_6 hl83001_6
                  replace p83001 := eq_true p83001
                  replace q83001 := eq_true q83001
                  go_wp2_with (first | ((with_reducible refine gate_dst (N := 8) rfl ?_); refine box_event ?hg (N := 8) ?hd (cs := #[.int .i64 0, .string (⟨#[]⟩ : ByteArray), .string (⟨#[]⟩ : ByteArray), .int .i64 0, .string (⟨#[]⟩ : ByteArray), .slice none 0 0, .slice none 0 0, .int .i64 0]) (t := 44) ?hr ?_; (case hd => rfl); (case hg => rfl); (case hr => first | (go_simp; done) | (go_simp; rfl)); intro gb83002 hg w17 hbox hb; have n0_ := Aside0.mk (below_step (by repeat (first | (with_reducible first | exact HB.out | apply below_alloc | apply pw_below_drewN | apply below_drew1) | exact HB.out)) hb); have n1_ := Aside0.mk (hbox); have n2_ := Aside0.mk ((by rw [hg]; exact (below_size (by repeat (first | (with_reducible first | exact HB.out | apply below_alloc | apply pw_below_drewN | apply below_drew1) | exact HB.out))) : w.heap.size ≤ gb83002)); have n3_ := Aside0.mk ((by rw [hg]; exact (below_size (by repeat (first | (with_reducible first | exact HB.out | apply below_alloc | apply pw_below_drewN | apply below_drew1) | exact HB.out))) : w.heap.size ≤ gb83002)); clear HB; have HB := n0_; have BK83002 := n1_; have GW83002 := n2_; have GE83002 := n3_; clear n0_ n1_ n2_ n3_; clear hb hbox hg; have hcz18_0 : w17.cell? ⟨gb83002, 0, none⟩ = some (.int .i64 0) := (blk_cell BK83002.out 0).trans rfl; have hcz18_1 : w17.cell? ⟨gb83002, 1, none⟩ = some (.string (⟨#[]⟩ : ByteArray)) := (blk_cell BK83002.out 1).trans rfl; have hcz18_2 : w17.cell? ⟨gb83002, 2, none⟩ = some (.string (⟨#[]⟩ : ByteArray)) := (blk_cell BK83002.out 2).trans rfl; have hcz18_3 : w17.cell? ⟨gb83002, 3, none⟩ = some (.int .i64 0) := (blk_cell BK83002.out 3).trans rfl; have hcz18_4 : w17.cell? ⟨gb83002, 4, none⟩ = some (.string (⟨#[]⟩ : ByteArray)) := (blk_cell BK83002.out 4).trans rfl; have hcz18_5 : w17.cell? ⟨gb83002, 5, none⟩ = some (.slice none 0 0) := (blk_cell BK83002.out 5).trans rfl; have hcz18_6 : w17.cell? ⟨gb83002, 6, none⟩ = some (.slice none 0 0) := (blk_cell BK83002.out 6).trans rfl; have hcz18_7 : w17.cell? ⟨gb83002, 7, none⟩ = some (.int .i64 0) := (blk_cell BK83002.out 7).trans rfl; have hfz18_0 := blk_frozen BK83002.out 0; have hfz18_1 := blk_frozen BK83002.out 1; have hfz18_2 := blk_frozen BK83002.out 2; have hfz18_3 := blk_frozen BK83002.out 3; have hfz18_4 := blk_frozen BK83002.out 4; have hfz18_5 := blk_frozen BK83002.out 5; have hfz18_6 := blk_frozen BK83002.out 6; have hfz18_7 := blk_frozen BK83002.out 7; have p83003 : 0 ≤ (x17_1 : Int) := of_decide_eq_true (by first | (with_reducible assumption) | assumption); have q83003 : x17_1 < (l1.length : Int) := of_decide_eq_true (by first | (with_reducible assumption) | assumption); obtain ⟨ad83003, A83003_5, c83003_5, A83003_6, c83003_6, e83003, hx83003_0, hx83003_1, hx83003_2, hx83003_3, hx83003_4, hx83003_5, hx83003_6, hx83003_7, hl83003_5, hi83003_5, hl83003_6, hi83003_6⟩ := at_T44 HR1.out x17_1 p83003 q83003; cases e83003; have hn83003_0 : ad83003.block ≠ gb83002 := Nat.ne_of_lt (Nat.lt_of_lt_of_le (by have := World.block_lt_of_cell? _ _ hx83003_0; first | rwa [add_block] at this | exact this) GW83002.out); have hn83003_1 : ad83003.block ≠ gb83002 := Nat.ne_of_lt (Nat.lt_of_lt_of_le (by have := World.block_lt_of_cell? _ _ hx83003_0; first | rwa [add_block] at this | exact this) GW83002.out); have hn83003_2 : ad83003.block ≠ gb83002 := Nat.ne_of_lt (Nat.lt_of_lt_of_le (by have := World.block_lt_of_cell? _ _ hx83003_0; first | rwa [add_block] at this | exact this) GW83002.out); have hn83003_3 : ad83003.block ≠ gb83002 := Nat.ne_of_lt (Nat.lt_of_lt_of_le (by have := World.block_lt_of_cell? _ _ hx83003_0; first | rwa [add_block] at this | exact this) GW83002.out); have hn83003_4 : ad83003.block ≠ gb83002 := Nat.ne_of_lt (Nat.lt_of_lt_of_le (by have := World.block_lt_of_cell? _ _ hx83003_0; first | rwa [add_block] at this | exact this) GW83002.out); have hn83003_5 : ad83003.block ≠ gb83002 := Nat.ne_of_lt (Nat.lt_of_lt_of_le (by have := World.block_lt_of_cell? _ _ hx83003_0; first | rwa [add_block] at this | exact this) GW83002.out); have hn83003_6 : ad83003.block ≠ gb83002 := Nat.ne_of_lt (Nat.lt_of_lt_of_le (by have := World.block_lt_of_cell? _ _ hx83003_0; first | rwa [add_block] at this | exact this) GW83002.out); have hn83003_7 : ad83003.block ≠ gb83002 := Nat.ne_of_lt (Nat.lt_of_lt_of_le (by have := World.block_lt_of_cell? _ _ hx83003_0; first | rwa [add_block] at this | exact this) GW83002.out); replace hx83003_0 := (HB.out.cell (World.block_lt_of_cell? w _ hx83003_0)).trans hx83003_0; replace hx83003_1 := (HB.out.cell (World.block_lt_of_cell? w _ hx83003_1)).trans hx83003_1; replace hx83003_2 := (HB.out.cell (World.block_lt_of_cell? w _ hx83003_2)).trans hx83003_2; replace hx83003_3 := (HB.out.cell (World.block_lt_of_cell? w _ hx83003_3)).trans hx83003_3; replace hx83003_4 := (HB.out.cell (World.block_lt_of_cell? w _ hx83003_4)).trans hx83003_4; replace hx83003_5 := (HB.out.cell (World.block_lt_of_cell? w _ hx83003_5)).trans hx83003_5; replace hx83003_6 := (HB.out.cell (World.block_lt_of_cell? w _ hx83003_6)).trans hx83003_6; replace hx83003_7 := (HB.out.cell (World.block_lt_of_cell? w _ hx83003_7)).trans hx83003_7; have HR83003_5 := Aside0.mk hi83003_5; have HC83003_5 := Aside0.mk hl83003_5; clear hi83003_5 hl83003_5; have HR83003_6 := Aside0.mk hi83003_6; have HC83003_6 := Aside0.mk hl83003_6; clear hi83003_6 hl83003_6; replace hx83003_0 := (cell_far (p := ⟨gb83002, 0, none⟩) (by first | (rw [add_block]; exact hn83003_0) | (show (Addr.add _ _).block ≠ _; rw [add_block]; exact hn83003_0) | exact hn83003_0) (.int .i64 ((rd_T44 l0 x17_1).f0))).trans hx83003_0; replace hx83003_1 := (cell_far (p := ⟨gb83002, 0, none⟩) (by first | (rw [add_block]; exact hn83003_0) | (show (Addr.add _ _).block ≠ _; rw [add_block]; exact hn83003_0) | exact hn83003_0) (.int .i64 ((rd_T44 l0 x17_1).f0))).trans hx83003_1; replace hx83003_2 := (cell_far (p := ⟨gb83002, 0, none⟩) (by first | (rw [add_block]; exact hn83003_0) | (show (Addr.add _ _).block ≠ _; rw [add_block]; exact hn83003_0) | exact hn83003_0) (.int .i64 ((rd_T44 l0 x17_1).f0))).trans hx83003_2; replace hx83003_3 := (cell_far (p := ⟨gb83002, 0, none⟩) (by first | (rw [add_block]; exact hn83003_0) | (show (Addr.add _ _).block ≠ _; rw [add_block]; exact hn83003_0) | exact hn83003_0) (.int .i64 ((rd_T44 l0 x17_1).f0))).trans hx83003_3; replace hx83003_4 := (cell_far (p := ⟨gb83002, 0, none⟩) (by first | (rw [add_block]; exact hn83003_0) | (show (Addr.add _ _).block ≠ _; rw [add_block]; exact hn83003_0) | exact hn83003_0) (.int .i64 ((rd_T44 l0 x17_1).f0))).trans hx83003_4; replace hx83003_5 := (cell_far (p := ⟨gb83002, 0, none⟩) (by first | (rw [add_block]; exact hn83003_0) | (show (Addr.add _ _).block ≠ _; rw [add_block]; exact hn83003_0) | exact hn83003_0) (.int .i64 ((rd_T44 l0 x17_1).f0))).trans hx83003_5; replace hx83003_6 := (cell_far (p := ⟨gb83002, 0, none⟩) (by first | (rw [add_block]; exact hn83003_0) | (show (Addr.add _ _).block ≠ _; rw [add_block]; exact hn83003_0) | exact hn83003_0) (.int .i64 ((rd_T44 l0 x17_1).f0))).trans hx83003_6; replace hx83003_7 := (cell_far (p := ⟨gb83002, 0, none⟩) (by first | (rw [add_block]; exact hn83003_0) | (show (Addr.add _ _).block ≠ _; rw [add_block]; exact hn83003_0) | exact hn83003_0) (.int .i64 ((rd_T44 l0 x17_1).f0))).trans hx83003_7; replace hx83003_0 := (cell_far (p := ⟨gb83002, 1, none⟩) (by first | (rw [add_block]; exact hn83003_1) | (show (Addr.add _ _).block ≠ _; rw [add_block]; exact hn83003_1) | exact hn83003_1) (.string ((rd_T44 l0 x17_1).f1))).trans hx83003_0; replace hx83003_1 := (cell_far (p := ⟨gb83002, 1, none⟩) (by first | (rw [add_block]; exact hn83003_1) | (show (Addr.add _ _).block ≠ _; rw [add_block]; exact hn83003_1) | exact hn83003_1) (.string ((rd_T44 l0 x17_1).f1))).trans hx83003_1; replace hx83003_2 := (cell_far (p := ⟨gb83002, 1, none⟩) (by first | (rw [add_block]; exact hn83003_1) | (show (Addr.add _ _).block ≠ _; rw [add_block]; exact hn83003_1) | exact hn83003_1) (.string ((rd_T44 l0 x17_1).f1))).trans hx83003_2; replace hx83003_3 := (cell_far (p := ⟨gb83002, 1, none⟩) (by first | (rw [add_block]; exact hn83003_1) | (show (Addr.add _ _).block ≠ _; rw [add_block]; exact hn83003_1) | exact hn83003_1) (.string ((rd_T44 l0 x17_1).f1))).trans hx83003_3; replace hx83003_4 := (cell_far (p := ⟨gb83002, 1, none⟩) (by first | (rw [add_block]; exact hn83003_1) | (show (Addr.add _ _).block ≠ _; rw [add_block]; exact hn83003_1) | exact hn83003_1) (.string ((rd_T44 l0 x17_1).f1))).trans hx83003_4; replace hx83003_5 := (cell_far (p := ⟨gb83002, 1, none⟩) (by first | (rw [add_block]; exact hn83003_1) | (show (Addr.add _ _).block ≠ _; rw [add_block]; exact hn83003_1) | exact hn83003_1) (.string ((rd_T44 l0 x17_1).f1))).trans hx83003_5; replace hx83003_6 := (cell_far (p := ⟨gb83002, 1, none⟩) (by first | (rw [add_block]; exact hn83003_1) | (show (Addr.add _ _).block ≠ _; rw [add_block]; exact hn83003_1) | exact hn83003_1) (.string ((rd_T44 l0 x17_1).f1))).trans hx83003_6; replace hx83003_7 := (cell_far (p := ⟨gb83002, 1, none⟩) (by first | (rw [add_block]; exact hn83003_1) | (show (Addr.add _ _).block ≠ _; rw [add_block]; exact hn83003_1) | exact hn83003_1) (.string ((rd_T44 l0 x17_1).f1))).trans hx83003_7; replace hx83003_0 := (cell_far (p := ⟨gb83002, 2, none⟩) (by first | (rw [add_block]; exact hn83003_2) | (show (Addr.add _ _).block ≠ _; rw [add_block]; exact hn83003_2) | exact hn83003_2) (.string ((rd_T44 l0 x17_1).f2))).trans hx83003_0; replace hx83003_1 := (cell_far (p := ⟨gb83002, 2, none⟩) (by first | (rw [add_block]; exact hn83003_2) | (show (Addr.add _ _).block ≠ _; rw [add_block]; exact hn83003_2) | exact hn83003_2) (.string ((rd_T44 l0 x17_1).f2))).trans hx83003_1; replace hx83003_2 := (cell_far (p := ⟨gb83002, 2, none⟩) (by first | (rw [add_block]; exact hn83003_2) | (show (Addr.add _ _).block ≠ _; rw [add_block]; exact hn83003_2) | exact hn83003_2) (.string ((rd_T44 l0 x17_1).f2))).trans hx83003_2; replace hx83003_3 := (cell_far (p := ⟨gb83002, 2, none⟩) (by first | (rw [add_block]; exact hn83003_2) | (show (Addr.add _ _).block ≠ _; rw [add_block]; exact hn83003_2) | exact hn83003_2) (.string ((rd_T44 l0 x17_1).f2))).trans hx83003_3; replace hx83003_4 := (cell_far (p := ⟨gb83002, 2, none⟩) (by first | (rw [add_block]; exact hn83003_2) | (show (Addr.add _ _).block ≠ _; rw [add_block]; exact hn83003_2) | exact hn83003_2) (.string ((rd_T44 l0 x17_1).f2))).trans hx83003_4; replace hx83003_5 := (cell_far (p := ⟨gb83002, 2, none⟩) (by first | (rw [add_block]; exact hn83003_2) | (show (Addr.add _ _).block ≠ _; rw [add_block]; exact hn83003_2) | exact hn83003_2) (.string ((rd_T44 l0 x17_1).f2))).trans hx83003_5; replace hx83003_6 := (cell_far (p := ⟨gb83002, 2, none⟩) (by first | (rw [add_block]; exact hn83003_2) | (show (Addr.add _ _).block ≠ _; rw [add_block]; exact hn83003_2) | exact hn83003_2) (.string ((rd_T44 l0 x17_1).f2))).trans hx83003_6; replace hx83003_7 := (cell_far (p := ⟨gb83002, 2, none⟩) (by first | (rw [add_block]; exact hn83003_2) | (show (Addr.add _ _).block ≠ _; rw [add_block]; exact hn83003_2) | exact hn83003_2) (.string ((rd_T44 l0 x17_1).f2))).trans hx83003_7; replace hx83003_0 := (cell_far (p := ⟨gb83002, 3, none⟩) (by first | (rw [add_block]; exact hn83003_3) | (show (Addr.add _ _).block ≠ _; rw [add_block]; exact hn83003_3) | exact hn83003_3) (.int .i64 ((rd_T44 l0 x17_1).f3.f0))).trans hx83003_0; replace hx83003_1 := (cell_far (p := ⟨gb83002, 3, none⟩) (by first | (rw [add_block]; exact hn83003_3) | (show (Addr.add _ _).block ≠ _; rw [add_block]; exact hn83003_3) | exact hn83003_3) (.int .i64 ((rd_T44 l0 x17_1).f3.f0))).trans hx83003_1; replace hx83003_2 := (cell_far (p := ⟨gb83002, 3, none⟩) (by first | (rw [add_block]; exact hn83003_3) | (show (Addr.add _ _).block ≠ _; rw [add_block]; exact hn83003_3) | exact hn83003_3) (.int .i64 ((rd_T44 l0 x17_1).f3.f0))).trans hx83003_2; replace hx83003_3 := (cell_far (p := ⟨gb83002, 3, none⟩) (by first | (rw [add_block]; exact hn83003_3) | (show (Addr.add _ _).block ≠ _; rw [add_block]; exact hn83003_3) | exact hn83003_3) (.int .i64 ((rd_T44 l0 x17_1).f3.f0))).trans hx83003_3; replace hx83003_4 := (cell_far (p := ⟨gb83002, 3, none⟩) (by first | (rw [add_block]; exact hn83003_3) | (show (Addr.add _ _).block ≠ _; rw [add_block]; exact hn83003_3) | exact hn83003_3) (.int .i64 ((rd_T44 l0 x17_1).f3.f0))).trans hx83003_4; replace hx83003_5 := (cell_far (p := ⟨gb83002, 3, none⟩) (by first | (rw [add_block]; exact hn83003_3) | (show (Addr.add _ _).block ≠ _; rw [add_block]; exact hn83003_3) | exact hn83003_3) (.int .i64 ((rd_T44 l0 x17_1).f3.f0))).trans hx83003_5; replace hx83003_6 := (cell_far (p := ⟨gb83002, 3, none⟩) (by first | (rw [add_block]; exact hn83003_3) | (show (Addr.add _ _).block ≠ _; rw [add_block]; exact hn83003_3) | exact hn83003_3) (.int .i64 ((rd_T44 l0 x17_1).f3.f0))).trans hx83003_6; replace hx83003_7 := (cell_far (p := ⟨gb83002, 3, none⟩) (by first | (rw [add_block]; exact hn83003_3) | (show (Addr.add _ _).block ≠ _; rw [add_block]; exact hn83003_3) | exact hn83003_3) (.int .i64 ((rd_T44 l0 x17_1).f3.f0))).trans hx83003_7; replace hx83003_0 := (cell_far (p := ⟨gb83002, 4, none⟩) (by first | (rw [add_block]; exact hn83003_4) | (show (Addr.add _ _).block ≠ _; rw [add_block]; exact hn83003_4) | exact hn83003_4) (.string ((rd_T44 l0 x17_1).f3.f1))).trans hx83003_0; replace hx83003_1 := (cell_far (p := ⟨gb83002, 4, none⟩) (by first | (rw [add_block]; exact hn83003_4) | (show (Addr.add _ _).block ≠ _; rw [add_block]; exact hn83003_4) | exact hn83003_4) (.string ((rd_T44 l0 x17_1).f3.f1))).trans hx83003_1; replace hx83003_2 := (cell_far (p := ⟨gb83002, 4, none⟩) (by first | (rw [add_block]; exact hn83003_4) | (show (Addr.add _ _).block ≠ _; rw [add_block]; exact hn83003_4) | exact hn83003_4) (.string ((rd_T44 l0 x17_1).f3.f1))).trans hx83003_2; replace hx83003_3 := (cell_far (p := ⟨gb83002, 4, none⟩) (by first | (rw [add_block]; exact hn83003_4) | (show (Addr.add _ _).block ≠ _; rw [add_block]; exact hn83003_4) | exact hn83003_4) (.string ((rd_T44 l0 x17_1).f3.f1))).trans hx83003_3; replace hx83003_4 := (cell_far (p := ⟨gb83002, 4, none⟩) (by first | (rw [add_block]; exact hn83003_4) | (show (Addr.add _ _).block ≠ _; rw [add_block]; exact hn83003_4) | exact hn83003_4) (.string ((rd_T44 l0 x17_1).f3.f1))).trans hx83003_4; replace hx83003_5 := (cell_far (p := ⟨gb83002, 4, none⟩) (by first | (rw [add_block]; exact hn83003_4) | (show (Addr.add _ _).block ≠ _; rw [add_block]; exact hn83003_4) | exact hn83003_4) (.string ((rd_T44 l0 x17_1).f3.f1))).trans hx83003_5; replace hx83003_6 := (cell_far (p := ⟨gb83002, 4, none⟩) (by first | (rw [add_block]; exact hn83003_4) | (show (Addr.add _ _).block ≠ _; rw [add_block]; exact hn83003_4) | exact hn83003_4) (.string ((rd_T44 l0 x17_1).f3.f1))).trans hx83003_6; replace hx83003_7 := (cell_far (p := ⟨gb83002, 4, none⟩) (by first | (rw [add_block]; exact hn83003_4) | (show (Addr.add _ _).block ≠ _; rw [add_block]; exact hn83003_4) | exact hn83003_4) (.string ((rd_T44 l0 x17_1).f3.f1))).trans hx83003_7; replace hx83003_0 := (cell_far (p := ⟨gb83002, 5, none⟩) (by first | (rw [add_block]; exact hn83003_5) | (show (Addr.add _ _).block ≠ _; rw [add_block]; exact hn83003_5) | exact hn83003_5) (.slice A83001_5 ((rd_T44 l0 x17_1).f3.f2).length c83001_5)).trans hx83003_0; replace hx83003_1 := (cell_far (p := ⟨gb83002, 5, none⟩) (by first | (rw [add_block]; exact hn83003_5) | (show (Addr.add _ _).block ≠ _; rw [add_block]; exact hn83003_5) | exact hn83003_5) (.slice A83001_5 ((rd_T44 l0 x17_1).f3.f2).length c83001_5)).trans hx83003_1; replace hx83003_2 := (cell_far (p := ⟨gb83002, 5, none⟩) (by first | (rw [add_block]; exact hn83003_5) | (show (Addr.add _ _).block ≠ _; rw [add_block]; exact hn83003_5) | exact hn83003_5) (.slice A83001_5 ((rd_T44 l0 x17_1).f3.f2).length c83001_5)).trans hx83003_2; replace hx83003_3 := (cell_far (p := ⟨gb83002, 5, none⟩) (by first | (rw [add_block]; exact hn83003_5) | (show (Addr.add _ _).block ≠ _; rw [add_block]; exact hn83003_5) | exact hn83003_5) (.slice A83001_5 ((rd_T44 l0 x17_1).f3.f2).length c83001_5)).trans hx83003_3; replace hx83003_4 := (cell_far (p := ⟨gb83002, 5, none⟩) (by first | (rw [add_block]; exact hn83003_5) | (show (Addr.add _ _).block ≠ _; rw [add_block]; exact hn83003_5) | exact hn83003_5) (.slice A83001_5 ((rd_T44 l0 x17_1).f3.f2).length c83001_5)).trans hx83003_4; replace hx83003_5 := (cell_far (p := ⟨gb83002, 5, none⟩) (by first | (rw [add_block]; exact hn83003_5) | (show (Addr.add _ _).block ≠ _; rw [add_block]; exact hn83003_5) | exact hn83003_5) (.slice A83001_5 ((rd_T44 l0 x17_1).f3.f2).length c83001_5)).trans hx83003_5; replace hx83003_6 := (cell_far (p := ⟨gb83002, 5, none⟩) (by first | (rw [add_block]; exact hn83003_5) | (show (Addr.add _ _).block ≠ _; rw [add_block]; exact hn83003_5) | exact hn83003_5) (.slice A83001_5 ((rd_T44 l0 x17_1).f3.f2).length c83001_5)).trans hx83003_6; replace hx83003_7 := (cell_far (p := ⟨gb83002, 5, none⟩) (by first | (rw [add_block]; exact hn83003_5) | (show (Addr.add _ _).block ≠ _; rw [add_block]; exact hn83003_5) | exact hn83003_5) (.slice A83001_5 ((rd_T44 l0 x17_1).f3.f2).length c83001_5)).trans hx83003_7; replace hx83003_0 := (cell_far (p := ⟨gb83002, 6, none⟩) (by first | (rw [add_block]; exact hn83003_6) | (show (Addr.add _ _).block ≠ _; rw [add_block]; exact hn83003_6) | exact hn83003_6) (.slice A83001_6 ((rd_T44 l0 x17_1).f4).length c83001_6)).trans hx83003_0; replace hx83003_1 := (cell_far (p := ⟨gb83002, 6, none⟩) (by first | (rw [add_block]; exact hn83003_6) | (show (Addr.add _ _).block ≠ _; rw [add_block]; exact hn83003_6) | exact hn83003_6) (.slice A83001_6 ((rd_T44 l0 x17_1).f4).length c83001_6)).trans hx83003_1; replace hx83003_2 := (cell_far (p := ⟨gb83002, 6, none⟩) (by first | (rw [add_block]; exact hn83003_6) | (show (Addr.add _ _).block ≠ _; rw [add_block]; exact hn83003_6) | exact hn83003_6) (.slice A83001_6 ((rd_T44 l0 x17_1).f4).length c83001_6)).trans hx83003_2; replace hx83003_3 := (cell_far (p := ⟨gb83002, 6, none⟩) (by first | (rw [add_block]; exact hn83003_6) | (show (Addr.add _ _).block ≠ _; rw [add_block]; exact hn83003_6) | exact hn83003_6) (.slice A83001_6 ((rd_T44 l0 x17_1).f4).length c83001_6)).trans hx83003_3; replace hx83003_4 := (cell_far (p := ⟨gb83002, 6, none⟩) (by first | (rw [add_block]; exact hn83003_6) | (show (Addr.add _ _).block ≠ _; rw [add_block]; exact hn83003_6) | exact hn83003_6) (.slice A83001_6 ((rd_T44 l0 x17_1).f4).length c83001_6)).trans hx83003_4; replace hx83003_5 := (cell_far (p := ⟨gb83002, 6, none⟩) (by first | (rw [add_block]; exact hn83003_6) | (show (Addr.add _ _).block ≠ _; rw [add_block]; exact hn83003_6) | exact hn83003_6) (.slice A83001_6 ((rd_T44 l0 x17_1).f4).length c83001_6)).trans hx83003_5; replace hx83003_6 := (cell_far (p := ⟨gb83002, 6, none⟩) (by first | (rw [add_block]; exact hn83003_6) | (show (Addr.add _ _).block ≠ _; rw [add_block]; exact hn83003_6) | exact hn83003_6) (.slice A83001_6 ((rd_T44 l0 x17_1).f4).length c83001_6)).trans hx83003_6; replace hx83003_7 := (cell_far (p := ⟨gb83002, 6, none⟩) (by first | (rw [add_block]; exact hn83003_6) | (show (Addr.add _ _).block ≠ _; rw [add_block]; exact hn83003_6) | exact hn83003_6) (.slice A83001_6 ((rd_T44 l0 x17_1).f4).length c83001_6)).trans hx83003_7; replace hx83003_0 := (cell_far (p := ⟨gb83002, 7, none⟩) (by first | (rw [add_block]; exact hn83003_7) | (show (Addr.add _ _).block ≠ _; rw [add_block]; exact hn83003_7) | exact hn83003_7) (.int .i64 ((rd_T44 l0 x17_1).f5))).trans hx83003_0; replace hx83003_1 := (cell_far (p := ⟨gb83002, 7, none⟩) (by first | (rw [add_block]; exact hn83003_7) | (show (Addr.add _ _).block ≠ _; rw [add_block]; exact hn83003_7) | exact hn83003_7) (.int .i64 ((rd_T44 l0 x17_1).f5))).trans hx83003_1; replace hx83003_2 := (cell_far (p := ⟨gb83002, 7, none⟩) (by first | (rw [add_block]; exact hn83003_7) | (show (Addr.add _ _).block ≠ _; rw [add_block]; exact hn83003_7) | exact hn83003_7) (.int .i64 ((rd_T44 l0 x17_1).f5))).trans hx83003_2; replace hx83003_3 := (cell_far (p := ⟨gb83002, 7, none⟩) (by first | (rw [add_block]; exact hn83003_7) | (show (Addr.add _ _).block ≠ _; rw [add_block]; exact hn83003_7) | exact hn83003_7) (.int .i64 ((rd_T44 l0 x17_1).f5))).trans hx83003_3; replace hx83003_4 := (cell_far (p := ⟨gb83002, 7, none⟩) (by first | (rw [add_block]; exact hn83003_7) | (show (Addr.add _ _).block ≠ _; rw [add_block]; exact hn83003_7) | exact hn83003_7) (.int .i64 ((rd_T44 l0 x17_1).f5))).trans hx83003_4; replace hx83003_5 := (cell_far (p := ⟨gb83002, 7, none⟩) (by first | (rw [add_block]; exact hn83003_7) | (show (Addr.add _ _).block ≠ _; rw [add_block]; exact hn83003_7) | exact hn83003_7) (.int .i64 ((rd_T44 l0 x17_1).f5))).trans hx83003_5; replace hx83003_6 := (cell_far (p := ⟨gb83002, 7, none⟩) (by first | (rw [add_block]; exact hn83003_7) | (show (Addr.add _ _).block ≠ _; rw [add_block]; exact hn83003_7) | exact hn83003_7) (.int .i64 ((rd_T44 l0 x17_1).f5))).trans hx83003_6; replace hx83003_7 := (cell_far (p := ⟨gb83002, 7, none⟩) (by first | (rw [add_block]; exact hn83003_7) | (show (Addr.add _ _).block ≠ _; rw [add_block]; exact hn83003_7) | exact hn83003_7) (.int .i64 ((rd_T44 l0 x17_1).f5))).trans hx83003_7; clear hn83003_0; clear hn83003_1; clear hn83003_2; clear hn83003_3; clear hn83003_4; clear hn83003_5; clear hn83003_6; clear hn83003_7; replace p83003 := eq_true p83003; replace q83003 := eq_true q83003) | ((with_reducible refine gate_dst (N := 9) rfl ?_); refine box_event ?hg (N := 9) ?hd (cs := #[.int .i64 0, .string (⟨#[]⟩ : ByteArray), .string (⟨#[]⟩ : ByteArray), .int .i64 0, .string (⟨#[]⟩ : ByteArray), .slice none 0 0, .slice none 0 0, .int .i64 0]) (t := 44) ?hr ?_; (case hd => rfl); (case hg => rfl); (case hr => first | (go_simp; done) | (go_simp; rfl)); intro gb83004 hg w19 hbox hb; have n0_ := Aside0.mk (blk_below (g := gb83002) (o := .cells #[.int .i64 ((rd_T44 l0 x17_1).f0), .string ((rd_T44 l0 x17_1).f1), .string ((rd_T44 l0 x17_1).f2), .int .i64 ((rd_T44 l0 x17_1).f3.f0), .string ((rd_T44 l0 x17_1).f3.f1), .slice A83001_5 ((rd_T44 l0 x17_1).f3.f2).length c83001_5, .slice A83001_6 ((rd_T44 l0 x17_1).f4).length c83001_6, .int .i64 ((rd_T44 l0 x17_1).f5)] 44 (0, 0)) (by (with_reducible repeat (first | refine blk_drewN ?_ _ | refine blk_drew ?_ | refine blk_alloc ?_ _)); refine blk_put (cs := #[.int .i64 ((rd_T44 l0 x17_1).f0), .string ((rd_T44 l0 x17_1).f1), .string ((rd_T44 l0 x17_1).f2), .int .i64 ((rd_T44 l0 x17_1).f3.f0), .string ((rd_T44 l0 x17_1).f3.f1), .slice A83001_5 ((rd_T44 l0 x17_1).f3.f2).length c83001_5, .slice A83001_6 ((rd_T44 l0 x17_1).f4).length c83001_6, .int .i64 0]) ?_ 7 _ rfl; (with_reducible repeat (first | refine blk_drewN ?_ _ | refine blk_drew ?_ | refine blk_alloc ?_ _)); refine blk_put (cs := #[.int .i64 ((rd_T44 l0 x17_1).f0), .string ((rd_T44 l0 x17_1).f1), .string ((rd_T44 l0 x17_1).f2), .int .i64 ((rd_T44 l0 x17_1).f3.f0), .string ((rd_T44 l0 x17_1).f3.f1), .slice A83001_5 ((rd_T44 l0 x17_1).f3.f2).length c83001_5, .slice none 0 0, .int .i64 0]) ?_ 6 _ rfl; (with_reducible repeat (first | refine blk_drewN ?_ _ | refine blk_drew ?_ | refine blk_alloc ?_ _)); refine blk_put (cs := #[.int .i64 ((rd_T44 l0 x17_1).f0), .string ((rd_T44 l0 x17_1).f1), .string ((rd_T44 l0 x17_1).f2), .int .i64 ((rd_T44 l0 x17_1).f3.f0), .string ((rd_T44 l0 x17_1).f3.f1), .slice none 0 0, .slice none 0 0, .int .i64 0]) ?_ 5 _ rfl; (with_reducible repeat (first | refine blk_drewN ?_ _ | refine blk_drew ?_ | refine blk_alloc ?_ _)); refine blk_put (cs := #[.int .i64 ((rd_T44 l0 x17_1).f0), .string ((rd_T44 l0 x17_1).f1), .string ((rd_T44 l0 x17_1).f2), .int .i64 ((rd_T44 l0 x17_1).f3.f0), .string (⟨#[]⟩ : ByteArray), .slice none 0 0, .slice none 0 0, .int .i64 0]) ?_ 4 _ rfl; (with_reducible repeat (first | refine blk_drewN ?_ _ | refine blk_drew ?_ | refine blk_alloc ?_ _)); refine blk_put (cs := #[.int .i64 ((rd_T44 l0 x17_1).f0), .string ((rd_T44 l0 x17_1).f1), .string ((rd_T44 l0 x17_1).f2), .int .i64 0, .string (⟨#[]⟩ : ByteArray), .slice none 0 0, .slice none 0 0, .int .i64 0]) ?_ 3 _ rfl; (with_reducible repeat (first | refine blk_drewN ?_ _ | refine blk_drew ?_ | refine blk_alloc ?_ _)); refine blk_put (cs := #[.int .i64 ((rd_T44 l0 x17_1).f0), .string ((rd_T44 l0 x17_1).f1), .string (⟨#[]⟩ : ByteArray), .int .i64 0, .string (⟨#[]⟩ : ByteArray), .slice none 0 0, .slice none 0 0, .int .i64 0]) ?_ 2 _ rfl; (with_reducible repeat (first | refine blk_drewN ?_ _ | refine blk_drew ?_ | refine blk_alloc ?_ _)); refine blk_put (cs := #[.int .i64 ((rd_T44 l0 x17_1).f0), .string (⟨#[]⟩ : ByteArray), .string (⟨#[]⟩ : ByteArray), .int .i64 0, .string (⟨#[]⟩ : ByteArray), .slice none 0 0, .slice none 0 0, .int .i64 0]) ?_ 1 _ rfl; (with_reducible repeat (first | refine blk_drewN ?_ _ | refine blk_drew ?_ | refine blk_alloc ?_ _)); refine blk_put (cs := #[.int .i64 0, .string (⟨#[]⟩ : ByteArray), .string (⟨#[]⟩ : ByteArray), .int .i64 0, .string (⟨#[]⟩ : ByteArray), .slice none 0 0, .slice none 0 0, .int .i64 0]) ?_ 0 _ rfl; (with_reducible repeat (first | refine blk_drewN ?_ _ | refine blk_drew ?_ | refine blk_alloc ?_ _)); exact BK83002.out) hb); have n1_ := Aside0.mk (below_step (by repeat (first | (with_reducible first | exact HB.out | apply below_alloc | apply pw_below_drewN | apply below_drew1 | refine below_set ?_ GE83002.out) | exact HB.out)) hb); have n2_ := Aside0.mk (hbox); have n3_ := Aside0.mk ((by rw [hg]; exact (below_size (by repeat (first | (with_reducible first | exact HB.out | apply below_alloc | apply pw_below_drewN | apply below_drew1 | refine below_set ?_ GE83002.out) | exact HB.out))) : w.heap.size ≤ gb83004)); have n4_ := Aside0.mk ((by rw [hg]; exact (below_size (by repeat (first | (with_reducible first | exact HB.out | apply below_alloc | apply pw_below_drewN | apply below_drew1 | refine below_set ?_ GE83002.out) | exact HB.out))) : w.heap.size ≤ gb83004)); have n5_ := Aside0.mk ((by rw [hg]; exact Nat.ne_of_lt (blk_lt (g := gb83002) (o := .cells #[.int .i64 ((rd_T44 l0 x17_1).f0), .string ((rd_T44 l0 x17_1).f1), .string ((rd_T44 l0 x17_1).f2), .int .i64 ((rd_T44 l0 x17_1).f3.f0), .string ((rd_T44 l0 x17_1).f3.f1), .slice A83001_5 ((rd_T44 l0 x17_1).f3.f2).length c83001_5, .slice A83001_6 ((rd_T44 l0 x17_1).f4).length c83001_6, .int .i64 ((rd_T44 l0 x17_1).f5)] 44 (0, 0)) (by (with_reducible repeat (first | refine blk_drewN ?_ _ | refine blk_drew ?_ | refine blk_alloc ?_ _)); refine blk_put (cs := #[.int .i64 ((rd_T44 l0 x17_1).f0), .string ((rd_T44 l0 x17_1).f1), .string ((rd_T44 l0 x17_1).f2), .int .i64 ((rd_T44 l0 x17_1).f3.f0), .string ((rd_T44 l0 x17_1).f3.f1), .slice A83001_5 ((rd_T44 l0 x17_1).f3.f2).length c83001_5, .slice A83001_6 ((rd_T44 l0 x17_1).f4).length c83001_6, .int .i64 0]) ?_ 7 _ rfl; (with_reducible repeat (first | refine blk_drewN ?_ _ | refine blk_drew ?_ | refine blk_alloc ?_ _)); refine blk_put (cs := #[.int .i64 ((rd_T44 l0 x17_1).f0), .string ((rd_T44 l0 x17_1).f1), .string ((rd_T44 l0 x17_1).f2), .int .i64 ((rd_T44 l0 x17_1).f3.f0), .string ((rd_T44 l0 x17_1).f3.f1), .slice A83001_5 ((rd_T44 l0 x17_1).f3.f2).length c83001_5, .slice none 0 0, .int .i64 0]) ?_ 6 _ rfl; (with_reducible repeat (first | refine blk_drewN ?_ _ | refine blk_drew ?_ | refine blk_alloc ?_ _)); refine blk_put (cs := #[.int .i64 ((rd_T44 l0 x17_1).f0), .string ((rd_T44 l0 x17_1).f1), .string ((rd_T44 l0 x17_1).f2), .int .i64 ((rd_T44 l0 x17_1).f3.f0), .string ((rd_T44 l0 x17_1).f3.f1), .slice none 0 0, .slice none 0 0, .int .i64 0]) ?_ 5 _ rfl; (with_reducible repeat (first | refine blk_drewN ?_ _ | refine blk_drew ?_ | refine blk_alloc ?_ _)); refine blk_put (cs := #[.int .i64 ((rd_T44 l0 x17_1).f0), .string ((rd_T44 l0 x17_1).f1), .string ((rd_T44 l0 x17_1).f2), .int .i64 ((rd_T44 l0 x17_1).f3.f0), .string (⟨#[]⟩ : ByteArray), .slice none 0 0, .slice none 0 0, .int .i64 0]) ?_ 4 _ rfl; (with_reducible repeat (first | refine blk_drewN ?_ _ | refine blk_drew ?_ | refine blk_alloc ?_ _)); refine blk_put (cs := #[.int .i64 ((rd_T44 l0 x17_1).f0), .string ((rd_T44 l0 x17_1).f1), .string ((rd_T44 l0 x17_1).f2), .int .i64 0, .string (⟨#[]⟩ : ByteArray), .slice none 0 0, .slice none 0 0, .int .i64 0]) ?_ 3 _ rfl; (with_reducible repeat (first | refine blk_drewN ?_ _ | refine blk_drew ?_ | refine blk_alloc ?_ _)); refine blk_put (cs := #[.int .i64 ((rd_T44 l0 x17_1).f0), .string ((rd_T44 l0 x17_1).f1), .string (⟨#[]⟩ : ByteArray), .int .i64 0, .string (⟨#[]⟩ : ByteArray), .slice none 0 0, .slice none 0 0, .int .i64 0]) ?_ 2 _ rfl; (with_reducible repeat (first | refine blk_drewN ?_ _ | refine blk_drew ?_ | refine blk_alloc ?_ _)); refine blk_put (cs := #[.int .i64 ((rd_T44 l0 x17_1).f0), .string (⟨#[]⟩ : ByteArray), .string (⟨#[]⟩ : ByteArray), .int .i64 0, .string (⟨#[]⟩ : ByteArray), .slice none 0 0, .slice none 0 0, .int .i64 0]) ?_ 1 _ rfl; (with_reducible repeat (first | refine blk_drewN ?_ _ | refine blk_drew ?_ | refine blk_alloc ?_ _)); refine blk_put (cs := #[.int .i64 0, .string (⟨#[]⟩ : ByteArray), .string (⟨#[]⟩ : ByteArray), .int .i64 0, .string (⟨#[]⟩ : ByteArray), .slice none 0 0, .slice none 0 0, .int .i64 0]) ?_ 0 _ rfl; (with_reducible repeat (first | refine blk_drewN ?_ _ | refine blk_drew ?_ | refine blk_alloc ?_ _)); exact BK83002.out)) : gb83002 ≠ gb83004)); have n6_ := Aside0.mk ((by rw [hg]; exact Nat.ne_of_gt (blk_lt (g := gb83002) (o := .cells #[.int .i64 ((rd_T44 l0 x17_1).f0), .string ((rd_T44 l0 x17_1).f1), .string ((rd_T44 l0 x17_1).f2), .int .i64 ((rd_T44 l0 x17_1).f3.f0), .string ((rd_T44 l0 x17_1).f3.f1), .slice A83001_5 ((rd_T44 l0 x17_1).f3.f2).length c83001_5, .slice A83001_6 ((rd_T44 l0 x17_1).f4).length c83001_6, .int .i64 ((rd_T44 l0 x17_1).f5)] 44 (0, 0)) (by (with_reducible repeat (first | refine blk_drewN ?_ _ | refine blk_drew ?_ | refine blk_alloc ?_ _)); refine blk_put (cs := #[.int .i64 ((rd_T44 l0 x17_1).f0), .string ((rd_T44 l0 x17_1).f1), .string ((rd_T44 l0 x17_1).f2), .int .i64 ((rd_T44 l0 x17_1).f3.f0), .string ((rd_T44 l0 x17_1).f3.f1), .slice A83001_5 ((rd_T44 l0 x17_1).f3.f2).length c83001_5, .slice A83001_6 ((rd_T44 l0 x17_1).f4).length c83001_6, .int .i64 0]) ?_ 7 _ rfl; (with_reducible repeat (first | refine blk_drewN ?_ _ | refine blk_drew ?_ | refine blk_alloc ?_ _)); refine blk_put (cs := #[.int .i64 ((rd_T44 l0 x17_1).f0), .string ((rd_T44 l0 x17_1).f1), .string ((rd_T44 l0 x17_1).f2), .int .i64 ((rd_T44 l0 x17_1).f3.f0), .string ((rd_T44 l0 x17_1).f3.f1), .slice A83001_5 ((rd_T44 l0 x17_1).f3.f2).length c83001_5, .slice none 0 0, .int .i64 0]) ?_ 6 _ rfl; (with_reducible repeat (first | refine blk_drewN ?_ _ | refine blk_drew ?_ | refine blk_alloc ?_ _)); refine blk_put (cs := #[.int .i64 ((rd_T44 l0 x17_1).f0), .string ((rd_T44 l0 x17_1).f1), .string ((rd_T44 l0 x17_1).f2), .int .i64 ((rd_T44 l0 x17_1).f3.f0), .string ((rd_T44 l0 x17_1).f3.f1), .slice none 0 0, .slice none 0 0, .int .i64 0]) ?_ 5 _ rfl; (with_reducible repeat (first | refine blk_drewN ?_ _ | refine blk_drew ?_ | refine blk_alloc ?_ _)); refine blk_put (cs := #[.int .i64 ((rd_T44 l0 x17_1).f0), .string ((rd_T44 l0 x17_1).f1), .string ((rd_T44 l0 x17_1).f2), .int .i64 ((rd_T44 l0 x17_1).f3.f0), .string (⟨#[]⟩ : ByteArray), .slice none 0 0, .slice none 0 0, .int .i64 0]) ?_ 4 _ rfl; (with_reducible repeat (first | refine blk_drewN ?_ _ | refine blk_drew ?_ | refine blk_alloc ?_ _)); refine blk_put (cs := #[.int .i64 ((rd_T44 l0 x17_1).f0), .string ((rd_T44 l0 x17_1).f1), .string ((rd_T44 l0 x17_1).f2), .int .i64 0, .string (⟨#[]⟩ : ByteArray), .slice none 0 0, .slice none 0 0, .int .i64 0]) ?_ 3 _ rfl; (with_reducible repeat (first | refine blk_drewN ?_ _ | refine blk_drew ?_ | refine blk_alloc ?_ _)); refine blk_put (cs := #[.int .i64 ((rd_T44 l0 x17_1).f0), .string ((rd_T44 l0 x17_1).f1), .string (⟨#[]⟩ : ByteArray), .int .i64 0, .string (⟨#[]⟩ : ByteArray), .slice none 0 0, .slice none 0 0, .int .i64 0]) ?_ 2 _ rfl; (with_reducible repeat (first | refine blk_drewN ?_ _ | refine blk_drew ?_ | refine blk_alloc ?_ _)); refine blk_put (cs := #[.int .i64 ((rd_T44 l0 x17_1).f0), .string (⟨#[]⟩ : ByteArray), .string (⟨#[]⟩ : ByteArray), .int .i64 0, .string (⟨#[]⟩ : ByteArray), .slice none 0 0, .slice none 0 0, .int .i64 0]) ?_ 1 _ rfl; (with_reducible repeat (first | refine blk_drewN ?_ _ | refine blk_drew ?_ | refine blk_alloc ?_ _)); refine blk_put (cs := #[.int .i64 0, .string (⟨#[]⟩ : ByteArray), .string (⟨#[]⟩ : ByteArray), .int .i64 0, .string (⟨#[]⟩ : ByteArray), .slice none 0 0, .slice none 0 0, .int .i64 0]) ?_ 0 _ rfl; (with_reducible repeat (first | refine blk_drewN ?_ _ | refine blk_drew ?_ | refine blk_alloc ?_ _)); exact BK83002.out)) : gb83004 ≠ gb83002)); clear BK83002; clear HB; have BK83002 := n0_; have HB := n1_; have BK83004 := n2_; have GW83004 := n3_; have GE83004 := n4_; have NB83002_83004 := n5_; have NB83004_83002 := n6_; clear n0_ n1_ n2_ n3_ n4_ n5_ n6_; clear hb hbox hg; have hnb20 := NB83004_83002.out; have hnc20 := NB83002_83004.out; have hcz21_0 : w19.cell? ⟨gb83004, 0, none⟩ = some (.int .i64 0) := (blk_cell BK83004.out 0).trans rfl; have hcz21_1 : w19.cell? ⟨gb83004, 1, none⟩ = some (.string (⟨#[]⟩ : ByteArray)) := (blk_cell BK83004.out 1).trans rfl; have hcz21_2 : w19.cell? ⟨gb83004, 2, none⟩ = some (.string (⟨#[]⟩ : ByteArray)) := (blk_cell BK83004.out 2).trans rfl; have hcz21_3 : w19.cell? ⟨gb83004, 3, none⟩ = some (.int .i64 0) := (blk_cell BK83004.out 3).trans rfl; have hcz21_4 : w19.cell? ⟨gb83004, 4, none⟩ = some (.string (⟨#[]⟩ : ByteArray)) := (blk_cell BK83004.out 4).trans rfl; have hcz21_5 : w19.cell? ⟨gb83004, 5, none⟩ = some (.slice none 0 0) := (blk_cell BK83004.out 5).trans rfl; have hcz21_6 : w19.cell? ⟨gb83004, 6, none⟩ = some (.slice none 0 0) := (blk_cell BK83004.out 6).trans rfl; have hcz21_7 : w19.cell? ⟨gb83004, 7, none⟩ = some (.int .i64 0) := (blk_cell BK83004.out 7).trans rfl; have hfz21_0 := blk_frozen BK83004.out 0; have hfz21_1 := blk_frozen BK83004.out 1; have hfz21_2 := blk_frozen BK83004.out 2; have hfz21_3 := blk_frozen BK83004.out 3; have hfz21_4 := blk_frozen BK83004.out 4; have hfz21_5 := blk_frozen BK83004.out 5; have hfz21_6 := blk_frozen BK83004.out 6; have hfz21_7 := blk_frozen BK83004.out 7; have hcz22_0 : w19.cell? ⟨gb83002, 0, none⟩ = some (.int .i64 ((rd_T44 l0 x17_1).f0)) := (blk_cell BK83002.out 0).trans rfl; have hcz22_1 : w19.cell? ⟨gb83002, 1, none⟩ = some (.string ((rd_T44 l0 x17_1).f1)) := (blk_cell BK83002.out 1).trans rfl; have hcz22_2 : w19.cell? ⟨gb83002, 2, none⟩ = some (.string ((rd_T44 l0 x17_1).f2)) := (blk_cell BK83002.out 2).trans rfl; have hcz22_3 : w19.cell? ⟨gb83002, 3, none⟩ = some (.int .i64 ((rd_T44 l0 x17_1).f3.f0)) := (blk_cell BK83002.out 3).trans rfl; have hcz22_4 : w19.cell? ⟨gb83002, 4, none⟩ = some (.string ((rd_T44 l0 x17_1).f3.f1)) := (blk_cell BK83002.out 4).trans rfl; have hcz22_5 : w19.cell? ⟨gb83002, 5, none⟩ = some (.slice A83001_5 ((rd_T44 l0 x17_1).f3.f2).length c83001_5) := (blk_cell BK83002.out 5).trans rfl; have hcz22_6 : w19.cell? ⟨gb83002, 6, none⟩ = some (.slice A83001_6 ((rd_T44 l0 x17_1).f4).length c83001_6) := (blk_cell BK83002.out 6).trans rfl; have hcz22_7 : w19.cell? ⟨gb83002, 7, none⟩ = some (.int .i64 ((rd_T44 l0 x17_1).f5)) := (blk_cell BK83002.out 7).trans rfl; have hfz22_0 := blk_frozen BK83002.out 0; have hfz22_1 := blk_frozen BK83002.out 1; have hfz22_2 := blk_frozen BK83002.out 2; have hfz22_3 := blk_frozen BK83002.out 3; have hfz22_4 := blk_frozen BK83002.out 4; have hfz22_5 := blk_frozen BK83002.out 5; have hfz22_6 := blk_frozen BK83002.out 6; have hfz22_7 := blk_frozen BK83002.out 7) | ((with_reducible refine gate_dst (N := 29) rfl ?_); refine goesF_ (some 29) rfl rfl Try.func84 (by kernel_rfl) rfl #[.agg #[.int .i64 ((rd_T44 l0 x17_1).f0), .string ((rd_T44 l0 x17_1).f1), .string ((rd_T44 l0 x17_1).f2), .int .i64 ((rd_T44 l0 x17_1).f3.f0), .string ((rd_T44 l0 x17_1).f3.f1), .slice A83001_5 ((rd_T44 l0 x17_1).f3.f2).length c83001_5, .slice A83001_6 ((rd_T44 l0 x17_1).f4).length c83001_6, .int .i64 ((rd_T44 l0 x17_1).f5)], .agg #[.int .i64 ((rd_T44 l1 x17_1).f0), .string ((rd_T44 l1 x17_1).f1), .string ((rd_T44 l1 x17_1).f2), .int .i64 ((rd_T44 l1 x17_1).f3.f0), .string ((rd_T44 l1 x17_1).f3.f1), .slice A83003_5 ((rd_T44 l1 x17_1).f3.f2).length c83003_5, .slice A83003_6 ((rd_T44 l1 x17_1).f4).length c83003_6, .int .i64 ((rd_T44 l1 x17_1).f5)]] rfl (by first | rfl | (go_simp; done)) (by (try simp only [List.map_toArray, List.map_cons, List.map_nil]); first | done | rfl | (simp only [List.length_drop, List.length_take]; rfl)) ?_; (with_reducible refine (impl_EqualConstraint.calls k1 ((rd_T44 l0 x17_1).f0) ((rd_T44 l0 x17_1).f1) ((rd_T44 l0 x17_1).f2) ((rd_T44 l0 x17_1).f3.f0) ((rd_T44 l0 x17_1).f3.f1) _ _ ((rd_T44 l0 x17_1).f3.f2) _ _ ((rd_T44 l0 x17_1).f4) ((rd_T44 l0 x17_1).f5) ((rd_T44 l1 x17_1).f0) ((rd_T44 l1 x17_1).f1) ((rd_T44 l1 x17_1).f2) ((rd_T44 l1 x17_1).f3.f0) ((rd_T44 l1 x17_1).f3.f1) _ _ ((rd_T44 l1 x17_1).f3.f2) _ _ ((rd_T44 l1 x17_1).f4) ((rd_T44 l1 x17_1).f5) false _ ?side1 ?side2 ?side3 ?side4 ?side5 ?side6 ?side7 ?side8 A8.out).mono ?_); (case side1 => exact Kd.C_below HR83001_5.out (by repeat (first | (with_reducible first | exact HB.out | apply below_alloc | apply pw_below_drewN | apply below_drew1 | refine below_set ?_ GE83002.out | refine below_set ?_ GE83004.out) | exact HB.out))); (case side2 => exact HC83001_5.out); (case side3 => exact Kd.C_below HR83001_6.out (by repeat (first | (with_reducible first | exact HB.out | apply below_alloc | apply pw_below_drewN | apply below_drew1 | refine below_set ?_ GE83002.out | refine below_set ?_ GE83004.out) | exact HB.out))); (case side4 => exact HC83001_6.out); (case side5 => exact Kd.C_below HR83003_5.out (by repeat (first | (with_reducible first | exact HB.out | apply below_alloc | apply pw_below_drewN | apply below_drew1 | refine below_set ?_ GE83002.out | refine below_set ?_ GE83004.out) | exact HB.out))); (case side6 => exact HC83003_5.out); (case side7 => exact Kd.C_below HR83003_6.out (by repeat (first | (with_reducible first | exact HB.out | apply below_alloc | apply pw_below_drewN | apply below_drew1 | refine below_set ?_ GE83002.out | refine below_set ?_ GE83004.out) | exact HB.out))); (case side8 => exact HC83003_6.out); rintro e w23 ⟨rfl, hb⟩; refine ⟨_, rfl, ?_⟩; have n0_ := Aside0.mk (blk_below (g := gb83002) (o := .cells #[.int .i64 ((rd_T44 l0 x17_1).f0), .string ((rd_T44 l0 x17_1).f1), .string ((rd_T44 l0 x17_1).f2), .int .i64 ((rd_T44 l0 x17_1).f3.f0), .string ((rd_T44 l0 x17_1).f3.f1), .slice A83001_5 ((rd_T44 l0 x17_1).f3.f2).length c83001_5, .slice A83001_6 ((rd_T44 l0 x17_1).f4).length c83001_6, .int .i64 ((rd_T44 l0 x17_1).f5)] 44 (0, 0)) (by (with_reducible repeat (first | refine blk_drewN ?_ _ | refine blk_drew ?_ | refine blk_alloc ?_ _)); refine blk_far ?_ NB83002_83004.out _; (with_reducible repeat (first | refine blk_drewN ?_ _ | refine blk_drew ?_ | refine blk_alloc ?_ _)); refine blk_far ?_ NB83002_83004.out _; (with_reducible repeat (first | refine blk_drewN ?_ _ | refine blk_drew ?_ | refine blk_alloc ?_ _)); refine blk_far ?_ NB83002_83004.out _; (with_reducible repeat (first | refine blk_drewN ?_ _ | refine blk_drew ?_ | refine blk_alloc ?_ _)); refine blk_far ?_ NB83002_83004.out _; (with_reducible repeat (first | refine blk_drewN ?_ _ | refine blk_drew ?_ | refine blk_alloc ?_ _)); refine blk_far ?_ NB83002_83004.out _; (with_reducible repeat (first | refine blk_drewN ?_ _ | refine blk_drew ?_ | refine blk_alloc ?_ _)); refine blk_far ?_ NB83002_83004.out _; (with_reducible repeat (first | refine blk_drewN ?_ _ | refine blk_drew ?_ | refine blk_alloc ?_ _)); refine blk_far ?_ NB83002_83004.out _; (with_reducible repeat (first | refine blk_drewN ?_ _ | refine blk_drew ?_ | refine blk_alloc ?_ _)); refine blk_far ?_ NB83002_83004.out _; (with_reducible repeat (first | refine blk_drewN ?_ _ | refine blk_drew ?_ | refine blk_alloc ?_ _)); exact BK83002.out) hb); have n1_ := Aside0.mk (blk_below (g := gb83004) (o := .cells #[.int .i64 ((rd_T44 l1 x17_1).f0), .string ((rd_T44 l1 x17_1).f1), .string ((rd_T44 l1 x17_1).f2), .int .i64 ((rd_T44 l1 x17_1).f3.f0), .string ((rd_T44 l1 x17_1).f3.f1), .slice A83003_5 ((rd_T44 l1 x17_1).f3.f2).length c83003_5, .slice A83003_6 ((rd_T44 l1 x17_1).f4).length c83003_6, .int .i64 ((rd_T44 l1 x17_1).f5)] 44 (0, 0)) (by (with_reducible repeat (first | refine blk_drewN ?_ _ | refine blk_drew ?_ | refine blk_alloc ?_ _)); refine blk_put (cs := #[.int .i64 ((rd_T44 l1 x17_1).f0), .string ((rd_T44 l1 x17_1).f1), .string ((rd_T44 l1 x17_1).f2), .int .i64 ((rd_T44 l1 x17_1).f3.f0), .string ((rd_T44 l1 x17_1).f3.f1), .slice A83003_5 ((rd_T44 l1 x17_1).f3.f2).length c83003_5, .slice A83003_6 ((rd_T44 l1 x17_1).f4).length c83003_6, .int .i64 0]) ?_ 7 _ rfl; (with_reducible repeat (first | refine blk_drewN ?_ _ | refine blk_drew ?_ | refine blk_alloc ?_ _)); refine blk_put (cs := #[.int .i64 ((rd_T44 l1 x17_1).f0), .string ((rd_T44 l1 x17_1).f1), .string ((rd_T44 l1 x17_1).f2), .int .i64 ((rd_T44 l1 x17_1).f3.f0), .string ((rd_T44 l1 x17_1).f3.f1), .slice A83003_5 ((rd_T44 l1 x17_1).f3.f2).length c83003_5, .slice none 0 0, .int .i64 0]) ?_ 6 _ rfl; (with_reducible repeat (first | refine blk_drewN ?_ _ | refine blk_drew ?_ | refine blk_alloc ?_ _)); refine blk_put (cs := #[.int .i64 ((rd_T44 l1 x17_1).f0), .string ((rd_T44 l1 x17_1).f1), .string ((rd_T44 l1 x17_1).f2), .int .i64 ((rd_T44 l1 x17_1).f3.f0), .string ((rd_T44 l1 x17_1).f3.f1), .slice none 0 0, .slice none 0 0, .int .i64 0]) ?_ 5 _ rfl; (with_reducible repeat (first | refine blk_drewN ?_ _ | refine blk_drew ?_ | refine blk_alloc ?_ _)); refine blk_put (cs := #[.int .i64 ((rd_T44 l1 x17_1).f0), .string ((rd_T44 l1 x17_1).f1), .string ((rd_T44 l1 x17_1).f2), .int .i64 ((rd_T44 l1 x17_1).f3.f0), .string (⟨#[]⟩ : ByteArray), .slice none 0 0, .slice none 0 0, .int .i64 0]) ?_ 4 _ rfl; (with_reducible repeat (first | refine blk_drewN ?_ _ | refine blk_drew ?_ | refine blk_alloc ?_ _)); refine blk_put (cs := #[.int .i64 ((rd_T44 l1 x17_1).f0), .string ((rd_T44 l1 x17_1).f1), .string ((rd_T44 l1 x17_1).f2), .int .i64 0, .string (⟨#[]⟩ : ByteArray), .slice none 0 0, .slice none 0 0, .int .i64 0]) ?_ 3 _ rfl; (with_reducible repeat (first | refine blk_drewN ?_ _ | refine blk_drew ?_ | refine blk_alloc ?_ _)); refine blk_put (cs := #[.int .i64 ((rd_T44 l1 x17_1).f0), .string ((rd_T44 l1 x17_1).f1), .string (⟨#[]⟩ : ByteArray), .int .i64 0, .string (⟨#[]⟩ : ByteArray), .slice none 0 0, .slice none 0 0, .int .i64 0]) ?_ 2 _ rfl; (with_reducible repeat (first | refine blk_drewN ?_ _ | refine blk_drew ?_ | refine blk_alloc ?_ _)); refine blk_put (cs := #[.int .i64 ((rd_T44 l1 x17_1).f0), .string (⟨#[]⟩ : ByteArray), .string (⟨#[]⟩ : ByteArray), .int .i64 0, .string (⟨#[]⟩ : ByteArray), .slice none 0 0, .slice none 0 0, .int .i64 0]) ?_ 1 _ rfl; (with_reducible repeat (first | refine blk_drewN ?_ _ | refine blk_drew ?_ | refine blk_alloc ?_ _)); refine blk_put (cs := #[.int .i64 0, .string (⟨#[]⟩ : ByteArray), .string (⟨#[]⟩ : ByteArray), .int .i64 0, .string (⟨#[]⟩ : ByteArray), .slice none 0 0, .slice none 0 0, .int .i64 0]) ?_ 0 _ rfl; (with_reducible repeat (first | refine blk_drewN ?_ _ | refine blk_drew ?_ | refine blk_alloc ?_ _)); exact BK83004.out) hb); have n2_ := Aside0.mk (below_step (by repeat (first | (with_reducible first | exact HB.out | apply below_alloc | apply pw_below_drewN | apply below_drew1 | refine below_set ?_ GE83002.out | refine below_set ?_ GE83004.out) | exact HB.out)) hb); clear BK83002; clear BK83004; clear HB; have BK83002 := n0_; have BK83004 := n1_; have HB := n2_; clear n0_ n1_ n2_; (try clear hb); (try clear hb2); (try clear hk); (try clear hi)))
                  go_ret
                  exact ⟨by first | rfl | (simp [errW_none, errW_some] <;> rfl) | (simp [*, errW_none, errW_some] <;> rfl), by repeat (first | (with_reducible first | exact HB.out | apply below_alloc | apply pw_below_drewN | apply below_drew1 | refine below_set ?_ GE83002.out | refine below_set ?_ GE83004.out) | exact HB.out)⟩
              · rw [if_neg c7] at H
                exact absurd H (by simp)
            · rw [if_neg c6] at H
              exact absurd H (by simp)
          · rw [if_neg c5] at H
            exact absurd H (by simp)
        · rw [if_neg c4] at H
          have c4b0 : decide (x17_1 < (l0.length : Int)) = false := decide_eq_false c4
          clear c4
          obtain rfl := Option.some.inj H
          go_wp2
          go_ret
          exact ⟨by first | rfl | (simp [errW_none, errW_some] <;> rfl) | (simp [*, errW_none, errW_some] <;> rfl), by repeat (first | (with_reducible first | exact HB.out | apply below_alloc | apply pw_below_drewN | apply below_drew1) | exact HB.out)⟩
  · rw [if_neg c3] at H
    have c3b0 : ((l0.length : Int) == (l1.length : Int)) = false := beq_eq_false_iff_ne.mpr c3
    have c3b1 : ((l0.length : Int) != (l1.length : Int)) = true := bne_iff_ne.mpr c3
    have c3b2 : (l0.length == l1.length) = false := by first | simpa using c3 | (simp at c3 ⊢; omega)
    obtain rfl := Option.some.inj H
    go_enter Try.func83, Try.ntmps83
    go_wp2
    go_ret
    exact ⟨by first | rfl | (simp [errW_none, errW_some] <;> rfl) | (simp [*, errW_none, errW_some] <;> rfl), by repeat (first | (with_reducible first | exact HB.out | apply below_alloc | apply pw_below_drewN | apply below_drew1) | exact HB.out)⟩


end Go.Proofs.Ytpppopdmnejcfaa.A


namespace Go.Proofs.Ytpppopdmnejcfaa.A
open Go.RowKit Go.Proofs.Ytpppopdmnejcfaa.Ext Go.Proofs.YtpppopdmnejcfaaW.PrintWords Go.Proofs.YtpppopdmnejcfaaW.PrintLast Go.Proofs.YtpppopdmnejcfaaW.PrintMore
attribute [local go_sem] max2_int min2_int max_two min_two max_three min_three max_four min_four   -- for this text's walks alone
set_option linter.unusedVariables false
set_option linter.unusedSimpArgs false

/-! ### impl_EqualProblem: function 18 -/
def impl_EqualProblem.f (k : Nat) (l0_0 : List (S44)) (l1_0 : List (S44)) : Option (Bool) := (impl_Constraint_83.f k l0_0 l1_0).bind fun t18003 => (some t18003)
theorem impl_EqualProblem.mono : ∀ a0 a1 k, LeO (impl_EqualProblem.f k a0 a1) (impl_EqualProblem.f (k + 1) a0 a1) := by
  intro a0 a1 k
  unfold impl_EqualProblem.f
  repeat' first
      | (with_reducible exact impl_Constraint_83.mono _ _ _)
      | (with_reducible exact LeO.refl _)
      | (with_reducible exact LeO.none _)
      | (with_reducible refine LeO.ite ?_ ?_)
      | (with_reducible refine LeO.bind ?_ (fun _ => ?_))
      | exact impl_Constraint_83.mono _ _ _
      | exact LeO.none _
      | refine LeO.ite ?_ ?_
      | refine LeO.bind ?_ (fun _ => ?_)
set_option maxHeartbeats 8000000 in
set_option maxRecDepth 100000 in
theorem impl_EqualProblem.calls (k : Nat) (A0_0 : Option Addr) (c0_0 : Nat) (l0_0 : List (S44)) (A1_0 : Option Addr) (c1_0 : Nat) (l1_0 : List (S44)) (r : Bool) (w : World) (hr0_0 : Kd.C k44 w A0_0 l0_0.length l0_0) (hc0_0 : l0_0.length ≤ c0_0) (hr1_0 : Kd.C k44 w A1_0 l1_0.length l1_0) (hc1_0 : l1_0.length ≤ c1_0) (h : impl_EqualProblem.f k l0_0 l1_0 = some r) :
    Calls Try.prog 18 #[.agg #[.slice A0_0 l0_0.length c0_0], .agg #[.slice A1_0 l1_0.length c1_0]] w fun e w' => e = .returned (.bool r) ∧ Below w.heap.size w w' := by
  have hu29 := Try.underlying29
  have HR0_0 := Aside0.mk hr0_0
  have HC0_0 := Aside0.mk hc0_0
  clear hr0_0 hc0_0
  have HR1_0 := Aside0.mk hr1_0
  have HC1_0 := Aside0.mk hc1_0
  clear hr1_0 hc1_0
  have HB := Aside0.mk (Below.refl w.heap.size w)
  have H : ((impl_Constraint_83.f k l0_0 l1_0).bind fun t18003 => (some t18003)) = some r := h
  clear h
  replace H := Option.bind_eq_some_iff.mp H
  obtain ⟨t18003, A30, H⟩ := H
  replace H : (some t18003) = some r := H
  have A3 := Aside0.mk A30
  clear A30
  obtain rfl := Option.some.inj H
  go_enter Try.func18, Try.ntmps18
  go_wp2_with (first | ((with_reducible refine gate_dst (N := 2) rfl ?_); refine box_event ?hg (N := 2) ?hd (cs := #[.slice A0_0 l0_0.length c0_0]) (t := 29) ?hr ?_; (case hd => rfl); (case hg => rfl); (case hr => first | (go_simp; done) | (go_simp; rfl)); intro gb18001 hg w4 hbox hb; have n0_ := Aside0.mk (below_step (by repeat (first | (with_reducible first | exact HB.out | apply below_alloc | apply pw_below_drewN | apply below_drew1) | exact HB.out)) hb); have n1_ := Aside0.mk (hbox); have n2_ := Aside0.mk ((by rw [hg]; exact (below_size (by repeat (first | (with_reducible first | exact HB.out | apply below_alloc | apply pw_below_drewN | apply below_drew1) | exact HB.out))) : w.heap.size ≤ gb18001)); have n3_ := Aside0.mk ((by rw [hg]; exact (below_size (by repeat (first | (with_reducible first | exact HB.out | apply below_alloc | apply pw_below_drewN | apply below_drew1) | exact HB.out))) : w.heap.size ≤ gb18001)); clear HB; have HB := n0_; have BK18001 := n1_; have GW18001 := n2_; have GE18001 := n3_; clear n0_ n1_ n2_ n3_; clear hb hbox hg) | ((with_reducible refine gate_dst (N := 3) rfl ?_); refine box_event ?hg (N := 3) ?hd (cs := #[.slice A1_0 l1_0.length c1_0]) (t := 29) ?hr ?_; (case hd => rfl); (case hg => rfl); (case hr => first | (go_simp; done) | (go_simp; rfl)); intro gb18002 hg w5 hbox hb; have n0_ := Aside0.mk (blk_below (g := gb18001) (o := .cells #[.slice A0_0 l0_0.length c0_0] 29 (0, 0)) (by (with_reducible repeat (first | refine blk_drewN ?_ _ | refine blk_drew ?_ | refine blk_alloc ?_ _)); exact BK18001.out) hb); have n1_ := Aside0.mk (below_step (by repeat (first | (with_reducible first | exact HB.out | apply below_alloc | apply pw_below_drewN | apply below_drew1 | refine below_set ?_ GE18001.out) | exact HB.out)) hb); have n2_ := Aside0.mk (hbox); have n3_ := Aside0.mk ((by rw [hg]; exact (below_size (by repeat (first | (with_reducible first | exact HB.out | apply below_alloc | apply pw_below_drewN | apply below_drew1 | refine below_set ?_ GE18001.out) | exact HB.out))) : w.heap.size ≤ gb18002)); have n4_ := Aside0.mk ((by rw [hg]; exact (below_size (by repeat (first | (with_reducible first | exact HB.out | apply below_alloc | apply pw_below_drewN | apply below_drew1 | refine below_set ?_ GE18001.out) | exact HB.out))) : w.heap.size ≤ gb18002)); have n5_ := Aside0.mk ((by rw [hg]; exact Nat.ne_of_lt (blk_lt (g := gb18001) (o := .cells #[.slice A0_0 l0_0.length c0_0] 29 (0, 0)) (by (with_reducible repeat (first | refine blk_drewN ?_ _ | refine blk_drew ?_ | refine blk_alloc ?_ _)); exact BK18001.out)) : gb18001 ≠ gb18002)); have n6_ := Aside0.mk ((by rw [hg]; exact Nat.ne_of_gt (blk_lt (g := gb18001) (o := .cells #[.slice A0_0 l0_0.length c0_0] 29 (0, 0)) (by (with_reducible repeat (first | refine blk_drewN ?_ _ | refine blk_drew ?_ | refine blk_alloc ?_ _)); exact BK18001.out)) : gb18002 ≠ gb18001)); clear BK18001; clear HB; have BK18001 := n0_; have HB := n1_; have BK18002 := n2_; have GW18002 := n3_; have GE18002 := n4_; have NB18001_18002 := n5_; have NB18002_18001 := n6_; clear n0_ n1_ n2_ n3_ n4_ n5_ n6_; clear hb hbox hg; have hnb6 := NB18001_18002.out; have hnc6 := NB18002_18001.out; have hcz7_0 : w5.cell? ⟨gb18001, 0, none⟩ = some (.slice A0_0 l0_0.length c0_0) := (blk_cell BK18001.out 0).trans rfl; have hfz7_0 := blk_frozen BK18001.out 0; have hcz8_0 : w5.cell? ⟨gb18002, 0, none⟩ = some (.slice A1_0 l1_0.length c1_0) := (blk_cell BK18002.out 0).trans rfl; have hfz8_0 := blk_frozen BK18002.out 0) | ((with_reducible refine gate_callee (f := 83) rfl ?_); refine goesL_ (some 9) rfl rfl Try.func83 (by kernel_rfl) rfl #[.slice A0_0 l0_0.length c0_0, .slice A1_0 l1_0.length c1_0, .func (.func 84) #[] #[]] rfl (by (try simp only [List.map_toArray, List.map_cons, List.map_nil]); first | done | rfl | (simp only [List.length_drop, List.length_take]; rfl)) ?_; (with_reducible refine (impl_Constraint_83.calls k _ _ l0_0 _ _ l1_0 t18003 _ ?side1 ?side2 ?side3 ?side4 A3.out).mono ?_); (case side1 => repeat (first | exact (Kd.C_below HR0_0.out HB.out) | (with_reducible refine Kd.C_alloc ?_ _) | (with_reducible refine Kd.C_drewN ?_ _) | (with_reducible refine Kd.C_drew ?_))); (case side2 => exact HC0_0.out); (case side3 => repeat (first | exact (Kd.C_below HR1_0.out HB.out) | (with_reducible refine Kd.C_alloc ?_ _) | (with_reducible refine Kd.C_drewN ?_ _) | (with_reducible refine Kd.C_drew ?_))); (case side4 => exact HC1_0.out); rintro e w9 ⟨rfl, hb⟩; refine ⟨_, rfl, ?_⟩; have n0_ := Aside0.mk (blk_below (g := gb18001) (o := .cells #[.slice A0_0 l0_0.length c0_0] 29 (0, 0)) (by (with_reducible repeat (first | refine blk_drewN ?_ _ | refine blk_drew ?_ | refine blk_alloc ?_ _)); exact BK18001.out) hb); have n1_ := Aside0.mk (blk_below (g := gb18002) (o := .cells #[.slice A1_0 l1_0.length c1_0] 29 (0, 0)) (by (with_reducible repeat (first | refine blk_drewN ?_ _ | refine blk_drew ?_ | refine blk_alloc ?_ _)); exact BK18002.out) hb); have n2_ := Aside0.mk (below_step (by repeat (first | (with_reducible first | exact HB.out | apply below_alloc | apply pw_below_drewN | apply below_drew1 | refine below_set ?_ GE18001.out | refine below_set ?_ GE18002.out) | exact HB.out)) hb); clear BK18001; clear BK18002; clear HB; have BK18001 := n0_; have BK18002 := n1_; have HB := n2_; clear n0_ n1_ n2_; (try clear hb); (try clear hb2); (try clear hk); (try clear hi)))
  go_ret
  exact ⟨by first | rfl | (simp [errW_none, errW_some] <;> rfl) | (simp [*, errW_none, errW_some] <;> rfl), by repeat (first | (with_reducible first | exact HB.out | apply below_alloc | apply pw_below_drewN | apply below_drew1 | refine below_set ?_ GE18001.out | refine below_set ?_ GE18002.out) | exact HB.out)⟩


end Go.Proofs.Ytpppopdmnejcfaa.A


namespace Go.Proofs.Ytpppopdmnejcfaa.A
open Go.RowKit Go.Proofs.Ytpppopdmnejcfaa.Ext Go.Proofs.YtpppopdmnejcfaaW.PrintWords Go.Proofs.YtpppopdmnejcfaaW.PrintLast Go.Proofs.YtpppopdmnejcfaaW.PrintMore
attribute [local go_sem] max2_int min2_int max_two min_two max_three min_three max_four min_four   -- for this text's walks alone
set_option linter.unusedVariables false
set_option linter.unusedSimpArgs false

/-! ### laws_FnExactEqualProblem: function 3 -/
def laws_FnExactEqualProblem.f (k : Nat) (l0_0 : List (S37)) (l1_0 : List (S37)) : Option (Bool) := (laws_szProblem.f k l0_0 1048576).bind fun t3003 => (if t3003 < 0 then (some true) else ((laws_szProblem.f k l1_0 t3003).bind fun t3004 => (if t3004 < 0 then (some true) else ((laws_toProblem.f k l0_0).bind fun t3005 => ((laws_toProblem.f k l1_0).bind fun t3008 => ((spec_EqualProblem.f k t3005 t3008).bind fun t3011 => ((laws_toProblem.f k l0_0).bind fun t3012 => ((laws_toProblem.f k l1_0).bind fun t3016 => ((impl_EqualProblem.f k t3012 t3016).bind fun t3020 => (if (t3020 != t3011) = true then (some false) else ((laws_toProblem.f k l0_0).bind fun t3021 => ((laws_eqProblem.f k t3012 t3021).bind fun t3024 => (if t3024 = true then ((laws_toProblem.f k l1_0).bind fun t3025 => ((laws_eqProblem.f k t3016 t3025).bind fun t3028 => (if t3028 = true then (some true) else (some false)))) else (some false))))))))))))))
theorem laws_FnExactEqualProblem.mono : ∀ a0 a1 k, LeO (laws_FnExactEqualProblem.f k a0 a1) (laws_FnExactEqualProblem.f (k + 1) a0 a1) := by
  intro a0 a1 k
  unfold laws_FnExactEqualProblem.f
  repeat' first
      | (with_reducible exact impl_EqualProblem.mono _ _ _)
      | (with_reducible exact laws_eqProblem.mono _ _ _)
      | (with_reducible exact laws_szProblem.mono _ _ _)
      | (with_reducible exact laws_toProblem.mono _ _)
      | (with_reducible exact spec_EqualProblem.mono _ _ _)
      | (with_reducible exact LeO.refl _)
      | (with_reducible exact LeO.none _)
      | (with_reducible refine LeO.ite ?_ ?_)
      | (with_reducible refine LeO.bind ?_ (fun _ => ?_))
      | exact impl_EqualProblem.mono _ _ _
      | exact laws_eqProblem.mono _ _ _
      | exact laws_szProblem.mono _ _ _
      | exact laws_toProblem.mono _ _
      | exact spec_EqualProblem.mono _ _ _
      | exact LeO.none _
      | refine LeO.ite ?_ ?_
      | refine LeO.bind ?_ (fun _ => ?_)
set_option maxHeartbeats 8000000 in
set_option maxRecDepth 100000 in
theorem laws_FnExactEqualProblem.calls (k : Nat) (A0_0 : Option Addr) (c0_0 : Nat) (l0_0 : List (S37)) (A1_0 : Option Addr) (c1_0 : Nat) (l1_0 : List (S37)) (r : Bool) (w : World) (hr0_0 : Kd.C k37 w A0_0 l0_0.length l0_0) (hc0_0 : l0_0.length ≤ c0_0) (hr1_0 : Kd.C k37 w A1_0 l1_0.length l1_0) (hc1_0 : l1_0.length ≤ c1_0) (h : laws_FnExactEqualProblem.f k l0_0 l1_0 = some r) (hr_ : r = true) :
    Calls Try.prog 3 #[.agg #[.slice A0_0 l0_0.length c0_0], .agg #[.slice A1_0 l1_0.length c1_0]] w fun e w' => e = .returned (.bool r) ∧ Below w.heap.size w w' := by
  have HRT_ := Aside0.mk hr_
  clear hr_
  have hu24 := Try.underlying24
  have hu29 := Try.underlying29
  have HR0_0 := Aside0.mk hr0_0
  have HC0_0 := Aside0.mk hc0_0
  clear hr0_0 hc0_0
  have HR1_0 := Aside0.mk hr1_0
  have HC1_0 := Aside0.mk hc1_0
  clear hr1_0 hc1_0
  have HB := Aside0.mk (Below.refl w.heap.size w)
  have H : ((laws_szProblem.f k l0_0 1048576).bind fun t3003 => (if t3003 < 0 then (some true) else ((laws_szProblem.f k l1_0 t3003).bind fun t3004 => (if t3004 < 0 then (some true) else ((laws_toProblem.f k l0_0).bind fun t3005 => ((laws_toProblem.f k l1_0).bind fun t3008 => ((spec_EqualProblem.f k t3005 t3008).bind fun t3011 => ((laws_toProblem.f k l0_0).bind fun t3012 => ((laws_toProblem.f k l1_0).bind fun t3016 => ((impl_EqualProblem.f k t3012 t3016).bind fun t3020 => (if (t3020 != t3011) = true then (some false) else ((laws_toProblem.f k l0_0).bind fun t3021 => ((laws_eqProblem.f k t3012 t3021).bind fun t3024 => (if t3024 = true then ((laws_toProblem.f k l1_0).bind fun t3025 => ((laws_eqProblem.f k t3016 t3025).bind fun t3028 => (if t3028 = true then (some true) else (some false)))) else (some false))))))))))))))) = some r := h
  clear h
  replace H := Option.bind_eq_some_iff.mp H
  obtain ⟨t3003, A30, H⟩ := H
  replace H : (if t3003 < 0 then (some true) else ((laws_szProblem.f k l1_0 t3003).bind fun t3004 => (if t3004 < 0 then (some true) else ((laws_toProblem.f k l0_0).bind fun t3005 => ((laws_toProblem.f k l1_0).bind fun t3008 => ((spec_EqualProblem.f k t3005 t3008).bind fun t3011 => ((laws_toProblem.f k l0_0).bind fun t3012 => ((laws_toProblem.f k l1_0).bind fun t3016 => ((impl_EqualProblem.f k t3012 t3016).bind fun t3020 => (if (t3020 != t3011) = true then (some false) else ((laws_toProblem.f k l0_0).bind fun t3021 => ((laws_eqProblem.f k t3012 t3021).bind fun t3024 => (if t3024 = true then ((laws_toProblem.f k l1_0).bind fun t3025 => ((laws_eqProblem.f k t3016 t3025).bind fun t3028 => (if t3028 = true then (some true) else (some false)))) else (some false)))))))))))))) = some r := H
  have A3 := Aside0.mk A30
  clear A30
  by_cases c4 : t3003 < 0
  · rw [if_pos c4] at H
    have c4b0 : decide (t3003 < 0) = true := decide_eq_true c4
    clear c4
    obtain rfl := Option.some.inj H
    go_enter Try.func3, Try.ntmps3
    go_wp2_with (first | ((with_reducible refine gate_dst (N := 2) rfl ?_); refine box_event ?hg (N := 2) ?hd (cs := #[.slice A0_0 l0_0.length c0_0]) (t := 24) ?hr ?_; (case hd => rfl); (case hg => rfl); (case hr => first | (go_simp; done) | (go_simp; rfl)); intro gb3001 hg w5 hbox hb; have n0_ := Aside0.mk (below_step (by repeat (first | (with_reducible first | exact HB.out | apply below_alloc | apply pw_below_drewN | apply below_drew1) | exact HB.out)) hb); have n1_ := Aside0.mk (hbox); have n2_ := Aside0.mk ((by rw [hg]; exact (below_size (by repeat (first | (with_reducible first | exact HB.out | apply below_alloc | apply pw_below_drewN | apply below_drew1) | exact HB.out))) : w.heap.size ≤ gb3001)); have n3_ := Aside0.mk ((by rw [hg]; exact (below_size (by repeat (first | (with_reducible first | exact HB.out | apply below_alloc | apply pw_below_drewN | apply below_drew1) | exact HB.out))) : w.heap.size ≤ gb3001)); clear HB; have HB := n0_; have BK3001 := n1_; have GW3001 := n2_; have GE3001 := n3_; clear n0_ n1_ n2_ n3_; clear hb hbox hg) | ((with_reducible refine gate_dst (N := 3) rfl ?_); refine box_event ?hg (N := 3) ?hd (cs := #[.slice A1_0 l1_0.length c1_0]) (t := 24) ?hr ?_; (case hd => rfl); (case hg => rfl); (case hr => first | (go_simp; done) | (go_simp; rfl)); intro gb3002 hg w6 hbox hb; have n0_ := Aside0.mk (blk_below (g := gb3001) (o := .cells #[.slice A0_0 l0_0.length c0_0] 24 (0, 0)) (by (with_reducible repeat (first | refine blk_drewN ?_ _ | refine blk_drew ?_ | refine blk_alloc ?_ _)); exact BK3001.out) hb); have n1_ := Aside0.mk (below_step (by repeat (first | (with_reducible first | exact HB.out | apply below_alloc | apply pw_below_drewN | apply below_drew1 | refine below_set ?_ GE3001.out) | exact HB.out)) hb); have n2_ := Aside0.mk (hbox); have n3_ := Aside0.mk ((by rw [hg]; exact (below_size (by repeat (first | (with_reducible first | exact HB.out | apply below_alloc | apply pw_below_drewN | apply below_drew1 | refine below_set ?_ GE3001.out) | exact HB.out))) : w.heap.size ≤ gb3002)); have n4_ := Aside0.mk ((by rw [hg]; exact (below_size (by repeat (first | (with_reducible first | exact HB.out | apply below_alloc | apply pw_below_drewN | apply below_drew1 | refine below_set ?_ GE3001.out) | exact HB.out))) : w.heap.size ≤ gb3002)); have n5_ := Aside0.mk ((by rw [hg]; exact Nat.ne_of_lt (blk_lt (g := gb3001) (o := .cells #[.slice A0_0 l0_0.length c0_0] 24 (0, 0)) (by (with_reducible repeat (first | refine blk_drewN ?_ _ | refine blk_drew ?_ | refine blk_alloc ?_ _)); exact BK3001.out)) : gb3001 ≠ gb3002)); have n6_ := Aside0.mk ((by rw [hg]; exact Nat.ne_of_gt (blk_lt (g := gb3001) (o := .cells #[.slice A0_0 l0_0.length c0_0] 24 (0, 0)) (by (with_reducible repeat (first | refine blk_drewN ?_ _ | refine blk_drew ?_ | refine blk_alloc ?_ _)); exact BK3001.out)) : gb3002 ≠ gb3001)); clear BK3001; clear HB; have BK3001 := n0_; have HB := n1_; have BK3002 := n2_; have GW3002 := n3_; have GE3002 := n4_; have NB3001_3002 := n5_; have NB3002_3001 := n6_; clear n0_ n1_ n2_ n3_ n4_ n5_ n6_; clear hb hbox hg; have hnb7 := NB3001_3002.out; have hnc7 := NB3002_3001.out; have hcz8_0 : w6.cell? ⟨gb3001, 0, none⟩ = some (.slice A0_0 l0_0.length c0_0) := (blk_cell BK3001.out 0).trans rfl; have hfz8_0 := blk_frozen BK3001.out 0) | ((with_reducible refine gate_callee (f := 15) rfl ?_); refine goesL_ (some 12) rfl rfl Try.func15 (by kernel_rfl) rfl #[.agg #[.slice A0_0 l0_0.length c0_0], .int .i64 1048576] rfl (by (try simp only [List.map_toArray, List.map_cons, List.map_nil]); first | done | rfl | (simp only [List.length_drop, List.length_take]; rfl)) ?_; (with_reducible refine (laws_szProblem.calls k _ _ l0_0 1048576 t3003 _ ?side1 ?side2 A3.out).mono ?_); (case side1 => repeat (first | exact (Kd.C_below HR0_0.out HB.out) | (with_reducible refine Kd.C_alloc ?_ _) | (with_reducible refine Kd.C_drewN ?_ _) | (with_reducible refine Kd.C_drew ?_))); (case side2 => exact HC0_0.out); rintro e w9 ⟨rfl, hb⟩; refine ⟨_, rfl, ?_⟩; have n0_ := Aside0.mk (blk_below (g := gb3001) (o := .cells #[.slice A0_0 l0_0.length c0_0] 24 (0, 0)) (by (with_reducible repeat (first | refine blk_drewN ?_ _ | refine blk_drew ?_ | refine blk_alloc ?_ _)); exact BK3001.out) hb); have n1_ := Aside0.mk (blk_below (g := gb3002) (o := .cells #[.slice A1_0 l1_0.length c1_0] 24 (0, 0)) (by (with_reducible repeat (first | refine blk_drewN ?_ _ | refine blk_drew ?_ | refine blk_alloc ?_ _)); exact BK3002.out) hb); have n2_ := Aside0.mk (below_step (by repeat (first | (with_reducible first | exact HB.out | apply below_alloc | apply pw_below_drewN | apply below_drew1 | refine below_set ?_ GE3001.out | refine below_set ?_ GE3002.out) | exact HB.out)) hb); clear BK3001; clear BK3002; clear HB; have BK3001 := n0_; have BK3002 := n1_; have HB := n2_; clear n0_ n1_ n2_; (try clear hb); (try clear hb2); (try clear hk); (try clear hi)))
    go_ret
    exact ⟨by first | rfl | (simp [errW_none, errW_some] <;> rfl) | (simp [*, errW_none, errW_some] <;> rfl), by repeat (first | (with_reducible first | exact HB.out | apply below_alloc | apply pw_below_drewN | apply below_drew1 | refine below_set ?_ GE3001.out | refine below_set ?_ GE3002.out) | exact HB.out)⟩
  · rw [if_neg c4] at H
    have c4b0 : decide (t3003 < 0) = false := decide_eq_false c4
    clear c4
    replace H := Option.bind_eq_some_iff.mp H
    obtain ⟨t3004, A100, H⟩ := H
    replace H : (if t3004 < 0 then (some true) else ((laws_toProblem.f k l0_0).bind fun t3005 => ((laws_toProblem.f k l1_0).bind fun t3008 => ((spec_EqualProblem.f k t3005 t3008).bind fun t3011 => ((laws_toProblem.f k l0_0).bind fun t3012 => ((laws_toProblem.f k l1_0).bind fun t3016 => ((impl_EqualProblem.f k t3012 t3016).bind fun t3020 => (if (t3020 != t3011) = true then (some false) else ((laws_toProblem.f k l0_0).bind fun t3021 => ((laws_eqProblem.f k t3012 t3021).bind fun t3024 => (if t3024 = true then ((laws_toProblem.f k l1_0).bind fun t3025 => ((laws_eqProblem.f k t3016 t3025).bind fun t3028 => (if t3028 = true then (some true) else (some false)))) else (some false)))))))))))) = some r := H
    have A10 := Aside0.mk A100
    clear A100
    by_cases c11 : t3004 < 0
    · rw [if_pos c11] at H
      have c11b0 : decide (t3004 < 0) = true := decide_eq_true c11
      clear c11
      obtain rfl := Option.some.inj H
      go_enter Try.func3, Try.ntmps3
      go_wp2_with (first | ((with_reducible refine gate_dst (N := 2) rfl ?_); refine box_event ?hg (N := 2) ?hd (cs := #[.slice A0_0 l0_0.length c0_0]) (t := 24) ?hr ?_; (case hd => rfl); (case hg => rfl); (case hr => first | (go_simp; done) | (go_simp; rfl)); intro gb3001 hg w12 hbox hb; have n0_ := Aside0.mk (below_step (by repeat (first | (with_reducible first | exact HB.out | apply below_alloc | apply pw_below_drewN | apply below_drew1) | exact HB.out)) hb); have n1_ := Aside0.mk (hbox); have n2_ := Aside0.mk ((by rw [hg]; exact (below_size (by repeat (first | (with_reducible first | exact HB.out | apply below_alloc | apply pw_below_drewN | apply below_drew1) | exact HB.out))) : w.heap.size ≤ gb3001)); have n3_ := Aside0.mk ((by rw [hg]; exact (below_size (by repeat (first | (with_reducible first | exact HB.out | apply below_alloc | apply pw_below_drewN | apply below_drew1) | exact HB.out))) : w.heap.size ≤ gb3001)); clear HB; have HB := n0_; have BK3001 := n1_; have GW3001 := n2_; have GE3001 := n3_; clear n0_ n1_ n2_ n3_; clear hb hbox hg) | ((with_reducible refine gate_dst (N := 3) rfl ?_); refine box_event ?hg (N := 3) ?hd (cs := #[.slice A1_0 l1_0.length c1_0]) (t := 24) ?hr ?_; (case hd => rfl); (case hg => rfl); (case hr => first | (go_simp; done) | (go_simp; rfl)); intro gb3002 hg w13 hbox hb; have n0_ := Aside0.mk (blk_below (g := gb3001) (o := .cells #[.slice A0_0 l0_0.length c0_0] 24 (0, 0)) (by (with_reducible repeat (first | refine blk_drewN ?_ _ | refine blk_drew ?_ | refine blk_alloc ?_ _)); exact BK3001.out) hb); have n1_ := Aside0.mk (below_step (by repeat (first | (with_reducible first | exact HB.out | apply below_alloc | apply pw_below_drewN | apply below_drew1 | refine below_set ?_ GE3001.out) | exact HB.out)) hb); have n2_ := Aside0.mk (hbox); have n3_ := Aside0.mk ((by rw [hg]; exact (below_size (by repeat (first | (with_reducible first | exact HB.out | apply below_alloc | apply pw_below_drewN | apply below_drew1 | refine below_set ?_ GE3001.out) | exact HB.out))) : w.heap.size ≤ gb3002)); have n4_ := Aside0.mk ((by rw [hg]; exact (below_size (by repeat (first | (with_reducible first | exact HB.out | apply below_alloc | apply pw_below_drewN | apply below_drew1 | refine below_set ?_ GE3001.out) | exact HB.out))) : w.heap.size ≤ gb3002)); have n5_ := Aside0.mk ((by rw [hg]; exact Nat.ne_of_lt (blk_lt (g := gb3001) (o := .cells #[.slice A0_0 l0_0.length c0_0] 24 (0, 0)) (by (with_reducible repeat (first | refine blk_drewN ?_ _ | refine blk_drew ?_ | refine blk_alloc ?_ _)); exact BK3001.out)) : gb3001 ≠ gb3002)); have n6_ := Aside0.mk ((by rw [hg]; exact Nat.ne_of_gt (blk_lt (g := gb3001) (o := .cells #[.slice A0_0 l0_0.length c0_0] 24 (0, 0)) (by (with_reducible repeat (first | refine blk_drewN ?_ _ | refine blk_drew ?_ | refine blk_alloc ?_ _)); exact BK3001.out)) : gb3002 ≠ gb3001)); clear BK3001; clear HB; have BK3001 := n0_; have HB := n1_; have BK3002 := n2_; have GW3002 := n3_; have GE3002 := n4_; have NB3001_3002 := n5_; have NB3002_3001 := n6_; clear n0_ n1_ n2_ n3_ n4_ n5_ n6_; clear hb hbox hg; have hnb14 := NB3001_3002.out; have hnc14 := NB3002_3001.out; have hcz15_0 : w13.cell? ⟨gb3001, 0, none⟩ = some (.slice A0_0 l0_0.length c0_0) := (blk_cell BK3001.out 0).trans rfl; have hfz15_0 := blk_frozen BK3001.out 0) | ((with_reducible refine gate_callee (f := 15) rfl ?_); refine goesL_ (some 12) rfl rfl Try.func15 (by kernel_rfl) rfl #[.agg #[.slice A0_0 l0_0.length c0_0], .int .i64 1048576] rfl (by (try simp only [List.map_toArray, List.map_cons, List.map_nil]); first | done | rfl | (simp only [List.length_drop, List.length_take]; rfl)) ?_; (with_reducible refine (laws_szProblem.calls k _ _ l0_0 1048576 t3003 _ ?side1 ?side2 A3.out).mono ?_); (case side1 => repeat (first | exact (Kd.C_below HR0_0.out HB.out) | (with_reducible refine Kd.C_alloc ?_ _) | (with_reducible refine Kd.C_drewN ?_ _) | (with_reducible refine Kd.C_drew ?_))); (case side2 => exact HC0_0.out); rintro e w16 ⟨rfl, hb⟩; refine ⟨_, rfl, ?_⟩; have n0_ := Aside0.mk (blk_below (g := gb3001) (o := .cells #[.slice A0_0 l0_0.length c0_0] 24 (0, 0)) (by (with_reducible repeat (first | refine blk_drewN ?_ _ | refine blk_drew ?_ | refine blk_alloc ?_ _)); exact BK3001.out) hb); have n1_ := Aside0.mk (blk_below (g := gb3002) (o := .cells #[.slice A1_0 l1_0.length c1_0] 24 (0, 0)) (by (with_reducible repeat (first | refine blk_drewN ?_ _ | refine blk_drew ?_ | refine blk_alloc ?_ _)); exact BK3002.out) hb); have n2_ := Aside0.mk (below_step (by repeat (first | (with_reducible first | exact HB.out | apply below_alloc | apply pw_below_drewN | apply below_drew1 | refine below_set ?_ GE3001.out | refine below_set ?_ GE3002.out) | exact HB.out)) hb); clear BK3001; clear BK3002; clear HB; have BK3001 := n0_; have BK3002 := n1_; have HB := n2_; clear n0_ n1_ n2_; (try clear hb); (try clear hb2); (try clear hk); (try clear hi); have hcz17_0 : w16.cell? ⟨gb3002, 0, none⟩ = some (.slice A1_0 l1_0.length c1_0) := (blk_cell BK3002.out 0).trans rfl; have hfz17_0 := blk_frozen BK3002.out 0) | ((with_reducible refine gate_callee (f := 15) rfl ?_); refine goesL_ (some 17) rfl rfl Try.func15 (by kernel_rfl) rfl #[.agg #[.slice A1_0 l1_0.length c1_0], .int .i64 t3003] rfl (by (try simp only [List.map_toArray, List.map_cons, List.map_nil]); first | done | rfl | (simp only [List.length_drop, List.length_take]; rfl)) ?_; (with_reducible refine (laws_szProblem.calls k _ _ l1_0 t3003 t3004 _ ?side1 ?side2 A10.out).mono ?_); (case side1 => repeat (first | exact (Kd.C_below HR1_0.out HB.out) | (with_reducible refine Kd.C_alloc ?_ _) | (with_reducible refine Kd.C_drewN ?_ _) | (with_reducible refine Kd.C_drew ?_))); (case side2 => exact HC1_0.out); rintro e w18 ⟨rfl, hb⟩; refine ⟨_, rfl, ?_⟩; have n0_ := Aside0.mk (blk_below (g := gb3001) (o := .cells #[.slice A0_0 l0_0.length c0_0] 24 (0, 0)) (by (with_reducible repeat (first | refine blk_drewN ?_ _ | refine blk_drew ?_ | refine blk_alloc ?_ _)); exact BK3001.out) hb); have n1_ := Aside0.mk (blk_below (g := gb3002) (o := .cells #[.slice A1_0 l1_0.length c1_0] 24 (0, 0)) (by (with_reducible repeat (first | refine blk_drewN ?_ _ | refine blk_drew ?_ | refine blk_alloc ?_ _)); exact BK3002.out) hb); have n2_ := Aside0.mk (below_step (by repeat (first | (with_reducible first | exact HB.out | apply below_alloc | apply pw_below_drewN | apply below_drew1 | refine below_set ?_ GE3001.out | refine below_set ?_ GE3002.out) | exact HB.out)) hb); clear BK3001; clear BK3002; clear HB; have BK3001 := n0_; have BK3002 := n1_; have HB := n2_; clear n0_ n1_ n2_; (try clear hb); (try clear hb2); (try clear hk); (try clear hi)))
      go_ret
      exact ⟨by first | rfl | (simp [errW_none, errW_some] <;> rfl) | (simp [*, errW_none, errW_some] <;> rfl), by repeat (first | (with_reducible first | exact HB.out | apply below_alloc | apply pw_below_drewN | apply below_drew1 | refine below_set ?_ GE3001.out | refine below_set ?_ GE3002.out) | exact HB.out)⟩
    · rw [if_neg c11] at H
      have c11b0 : decide (t3004 < 0) = false := decide_eq_false c11
      clear c11
      replace H := Option.bind_eq_some_iff.mp H
      obtain ⟨t3005, A190, H⟩ := H
      replace H : ((laws_toProblem.f k l1_0).bind fun t3008 => ((spec_EqualProblem.f k t3005 t3008).bind fun t3011 => ((laws_toProblem.f k l0_0).bind fun t3012 => ((laws_toProblem.f k l1_0).bind fun t3016 => ((impl_EqualProblem.f k t3012 t3016).bind fun t3020 => (if (t3020 != t3011) = true then (some false) else ((laws_toProblem.f k l0_0).bind fun t3021 => ((laws_eqProblem.f k t3012 t3021).bind fun t3024 => (if t3024 = true then ((laws_toProblem.f k l1_0).bind fun t3025 => ((laws_eqProblem.f k t3016 t3025).bind fun t3028 => (if t3028 = true then (some true) else (some false)))) else (some false)))))))))) = some r := H
      have A19 := Aside0.mk A190
      clear A190
      replace H := Option.bind_eq_some_iff.mp H
      obtain ⟨t3008, A200, H⟩ := H
      replace H : ((spec_EqualProblem.f k t3005 t3008).bind fun t3011 => ((laws_toProblem.f k l0_0).bind fun t3012 => ((laws_toProblem.f k l1_0).bind fun t3016 => ((impl_EqualProblem.f k t3012 t3016).bind fun t3020 => (if (t3020 != t3011) = true then (some false) else ((laws_toProblem.f k l0_0).bind fun t3021 => ((laws_eqProblem.f k t3012 t3021).bind fun t3024 => (if t3024 = true then ((laws_toProblem.f k l1_0).bind fun t3025 => ((laws_eqProblem.f k t3016 t3025).bind fun t3028 => (if t3028 = true then (some true) else (some false)))) else (some false))))))))) = some r := H
      have A20 := Aside0.mk A200
      clear A200
      replace H := Option.bind_eq_some_iff.mp H
      obtain ⟨t3011, A210, H⟩ := H
      replace H : ((laws_toProblem.f k l0_0).bind fun t3012 => ((laws_toProblem.f k l1_0).bind fun t3016 => ((impl_EqualProblem.f k t3012 t3016).bind fun t3020 => (if (t3020 != t3011) = true then (some false) else ((laws_toProblem.f k l0_0).bind fun t3021 => ((laws_eqProblem.f k t3012 t3021).bind fun t3024 => (if t3024 = true then ((laws_toProblem.f k l1_0).bind fun t3025 => ((laws_eqProblem.f k t3016 t3025).bind fun t3028 => (if t3028 = true then (some true) else (some false)))) else (some false)))))))) = some r := H
      have A21 := Aside0.mk A210
      clear A210
      replace H := Option.bind_eq_some_iff.mp H
      obtain ⟨t3012, A220, H⟩ := H
      replace H : ((laws_toProblem.f k l1_0).bind fun t3016 => ((impl_EqualProblem.f k t3012 t3016).bind fun t3020 => (if (t3020 != t3011) = true then (some false) else ((laws_toProblem.f k l0_0).bind fun t3021 => ((laws_eqProblem.f k t3012 t3021).bind fun t3024 => (if t3024 = true then ((laws_toProblem.f k l1_0).bind fun t3025 => ((laws_eqProblem.f k t3016 t3025).bind fun t3028 => (if t3028 = true then (some true) else (some false)))) else (some false))))))) = some r := H
      have A22 := Aside0.mk A220
      clear A220
      replace H := Option.bind_eq_some_iff.mp H
      obtain ⟨t3016, A230, H⟩ := H
      replace H : ((impl_EqualProblem.f k t3012 t3016).bind fun t3020 => (if (t3020 != t3011) = true then (some false) else ((laws_toProblem.f k l0_0).bind fun t3021 => ((laws_eqProblem.f k t3012 t3021).bind fun t3024 => (if t3024 = true then ((laws_toProblem.f k l1_0).bind fun t3025 => ((laws_eqProblem.f k t3016 t3025).bind fun t3028 => (if t3028 = true then (some true) else (some false)))) else (some false)))))) = some r := H
      have A23 := Aside0.mk A230
      clear A230
      replace H := Option.bind_eq_some_iff.mp H
      obtain ⟨t3020, A240, H⟩ := H
      replace H : (if (t3020 != t3011) = true then (some false) else ((laws_toProblem.f k l0_0).bind fun t3021 => ((laws_eqProblem.f k t3012 t3021).bind fun t3024 => (if t3024 = true then ((laws_toProblem.f k l1_0).bind fun t3025 => ((laws_eqProblem.f k t3016 t3025).bind fun t3028 => (if t3028 = true then (some true) else (some false)))) else (some false))))) = some r := H
      have A24 := Aside0.mk A240
      clear A240
      by_cases c25 : (t3020 != t3011) = true
      · rw [if_pos c25] at H
        have c25b0 : (t3020 != t3011) = true := c25
        (try (have c25b1 : decide (t3020 = t3011) = false := by simpa using c25))
        (try (have c25b2 : (t3020 == t3011) = false := by simpa using c25))
        (try (have c25b3 : ¬ (t3020 = t3011) := by simpa using c25))
        clear c25
        exact absurd ((Option.some.inj H).trans HRT_.out) (by decide)
      · rw [if_neg c25] at H
        have c25b0 : (t3020 != t3011) = false := by simpa using c25
        (try (have c25b1 : decide (t3020 = t3011) = true := by simpa using c25))
        (try (have c25b2 : (t3020 == t3011) = true := by simpa using c25))
        clear c25
        replace H := Option.bind_eq_some_iff.mp H
        obtain ⟨t3021, A560, H⟩ := H
        replace H : ((laws_eqProblem.f k t3012 t3021).bind fun t3024 => (if t3024 = true then ((laws_toProblem.f k l1_0).bind fun t3025 => ((laws_eqProblem.f k t3016 t3025).bind fun t3028 => (if t3028 = true then (some true) else (some false)))) else (some false))) = some r := H
        have A56 := Aside0.mk A560
        clear A560
        replace H := Option.bind_eq_some_iff.mp H
        obtain ⟨t3024, A570, H⟩ := H
        replace H : (if t3024 = true then ((laws_toProblem.f k l1_0).bind fun t3025 => ((laws_eqProblem.f k t3016 t3025).bind fun t3028 => (if t3028 = true then (some true) else (some false)))) else (some false)) = some r := H
        have A57 := Aside0.mk A570
        clear A570
        by_cases c58 : t3024 = true
        · subst c58
          have H1 : ((laws_toProblem.f k l1_0).bind fun t3025 => ((laws_eqProblem.f k t3016 t3025).bind fun t3028 => (if t3028 = true then (some true) else (some false)))) = some r := by rw [if_pos rfl] at H; exact H
          clear H
          have H := H1
          clear H1
          replace H := Option.bind_eq_some_iff.mp H
          obtain ⟨t3025, A590, H⟩ := H
          replace H : ((laws_eqProblem.f k t3016 t3025).bind fun t3028 => (if t3028 = true then (some true) else (some false))) = some r := H
          have A59 := Aside0.mk A590
          clear A590
          replace H := Option.bind_eq_some_iff.mp H
          obtain ⟨t3028, A600, H⟩ := H
          replace H : (if t3028 = true then (some true) else (some false)) = some r := H
          have A60 := Aside0.mk A600
          clear A600
          by_cases c61 : t3028 = true
          · subst c61
            have H1 : (some true) = some r := by rw [if_pos rfl] at H; exact H
            clear H
            have H := H1
            clear H1
            obtain rfl := Option.some.inj H
            go_enter Try.func3, Try.ntmps3
            try go_wp2_with (first | ((with_reducible refine gate_dst (N := 2) rfl ?_); refine box_event ?hg (N := 2) ?hd (cs := #[.slice A0_0 l0_0.length c0_0]) (t := 24) ?hr ?_; (case hd => rfl); (case hg => rfl); (case hr => first | (go_simp; done) | (go_simp; rfl)); intro gb3001 hg w62 hbox hb; have n0_ := Aside0.mk (below_step (by repeat (first | (with_reducible first | exact HB.out | apply below_alloc | apply pw_below_drewN | apply below_drew1) | exact HB.out)) hb); have n1_ := Aside0.mk (hbox); have n2_ := Aside0.mk ((by rw [hg]; exact (below_size (by repeat (first | (with_reducible first | exact HB.out | apply below_alloc | apply pw_below_drewN | apply below_drew1) | exact HB.out))) : w.heap.size ≤ gb3001)); have n3_ := Aside0.mk ((by rw [hg]; exact (below_size (by repeat (first | (with_reducible first | exact HB.out | apply below_alloc | apply pw_below_drewN | apply below_drew1) | exact HB.out))) : w.heap.size ≤ gb3001)); clear HB; have HB := n0_; have BK3001 := n1_; have GW3001 := n2_; have GE3001 := n3_; clear n0_ n1_ n2_ n3_; clear hb hbox hg) | ((with_reducible refine gate_dst (N := 3) rfl ?_); refine box_event ?hg (N := 3) ?hd (cs := #[.slice A1_0 l1_0.length c1_0]) (t := 24) ?hr ?_; (case hd => rfl); (case hg => rfl); (case hr => first | (go_simp; done) | (go_simp; rfl)); intro gb3002 hg w63 hbox hb; have n0_ := Aside0.mk (blk_below (g := gb3001) (o := .cells #[.slice A0_0 l0_0.length c0_0] 24 (0, 0)) (by (with_reducible repeat (first | refine blk_drewN ?_ _ | refine blk_drew ?_ | refine blk_alloc ?_ _)); exact BK3001.out) hb); have n1_ := Aside0.mk (below_step (by repeat (first | (with_reducible first | exact HB.out | apply below_alloc | apply pw_below_drewN | apply below_drew1 | refine below_set ?_ GE3001.out) | exact HB.out)) hb); have n2_ := Aside0.mk (hbox); have n3_ := Aside0.mk ((by rw [hg]; exact (below_size (by repeat (first | (with_reducible first | exact HB.out | apply below_alloc | apply pw_below_drewN | apply below_drew1 | refine below_set ?_ GE3001.out) | exact HB.out))) : w.heap.size ≤ gb3002)); have n4_ := Aside0.mk ((by rw [hg]; exact (below_size (by repeat (first | (with_reducible first | exact HB.out | apply below_alloc | apply pw_below_drewN | apply below_drew1 | refine below_set ?_ GE3001.out) | exact HB.out))) : w.heap.size ≤ gb3002)); have n5_ := Aside0.mk ((by rw [hg]; exact Nat.ne_of_lt (blk_lt (g := gb3001) (o := .cells #[.slice A0_0 l0_0.length c0_0] 24 (0, 0)) (by (with_reducible repeat (first | refine blk_drewN ?_ _ | refine blk_drew ?_ | refine blk_alloc ?_ _)); exact BK3001.out)) : gb3001 ≠ gb3002)); have n6_ := Aside0.mk ((by rw [hg]; exact Nat.ne_of_gt (blk_lt (g := gb3001) (o := .cells #[.slice A0_0 l0_0.length c0_0] 24 (0, 0)) (by (with_reducible repeat (first | refine blk_drewN ?_ _ | refine blk_drew ?_ | refine blk_alloc ?_ _)); exact BK3001.out)) : gb3002 ≠ gb3001)); clear BK3001; clear HB; have BK3001 := n0_; have HB := n1_; have BK3002 := n2_; have GW3002 := n3_; have GE3002 := n4_; have NB3001_3002 := n5_; have NB3002_3001 := n6_; clear n0_ n1_ n2_ n3_ n4_ n5_ n6_; clear hb hbox hg; have hnb64 := NB3001_3002.out; have hnc64 := NB3002_3001.out; have hcz65_0 : w63.cell? ⟨gb3001, 0, none⟩ = some (.slice A0_0 l0_0.length c0_0) := (blk_cell BK3001.out 0).trans rfl; have hfz65_0 := blk_frozen BK3001.out 0) | ((with_reducible refine gate_callee (f := 15) rfl ?_); refine goesL_ (some 12) rfl rfl Try.func15 (by kernel_rfl) rfl #[.agg #[.slice A0_0 l0_0.length c0_0], .int .i64 1048576] rfl (by (try simp only [List.map_toArray, List.map_cons, List.map_nil]); first | done | rfl | (simp only [List.length_drop, List.length_take]; rfl)) ?_; (with_reducible refine (laws_szProblem.calls k _ _ l0_0 1048576 t3003 _ ?side1 ?side2 A3.out).mono ?_); (case side1 => repeat (first | exact (Kd.C_below HR0_0.out HB.out) | (with_reducible refine Kd.C_alloc ?_ _) | (with_reducible refine Kd.C_drewN ?_ _) | (with_reducible refine Kd.C_drew ?_))); (case side2 => exact HC0_0.out); rintro e w66 ⟨rfl, hb⟩; refine ⟨_, rfl, ?_⟩; have n0_ := Aside0.mk (blk_below (g := gb3001) (o := .cells #[.slice A0_0 l0_0.length c0_0] 24 (0, 0)) (by (with_reducible repeat (first | refine blk_drewN ?_ _ | refine blk_drew ?_ | refine blk_alloc ?_ _)); exact BK3001.out) hb); have n1_ := Aside0.mk (blk_below (g := gb3002) (o := .cells #[.slice A1_0 l1_0.length c1_0] 24 (0, 0)) (by (with_reducible repeat (first | refine blk_drewN ?_ _ | refine blk_drew ?_ | refine blk_alloc ?_ _)); exact BK3002.out) hb); have n2_ := Aside0.mk (below_step (by repeat (first | (with_reducible first | exact HB.out | apply below_alloc | apply pw_below_drewN | apply below_drew1 | refine below_set ?_ GE3001.out | refine below_set ?_ GE3002.out) | exact HB.out)) hb); clear BK3001; clear BK3002; clear HB; have BK3001 := n0_; have BK3002 := n1_; have HB := n2_; clear n0_ n1_ n2_; (try clear hb); (try clear hb2); (try clear hk); (try clear hi); have hcz67_0 : w66.cell? ⟨gb3002, 0, none⟩ = some (.slice A1_0 l1_0.length c1_0) := (blk_cell BK3002.out 0).trans rfl; have hfz67_0 := blk_frozen BK3002.out 0) | ((with_reducible refine gate_callee (f := 15) rfl ?_); refine goesL_ (some 17) rfl rfl Try.func15 (by kernel_rfl) rfl #[.agg #[.slice A1_0 l1_0.length c1_0], .int .i64 t3003] rfl (by (try simp only [List.map_toArray, List.map_cons, List.map_nil]); first | done | rfl | (simp only [List.length_drop, List.length_take]; rfl)) ?_; (with_reducible refine (laws_szProblem.calls k _ _ l1_0 t3003 t3004 _ ?side1 ?side2 A10.out).mono ?_); (case side1 => repeat (first | exact (Kd.C_below HR1_0.out HB.out) | (with_reducible refine Kd.C_alloc ?_ _) | (with_reducible refine Kd.C_drewN ?_ _) | (with_reducible refine Kd.C_drew ?_))); (case side2 => exact HC1_0.out); rintro e w68 ⟨rfl, hb⟩; refine ⟨_, rfl, ?_⟩; have n0_ := Aside0.mk (blk_below (g := gb3001) (o := .cells #[.slice A0_0 l0_0.length c0_0] 24 (0, 0)) (by (with_reducible repeat (first | refine blk_drewN ?_ _ | refine blk_drew ?_ | refine blk_alloc ?_ _)); exact BK3001.out) hb); have n1_ := Aside0.mk (blk_below (g := gb3002) (o := .cells #[.slice A1_0 l1_0.length c1_0] 24 (0, 0)) (by (with_reducible repeat (first | refine blk_drewN ?_ _ | refine blk_drew ?_ | refine blk_alloc ?_ _)); exact BK3002.out) hb); have n2_ := Aside0.mk (below_step (by repeat (first | (with_reducible first | exact HB.out | apply below_alloc | apply pw_below_drewN | apply below_drew1 | refine below_set ?_ GE3001.out | refine below_set ?_ GE3002.out) | exact HB.out)) hb); clear BK3001; clear BK3002; clear HB; have BK3001 := n0_; have BK3002 := n1_; have HB := n2_; clear n0_ n1_ n2_; (try clear hb); (try clear hb2); (try clear hk); (try clear hi)))
            have n0_ := Aside0.mk (blk_drew BK3001.out)
            have n1_ := Aside0.mk (blk_drew BK3002.out)
            have n2_ := Aside0.mk (below_drew1 HB.out)
            clear BK3001
            clear BK3002
            clear HB
            have BK3001 := n0_
            have BK3002 := n1_
            have HB := n2_
            clear n0_ n1_ n2_
            refine start_ (n := 6) (S := fun w' => w'.cell? ⟨gb3001, 0, none⟩ = some (.slice A0_0 l0_0.length c0_0) ∧ w'.cell? ⟨gb3002, 0, none⟩ = some (.slice A1_0 l1_0.length c1_0)) (ds := []) #[false, false, false, false, false, false] (by kernel_rfl) rfl rfl ⟨(blk_cell BK3001.out 0).trans rfl, (blk_cell BK3002.out 0).trans rfl⟩ (fun hHeld => ?_)
            generalize w68.drew = w69 at BK3001 BK3002 HB hHeld ⊢
            refine take_ (i := 0) (N := some 20) (v := ?_) (a' := ?_) #[true, false, false, false, false, false] rfl rfl (by kernel_rfl) (fun _ _ _ h => h) (Or.inl ⟨by rfl, ?_⟩) hHeld ?_ ?_
            rotate_left
            · rintro w' ⟨s0, s1⟩
              go_simp
              first | with_reducible rfl | (rw [if_neg (by omega)]; done)
            rotate_left
            · simp only [Act.put, List.setIfInBounds_toArray, List.set_cons_zero, List.set_cons_succ, i64_w, i32_w]
              rfl
            refine take_ (i := 2) (N := some 22) (v := ?_) (a' := ?_) #[true, false, true, false, false, false] rfl rfl (by kernel_rfl) (fun _ _ _ h => h) (Or.inl ⟨by rfl, ?_⟩) hHeld ?_ ?_
            rotate_left
            · rintro w' ⟨s0, s1⟩
              go_simp
              first | with_reducible rfl | (rw [if_neg (by omega)]; done)
            rotate_left
            · simp only [Act.put, List.setIfInBounds_toArray, List.set_cons_zero, List.set_cons_succ, i64_w, i32_w]
              rfl
            refine one_ (i := 1) (N := some 21) #[true, true, true, false, false, false] rfl rfl (by kernel_rfl) (by decide) (fun K hK => ?_)
            refine goes_ Try.func17 (by kernel_rfl) rfl #[.agg #[.slice A0_0 l0_0.length c0_0]] (by rfl) rfl rfl (by (try simp only [List.map_toArray, List.map_cons, List.map_nil]); first | done | rfl | (simp only [List.length_drop, List.length_take]; rfl)) ?_
            with_reducible refine (laws_toProblem.calls k _ _ l0_0 t3005 _ ?side1 ?side2 A19.out).mono ?_
            (case side1 => repeat (first | exact (Kd.C_below HR0_0.out HB.out) | (with_reducible refine Kd.C_alloc ?_ _) | (with_reducible refine Kd.C_drewN ?_ _) | (with_reducible refine Kd.C_drew ?_)))
            (case side2 => exact HC0_0.out)
            rintro e w70 ⟨v3006, rfl, ho0, hb⟩
            refine ⟨_, rfl, ?_⟩
            have n0_ := Aside0.mk (Kd.R_lower ho0 (below_size (by repeat (first | (with_reducible first | exact HB.out | apply below_alloc | apply pw_below_drewN | apply below_drew1 | refine below_set ?_ GE3001.out | refine below_set ?_ GE3002.out) | exact HB.out))))
            have n1_ := Aside0.mk (blk_below (g := gb3001) (o := .cells #[.slice A0_0 l0_0.length c0_0] 24 (0, 0)) (by (with_reducible repeat (first | refine blk_drewN ?_ _ | refine blk_drew ?_ | refine blk_alloc ?_ _)); exact BK3001.out) hb)
            have n2_ := Aside0.mk (blk_below (g := gb3002) (o := .cells #[.slice A1_0 l1_0.length c1_0] 24 (0, 0)) (by (with_reducible repeat (first | refine blk_drewN ?_ _ | refine blk_drew ?_ | refine blk_alloc ?_ _)); exact BK3002.out) hb)
            have n3_ := Aside0.mk (below_step (by repeat (first | (with_reducible first | exact HB.out | apply below_alloc | apply pw_below_drewN | apply below_drew1 | refine below_set ?_ GE3001.out | refine below_set ?_ GE3002.out) | exact HB.out)) hb)
            clear BK3001
            clear BK3002
            clear HB
            have HO3007 := n0_
            have BK3001 := n1_
            have BK3002 := n2_
            have HB := n3_
            clear n0_ n1_ n2_ n3_
            (try clear hb)
            (try clear hb2)
            (try clear hk)
            (try clear hi)
            (try clear ho0)
            refine hK.out _ _ ⟨(blk_cell BK3001.out 0).trans rfl, (blk_cell BK3002.out 0).trans rfl⟩ (fun hHeld => ?_)
            clear hK K
            refine norm_ (a' := ?_) ?_ ?_
            rotate_left
            · show Act.put _ (some 21) _ = _
              simp only [Act.put, List.setIfInBounds_toArray, List.set_cons_zero, List.set_cons_succ, i64_w, i32_w]
              rfl
            refine one_ (i := 3) (N := some 23) #[true, true, true, true, false, false] rfl rfl (by kernel_rfl) (by decide) (fun K hK => ?_)
            refine goes_ Try.func17 (by kernel_rfl) rfl #[.agg #[.slice A1_0 l1_0.length c1_0]] (by rfl) rfl rfl (by (try simp only [List.map_toArray, List.map_cons, List.map_nil]); first | done | rfl | (simp only [List.length_drop, List.length_take]; rfl)) ?_
            with_reducible refine (laws_toProblem.calls k _ _ l1_0 t3008 _ ?side1 ?side2 A20.out).mono ?_
            (case side1 => repeat (first | exact (Kd.C_below HR1_0.out HB.out) | (with_reducible refine Kd.C_alloc ?_ _) | (with_reducible refine Kd.C_drewN ?_ _) | (with_reducible refine Kd.C_drew ?_)))
            (case side2 => exact HC1_0.out)
            rintro e w71 ⟨v3009, rfl, ho0, hb⟩
            refine ⟨_, rfl, ?_⟩
            have n0_ := Aside0.mk (Kd.R_elder' (by (with_reducible repeat (first | apply Kd.R_alloc | apply Kd.R_drewN | apply Kd.R_drew)); exact HO3007.out) (Kd.R_base ho0) hb)
            have n1_ := Aside0.mk (Kd.R_lower (Kd.R_new' ho0 (Kd.R_lt (by (with_reducible repeat (first | apply Kd.R_alloc | apply Kd.R_drewN | apply Kd.R_drew)); exact HO3007.out))) (below_size (by repeat (first | (with_reducible first | exact HB.out | apply below_alloc | apply pw_below_drewN | apply below_drew1 | refine below_set ?_ GE3001.out | refine below_set ?_ GE3002.out) | exact HB.out))))
            have n2_ := Aside0.mk (blk_below (g := gb3001) (o := .cells #[.slice A0_0 l0_0.length c0_0] 24 (0, 0)) (by (with_reducible repeat (first | refine blk_drewN ?_ _ | refine blk_drew ?_ | refine blk_alloc ?_ _)); exact BK3001.out) hb)
            have n3_ := Aside0.mk (blk_below (g := gb3002) (o := .cells #[.slice A1_0 l1_0.length c1_0] 24 (0, 0)) (by (with_reducible repeat (first | refine blk_drewN ?_ _ | refine blk_drew ?_ | refine blk_alloc ?_ _)); exact BK3002.out) hb)
            have n4_ := Aside0.mk (below_step (by repeat (first | (with_reducible first | exact HB.out | apply below_alloc | apply pw_below_drewN | apply below_drew1 | refine below_set ?_ GE3001.out | refine below_set ?_ GE3002.out) | exact HB.out)) hb)
            clear HO3007
            clear BK3001
            clear BK3002
            clear HB
            have HO3007 := n0_
            have HO3010 := n1_
            have BK3001 := n2_
            have BK3002 := n3_
            have HB := n4_
            clear n0_ n1_ n2_ n3_ n4_
            (try clear hb)
            (try clear hb2)
            (try clear hk)
            (try clear hi)
            (try clear ho0)
            obtain ⟨Ao72, co72, eo72⟩ := Kd.R_slice HO3007.out
            (first | subst eo72 | (injection eo72 with f1_ f2_ f3_; have f4_ := f1_.symm; have f5_ := f3_.symm; clear f1_ f2_ f3_; subst f4_; subst f5_))
            obtain ⟨Ao73, co73, eo73⟩ := Kd.R_slice HO3010.out
            (first | subst eo73 | (injection eo73 with f1_ f2_ f3_; have f4_ := f1_.symm; have f5_ := f3_.symm; clear f1_ f2_ f3_; subst f4_; subst f5_))
            refine hK.out _ _ ⟨(blk_cell BK3001.out 0).trans rfl, (blk_cell BK3002.out 0).trans rfl⟩ (fun hHeld => ?_)
            clear hK K
            refine norm_ (a' := ?_) ?_ ?_
            rotate_left
            · show Act.put _ (some 23) _ = _
              simp only [Act.put, List.setIfInBounds_toArray, List.set_cons_zero, List.set_cons_succ, i64_w, i32_w]
              rfl
            refine one_ (i := 4) (N := some 24) #[true, true, true, true, true, false] rfl rfl (by kernel_rfl) (by decide) (fun K hK => ?_)
            refine goes_ Try.func16 (by kernel_rfl) rfl #[.agg #[.slice Ao72 t3005.length co72], .agg #[.slice Ao73 t3008.length co73]] (by rfl) rfl rfl (by (try simp only [List.map_toArray, List.map_cons, List.map_nil]); first | done | rfl | (simp only [List.length_drop, List.length_take]; rfl)) ?_
            with_reducible refine (spec_EqualProblem.calls k _ _ t3005 _ _ t3008 t3011 _ ?side1 ?side2 ?side3 ?side4 A21.out).mono ?_
            (case side1 => repeat (first | exact (Kd.R_reads' HO3007.out).2.2 | (with_reducible refine Kd.C_alloc ?_ _) | (with_reducible refine Kd.C_drewN ?_ _) | (with_reducible refine Kd.C_drew ?_)))
            (case side2 => exact (Kd.R_reads' HO3007.out).2.1)
            (case side3 => repeat (first | exact (Kd.R_reads' HO3010.out).2.2 | (with_reducible refine Kd.C_alloc ?_ _) | (with_reducible refine Kd.C_drewN ?_ _) | (with_reducible refine Kd.C_drew ?_)))
            (case side4 => exact (Kd.R_reads' HO3010.out).2.1)
            rintro e w74 ⟨rfl, hb⟩
            refine ⟨_, rfl, ?_⟩
            have n0_ := Aside0.mk (Kd.R_below (by (with_reducible repeat (first | apply Kd.R_alloc | apply Kd.R_drewN | apply Kd.R_drew)); exact HO3007.out) hb)
            have n1_ := Aside0.mk (Kd.R_below (by (with_reducible repeat (first | apply Kd.R_alloc | apply Kd.R_drewN | apply Kd.R_drew)); exact HO3010.out) hb)
            have n2_ := Aside0.mk (blk_below (g := gb3001) (o := .cells #[.slice A0_0 l0_0.length c0_0] 24 (0, 0)) (by (with_reducible repeat (first | refine blk_drewN ?_ _ | refine blk_drew ?_ | refine blk_alloc ?_ _)); exact BK3001.out) hb)
            have n3_ := Aside0.mk (blk_below (g := gb3002) (o := .cells #[.slice A1_0 l1_0.length c1_0] 24 (0, 0)) (by (with_reducible repeat (first | refine blk_drewN ?_ _ | refine blk_drew ?_ | refine blk_alloc ?_ _)); exact BK3002.out) hb)
            have n4_ := Aside0.mk (below_step (by repeat (first | (with_reducible first | exact HB.out | apply below_alloc | apply pw_below_drewN | apply below_drew1 | refine below_set ?_ GE3001.out | refine below_set ?_ GE3002.out) | exact HB.out)) hb)
            clear HO3007
            clear HO3010
            clear BK3001
            clear BK3002
            clear HB
            have HO3007 := n0_
            have HO3010 := n1_
            have BK3001 := n2_
            have BK3002 := n3_
            have HB := n4_
            clear n0_ n1_ n2_ n3_ n4_
            (try clear hb)
            (try clear hb2)
            (try clear hk)
            (try clear hi)
            refine hK.out _ _ ⟨(blk_cell BK3001.out 0).trans rfl, (blk_cell BK3002.out 0).trans rfl⟩ (fun hHeld => ?_)
            clear hK K
            refine norm_ (a' := ?_) ?_ ?_
            rotate_left
            · show Act.put _ (some 24) _ = _
              simp only [Act.put, List.setIfInBounds_toArray, List.set_cons_zero, List.set_cons_succ, i64_w, i32_w]
              rfl
            refine pure_ (i := 5) (N := some 6) (v := ?_) (a' := ?_) #[true, true, true, true, true, true] rfl rfl (by kernel_rfl) (fun _ _ _ h => h) (Or.inl ⟨by rfl, ?_⟩) ?_ ?_
            rotate_left
            · intro w'
              go_simp
              first | with_reducible rfl | (rw [if_neg (by omega)]; done)
            rotate_left
            · simp only [Act.put, List.setIfInBounds_toArray, List.set_cons_zero, List.set_cons_succ, i64_w, i32_w]
              rfl
            refine done_ (by kernel_rfl) ?_
            have hcz75_0 : w74.cell? ⟨gb3001, 0, none⟩ = some (.slice A0_0 l0_0.length c0_0) := (blk_cell BK3001.out 0).trans rfl
            have hfz75_0 := blk_frozen BK3001.out 0
            try go_wp2_with (first | ((with_reducible refine gate_callee (f := 17) rfl ?_); refine goesL_ (some 26) rfl rfl Try.func17 (by kernel_rfl) rfl #[.agg #[.slice A0_0 l0_0.length c0_0]] rfl (by (try simp only [List.map_toArray, List.map_cons, List.map_nil]); first | done | rfl | (simp only [List.length_drop, List.length_take]; rfl)) ?_; (with_reducible refine (laws_toProblem.calls k _ _ l0_0 t3012 _ ?side1 ?side2 A22.out).mono ?_); (case side1 => repeat (first | exact (Kd.C_below HR0_0.out HB.out) | (with_reducible refine Kd.C_alloc ?_ _) | (with_reducible refine Kd.C_drewN ?_ _) | (with_reducible refine Kd.C_drew ?_))); (case side2 => exact HC0_0.out); rintro e w76 ⟨v3013, rfl, ho0, hb⟩; refine ⟨_, rfl, ?_⟩; have n0_ := Aside0.mk (Kd.R_elder' (by (with_reducible repeat (first | apply Kd.R_alloc | apply Kd.R_drewN | apply Kd.R_drew)); exact HO3007.out) (Kd.R_base ho0) hb); have n1_ := Aside0.mk (Kd.R_elder' (by (with_reducible repeat (first | apply Kd.R_alloc | apply Kd.R_drewN | apply Kd.R_drew)); exact HO3010.out) (Kd.R_base ho0) hb); have n2_ := Aside0.mk (Kd.R_lower (Kd.R_new' (Kd.R_new' ho0 (Kd.R_lt (by (with_reducible repeat (first | apply Kd.R_alloc | apply Kd.R_drewN | apply Kd.R_drew)); exact HO3007.out))) (Kd.R_lt (by (with_reducible repeat (first | apply Kd.R_alloc | apply Kd.R_drewN | apply Kd.R_drew)); exact HO3010.out))) (below_size (by repeat (first | (with_reducible first | exact HB.out | apply below_alloc | apply pw_below_drewN | apply below_drew1 | refine below_set ?_ GE3001.out | refine below_set ?_ GE3002.out) | exact HB.out)))); have n3_ := Aside0.mk (blk_below (g := gb3001) (o := .cells #[.slice A0_0 l0_0.length c0_0] 24 (0, 0)) (by (with_reducible repeat (first | refine blk_drewN ?_ _ | refine blk_drew ?_ | refine blk_alloc ?_ _)); exact BK3001.out) hb); have n4_ := Aside0.mk (blk_below (g := gb3002) (o := .cells #[.slice A1_0 l1_0.length c1_0] 24 (0, 0)) (by (with_reducible repeat (first | refine blk_drewN ?_ _ | refine blk_drew ?_ | refine blk_alloc ?_ _)); exact BK3002.out) hb); have n5_ := Aside0.mk (below_step (by repeat (first | (with_reducible first | exact HB.out | apply below_alloc | apply pw_below_drewN | apply below_drew1 | refine below_set ?_ GE3001.out | refine below_set ?_ GE3002.out) | exact HB.out)) hb); clear HO3007; clear HO3010; clear BK3001; clear BK3002; clear HB; have HO3007 := n0_; have HO3010 := n1_; have HO3014 := n2_; have BK3001 := n3_; have BK3002 := n4_; have HB := n5_; clear n0_ n1_ n2_ n3_ n4_ n5_; (try clear hb); (try clear hb2); (try clear hk); (try clear hi); (try clear ho0)) | ((with_reducible refine gate_dst (N := 7) rfl ?_); refine box_event ?hg (N := 7) ?hd (cs := #[.slice none 0 0]) (t := 29) ?hr ?_; (case hd => rfl); (case hg => rfl); (case hr => first | (go_simp; done) | (go_simp; rfl)); intro gb3015 hg w77 hbox hb; have n0_ := Aside0.mk (Kd.R_below (by (with_reducible repeat (first | apply Kd.R_alloc | apply Kd.R_drewN | apply Kd.R_drew)); exact HO3007.out) hb); have n1_ := Aside0.mk (Kd.R_below (by (with_reducible repeat (first | apply Kd.R_alloc | apply Kd.R_drewN | apply Kd.R_drew)); exact HO3010.out) hb); have n2_ := Aside0.mk (Kd.R_below (by (with_reducible repeat (first | apply Kd.R_alloc | apply Kd.R_drewN | apply Kd.R_drew)); exact HO3014.out) hb); have n3_ := Aside0.mk (blk_below (g := gb3001) (o := .cells #[.slice A0_0 l0_0.length c0_0] 24 (0, 0)) (by (with_reducible repeat (first | refine blk_drewN ?_ _ | refine blk_drew ?_ | refine blk_alloc ?_ _)); exact BK3001.out) hb); have n4_ := Aside0.mk (blk_below (g := gb3002) (o := .cells #[.slice A1_0 l1_0.length c1_0] 24 (0, 0)) (by (with_reducible repeat (first | refine blk_drewN ?_ _ | refine blk_drew ?_ | refine blk_alloc ?_ _)); exact BK3002.out) hb); have n5_ := Aside0.mk (below_step (by repeat (first | (with_reducible first | exact HB.out | apply below_alloc | apply pw_below_drewN | apply below_drew1 | refine below_set ?_ GE3001.out | refine below_set ?_ GE3002.out) | exact HB.out)) hb); have n6_ := Aside0.mk (hbox); have n7_ := Aside0.mk ((by rw [hg]; exact (below_size (by repeat (first | (with_reducible first | exact HB.out | apply below_alloc | apply pw_below_drewN | apply below_drew1 | refine below_set ?_ GE3001.out | refine below_set ?_ GE3002.out) | exact HB.out))) : w.heap.size ≤ gb3015)); have n8_ := Aside0.mk ((by rw [hg]; exact (below_size (by repeat (first | (with_reducible first | exact HB.out | apply below_alloc | apply pw_below_drewN | apply below_drew1 | refine below_set ?_ GE3001.out | refine below_set ?_ GE3002.out) | exact HB.out))) : w.heap.size ≤ gb3015)); have n9_ := Aside0.mk ((by rw [hg]; exact Nat.ne_of_lt (blk_lt (g := gb3001) (o := .cells #[.slice A0_0 l0_0.length c0_0] 24 (0, 0)) (by (with_reducible repeat (first | refine blk_drewN ?_ _ | refine blk_drew ?_ | refine blk_alloc ?_ _)); exact BK3001.out)) : gb3001 ≠ gb3015)); have n10_ := Aside0.mk ((by rw [hg]; exact Nat.ne_of_gt (blk_lt (g := gb3001) (o := .cells #[.slice A0_0 l0_0.length c0_0] 24 (0, 0)) (by (with_reducible repeat (first | refine blk_drewN ?_ _ | refine blk_drew ?_ | refine blk_alloc ?_ _)); exact BK3001.out)) : gb3015 ≠ gb3001)); have n11_ := Aside0.mk ((by rw [hg]; exact Nat.ne_of_lt (blk_lt (g := gb3002) (o := .cells #[.slice A1_0 l1_0.length c1_0] 24 (0, 0)) (by (with_reducible repeat (first | refine blk_drewN ?_ _ | refine blk_drew ?_ | refine blk_alloc ?_ _)); exact BK3002.out)) : gb3002 ≠ gb3015)); have n12_ := Aside0.mk ((by rw [hg]; exact Nat.ne_of_gt (blk_lt (g := gb3002) (o := .cells #[.slice A1_0 l1_0.length c1_0] 24 (0, 0)) (by (with_reducible repeat (first | refine blk_drewN ?_ _ | refine blk_drew ?_ | refine blk_alloc ?_ _)); exact BK3002.out)) : gb3015 ≠ gb3002)); clear HO3007; clear HO3010; clear HO3014; clear BK3001; clear BK3002; clear HB; have HO3007 := n0_; have HO3010 := n1_; have HO3014 := n2_; have BK3001 := n3_; have BK3002 := n4_; have HB := n5_; have BK3015 := n6_; have GW3015 := n7_; have GE3015 := n8_; have NB3001_3015 := n9_; have NB3015_3001 := n10_; have NB3002_3015 := n11_; have NB3015_3002 := n12_; clear n0_ n1_ n2_ n3_ n4_ n5_ n6_ n7_ n8_ n9_ n10_ n11_ n12_; clear hb hbox hg; obtain ⟨Ao78, co78, eo78⟩ := Kd.R_slice HO3014.out; subst eo78; have hnb79 := NB3015_3001.out; have hnc79 := NB3001_3015.out; have hnb80 := NB3015_3002.out; have hnc80 := NB3002_3015.out; have hcz81_0 : w77.cell? ⟨gb3015, 0, none⟩ = some (.slice none 0 0) := (blk_cell BK3015.out 0).trans rfl; have hfz81_0 := blk_frozen BK3015.out 0; have hcz82_0 : w77.cell? ⟨gb3002, 0, none⟩ = some (.slice A1_0 l1_0.length c1_0) := (blk_cell BK3002.out 0).trans rfl; have hfz82_0 := blk_frozen BK3002.out 0) | ((with_reducible refine gate_callee (f := 17) rfl ?_); refine goesL_ (some 28) rfl rfl Try.func17 (by kernel_rfl) rfl #[.agg #[.slice A1_0 l1_0.length c1_0]] rfl (by (try simp only [List.map_toArray, List.map_cons, List.map_nil]); first | done | rfl | (simp only [List.length_drop, List.length_take]; rfl)) ?_; (with_reducible refine (laws_toProblem.calls k _ _ l1_0 t3016 _ ?side1 ?side2 A23.out).mono ?_); (case side1 => exact Kd.C_below HR1_0.out (by repeat (first | (with_reducible first | exact HB.out | apply below_alloc | apply pw_below_drewN | apply below_drew1 | refine below_set ?_ GE3001.out | refine below_set ?_ GE3002.out | refine below_set ?_ GE3015.out) | exact HB.out))); (case side2 => exact HC1_0.out); rintro e w83 ⟨v3017, rfl, ho0, hb⟩; refine ⟨_, rfl, ?_⟩; have n0_ := Aside0.mk (Kd.R_elder' (by (with_reducible repeat (first | apply Kd.R_alloc | apply Kd.R_drewN | apply Kd.R_drew)); exact (Kd.R_mono (Kd.R_far (p := ⟨gb3015, 0, none⟩) (Kd.R_types HO3007.out BK3015.out (by decide)) (fun _ hk => hk.2) (.slice Ao78 t3012.length co78)) (fun _ h_ => h_.1))) (Kd.R_base ho0) hb); have n1_ := Aside0.mk (Kd.R_elder' (by (with_reducible repeat (first | apply Kd.R_alloc | apply Kd.R_drewN | apply Kd.R_drew)); exact (Kd.R_mono (Kd.R_far (p := ⟨gb3015, 0, none⟩) (Kd.R_types HO3010.out BK3015.out (by decide)) (fun _ hk => hk.2) (.slice Ao78 t3012.length co78)) (fun _ h_ => h_.1))) (Kd.R_base ho0) hb); have n2_ := Aside0.mk (Kd.R_elder' (by (with_reducible repeat (first | apply Kd.R_alloc | apply Kd.R_drewN | apply Kd.R_drew)); exact (Kd.R_mono (Kd.R_far (p := ⟨gb3015, 0, none⟩) (Kd.R_types HO3014.out BK3015.out (by decide)) (fun _ hk => hk.2) (.slice Ao78 t3012.length co78)) (fun _ h_ => h_.1))) (Kd.R_base ho0) hb); have n3_ := Aside0.mk (Kd.R_lower (Kd.R_new' (Kd.R_new' (Kd.R_new' ho0 (Kd.R_lt (by (with_reducible repeat (first | apply Kd.R_alloc | apply Kd.R_drewN | apply Kd.R_drew)); exact (Kd.R_mono (Kd.R_far (p := ⟨gb3015, 0, none⟩) (Kd.R_types HO3007.out BK3015.out (by decide)) (fun _ hk => hk.2) (.slice Ao78 t3012.length co78)) (fun _ h_ => h_.1))))) (Kd.R_lt (by (with_reducible repeat (first | apply Kd.R_alloc | apply Kd.R_drewN | apply Kd.R_drew)); exact (Kd.R_mono (Kd.R_far (p := ⟨gb3015, 0, none⟩) (Kd.R_types HO3010.out BK3015.out (by decide)) (fun _ hk => hk.2) (.slice Ao78 t3012.length co78)) (fun _ h_ => h_.1))))) (Kd.R_lt (by (with_reducible repeat (first | apply Kd.R_alloc | apply Kd.R_drewN | apply Kd.R_drew)); exact (Kd.R_mono (Kd.R_far (p := ⟨gb3015, 0, none⟩) (Kd.R_types HO3014.out BK3015.out (by decide)) (fun _ hk => hk.2) (.slice Ao78 t3012.length co78)) (fun _ h_ => h_.1))))) (below_size (by repeat (first | (with_reducible first | exact HB.out | apply below_alloc | apply pw_below_drewN | apply below_drew1 | refine below_set ?_ GE3001.out | refine below_set ?_ GE3002.out | refine below_set ?_ GE3015.out) | exact HB.out)))); have n4_ := Aside0.mk (blk_below (g := gb3001) (o := .cells #[.slice A0_0 l0_0.length c0_0] 24 (0, 0)) (by (with_reducible repeat (first | refine blk_drewN ?_ _ | refine blk_drew ?_ | refine blk_alloc ?_ _)); refine blk_far ?_ NB3001_3015.out _; (with_reducible repeat (first | refine blk_drewN ?_ _ | refine blk_drew ?_ | refine blk_alloc ?_ _)); exact BK3001.out) hb); have n5_ := Aside0.mk (blk_below (g := gb3002) (o := .cells #[.slice A1_0 l1_0.length c1_0] 24 (0, 0)) (by (with_reducible repeat (first | refine blk_drewN ?_ _ | refine blk_drew ?_ | refine blk_alloc ?_ _)); refine blk_far ?_ NB3002_3015.out _; (with_reducible repeat (first | refine blk_drewN ?_ _ | refine blk_drew ?_ | refine blk_alloc ?_ _)); exact BK3002.out) hb); have n6_ := Aside0.mk (blk_below (g := gb3015) (o := .cells #[.slice Ao78 t3012.length co78] 29 (0, 0)) (by (with_reducible repeat (first | refine blk_drewN ?_ _ | refine blk_drew ?_ | refine blk_alloc ?_ _)); refine blk_put (cs := #[.slice none 0 0]) ?_ 0 _ rfl; (with_reducible repeat (first | refine blk_drewN ?_ _ | refine blk_drew ?_ | refine blk_alloc ?_ _)); exact BK3015.out) hb); have n7_ := Aside0.mk (below_step (by repeat (first | (with_reducible first | exact HB.out | apply below_alloc | apply pw_below_drewN | apply below_drew1 | refine below_set ?_ GE3001.out | refine below_set ?_ GE3002.out | refine below_set ?_ GE3015.out) | exact HB.out)) hb); clear HO3007; clear HO3010; clear HO3014; clear BK3001; clear BK3002; clear BK3015; clear HB; have HO3007 := n0_; have HO3010 := n1_; have HO3014 := n2_; have HO3018 := n3_; have BK3001 := n4_; have BK3002 := n5_; have BK3015 := n6_; have HB := n7_; clear n0_ n1_ n2_ n3_ n4_ n5_ n6_ n7_; (try clear hb); (try clear hb2); (try clear hk); (try clear hi); (try clear ho0)) | ((with_reducible refine gate_dst (N := 8) rfl ?_); refine box_event ?hg (N := 8) ?hd (cs := #[.slice none 0 0]) (t := 29) ?hr ?_; (case hd => rfl); (case hg => rfl); (case hr => first | (go_simp; done) | (go_simp; rfl)); intro gb3019 hg w84 hbox hb; have n0_ := Aside0.mk (Kd.R_below (by (with_reducible repeat (first | apply Kd.R_alloc | apply Kd.R_drewN | apply Kd.R_drew)); exact HO3007.out) hb); have n1_ := Aside0.mk (Kd.R_below (by (with_reducible repeat (first | apply Kd.R_alloc | apply Kd.R_drewN | apply Kd.R_drew)); exact HO3010.out) hb); have n2_ := Aside0.mk (Kd.R_below (by (with_reducible repeat (first | apply Kd.R_alloc | apply Kd.R_drewN | apply Kd.R_drew)); exact HO3014.out) hb); have n3_ := Aside0.mk (Kd.R_below (by (with_reducible repeat (first | apply Kd.R_alloc | apply Kd.R_drewN | apply Kd.R_drew)); exact HO3018.out) hb); have n4_ := Aside0.mk (blk_below (g := gb3001) (o := .cells #[.slice A0_0 l0_0.length c0_0] 24 (0, 0)) (by (with_reducible repeat (first | refine blk_drewN ?_ _ | refine blk_drew ?_ | refine blk_alloc ?_ _)); exact BK3001.out) hb); have n5_ := Aside0.mk (blk_below (g := gb3002) (o := .cells #[.slice A1_0 l1_0.length c1_0] 24 (0, 0)) (by (with_reducible repeat (first | refine blk_drewN ?_ _ | refine blk_drew ?_ | refine blk_alloc ?_ _)); exact BK3002.out) hb); have n6_ := Aside0.mk (blk_below (g := gb3015) (o := .cells #[.slice Ao78 t3012.length co78] 29 (0, 0)) (by (with_reducible repeat (first | refine blk_drewN ?_ _ | refine blk_drew ?_ | refine blk_alloc ?_ _)); exact BK3015.out) hb); have n7_ := Aside0.mk (below_step (by repeat (first | (with_reducible first | exact HB.out | apply below_alloc | apply pw_below_drewN | apply below_drew1 | refine below_set ?_ GE3001.out | refine below_set ?_ GE3002.out | refine below_set ?_ GE3015.out) | exact HB.out)) hb); have n8_ := Aside0.mk (hbox); have n9_ := Aside0.mk ((by rw [hg]; exact (below_size (by repeat (first | (with_reducible first | exact HB.out | apply below_alloc | apply pw_below_drewN | apply below_drew1 | refine below_set ?_ GE3001.out | refine below_set ?_ GE3002.out | refine below_set ?_ GE3015.out) | exact HB.out))) : w.heap.size ≤ gb3019)); have n10_ := Aside0.mk ((by rw [hg]; exact (below_size (by repeat (first | (with_reducible first | exact HB.out | apply below_alloc | apply pw_below_drewN | apply below_drew1 | refine below_set ?_ GE3001.out | refine below_set ?_ GE3002.out | refine below_set ?_ GE3015.out) | exact HB.out))) : w.heap.size ≤ gb3019)); have n11_ := Aside0.mk ((by rw [hg]; exact Nat.ne_of_lt (blk_lt (g := gb3001) (o := .cells #[.slice A0_0 l0_0.length c0_0] 24 (0, 0)) (by (with_reducible repeat (first | refine blk_drewN ?_ _ | refine blk_drew ?_ | refine blk_alloc ?_ _)); exact BK3001.out)) : gb3001 ≠ gb3019)); have n12_ := Aside0.mk ((by rw [hg]; exact Nat.ne_of_gt (blk_lt (g := gb3001) (o := .cells #[.slice A0_0 l0_0.length c0_0] 24 (0, 0)) (by (with_reducible repeat (first | refine blk_drewN ?_ _ | refine blk_drew ?_ | refine blk_alloc ?_ _)); exact BK3001.out)) : gb3019 ≠ gb3001)); have n13_ := Aside0.mk ((by rw [hg]; exact Nat.ne_of_lt (blk_lt (g := gb3002) (o := .cells #[.slice A1_0 l1_0.length c1_0] 24 (0, 0)) (by (with_reducible repeat (first | refine blk_drewN ?_ _ | refine blk_drew ?_ | refine blk_alloc ?_ _)); exact BK3002.out)) : gb3002 ≠ gb3019)); have n14_ := Aside0.mk ((by rw [hg]; exact Nat.ne_of_gt (blk_lt (g := gb3002) (o := .cells #[.slice A1_0 l1_0.length c1_0] 24 (0, 0)) (by (with_reducible repeat (first | refine blk_drewN ?_ _ | refine blk_drew ?_ | refine blk_alloc ?_ _)); exact BK3002.out)) : gb3019 ≠ gb3002)); have n15_ := Aside0.mk ((by rw [hg]; exact Nat.ne_of_lt (blk_lt (g := gb3015) (o := .cells #[.slice Ao78 t3012.length co78] 29 (0, 0)) (by (with_reducible repeat (first | refine blk_drewN ?_ _ | refine blk_drew ?_ | refine blk_alloc ?_ _)); exact BK3015.out)) : gb3015 ≠ gb3019)); have n16_ := Aside0.mk ((by rw [hg]; exact Nat.ne_of_gt (blk_lt (g := gb3015) (o := .cells #[.slice Ao78 t3012.length co78] 29 (0, 0)) (by (with_reducible repeat (first | refine blk_drewN ?_ _ | refine blk_drew ?_ | refine blk_alloc ?_ _)); exact BK3015.out)) : gb3019 ≠ gb3015)); clear HO3007; clear HO3010; clear HO3014; clear HO3018; clear BK3001; clear BK3002; clear BK3015; clear HB; have HO3007 := n0_; have HO3010 := n1_; have HO3014 := n2_; have HO3018 := n3_; have BK3001 := n4_; have BK3002 := n5_; have BK3015 := n6_; have HB := n7_; have BK3019 := n8_; have GW3019 := n9_; have GE3019 := n10_; have NB3001_3019 := n11_; have NB3019_3001 := n12_; have NB3002_3019 := n13_; have NB3019_3002 := n14_; have NB3015_3019 := n15_; have NB3019_3015 := n16_; clear n0_ n1_ n2_ n3_ n4_ n5_ n6_ n7_ n8_ n9_ n10_ n11_ n12_ n13_ n14_ n15_ n16_; clear hb hbox hg; obtain ⟨Ao85, co85, eo85⟩ := Kd.R_slice HO3018.out; subst eo85; have hnb86 := NB3019_3001.out; have hnc86 := NB3001_3019.out; have hnb87 := NB3019_3002.out; have hnc87 := NB3002_3019.out; have hnb88 := NB3019_3015.out; have hnc88 := NB3015_3019.out; have hcz89_0 : w84.cell? ⟨gb3019, 0, none⟩ = some (.slice none 0 0) := (blk_cell BK3019.out 0).trans rfl; have hfz89_0 := blk_frozen BK3019.out 0; have hcz90_0 : w84.cell? ⟨gb3015, 0, none⟩ = some (.slice Ao78 t3012.length co78) := (blk_cell BK3015.out 0).trans rfl; have hfz90_0 := blk_frozen BK3015.out 0) | ((with_reducible refine gate_callee (f := 18) rfl ?_); refine goesL_ (some 31) rfl rfl Try.func18 (by kernel_rfl) rfl #[.agg #[.slice Ao78 t3012.length co78], .agg #[.slice Ao85 t3016.length co85]] rfl (by (try simp only [List.map_toArray, List.map_cons, List.map_nil]); first | done | rfl | (simp only [List.length_drop, List.length_take]; rfl)) ?_; (with_reducible refine (impl_EqualProblem.calls k _ _ t3012 _ _ t3016 t3020 _ ?side1 ?side2 ?side3 ?side4 A24.out).mono ?_); (case side1 => refine (Kd.R_reads' (e := 44) (base := w.heap.size) (ok := fun k_ => (((True ∧ some k_ ≠ (.slice Ao72 t3005.length co72 : Value).ownBlock) ∧ some k_ ≠ (.slice Ao73 t3008.length co73 : Value).ownBlock) ∧ some k_ ≠ (.slice Ao85 t3016.length co85 : Value).ownBlock)) (n := t3012.length) (c := co78) ?_).2.2; exact (by (with_reducible repeat (first | apply Kd.R_alloc | apply Kd.R_drewN | apply Kd.R_drew)); exact (Kd.R_mono (Kd.R_far (p := ⟨gb3019, 0, none⟩) (Kd.R_types HO3014.out BK3019.out (by decide)) (fun _ hk => hk.2) (.slice Ao85 t3016.length co85)) (fun _ h_ => h_.1)))); (case side2 => exact (Kd.R_reads' HO3014.out).2.1); (case side3 => refine (Kd.R_reads' (e := 44) (base := w.heap.size) (ok := fun k_ => (((True ∧ some k_ ≠ (.slice Ao72 t3005.length co72 : Value).ownBlock) ∧ some k_ ≠ (.slice Ao73 t3008.length co73 : Value).ownBlock) ∧ some k_ ≠ (.slice Ao78 t3012.length co78 : Value).ownBlock)) (n := t3016.length) (c := co85) ?_).2.2; exact (by (with_reducible repeat (first | apply Kd.R_alloc | apply Kd.R_drewN | apply Kd.R_drew)); exact (Kd.R_mono (Kd.R_far (p := ⟨gb3019, 0, none⟩) (Kd.R_types HO3018.out BK3019.out (by decide)) (fun _ hk => hk.2) (.slice Ao85 t3016.length co85)) (fun _ h_ => h_.1)))); (case side4 => exact (Kd.R_reads' HO3018.out).2.1); rintro e w91 ⟨rfl, hb⟩; refine ⟨_, rfl, ?_⟩; have n0_ := Aside0.mk (Kd.R_below (by (with_reducible repeat (first | apply Kd.R_alloc | apply Kd.R_drewN | apply Kd.R_drew)); exact (Kd.R_mono (Kd.R_far (p := ⟨gb3019, 0, none⟩) (Kd.R_types HO3007.out BK3019.out (by decide)) (fun _ hk => hk.2) (.slice Ao85 t3016.length co85)) (fun _ h_ => h_.1))) hb); have n1_ := Aside0.mk (Kd.R_below (by (with_reducible repeat (first | apply Kd.R_alloc | apply Kd.R_drewN | apply Kd.R_drew)); exact (Kd.R_mono (Kd.R_far (p := ⟨gb3019, 0, none⟩) (Kd.R_types HO3010.out BK3019.out (by decide)) (fun _ hk => hk.2) (.slice Ao85 t3016.length co85)) (fun _ h_ => h_.1))) hb); have n2_ := Aside0.mk (Kd.R_below (by (with_reducible repeat (first | apply Kd.R_alloc | apply Kd.R_drewN | apply Kd.R_drew)); exact (Kd.R_mono (Kd.R_far (p := ⟨gb3019, 0, none⟩) (Kd.R_types HO3014.out BK3019.out (by decide)) (fun _ hk => hk.2) (.slice Ao85 t3016.length co85)) (fun _ h_ => h_.1))) hb); have n3_ := Aside0.mk (Kd.R_below (by (with_reducible repeat (first | apply Kd.R_alloc | apply Kd.R_drewN | apply Kd.R_drew)); exact (Kd.R_mono (Kd.R_far (p := ⟨gb3019, 0, none⟩) (Kd.R_types HO3018.out BK3019.out (by decide)) (fun _ hk => hk.2) (.slice Ao85 t3016.length co85)) (fun _ h_ => h_.1))) hb); have n4_ := Aside0.mk (blk_below (g := gb3001) (o := .cells #[.slice A0_0 l0_0.length c0_0] 24 (0, 0)) (by (with_reducible repeat (first | refine blk_drewN ?_ _ | refine blk_drew ?_ | refine blk_alloc ?_ _)); refine blk_far ?_ NB3001_3019.out _; (with_reducible repeat (first | refine blk_drewN ?_ _ | refine blk_drew ?_ | refine blk_alloc ?_ _)); exact BK3001.out) hb); have n5_ := Aside0.mk (blk_below (g := gb3002) (o := .cells #[.slice A1_0 l1_0.length c1_0] 24 (0, 0)) (by (with_reducible repeat (first | refine blk_drewN ?_ _ | refine blk_drew ?_ | refine blk_alloc ?_ _)); refine blk_far ?_ NB3002_3019.out _; (with_reducible repeat (first | refine blk_drewN ?_ _ | refine blk_drew ?_ | refine blk_alloc ?_ _)); exact BK3002.out) hb); have n6_ := Aside0.mk (blk_below (g := gb3015) (o := .cells #[.slice Ao78 t3012.length co78] 29 (0, 0)) (by (with_reducible repeat (first | refine blk_drewN ?_ _ | refine blk_drew ?_ | refine blk_alloc ?_ _)); refine blk_far ?_ NB3015_3019.out _; (with_reducible repeat (first | refine blk_drewN ?_ _ | refine blk_drew ?_ | refine blk_alloc ?_ _)); exact BK3015.out) hb); have n7_ := Aside0.mk (blk_below (g := gb3019) (o := .cells #[.slice Ao85 t3016.length co85] 29 (0, 0)) (by (with_reducible repeat (first | refine blk_drewN ?_ _ | refine blk_drew ?_ | refine blk_alloc ?_ _)); refine blk_put (cs := #[.slice none 0 0]) ?_ 0 _ rfl; (with_reducible repeat (first | refine blk_drewN ?_ _ | refine blk_drew ?_ | refine blk_alloc ?_ _)); exact BK3019.out) hb); have n8_ := Aside0.mk (below_step (by repeat (first | (with_reducible first | exact HB.out | apply below_alloc | apply pw_below_drewN | apply below_drew1 | refine below_set ?_ GE3001.out | refine below_set ?_ GE3002.out | refine below_set ?_ GE3015.out | refine below_set ?_ GE3019.out) | exact HB.out)) hb); clear HO3007; clear HO3010; clear HO3014; clear HO3018; clear BK3001; clear BK3002; clear BK3015; clear BK3019; clear HB; have HO3007 := n0_; have HO3010 := n1_; have HO3014 := n2_; have HO3018 := n3_; have BK3001 := n4_; have BK3002 := n5_; have BK3015 := n6_; have BK3019 := n7_; have HB := n8_; clear n0_ n1_ n2_ n3_ n4_ n5_ n6_ n7_ n8_; (try clear hb); (try clear hb2); (try clear hk); (try clear hi)))
            have n0_ := Aside0.mk (Kd.R_drew HO3007.out)
            have n1_ := Aside0.mk (Kd.R_drew HO3010.out)
            have n2_ := Aside0.mk (Kd.R_drew HO3014.out)
            have n3_ := Aside0.mk (Kd.R_drew HO3018.out)
            have n4_ := Aside0.mk (blk_drew BK3001.out)
            have n5_ := Aside0.mk (blk_drew BK3002.out)
            have n6_ := Aside0.mk (blk_drew BK3015.out)
            have n7_ := Aside0.mk (blk_drew BK3019.out)
            have n8_ := Aside0.mk (below_drew1 HB.out)
            clear HO3007
            clear HO3010
            clear HO3014
            clear HO3018
            clear BK3001
            clear BK3002
            clear BK3015
            clear BK3019
            clear HB
            have HO3007 := n0_
            have HO3010 := n1_
            have HO3014 := n2_
            have HO3018 := n3_
            have BK3001 := n4_
            have BK3002 := n5_
            have BK3015 := n6_
            have BK3019 := n7_
            have HB := n8_
            clear n0_ n1_ n2_ n3_ n4_ n5_ n6_ n7_ n8_
            refine start_ (n := 5) (S := fun w' => w'.cell? ⟨gb3015, 0, none⟩ = some (.slice Ao78 t3012.length co78) ∧ w'.cell? ⟨gb3001, 0, none⟩ = some (.slice A0_0 l0_0.length c0_0)) (ds := []) #[false, false, false, false, false] (by kernel_rfl) rfl rfl ⟨(blk_cell BK3015.out 0).trans rfl, (blk_cell BK3001.out 0).trans rfl⟩ (fun hHeld => ?_)
            generalize w91.drew = w92 at HO3007 HO3010 HO3014 HO3018 BK3001 BK3002 BK3015 BK3019 HB hHeld ⊢
            refine take_ (i := 0) (N := some 35) (v := ?_) (a' := ?_) #[true, false, false, false, false] rfl rfl (by kernel_rfl) (fun _ _ _ h => h) (Or.inl ⟨by rfl, ?_⟩) hHeld ?_ ?_
            rotate_left
            · rintro w' ⟨s0, s1⟩
              go_simp
              first | with_reducible rfl | (rw [if_neg (by omega)]; done)
            rotate_left
            · simp only [Act.put, List.setIfInBounds_toArray, List.set_cons_zero, List.set_cons_succ, i64_w, i32_w]
              rfl
            refine take_ (i := 1) (N := some 36) (v := ?_) (a' := ?_) #[true, true, false, false, false] rfl rfl (by kernel_rfl) (fun _ _ _ h => h) (Or.inl ⟨by rfl, ?_⟩) hHeld ?_ ?_
            rotate_left
            · rintro w' ⟨s0, s1⟩
              go_simp
              first | with_reducible rfl | (rw [if_neg (by omega)]; done)
            rotate_left
            · simp only [Act.put, List.setIfInBounds_toArray, List.set_cons_zero, List.set_cons_succ, i64_w, i32_w]
              rfl
            refine one_ (i := 2) (N := some 37) #[true, true, true, false, false] rfl rfl (by kernel_rfl) (by decide) (fun K hK => ?_)
            refine goes_ Try.func17 (by kernel_rfl) rfl #[.agg #[.slice A0_0 l0_0.length c0_0]] (by rfl) rfl rfl (by (try simp only [List.map_toArray, List.map_cons, List.map_nil]); first | done | rfl | (simp only [List.length_drop, List.length_take]; rfl)) ?_
            with_reducible refine (laws_toProblem.calls k _ _ l0_0 t3021 _ ?side1 ?side2 A56.out).mono ?_
            (case side1 => repeat (first | exact (Kd.C_below HR0_0.out HB.out) | (with_reducible refine Kd.C_alloc ?_ _) | (with_reducible refine Kd.C_drewN ?_ _) | (with_reducible refine Kd.C_drew ?_)))
            (case side2 => exact HC0_0.out)
            rintro e w93 ⟨v3022, rfl, ho0, hb⟩
            refine ⟨_, rfl, ?_⟩
            have n0_ := Aside0.mk (Kd.R_elder' (by (with_reducible repeat (first | apply Kd.R_alloc | apply Kd.R_drewN | apply Kd.R_drew)); exact HO3007.out) (Kd.R_base ho0) hb)
            have n1_ := Aside0.mk (Kd.R_elder' (by (with_reducible repeat (first | apply Kd.R_alloc | apply Kd.R_drewN | apply Kd.R_drew)); exact HO3010.out) (Kd.R_base ho0) hb)
            have n2_ := Aside0.mk (Kd.R_elder' (by (with_reducible repeat (first | apply Kd.R_alloc | apply Kd.R_drewN | apply Kd.R_drew)); exact HO3014.out) (Kd.R_base ho0) hb)
            have n3_ := Aside0.mk (Kd.R_elder' (by (with_reducible repeat (first | apply Kd.R_alloc | apply Kd.R_drewN | apply Kd.R_drew)); exact HO3018.out) (Kd.R_base ho0) hb)
            have n4_ := Aside0.mk (Kd.R_lower (Kd.R_new' (Kd.R_new' (Kd.R_new' (Kd.R_new' ho0 (Kd.R_lt (by (with_reducible repeat (first | apply Kd.R_alloc | apply Kd.R_drewN | apply Kd.R_drew)); exact HO3007.out))) (Kd.R_lt (by (with_reducible repeat (first | apply Kd.R_alloc | apply Kd.R_drewN | apply Kd.R_drew)); exact HO3010.out))) (Kd.R_lt (by (with_reducible repeat (first | apply Kd.R_alloc | apply Kd.R_drewN | apply Kd.R_drew)); exact HO3014.out))) (Kd.R_lt (by (with_reducible repeat (first | apply Kd.R_alloc | apply Kd.R_drewN | apply Kd.R_drew)); exact HO3018.out))) (below_size (by repeat (first | (with_reducible first | exact HB.out | apply below_alloc | apply pw_below_drewN | apply below_drew1 | refine below_set ?_ GE3001.out | refine below_set ?_ GE3002.out | refine below_set ?_ GE3015.out | refine below_set ?_ GE3019.out) | exact HB.out))))
            have n5_ := Aside0.mk (blk_below (g := gb3001) (o := .cells #[.slice A0_0 l0_0.length c0_0] 24 (0, 0)) (by (with_reducible repeat (first | refine blk_drewN ?_ _ | refine blk_drew ?_ | refine blk_alloc ?_ _)); exact BK3001.out) hb)
            have n6_ := Aside0.mk (blk_below (g := gb3002) (o := .cells #[.slice A1_0 l1_0.length c1_0] 24 (0, 0)) (by (with_reducible repeat (first | refine blk_drewN ?_ _ | refine blk_drew ?_ | refine blk_alloc ?_ _)); exact BK3002.out) hb)
            have n7_ := Aside0.mk (blk_below (g := gb3015) (o := .cells #[.slice Ao78 t3012.length co78] 29 (0, 0)) (by (with_reducible repeat (first | refine blk_drewN ?_ _ | refine blk_drew ?_ | refine blk_alloc ?_ _)); exact BK3015.out) hb)
            have n8_ := Aside0.mk (blk_below (g := gb3019) (o := .cells #[.slice Ao85 t3016.length co85] 29 (0, 0)) (by (with_reducible repeat (first | refine blk_drewN ?_ _ | refine blk_drew ?_ | refine blk_alloc ?_ _)); exact BK3019.out) hb)
            have n9_ := Aside0.mk (below_step (by repeat (first | (with_reducible first | exact HB.out | apply below_alloc | apply pw_below_drewN | apply below_drew1 | refine below_set ?_ GE3001.out | refine below_set ?_ GE3002.out | refine below_set ?_ GE3015.out | refine below_set ?_ GE3019.out) | exact HB.out)) hb)
            clear HO3007
            clear HO3010
            clear HO3014
            clear HO3018
            clear BK3001
            clear BK3002
            clear BK3015
            clear BK3019
            clear HB
            have HO3007 := n0_
            have HO3010 := n1_
            have HO3014 := n2_
            have HO3018 := n3_
            have HO3023 := n4_
            have BK3001 := n5_
            have BK3002 := n6_
            have BK3015 := n7_
            have BK3019 := n8_
            have HB := n9_
            clear n0_ n1_ n2_ n3_ n4_ n5_ n6_ n7_ n8_ n9_
            (try clear hb)
            (try clear hb2)
            (try clear hk)
            (try clear hi)
            (try clear ho0)
            obtain ⟨Ao94, co94, eo94⟩ := Kd.R_slice HO3023.out
            (first | subst eo94 | (injection eo94 with f1_ f2_ f3_; have f4_ := f1_.symm; have f5_ := f3_.symm; clear f1_ f2_ f3_; subst f4_; subst f5_))
            refine hK.out _ _ ⟨(blk_cell BK3015.out 0).trans rfl, (blk_cell BK3001.out 0).trans rfl⟩ (fun hHeld => ?_)
            clear hK K
            refine norm_ (a' := ?_) ?_ ?_
            rotate_left
            · show Act.put _ (some 37) _ = _
              simp only [Act.put, List.setIfInBounds_toArray, List.set_cons_zero, List.set_cons_succ, i64_w, i32_w]
              rfl
            refine one_ (i := 3) (N := some 38) #[true, true, true, true, false] rfl rfl (by kernel_rfl) (by decide) (fun K hK => ?_)
            refine goes_ Try.func19 (by kernel_rfl) rfl #[.agg #[.slice Ao78 t3012.length co78], .agg #[.slice Ao94 t3021.length co94]] (by rfl) rfl rfl (by (try simp only [List.map_toArray, List.map_cons, List.map_nil]); first | done | rfl | (simp only [List.length_drop, List.length_take]; rfl)) ?_
            with_reducible refine (laws_eqProblem.calls k _ _ t3012 _ _ t3021 true _ ?side1 ?side2 ?side3 ?side4 A57.out).mono ?_
            (case side1 => repeat (first | exact (Kd.R_reads' HO3014.out).2.2 | (with_reducible refine Kd.C_alloc ?_ _) | (with_reducible refine Kd.C_drewN ?_ _) | (with_reducible refine Kd.C_drew ?_)))
            (case side2 => exact (Kd.R_reads' HO3014.out).2.1)
            (case side3 => repeat (first | exact (Kd.R_reads' HO3023.out).2.2 | (with_reducible refine Kd.C_alloc ?_ _) | (with_reducible refine Kd.C_drewN ?_ _) | (with_reducible refine Kd.C_drew ?_)))
            (case side4 => exact (Kd.R_reads' HO3023.out).2.1)
            rintro e w95 ⟨rfl, hb⟩
            refine ⟨_, rfl, ?_⟩
            have n0_ := Aside0.mk (Kd.R_below (by (with_reducible repeat (first | apply Kd.R_alloc | apply Kd.R_drewN | apply Kd.R_drew)); exact HO3007.out) hb)
            have n1_ := Aside0.mk (Kd.R_below (by (with_reducible repeat (first | apply Kd.R_alloc | apply Kd.R_drewN | apply Kd.R_drew)); exact HO3010.out) hb)
            have n2_ := Aside0.mk (Kd.R_below (by (with_reducible repeat (first | apply Kd.R_alloc | apply Kd.R_drewN | apply Kd.R_drew)); exact HO3014.out) hb)
            have n3_ := Aside0.mk (Kd.R_below (by (with_reducible repeat (first | apply Kd.R_alloc | apply Kd.R_drewN | apply Kd.R_drew)); exact HO3018.out) hb)
            have n4_ := Aside0.mk (Kd.R_below (by (with_reducible repeat (first | apply Kd.R_alloc | apply Kd.R_drewN | apply Kd.R_drew)); exact HO3023.out) hb)
            have n5_ := Aside0.mk (blk_below (g := gb3001) (o := .cells #[.slice A0_0 l0_0.length c0_0] 24 (0, 0)) (by (with_reducible repeat (first | refine blk_drewN ?_ _ | refine blk_drew ?_ | refine blk_alloc ?_ _)); exact BK3001.out) hb)
            have n6_ := Aside0.mk (blk_below (g := gb3002) (o := .cells #[.slice A1_0 l1_0.length c1_0] 24 (0, 0)) (by (with_reducible repeat (first | refine blk_drewN ?_ _ | refine blk_drew ?_ | refine blk_alloc ?_ _)); exact BK3002.out) hb)
            have n7_ := Aside0.mk (blk_below (g := gb3015) (o := .cells #[.slice Ao78 t3012.length co78] 29 (0, 0)) (by (with_reducible repeat (first | refine blk_drewN ?_ _ | refine blk_drew ?_ | refine blk_alloc ?_ _)); exact BK3015.out) hb)
            have n8_ := Aside0.mk (blk_below (g := gb3019) (o := .cells #[.slice Ao85 t3016.length co85] 29 (0, 0)) (by (with_reducible repeat (first | refine blk_drewN ?_ _ | refine blk_drew ?_ | refine blk_alloc ?_ _)); exact BK3019.out) hb)
            have n9_ := Aside0.mk (below_step (by repeat (first | (with_reducible first | exact HB.out | apply below_alloc | apply pw_below_drewN | apply below_drew1 | refine below_set ?_ GE3001.out | refine below_set ?_ GE3002.out | refine below_set ?_ GE3015.out | refine below_set ?_ GE3019.out) | exact HB.out)) hb)
            clear HO3007
            clear HO3010
            clear HO3014
            clear HO3018
            clear HO3023
            clear BK3001
            clear BK3002
            clear BK3015
            clear BK3019
            clear HB
            have HO3007 := n0_
            have HO3010 := n1_
            have HO3014 := n2_
            have HO3018 := n3_
            have HO3023 := n4_
            have BK3001 := n5_
            have BK3002 := n6_
            have BK3015 := n7_
            have BK3019 := n8_
            have HB := n9_
            clear n0_ n1_ n2_ n3_ n4_ n5_ n6_ n7_ n8_ n9_
            (try clear hb)
            (try clear hb2)
            (try clear hk)
            (try clear hi)
            refine hK.out _ _ ⟨(blk_cell BK3015.out 0).trans rfl, (blk_cell BK3001.out 0).trans rfl⟩ (fun hHeld => ?_)
            clear hK K
            refine norm_ (a' := ?_) ?_ ?_
            rotate_left
            · show Act.put _ (some 38) _ = _
              simp only [Act.put, List.setIfInBounds_toArray, List.set_cons_zero, List.set_cons_succ, i64_w, i32_w]
              rfl
            refine pure_ (i := 4) (N := some 39) (v := ?_) (a' := ?_) #[true, true, true, true, true] rfl rfl (by kernel_rfl) (fun _ _ _ h => h) (Or.inl ⟨by rfl, ?_⟩) ?_ ?_
            rotate_left
            · intro w'
              go_simp
              first | with_reducible rfl | (rw [if_neg (by omega)]; done)
            rotate_left
            · simp only [Act.put, List.setIfInBounds_toArray, List.set_cons_zero, List.set_cons_succ, i64_w, i32_w]
              rfl
            refine done_ (by kernel_rfl) ?_
            try go_wp2
            have n0_ := Aside0.mk (Kd.R_drew HO3007.out)
            have n1_ := Aside0.mk (Kd.R_drew HO3010.out)
            have n2_ := Aside0.mk (Kd.R_drew HO3014.out)
            have n3_ := Aside0.mk (Kd.R_drew HO3018.out)
            have n4_ := Aside0.mk (Kd.R_drew HO3023.out)
            have n5_ := Aside0.mk (blk_drew BK3001.out)
            have n6_ := Aside0.mk (blk_drew BK3002.out)
            have n7_ := Aside0.mk (blk_drew BK3015.out)
            have n8_ := Aside0.mk (blk_drew BK3019.out)
            have n9_ := Aside0.mk (below_drew1 HB.out)
            clear HO3007
            clear HO3010
            clear HO3014
            clear HO3018
            clear HO3023
            clear BK3001
            clear BK3002
            clear BK3015
            clear BK3019
            clear HB
            have HO3007 := n0_
            have HO3010 := n1_
            have HO3014 := n2_
            have HO3018 := n3_
            have HO3023 := n4_
            have BK3001 := n5_
            have BK3002 := n6_
            have BK3015 := n7_
            have BK3019 := n8_
            have HB := n9_
            clear n0_ n1_ n2_ n3_ n4_ n5_ n6_ n7_ n8_ n9_
            refine start_ (n := 5) (S := fun w' => w'.cell? ⟨gb3019, 0, none⟩ = some (.slice Ao85 t3016.length co85) ∧ w'.cell? ⟨gb3002, 0, none⟩ = some (.slice A1_0 l1_0.length c1_0)) (ds := []) #[false, false, false, false, false] (by kernel_rfl) rfl rfl ⟨(blk_cell BK3019.out 0).trans rfl, (blk_cell BK3002.out 0).trans rfl⟩ (fun hHeld => ?_)
            generalize w95.drew = w96 at HO3007 HO3010 HO3014 HO3018 HO3023 BK3001 BK3002 BK3015 BK3019 HB hHeld ⊢
            refine take_ (i := 0) (N := some 40) (v := ?_) (a' := ?_) #[true, false, false, false, false] rfl rfl (by kernel_rfl) (fun _ _ _ h => h) (Or.inl ⟨by rfl, ?_⟩) hHeld ?_ ?_
            rotate_left
            · rintro w' ⟨s0, s1⟩
              go_simp
              first | with_reducible rfl | (rw [if_neg (by omega)]; done)
            rotate_left
            · simp only [Act.put, List.setIfInBounds_toArray, List.set_cons_zero, List.set_cons_succ, i64_w, i32_w]
              rfl
            refine take_ (i := 1) (N := some 41) (v := ?_) (a' := ?_) #[true, true, false, false, false] rfl rfl (by kernel_rfl) (fun _ _ _ h => h) (Or.inl ⟨by rfl, ?_⟩) hHeld ?_ ?_
            rotate_left
            · rintro w' ⟨s0, s1⟩
              go_simp
              first | with_reducible rfl | (rw [if_neg (by omega)]; done)
            rotate_left
            · simp only [Act.put, List.setIfInBounds_toArray, List.set_cons_zero, List.set_cons_succ, i64_w, i32_w]
              rfl
            refine one_ (i := 2) (N := some 42) #[true, true, true, false, false] rfl rfl (by kernel_rfl) (by decide) (fun K hK => ?_)
            refine goes_ Try.func17 (by kernel_rfl) rfl #[.agg #[.slice A1_0 l1_0.length c1_0]] (by rfl) rfl rfl (by (try simp only [List.map_toArray, List.map_cons, List.map_nil]); first | done | rfl | (simp only [List.length_drop, List.length_take]; rfl)) ?_
            with_reducible refine (laws_toProblem.calls k _ _ l1_0 t3025 _ ?side1 ?side2 A59.out).mono ?_
            (case side1 => repeat (first | exact (Kd.C_below HR1_0.out HB.out) | (with_reducible refine Kd.C_alloc ?_ _) | (with_reducible refine Kd.C_drewN ?_ _) | (with_reducible refine Kd.C_drew ?_)))
            (case side2 => exact HC1_0.out)
            rintro e w97 ⟨v3026, rfl, ho0, hb⟩
            refine ⟨_, rfl, ?_⟩
            have n0_ := Aside0.mk (Kd.R_elder' (by (with_reducible repeat (first | apply Kd.R_alloc | apply Kd.R_drewN | apply Kd.R_drew)); exact HO3007.out) (Kd.R_base ho0) hb)
            have n1_ := Aside0.mk (Kd.R_elder' (by (with_reducible repeat (first | apply Kd.R_alloc | apply Kd.R_drewN | apply Kd.R_drew)); exact HO3010.out) (Kd.R_base ho0) hb)
            have n2_ := Aside0.mk (Kd.R_elder' (by (with_reducible repeat (first | apply Kd.R_alloc | apply Kd.R_drewN | apply Kd.R_drew)); exact HO3014.out) (Kd.R_base ho0) hb)
            have n3_ := Aside0.mk (Kd.R_elder' (by (with_reducible repeat (first | apply Kd.R_alloc | apply Kd.R_drewN | apply Kd.R_drew)); exact HO3018.out) (Kd.R_base ho0) hb)
            have n4_ := Aside0.mk (Kd.R_elder' (by (with_reducible repeat (first | apply Kd.R_alloc | apply Kd.R_drewN | apply Kd.R_drew)); exact HO3023.out) (Kd.R_base ho0) hb)
            have n5_ := Aside0.mk (Kd.R_lower (Kd.R_new' (Kd.R_new' (Kd.R_new' (Kd.R_new' (Kd.R_new' ho0 (Kd.R_lt (by (with_reducible repeat (first | apply Kd.R_alloc | apply Kd.R_drewN | apply Kd.R_drew)); exact HO3007.out))) (Kd.R_lt (by (with_reducible repeat (first | apply Kd.R_alloc | apply Kd.R_drewN | apply Kd.R_drew)); exact HO3010.out))) (Kd.R_lt (by (with_reducible repeat (first | apply Kd.R_alloc | apply Kd.R_drewN | apply Kd.R_drew)); exact HO3014.out))) (Kd.R_lt (by (with_reducible repeat (first | apply Kd.R_alloc | apply Kd.R_drewN | apply Kd.R_drew)); exact HO3018.out))) (Kd.R_lt (by (with_reducible repeat (first | apply Kd.R_alloc | apply Kd.R_drewN | apply Kd.R_drew)); exact HO3023.out))) (below_size (by repeat (first | (with_reducible first | exact HB.out | apply below_alloc | apply pw_below_drewN | apply below_drew1 | refine below_set ?_ GE3001.out | refine below_set ?_ GE3002.out | refine below_set ?_ GE3015.out | refine below_set ?_ GE3019.out) | exact HB.out))))
            have n6_ := Aside0.mk (blk_below (g := gb3001) (o := .cells #[.slice A0_0 l0_0.length c0_0] 24 (0, 0)) (by (with_reducible repeat (first | refine blk_drewN ?_ _ | refine blk_drew ?_ | refine blk_alloc ?_ _)); exact BK3001.out) hb)
            have n7_ := Aside0.mk (blk_below (g := gb3002) (o := .cells #[.slice A1_0 l1_0.length c1_0] 24 (0, 0)) (by (with_reducible repeat (first | refine blk_drewN ?_ _ | refine blk_drew ?_ | refine blk_alloc ?_ _)); exact BK3002.out) hb)
            have n8_ := Aside0.mk (blk_below (g := gb3015) (o := .cells #[.slice Ao78 t3012.length co78] 29 (0, 0)) (by (with_reducible repeat (first | refine blk_drewN ?_ _ | refine blk_drew ?_ | refine blk_alloc ?_ _)); exact BK3015.out) hb)
            have n9_ := Aside0.mk (blk_below (g := gb3019) (o := .cells #[.slice Ao85 t3016.length co85] 29 (0, 0)) (by (with_reducible repeat (first | refine blk_drewN ?_ _ | refine blk_drew ?_ | refine blk_alloc ?_ _)); exact BK3019.out) hb)
            have n10_ := Aside0.mk (below_step (by repeat (first | (with_reducible first | exact HB.out | apply below_alloc | apply pw_below_drewN | apply below_drew1 | refine below_set ?_ GE3001.out | refine below_set ?_ GE3002.out | refine below_set ?_ GE3015.out | refine below_set ?_ GE3019.out) | exact HB.out)) hb)
            clear HO3007
            clear HO3010
            clear HO3014
            clear HO3018
            clear HO3023
            clear BK3001
            clear BK3002
            clear BK3015
            clear BK3019
            clear HB
            have HO3007 := n0_
            have HO3010 := n1_
            have HO3014 := n2_
            have HO3018 := n3_
            have HO3023 := n4_
            have HO3027 := n5_
            have BK3001 := n6_
            have BK3002 := n7_
            have BK3015 := n8_
            have BK3019 := n9_
            have HB := n10_
            clear n0_ n1_ n2_ n3_ n4_ n5_ n6_ n7_ n8_ n9_ n10_
            (try clear hb)
            (try clear hb2)
            (try clear hk)
            (try clear hi)
            (try clear ho0)
            obtain ⟨Ao98, co98, eo98⟩ := Kd.R_slice HO3027.out
            (first | subst eo98 | (injection eo98 with f1_ f2_ f3_; have f4_ := f1_.symm; have f5_ := f3_.symm; clear f1_ f2_ f3_; subst f4_; subst f5_))
            refine hK.out _ _ ⟨(blk_cell BK3019.out 0).trans rfl, (blk_cell BK3002.out 0).trans rfl⟩ (fun hHeld => ?_)
            clear hK K
            refine norm_ (a' := ?_) ?_ ?_
            rotate_left
            · show Act.put _ (some 42) _ = _
              simp only [Act.put, List.setIfInBounds_toArray, List.set_cons_zero, List.set_cons_succ, i64_w, i32_w]
              rfl
            refine one_ (i := 3) (N := some 43) #[true, true, true, true, false] rfl rfl (by kernel_rfl) (by decide) (fun K hK => ?_)
            refine goes_ Try.func19 (by kernel_rfl) rfl #[.agg #[.slice Ao85 t3016.length co85], .agg #[.slice Ao98 t3025.length co98]] (by rfl) rfl rfl (by (try simp only [List.map_toArray, List.map_cons, List.map_nil]); first | done | rfl | (simp only [List.length_drop, List.length_take]; rfl)) ?_
            with_reducible refine (laws_eqProblem.calls k _ _ t3016 _ _ t3025 true _ ?side1 ?side2 ?side3 ?side4 A60.out).mono ?_
            (case side1 => repeat (first | exact (Kd.R_reads' HO3018.out).2.2 | (with_reducible refine Kd.C_alloc ?_ _) | (with_reducible refine Kd.C_drewN ?_ _) | (with_reducible refine Kd.C_drew ?_)))
            (case side2 => exact (Kd.R_reads' HO3018.out).2.1)
            (case side3 => repeat (first | exact (Kd.R_reads' HO3027.out).2.2 | (with_reducible refine Kd.C_alloc ?_ _) | (with_reducible refine Kd.C_drewN ?_ _) | (with_reducible refine Kd.C_drew ?_)))
            (case side4 => exact (Kd.R_reads' HO3027.out).2.1)
            rintro e w99 ⟨rfl, hb⟩
            refine ⟨_, rfl, ?_⟩
            have n0_ := Aside0.mk (Kd.R_below (by (with_reducible repeat (first | apply Kd.R_alloc | apply Kd.R_drewN | apply Kd.R_drew)); exact HO3007.out) hb)
            have n1_ := Aside0.mk (Kd.R_below (by (with_reducible repeat (first | apply Kd.R_alloc | apply Kd.R_drewN | apply Kd.R_drew)); exact HO3010.out) hb)
            have n2_ := Aside0.mk (Kd.R_below (by (with_reducible repeat (first | apply Kd.R_alloc | apply Kd.R_drewN | apply Kd.R_drew)); exact HO3014.out) hb)
            have n3_ := Aside0.mk (Kd.R_below (by (with_reducible repeat (first | apply Kd.R_alloc | apply Kd.R_drewN | apply Kd.R_drew)); exact HO3018.out) hb)
            have n4_ := Aside0.mk (Kd.R_below (by (with_reducible repeat (first | apply Kd.R_alloc | apply Kd.R_drewN | apply Kd.R_drew)); exact HO3023.out) hb)
            have n5_ := Aside0.mk (Kd.R_below (by (with_reducible repeat (first | apply Kd.R_alloc | apply Kd.R_drewN | apply Kd.R_drew)); exact HO3027.out) hb)
            have n6_ := Aside0.mk (blk_below (g := gb3001) (o := .cells #[.slice A0_0 l0_0.length c0_0] 24 (0, 0)) (by (with_reducible repeat (first | refine blk_drewN ?_ _ | refine blk_drew ?_ | refine blk_alloc ?_ _)); exact BK3001.out) hb)
            have n7_ := Aside0.mk (blk_below (g := gb3002) (o := .cells #[.slice A1_0 l1_0.length c1_0] 24 (0, 0)) (by (with_reducible repeat (first | refine blk_drewN ?_ _ | refine blk_drew ?_ | refine blk_alloc ?_ _)); exact BK3002.out) hb)
            have n8_ := Aside0.mk (blk_below (g := gb3015) (o := .cells #[.slice Ao78 t3012.length co78] 29 (0, 0)) (by (with_reducible repeat (first | refine blk_drewN ?_ _ | refine blk_drew ?_ | refine blk_alloc ?_ _)); exact BK3015.out) hb)
            have n9_ := Aside0.mk (blk_below (g := gb3019) (o := .cells #[.slice Ao85 t3016.length co85] 29 (0, 0)) (by (with_reducible repeat (first | refine blk_drewN ?_ _ | refine blk_drew ?_ | refine blk_alloc ?_ _)); exact BK3019.out) hb)
            have n10_ := Aside0.mk (below_step (by repeat (first | (with_reducible first | exact HB.out | apply below_alloc | apply pw_below_drewN | apply below_drew1 | refine below_set ?_ GE3001.out | refine below_set ?_ GE3002.out | refine below_set ?_ GE3015.out | refine below_set ?_ GE3019.out) | exact HB.out)) hb)
            clear HO3007
            clear HO3010
            clear HO3014
            clear HO3018
            clear HO3023
            clear HO3027
            clear BK3001
            clear BK3002
            clear BK3015
            clear BK3019
            clear HB
            have HO3007 := n0_
            have HO3010 := n1_
            have HO3014 := n2_
            have HO3018 := n3_
            have HO3023 := n4_
            have HO3027 := n5_
            have BK3001 := n6_
            have BK3002 := n7_
            have BK3015 := n8_
            have BK3019 := n9_
            have HB := n10_
            clear n0_ n1_ n2_ n3_ n4_ n5_ n6_ n7_ n8_ n9_ n10_
            (try clear hb)
            (try clear hb2)
            (try clear hk)
            (try clear hi)
            refine hK.out _ _ ⟨(blk_cell BK3019.out 0).trans rfl, (blk_cell BK3002.out 0).trans rfl⟩ (fun hHeld => ?_)
            clear hK K
            refine norm_ (a' := ?_) ?_ ?_
            rotate_left
            · show Act.put _ (some 43) _ = _
              simp only [Act.put, List.setIfInBounds_toArray, List.set_cons_zero, List.set_cons_succ, i64_w, i32_w]
              rfl
            refine pure_ (i := 4) (N := some 44) (v := ?_) (a' := ?_) #[true, true, true, true, true] rfl rfl (by kernel_rfl) (fun _ _ _ h => h) (Or.inl ⟨by rfl, ?_⟩) ?_ ?_
            rotate_left
            · intro w'
              go_simp
              first | with_reducible rfl | (rw [if_neg (by omega)]; done)
            rotate_left
            · simp only [Act.put, List.setIfInBounds_toArray, List.set_cons_zero, List.set_cons_succ, i64_w, i32_w]
              rfl
            refine done_ (by kernel_rfl) ?_
            try go_wp2
            go_ret
            exact ⟨by first | rfl | (simp [errW_none, errW_some] <;> rfl) | (simp [*, errW_none, errW_some] <;> rfl), by repeat (first | (with_reducible first | exact HB.out | apply below_alloc | apply pw_below_drewN | apply below_drew1 | refine below_set ?_ GE3001.out | refine below_set ?_ GE3002.out | refine below_set ?_ GE3015.out | refine below_set ?_ GE3019.out) | exact HB.out)⟩
          · replace c61 := Bool.eq_false_iff.mpr c61
            subst c61
            have H1 : (some false) = some r := by rw [if_neg (show ¬ (false = true) by decide)] at H; exact H
            clear H
            have H := H1
            clear H1
            exact absurd ((Option.some.inj H).trans HRT_.out) (by decide)
        · replace c58 := Bool.eq_false_iff.mpr c58
          subst c58
          have H1 : (some false) = some r := by rw [if_neg (show ¬ (false = true) by decide)] at H; exact H
          clear H
          have H := H1
          clear H1
          exact absurd ((Option.some.inj H).trans HRT_.out) (by decide)

end Go.Proofs.Ytpppopdmnejcfaa.A


namespace Go.Proofs.Ytpppopdmnejcfaa.Br
set_option linter.unusedVariables false
set_option linter.unusedSimpArgs false
open Go Go.Proofs.YtpppopdmnejcfaaW.PrintWords

/-- Whatever reads at type t, with at most n of fuel, is of kind d and well formed. -/
def BrN (P : Program) (n : Nat) (t : TypeId) {α : Type} (d : Kd α) (wf : α → Prop) : Prop :=
  ∀ (H : Type) (enc : TypeId × Value → H) (w : World) (base : Nat) (spare : Nat → Bool) (held : Bool) (m : Nat) (cs : List Value) (x : DataW H × List MemPlace),
    m ≤ n → DataW.trod enc P w base spare held m t cs = some x → ∃ a, d.K w a cs ∧ wf a
def Br (P : Program) (t : TypeId) {α : Type} (d : Kd α) (wf : α → Prop) : Prop := ∀ n, BrN P n t d wf

/-- The same of the fields of a struct, from offset o on. -/
def BF (P : Program) (n : Nat) (fs : List Field) (o : Nat) {α : Type} (d : Kd α) (wf : α → Prop) : Prop :=
  ∀ (H : Type) (enc : TypeId × Value → H) (w : World) (base : Nat) (spare : Nat → Bool) (held : Bool) (m : Nat) (cs : List Value) (xs : List (DataW H × List MemPlace)),
    m ≤ n → cs.length = d.sz → xs.length = fs.length →
    (∀ (i : Nat) (f : Field), fs[i]? = some f → DataW.trod enc P w base spare held m f.type ((cs.drop (f.offset - o)).take (P.cellsOf f.type)) = xs[i]?) → ∃ a, d.K w a cs ∧ wf a

theorem BrN.mono {P : Program} {n m : Nat} {t : TypeId} {α : Type} {d : Kd α} {wf : α → Prop} (h : BrN P n t d wf) (hm : m ≤ n) : BrN P m t d wf :=
  fun H enc w base spare held k cs x hk => h H enc w base spare held k cs x (Nat.le_trans hk hm)
theorem BrN.imp {P : Program} {n : Nat} {t : TypeId} {α : Type} {d : Kd α} {wf wf' : α → Prop} (h : BrN P n t d wf) (hi : ∀ a, wf a → wf' a) : BrN P n t d wf' :=
  fun H enc w base spare held k cs x hk hx => by
    obtain ⟨a, h1, h2⟩ := h H enc w base spare held k cs x hk hx
    exact ⟨a, h1, hi a h2⟩
theorem BrN.zero (P : Program) (t : TypeId) {α : Type} (d : Kd α) (wf : α → Prop) : BrN P 0 t d wf := by
  intro H enc w base spare held m cs x hm hx
  obtain rfl : m = 0 := by omega
  simp [DataW.trod] at hx

theorem br_int {P : Program} {t : TypeId} {k : IntKind} (ht : P.underlying t = some (.int k)) (n : Nat) : BrN P n t (Kd.int k) (fun a => (Lit.int k a).wf = true) := by
  intro H enc w base spare held m cs x _ hx
  obtain ⟨a, rfl, _, hw⟩ := DataW.trod_int ht hx
  exact ⟨a, rfl, hw⟩
theorem br_string {P : Program} {t : TypeId} (ht : P.underlying t = some .string) (n : Nat) : BrN P n t Kd.string (fun s => s.size ≤ 9223372036854775807) := by
  intro H enc w base spare held m cs x _ hx
  obtain ⟨a, rfl, _, hw⟩ := DataW.trod_string ht hx
  exact ⟨a, rfl, by simpa [maxLen] using hw⟩

theorem list_of_all {α : Type} {Q : Nat → α → Prop} (n : Nat) (h : ∀ i, i < n → ∃ a, Q i a) : ∃ l : List α, l.length = n ∧ ∀ i a, l[i]? = some a → Q i a := by
  induction n with
  | zero => exact ⟨[], rfl, fun i a h => by simp at h⟩
  | succ n ih =>
    obtain ⟨l, hl, hq⟩ := ih (fun i hi => h i (by omega))
    obtain ⟨a, ha⟩ := h n (by omega)
    refine ⟨l ++ [a], by simp [hl], fun i b hb => ?_⟩
    rcases Nat.lt_or_ge i l.length with hi | hi
    · rw [List.getElem?_append_left hi] at hb
      exact hq i b hb
    · rw [List.getElem?_append_right hi] at hb
      obtain ⟨h0, rfl⟩ : i - l.length = 0 ∧ a = b := by
        rcases Nat.eq_zero_or_pos (i - l.length) with h0 | h0
        · rw [h0] at hb; exact ⟨h0, by simpa using hb⟩
        · rw [List.getElem?_eq_none (by simp; omega)] at hb; simp at hb
      obtain rfl : i = n := by omega
      exact ha

theorem cells_at {w : World} {base : Nat} {a : Addr} {n : Nat} {cs : List Value} (h : w.cells? base a n = some cs) : cs.length = n ∧ ∀ i u, cs[i]? = some u → w.cell? (a.add i) = some u := by
  unfold World.cells? at h
  split at h
  · have hl := mapM_some_length h
    refine ⟨by simpa using hl, fun i u hu => ?_⟩
    have hi : i < n := by
      have := (List.getElem?_eq_some_iff.1 hu).1
      simp at hl
      omega
    have := mapM_some_get h i i (by simp [hi])
    rw [this, hu]
  · simp at h

theorem br_slice {P : Program} {t e : TypeId} {α : Type} {d : Kd α} {wf : α → Prop} {n : Nat} (ht : P.underlying t = some (.slice e)) (hs : P.cellsOf e = d.sz) (h : BrN P n e d wf) :
    BrN P (n + 1) t (Kd.slice e d) (fun l => l.length ≤ 9223372036854775807 ∧ ∀ a ∈ l, wf a) := by
  intro H enc w base spare held m cs x hm hx
  rcases DataW.trod_slice ht hx with ⟨rfl, _⟩ | ⟨a, len, cap, elems, rest, k, rfl, rfl, _, _, hl, hc, he, hg, _, _⟩
  · exact ⟨[], ⟨none, 0, rfl, Nat.le_refl _, Kd.C_nil d w⟩, by simp, by simp⟩
  · have hq : ∀ i, i < len → ∃ b, (∃ c, c.length = d.sz ∧ d.K w b c ∧ ∀ j u, c[j]? = some u → w.cell? (a.add (i * d.sz + j)) = some u) ∧ wf b := by
      intro i hi
      have g := hg i hi
      rw [List.getElem?_eq_getElem (by omega)] at g
      obtain ⟨c, hc1, hc2⟩ := Option.bind_eq_some_iff.1 g
      obtain ⟨b, hb, hw⟩ := h H enc w base spare held k c _ (by omega) hc2
      obtain ⟨h1, h2⟩ := cells_at hc1
      refine ⟨b, ⟨c, by rw [h1, hs], hb, fun j u hu => ?_⟩, hw⟩
      have := h2 j u hu
      rw [Addr.add_add, hs] at this
      exact this
    obtain ⟨l, hl1, hl2⟩ := list_of_all len hq
    have hlen : len ≤ 9223372036854775807 := by simp only [maxLen] at hc; omega
    refine ⟨l, ⟨some a, cap, by rw [hl1], by omega, rfl, by omega, fun _ => ⟨a, rfl, fun j p hp => (hl2 j p hp).1⟩⟩, by omega, fun b hb => ?_⟩
    obtain ⟨i, hi, rfl⟩ := List.mem_iff_getElem.1 hb
    exact (hl2 i _ (List.getElem?_eq_getElem hi)).2
theorem br_slice' {P : Program} {t e : TypeId} {α : Type} {d : Kd α} {wf : α → Prop} (ht : P.underlying t = some (.slice e)) (hs : P.cellsOf e = d.sz) (h : ∀ n, BrN P n e d wf) (n : Nat) :
    BrN P n t (Kd.slice e d) (fun l => l.length ≤ 9223372036854775807 ∧ ∀ a ∈ l, wf a) := (br_slice ht hs (h n)).mono (Nat.le_succ n)

theorem bf_one {P : Program} {n o : Nat} {f : Field} {α : Type} {d : Kd α} {wf : α → Prop} (ho : f.offset = o) (hs : P.cellsOf f.type = d.sz) (h : BrN P n f.type d wf) : BF P n [f] o d wf := by
  intro H enc w base spare held m cs xs hm hl hx hf
  have g := hf 0 f rfl
  rw [ho, Nat.sub_self, List.drop_zero, hs, ← hl, List.take_length, List.getElem?_eq_getElem (by simp at hx; omega)] at g
  exact h H enc w base spare held m cs _ hm g
theorem bf_cons {P : Program} {n o : Nat} {f : Field} {fs : List Field} {α β : Type} {d : Kd α} {d' : Kd β} {wf : α → Prop} {wf' : β → Prop} (ho : f.offset = o) (hs : P.cellsOf f.type = d.sz) (h : BrN P n f.type d wf)
    (hfs : BF P n fs (o + d.sz) d' wf') (hle : ∀ g ∈ fs, o + d.sz ≤ g.offset) : BF P n (f :: fs) o (Kd.pair d d') (fun x => wf x.1 ∧ wf' x.2) := by
  intro H enc w base spare held m cs xs hm hl hx hf
  have hl' : cs.length = d.sz + d'.sz := hl
  have g := hf 0 f rfl
  rw [ho, Nat.sub_self, List.drop_zero, hs, List.getElem?_eq_getElem (by simp at hx; omega)] at g
  obtain ⟨a, ha, hwa⟩ := h H enc w base spare held m _ _ hm g
  cases xs with
  | nil => simp at hx
  | cons y ys =>
    obtain ⟨b, hb, hwb⟩ := hfs H enc w base spare held m (cs.drop d.sz) ys hm (by rw [List.length_drop]; omega) (by simpa using hx) (fun i q hq => by
      have g2 := hf (i + 1) q (by simpa using hq)
      have hm : q ∈ fs := List.mem_of_getElem? hq
      have := hle q hm
      rw [List.drop_drop, show d.sz + (q.offset - (o + d.sz)) = q.offset - o by omega]
      simpa using g2)
    exact ⟨(a, b), ⟨cs.take d.sz, cs.drop d.sz, (List.take_append_drop _ _).symm, ha, hb⟩, hwa, hwb⟩
theorem br_struct {P : Program} {t : TypeId} {fs : Array Field} {α : Type} {d : Kd α} {wf : α → Prop} {n : Nat} (ht : P.underlying t = some (.struct fs)) (hs : P.cellsOf t = d.sz) (h : BF P n fs.toList 0 d wf) : BrN P (n + 1) t d wf := by
  intro H enc w base spare held m cs x hm hx
  obtain ⟨xs, k, rfl, _, hl, hxs, hf⟩ := DataW.trod_struct ht hx
  exact h H enc w base spare held k cs xs (by omega) (by rw [hl, hs]) (by simpa using hxs) (fun i f hi => by simpa using hf i f (by simpa using hi))
theorem br_struct' {P : Program} {t : TypeId} {fs : Array Field} {α : Type} {d : Kd α} {wf : α → Prop} (ht : P.underlying t = some (.struct fs)) (hs : P.cellsOf t = d.sz) (h : ∀ n, BF P n fs.toList 0 d wf) (n : Nat) : BrN P n t d wf :=
  (br_struct ht hs (h n)).mono (Nat.le_succ n)
theorem br_iso {P : Program} {n : Nat} {t : TypeId} {α β : Type} {d : Kd α} {wf : α → Prop} {f : β → α} (g : α → β) (hg : ∀ y, f (g y) = y) (h : BrN P n t d wf) : BrN P n t (Kd.iso d f) (fun x => wf (f x)) := by
  intro H enc w base spare held m cs x hm hx
  obtain ⟨a, h1, h2⟩ := h H enc w base spare held m cs x hm hx
  exact ⟨g a, by show d.K w (f (g a)) cs; rw [hg]; exact h1, by show wf (f (g a)); rw [hg]; exact h2⟩
/-- A type nested in itself. -/
theorem br_fix {P : Program} {t : TypeId} {α : Type} {F : Kd α → Kd α} {sz : Nat} {E : List Nat} {hs : ∀ n, (Kd.upto F sz E n).sz = sz} {hE : ∀ n q, q ∈ (Kd.upto F sz E n).E → q ∈ E} {wf : Nat → α → Prop}
    (h : ∀ n, BrN P n t (Kd.upto F sz E n) (wf n)) (n : Nat) : BrN P n t (Kd.fix F sz E hs hE) (fun a => ∃ k, wf k a) := by
  intro H enc w base spare held m cs x hm hx
  obtain ⟨a, h1, h2⟩ := h n H enc w base spare held m cs x hm hx
  exact ⟨a, ⟨n, h1⟩, n, h2⟩
theorem arr_of {xs : Array Value} {l : List Value} (h : xs.toList = l) : xs = l.toArray := by rw [← h]

end Go.Proofs.Ytpppopdmnejcfaa.Br


namespace Go.Proofs.Ytpppopdmnejcfaa.BtFnExactEqualProblem
open Go Go.RowKit Go.Proofs.Ytpppopdmnejcfaa.A Go.Proofs.Ytpppopdmnejcfaa.Br Go.Proofs.YtpppopdmnejcfaaW.PrintWords
set_option linter.unusedVariables false
def wf34N : Nat → S34 → Prop
  | 0, _ => False
  | n + 1, x => ((Lit.int .i64 x.f0).wf = true) ∧ ((x.f1 : ByteArray).size ≤ 9223372036854775807) ∧ ((x.f2 : (List S34)).length ≤ 9223372036854775807 ∧ ∀ a ∈ x.f2, wf34N n a)
def wf34 (x : S34) : Prop := ∃ n, wf34N n x
theorem br34N : ∀ n, BrN Try.prog n 34 (Kd.upto F34 3 [34] n) (wf34N n)
  | 0 => BrN.zero _ _ _ _
  | n + 1 => by
    have ih := br34N n
    exact (br_iso (f := (fun x : S34 => (x.f0, x.f1, x.f2))) (fun y => ⟨y.1, y.2.1, y.2.2⟩) (fun _ => rfl) (br_struct Try.underlying34 (show Try.prog.cellsOf 34 = 3 by kernel_rfl) (bf_cons rfl (show Try.prog.cellsOf 3 = 1 by kernel_rfl) (br_int Try.underlying3 n) (bf_cons rfl (show Try.prog.cellsOf 9 = 1 by kernel_rfl) (br_string Try.underlying9 n) (bf_one rfl (show Try.prog.cellsOf 32 = 1 by kernel_rfl) ((br_slice Try.underlying32 (show Try.prog.cellsOf 34 = (Kd.upto F34 3 [34] n).sz by rw [sz34]; kernel_rfl) ih).mono (Nat.le_succ n))) (of_decide_eq_true (by kernel_rfl))) (of_decide_eq_true (by kernel_rfl))))).imp (fun _ h => h)
theorem br34 (n : Nat) : BrN Try.prog n 34 k34 wf34 := br_fix br34N n
def wf37 (x : S37) : Prop := ((Lit.int .i64 x.f0).wf = true) ∧ ((x.f1 : ByteArray).size ≤ 9223372036854775807) ∧ ((x.f2 : ByteArray).size ≤ 9223372036854775807) ∧ (wf34 x.f3) ∧ ((x.f4 : (List Int)).length ≤ 9223372036854775807 ∧ ∀ a ∈ x.f4, (Lit.int .i64 a).wf = true) ∧ ((Lit.int .i64 x.f5).wf = true)
theorem br37 (n : Nat) : BrN Try.prog n 37 k37 wf37 :=
  (br_iso (f := (fun x : S37 => (x.f0, x.f1, x.f2, x.f3, x.f4, x.f5))) (fun y => ⟨y.1, y.2.1, y.2.2.1, y.2.2.2.1, y.2.2.2.2.1, y.2.2.2.2.2⟩) (fun _ => rfl) (br_struct' Try.underlying37 (show Try.prog.cellsOf 37 = 8 by kernel_rfl) (fun n => (bf_cons rfl (show Try.prog.cellsOf 3 = 1 by kernel_rfl) (br_int Try.underlying3 n) (bf_cons rfl (show Try.prog.cellsOf 9 = 1 by kernel_rfl) (br_string Try.underlying9 n) (bf_cons rfl (show Try.prog.cellsOf 9 = 1 by kernel_rfl) (br_string Try.underlying9 n) (bf_cons rfl (show Try.prog.cellsOf 34 = 3 by kernel_rfl) (br34 n) (bf_cons rfl (show Try.prog.cellsOf 35 = 1 by kernel_rfl) (br_slice' Try.underlying35 (show Try.prog.cellsOf 3 = 1 by kernel_rfl) (fun n => (br_int Try.underlying3 n)) n) (bf_one rfl (show Try.prog.cellsOf 3 = 1 by kernel_rfl) (br_int Try.underlying3 n)) (of_decide_eq_true (by kernel_rfl))) (of_decide_eq_true (by kernel_rfl))) (of_decide_eq_true (by kernel_rfl))) (of_decide_eq_true (by kernel_rfl))) (of_decide_eq_true (by kernel_rfl)))) n)).imp (fun _ h => h)
end Go.Proofs.Ytpppopdmnejcfaa.BtFnExactEqualProblem

namespace Go.Proofs.Ytpppopdmnejcfaa.Pure
open Go Go.RowKit Go.Proofs.Ytpppopdmnejcfaa.Br Go.Proofs.YtpppopdmnejcfaaW.PrintWords Go.Proofs.YtpppopdmnejcfaaW.PrintLast Go.Proofs.Ytpppopdmnejcfaa.A Go.Proofs.Ytpppopdmnejcfaa.Ext Go.Proofs.Ytpppopdmnejcfaa.BtFnExactEqualProblem
set_option linter.unusedVariables false
def FnExactEqualProblem.Pure : Prop := ∀ (l0_0 : (List S37)) (l1_0 : (List S37)), ((l0_0 : (List S37)).length ≤ 9223372036854775807 ∧ ∀ a ∈ l0_0, wf37 a) → ((l1_0 : (List S37)).length ≤ 9223372036854775807 ∧ ∀ a ∈ l1_0, wf37 a) → ∃ k, laws_FnExactEqualProblem.f k l0_0 l1_0 = some true
end Go.Proofs.Ytpppopdmnejcfaa.Pure

namespace Go.Proofs.Ytpppopdmnejcfaa.Pl
set_option linter.unusedVariables false
set_option linter.unusedSimpArgs false
open Go.RowKit Go.Proofs.YtpppopdmnejcfaaW.PrintWords

/-- From some number of rounds on, it answers r. -/
def Evt {α : Type} (g : Nat → Option α) (r : α) : Prop := ∃ K, ∀ k, K ≤ k → g k = some r
section
variable {α β : Type}
theorem Evt.const {g : Option α} {r : α} (h : g = some r) : Evt (fun _ => g) r := ⟨0, fun _ _ => h⟩
theorem Evt.ret (r : α) : Evt (fun _ => some r) r := Evt.const rfl
theorem Evt.bind {g : Nat → Option α} {f : Nat → α → Option β} {a : α} {r : β} (hg : Evt g a) (hf : Evt (fun k => f k a) r) : Evt (fun k => (g k).bind (f k)) r := by
  obtain ⟨K, hK⟩ := hg
  obtain ⟨L, hL⟩ := hf
  exact ⟨max K L, fun k hk => by show (g k).bind (f k) = some r; rw [hK k (by omega)]; exact hL k (by omega)⟩
theorem Evt.bindc {g : Option α} {f : Nat → α → Option β} {a : α} {r : β} (hg : g = some a) (hf : Evt (fun k => f k a) r) : Evt (fun k => g.bind (f k)) r := Evt.bind (Evt.const hg) hf
theorem Evt.step {g : Nat → Option α} {r : α} (h : Evt (fun k => g (k + 1)) r) : Evt g r := by
  obtain ⟨K, hK⟩ := h
  exact ⟨K + 1, fun k hk => by
    obtain ⟨m, rfl⟩ : ∃ m, k = m + 1 := ⟨k - 1, by omega⟩
    exact hK m (by omega)⟩
theorem Evt.pos {c : Prop} [Decidable c] {t e : Nat → Option α} {r : α} (h : c) (ht : Evt t r) : Evt (fun k => if c then t k else e k) r := by
  obtain ⟨K, hK⟩ := ht
  exact ⟨K, fun k hk => (if_pos h).trans (hK k hk)⟩
theorem Evt.neg {c : Prop} [Decidable c] {t e : Nat → Option α} {r : α} (h : ¬ c) (ht : Evt e r) : Evt (fun k => if c then t k else e k) r := by
  obtain ⟨K, hK⟩ := ht
  exact ⟨K, fun k hk => (if_neg h).trans (hK k hk)⟩
theorem Evt.ite {c : Prop} [Decidable c] {t e : Nat → Option α} {x y : α} (ht : c → Evt t x) (he : ¬ c → Evt e y) : Evt (fun k => if c then t k else e k) (if c then x else y) := by
  by_cases h : c
  · rw [if_pos h]; exact Evt.pos h (ht h)
  · rw [if_neg h]; exact Evt.neg h (he h)
theorem Evt.get {g : Nat → Option α} {r : α} (h : Evt g r) : ∃ k, g k = some r := by
  obtain ⟨K, hK⟩ := h
  exact ⟨K, hK K (Nat.le_refl _)⟩
theorem Evt.of_eq {g g' : Nat → Option α} {r : α} (h : ∀ k, g k = g' k) (h' : Evt g' r) : Evt g r := by
  obtain ⟨K, hK⟩ := h'
  exact ⟨K, fun k hk => by rw [h]; exact hK k hk⟩
theorem Evt.cast {g : Nat → Option α} {r r' : α} (h : Evt g r) (e : r = r') : Evt g r' := e ▸ h
/-- A loop that counts up from 0 to n: what it answers at i is R i. -/
theorem Evt.up (l : Nat → Int → Option α) (n : Nat) (R : Nat → α) (hend : Evt (fun k => l k (n : Int)) (R n))
    (hstep : ∀ i : Nat, i < n → Evt (fun k => l k ((i + 1 : Nat) : Int)) (R (i + 1)) → Evt (fun k => l k (i : Int)) (R i)) : Evt (fun k => l k 0) (R 0) := by
  have h : ∀ d i : Nat, i + d = n → Evt (fun k => l k (i : Int)) (R i) := by
    intro d
    induction d with
    | zero => intro i hi; obtain rfl : i = n := by omega
              exact hend
    | succ d ih => intro i hi; exact hstep i (by omega) (ih (i + 1) (by omega))
  exact h n 0 (by omega)
end

theorem w64 {x : Int} (h : -9223372036854775808 ≤ x) (h' : x ≤ 9223372036854775807) : wrap64 x = x := by unfold wrap64; omega
/-- The counter's next value. -/
theorem w64s {i : Nat} (h : i < 9223372036854775807) : wrap64 ((i : Int) + 1) = ((i + 1 : Nat) : Int) := by
  rw [w64 (by omega) (by omega)]; omega

theorem bt0 (s : ByteArray) (i : Int) : 0 ≤ bt s i := (bt_range s i).1
theorem bt255 (s : ByteArray) (i : Int) : bt s i ≤ 255 := (bt_range s i).2
theorem bt_get (s : ByteArray) (i : Nat) (h : i < (bytesOf s).length) : bt s (i : Int) = (bytesOf s)[i] := by
  rw [← rd_bytesOf]
  simp [rd, h]
theorem bytesOf_inj {s t : ByteArray} (h : bytesOf s = bytesOf t) : s = t := by
  have h1 : s.data.toList = t.data.toList := by
    refine List.map_inj_right (f := fun b : UInt8 => (b.toNat : Int)) (fun x y hxy => ?_) |>.1 h
    exact UInt8.toNat_inj.1 (Int.ofNat_inj.1 hxy)
  cases s; cases t
  simp only [ByteArray.mk.injEq]
  exact Array.toList_inj.1 h1
theorem toList_eq_iff (s t : ByteArray) : s.toList = t.toList ↔ s = t := by
  rw [Lib.toList_data, Lib.toList_data]
  constructor
  · intro h
    cases s; cases t
    simp only [ByteArray.mk.injEq]
    exact Array.toList_inj.1 h
  · rintro rfl; rfl
theorem toList_nil_iff (s : ByteArray) : s.toList = ([] : List UInt8) ↔ s.size = 0 := by
  rw [Lib.toList_data, ← data_length, List.length_eq_zero_iff]
theorem mem_bytes (s : ByteArray) {c : Int} (h : c ∈ bytesOf s) : 0 ≤ c ∧ c ≤ 255 := by
  unfold bytesOf at h
  obtain ⟨b, _, rfl⟩ := List.mem_map.1 h
  have := b.toNat_lt
  omega
theorem bytesOf_append (s t : ByteArray) : bytesOf (s ++ t) = bytesOf s ++ bytesOf t := by
  simp [bytesOf, ByteArray.data_append]
theorem bytesOf_extract (s : ByteArray) (a b : Nat) : bytesOf (s.extract a b) = ((bytesOf s).drop a).take (b - a) := by
  have h := Lib.extract_toList s a b
  rw [Lib.toList_data] at h
  unfold bytesOf
  rw [h, List.map_take, List.map_drop]
theorem bytesOf_tail (s : ByteArray) (a : Nat) : bytesOf (s.extract a s.size) = (bytesOf s).drop a := by
  rw [bytesOf_extract, List.take_of_length_le]
  rw [List.length_drop, bytesOf_length]
  exact Nat.le_refl _

/-- A letter's number. -/
def ltI (c : Int) : Int := if 97 = c then 0 else if 98 = c then 1 else if 99 = c then 2 else -1
def varI (c : Int) : Int := if 88 = c then 0 else if 89 = c then 1 else if 90 = c then 2 else -1
def isVr (c : Int) : Bool := decide (88 ≤ c ∧ c ≤ 90)
theorem ix_abc : ∀ n : Nat, n < 256 → Lib.indexByte [97, 98, 99] n.toUInt8 = ltI (n : Int) := by decide +kernel
theorem ix_XYZ : ∀ n : Nat, n < 256 → Lib.indexByte [88, 89, 90] n.toUInt8 = varI (n : Int) := by decide +kernel
theorem varI_isVar (c : Int) : decide (varI c ≥ 0) = isVr c := by
  unfold varI isVr
  split
  · subst_vars; rfl
  · split
    · subst_vars; rfl
    · split
      · subst_vars; rfl
      · simp; omega
theorem ltI_nonneg (c : Int) : 0 ≤ ltI c ↔ (97 ≤ c ∧ c ≤ 99) := by
  unfold ltI
  split
  · subst_vars; simp
  · split
    · subst_vars; simp
    · split
      · subst_vars; simp
      · simp; omega
theorem ltI_le (c : Int) : ltI c ≤ 2 := by
  unfold ltI
  repeat' split
  all_goals omega
theorem ltI_ge (c : Int) : -1 ≤ ltI c := by
  unfold ltI
  repeat' split
  all_goals omega
theorem bt_abc0 : bt (⟨#[97, 98, 99]⟩ : ByteArray) 0 = 97 := by decide
theorem bt_abc1 : bt (⟨#[97, 98, 99]⟩ : ByteArray) 1 = 98 := by decide
theorem bt_abc2 : bt (⟨#[97, 98, 99]⟩ : ByteArray) 2 = 99 := by decide
theorem bt_XYZ0 : bt (⟨#[88, 89, 90]⟩ : ByteArray) 0 = 88 := by decide
theorem bt_XYZ1 : bt (⟨#[88, 89, 90]⟩ : ByteArray) 1 = 89 := by decide
theorem bt_XYZ2 : bt (⟨#[88, 89, 90]⟩ : ByteArray) 2 = 90 := by decide
theorem w64_a : wrap64 1 = 1 := by unfold wrap64; omega
theorem w64_b : wrap64 2 = 2 := by unfold wrap64; omega
theorem w64_c : wrap64 3 = 3 := by unfold wrap64; omega
theorem w64_1 : wrap64 (0 + 1) = 1 := by unfold wrap64; omega
theorem w64_2 : wrap64 (1 + 1) = 2 := by unfold wrap64; omega
theorem w64_3 : wrap64 (2 + 1) = 3 := by unfold wrap64; omega

theorem indexByte_nonneg (l : List UInt8) (c : UInt8) : 0 ≤ Lib.indexByte l c ↔ c ∈ l := by
  induction l with
  | nil => simp [Lib.indexByte]
  | cons b l ih =>
    unfold Lib.indexByte
    by_cases h : b = c
    · subst h; simp
    · have hb : (b == c) = false := by simpa using h
      rw [hb]
      have hge := Lib.indexByte_ge l c
      by_cases h2 : Lib.indexByte l c = -1
      · simp only [h2]
        simp
        refine ⟨fun e => h e.symm, fun hm => ?_⟩
        have := ih.2 hm
        omega
      · have h3 : (Lib.indexByte l c == -1) = false := by simpa using h2
        rw [h3]
        simp
        constructor
        · intro _; exact .inr (ih.1 (by omega))
        · rintro (e | hm)
          · exact absurd e.symm h
          · have := ih.2 hm; omega
theorem mem_data (s : ByteArray) (n : Nat) (hn : n < 256) : n.toUInt8 ∈ s.data.toList ↔ (n : Int) ∈ bytesOf s := by
  unfold bytesOf
  rw [List.mem_map]
  constructor
  · intro h
    exact ⟨_, h, by simp [Nat.mod_eq_of_lt hn]⟩
  · rintro ⟨b, hb, e⟩
    have e2 : b.toNat = n := by omega
    subst e2
    simpa using hb
theorem w64_sub {a : Int} {n : Nat} (ha : -1 ≤ a) (ha' : a ≤ 1048576) (hn : n ≤ 9223372036854775807) : wrap64 (a - (n : Int)) = a - (n : Int) := w64 (by omega) (by omega)
end Go.Proofs.Ytpppopdmnejcfaa.Pl

namespace Go.Proofs.Ytpppopdmnejcfaa.F
set_option linter.unusedVariables false
set_option linter.unusedSimpArgs false
open Go.RowKit Go.Proofs.YtpppopdmnejcfaaW.PrintWords Go.Proofs.Ytpppopdmnejcfaa.Pl Go.Proofs.Ytpppopdmnejcfaa.A Go.Proofs.Ytpppopdmnejcfaa.Ext

/-- From some numbers of rounds on, the depth's and the loop's. -/
def Evt2 {α : Type} (g : Nat → Nat → Option α) (r : α) : Prop := ∃ K, ∀ i j, K ≤ i → K ≤ j → g i j = some r
theorem Evt2.ret {α : Type} (r : α) : Evt2 (fun _ _ => some r) r := ⟨0, fun _ _ _ _ => rfl⟩
theorem Evt2.bind {α β : Type} {g : Nat → Option α} {f : Nat → Nat → α → Option β} {a : α} {r : β} (hg : Evt g a) (hf : Evt2 (fun i j => f i j a) r) : Evt2 (fun i j => (g i).bind (f i j)) r := by
  obtain ⟨K, hK⟩ := hg
  obtain ⟨L, hL⟩ := hf
  exact ⟨max K L, fun i j hi hj => by show (g i).bind (f i j) = some r; rw [hK i (by omega)]; exact hL i j (by omega) (by omega)⟩
theorem Evt2.bind2 {α β : Type} {g : Nat → Nat → Option α} {f : Nat → Nat → α → Option β} {a : α} {r : β} (hg : Evt2 g a) (hf : Evt2 (fun i j => f i j a) r) : Evt2 (fun i j => (g i j).bind (f i j)) r := by
  obtain ⟨K, hK⟩ := hg
  obtain ⟨L, hL⟩ := hf
  exact ⟨max K L, fun i j hi hj => by show (g i j).bind (f i j) = some r; rw [hK i j (by omega) (by omega)]; exact hL i j (by omega) (by omega)⟩
theorem Evt2.pos {α : Type} {c : Prop} [Decidable c] {t e : Nat → Nat → Option α} {r : α} (h : c) (ht : Evt2 t r) : Evt2 (fun i j => if c then t i j else e i j) r := by
  obtain ⟨K, hK⟩ := ht
  exact ⟨K, fun i j hi hj => by show (if c then t i j else e i j) = some r; rw [if_pos h]; exact hK i j hi hj⟩
theorem Evt2.neg {α : Type} {c : Prop} [Decidable c] {t e : Nat → Nat → Option α} {r : α} (h : ¬ c) (he : Evt2 e r) : Evt2 (fun i j => if c then t i j else e i j) r := by
  obtain ⟨K, hK⟩ := he
  exact ⟨K, fun i j hi hj => by show (if c then t i j else e i j) = some r; rw [if_neg h]; exact hK i j hi hj⟩
theorem Evt2.step {α : Type} {g : Nat → Nat → Option α} {r : α} (h : Evt2 (fun i j => g i (j + 1)) r) : Evt2 g r := by
  obtain ⟨K, hK⟩ := h
  refine ⟨K + 1, fun i j hi hj => ?_⟩
  obtain ⟨j, rfl⟩ : ∃ m, j = m + 1 := ⟨j - 1, by omega⟩
  exact hK i j (by omega) (by omega)
theorem Evt2.diag {α : Type} {g : Nat → Nat → Option α} {r : α} (h : Evt2 g r) : Evt (fun k => g k k) r := by
  obtain ⟨K, hK⟩ := h
  exact ⟨K, fun k hk => hK k k hk hk⟩
theorem Evt2.cast {α : Type} {g : Nat → Nat → Option α} {r r' : α} (h : Evt2 g r) (e : r = r') : Evt2 g r' := e ▸ h

/-- Lengths that a machine can hold, at every depth. -/
def RxOk : Nat → S34 → Prop
  | 0, _ => False
  | n + 1, x => x.f1.size ≤ 9223372036854775807 ∧ x.f2.length ≤ 9223372036854775807 ∧ ∀ a ∈ x.f2, RxOk n a
/-- A copy of what weighing lets through. -/
inductive Sm : S42 → Prop
  | mk (a : Int) (b : ByteArray) (l : List S42) (h : l.length ≤ 1048576) (hs : ∀ x ∈ l, Sm x) : Sm ⟨a, b, l⟩
theorem Sm.len {x : S42} (h : Sm x) : x.f2.length ≤ 1048576 := by cases h; assumption
theorem rxL_at (l : List S34) (i : Nat) (h : i < l.length) : rd_T34 l (i : Int) = l[i] := by simp [rd_T34, h]
theorem rxI_at (l : List S42) (i : Nat) (h : i < l.length) : rd_T42 l (i : Int) = l[i] := by simp [rd_T42, h]
theorem rx_eta (y : S42) : (⟨y.f0, y.f1, y.f2⟩ : S42) = y := by cases y; rfl
/-- Its copy. -/
def Cp (x : S34) (y : S42) : Prop := Sm y ∧ Evt (fun k => laws_toRegex.f k x.f0 x.f1 x.f2) (y.f0, y.f1, y.f2)
theorem copies (l : List S34) (h : ∀ x ∈ l, ∃ y, Cp x y) : ∃ ys : List S42, ys.length = l.length ∧ ∀ (i : Nat) (h : i < l.length) (h' : i < ys.length), Cp l[i] ys[i] := by
  induction l with
  | nil => exact ⟨[], rfl, fun i h => absurd h (by simp)⟩
  | cons x l ih =>
    obtain ⟨y, hy⟩ := h x (by simp)
    obtain ⟨ys, h1, h2⟩ := ih (fun z hz => h z (by simp [hz]))
    refine ⟨y :: ys, by simp [h1], fun i hi hi' => ?_⟩
    cases i with
    | zero => exact hy
    | succ i => exact h2 i (by simpa using hi) (by simpa using hi')
theorem toRegex_ev (a : Int) (b : ByteArray) (l : List S34) (hl : l.length ≤ 1048576) (h : ∀ x ∈ l, ∃ y, Cp x y) : ∃ y, Cp ⟨a, b, l⟩ y := by
  obtain ⟨ys, e, hc⟩ := copies l h
  refine ⟨⟨a, b, ys⟩, Sm.mk a b ys (by omega) (fun y hy => ?_), ?_⟩
  · obtain ⟨i, hi, rfl⟩ := List.mem_iff_getElem.1 hy
    exact (hc i (by omega) hi).1
  · refine Evt.step ?_
    simp only [laws_toRegex.f]
    refine Evt2.diag (g := fun i j => laws_toRegexG.f (fun _ => laws_toRegex.f i) j a b l) ?_
    simp only [laws_toRegexG.f, laws_toRegexSG.f]
    refine Evt2.bind2 (a := ys) (Evt2.pos (by omega) (Evt2.pos (by omega) ?_)) (Evt2.ret _)
    rw [Int.toNat_natCast]
    have hh : ∀ d i : Nat, i + d = l.length → Evt2 (fun p q => laws_toRegexSG.l0 (fun _ => laws_toRegex.f p) q l (ys.take i ++ List.replicate (l.length - i) z42) (i : Int)) ys := by
      intro d
      induction d with
      | zero =>
        intro i hi
        refine Evt2.step ?_
        simp only [laws_toRegexSG.l0]
        refine Evt2.neg (by omega) ((Evt2.ret _).cast ?_)
        rw [show l.length - i = 0 by omega, List.take_of_length_le (by omega)]
        simp
      | succ d ih =>
        intro i hi
        have hi' : i < l.length := by omega
        refine Evt2.step ?_
        simp only [laws_toRegexSG.l0]
        rw [rxL_at l i hi']
        refine Evt2.pos (by omega) (Evt2.pos (by omega) (Evt2.bind (hc i hi' (by omega)).2 (Evt2.pos (by simp; omega) ?_)))
        rw [Int.toNat_natCast, w64s (by omega)]
        have hx : (ys.take i).length = i := by rw [List.length_take]; omega
        have e2 : (ys.take i ++ List.replicate (l.length - i) z42).set i (ys[i]'(by omega)) = ys.take (i + 1) ++ List.replicate (l.length - (i + 1)) z42 := by
          rw [List.set_append_right _ _ (by omega), hx, Nat.sub_self, show l.length - i = (l.length - (i + 1)) + 1 by omega, List.replicate_succ, List.set_cons_zero, List.take_succ_eq_append_getElem (by omega), List.append_assoc]
          rfl
        simp only [rx_eta, e2]
        exact ih (i + 1) (by omega)
    simpa using hh l.length 0 (by omega)
theorem szRegex_ev : ∀ n (x : S34), RxOk n x → ∀ v : Int, 0 ≤ v → v ≤ 1048576 → ∃ t, Evt (fun k => laws_szRegex.f k x.f0 x.f1 x.f2 v) t ∧ (t = -1 ∨ (0 ≤ t ∧ t ≤ v ∧ ∃ y, Cp x y)) := by
  intro n
  induction n with
  | zero => intro x h; exact h.elim
  | succ n ih =>
    rintro ⟨a, b, l⟩ ⟨h1, h2, h3⟩ v hv hv'
    simp only at h1 h2 h3
    have hs : ∃ t, Evt2 (fun i j => laws_szRegexG.f (fun _ => laws_szRegex.f i) j a b l v) t ∧ (t = -1 ∨ (0 ≤ t ∧ t ≤ v ∧ ∃ y, Cp ⟨a, b, l⟩ y)) := by
      simp only [laws_szRegexG.f, laws_szRegexSG.f]
      rw [w64_sub (by omega) (by omega) h1]
      by_cases c1 : v - b.size < 0
      · exact ⟨-1, Evt2.pos c1 (Evt2.ret _), .inl rfl⟩
      rw [w64_sub (by omega) (by omega) h2]
      by_cases c2 : v - b.size - l.length < 0
      · exact ⟨-1, Evt2.neg c1 (Evt2.bind2 (Evt2.pos c2 (Evt2.ret _)) (Evt2.pos (by decide) (Evt2.ret _))), .inl rfl⟩
      have hh : ∀ d i : Nat, i + d = l.length → ∀ u : Int, 0 ≤ u → u ≤ 1048576 → ∃ t, Evt2 (fun p q => laws_szRegexSG.l0 (fun _ => laws_szRegex.f p) q l u (i : Int)) t ∧ (t = -1 ∨ (0 ≤ t ∧ t ≤ u ∧ ∀ x ∈ l.drop i, ∃ y, Cp x y)) := by
        intro d
        induction d with
        | zero =>
          intro i hi u hu hu'
          refine ⟨u, Evt2.step ?_, .inr ⟨hu, Int.le_refl _, ?_⟩⟩
          · simp only [laws_szRegexSG.l0]
            exact Evt2.neg (by omega) (Evt2.ret _)
          · rw [List.drop_of_length_le (by omega)]
            intro x hx
            cases hx
        | succ d ihd =>
          intro i hi u hu hu'
          have hi' : i < l.length := by omega
          obtain ⟨t, ht, hc⟩ := ih l[i] (h3 _ (List.getElem_mem hi')) u hu hu'
          by_cases c3 : t < 0
          · refine ⟨-1, Evt2.step ?_, .inl rfl⟩
            simp only [laws_szRegexSG.l0]
            rw [rxL_at l i hi']
            exact Evt2.pos (by omega) (Evt2.pos (by omega) (Evt2.bind ht (Evt2.pos c3 (Evt2.ret _))))
          · have hc' := hc.resolve_left (by omega)
            obtain ⟨t', ht', hc2⟩ := ihd (i + 1) (by omega) t (by omega) (by omega)
            refine ⟨t', Evt2.step ?_, ?_⟩
            · simp only [laws_szRegexSG.l0]
              rw [rxL_at l i hi', w64s (by omega)]
              exact Evt2.pos (by omega) (Evt2.pos (by omega) (Evt2.bind ht (Evt2.neg c3 ht')))
            · rcases hc2 with h4 | ⟨h4, h5, h6⟩
              · exact .inl h4
              · refine .inr ⟨h4, by omega, ?_⟩
                rw [List.drop_eq_getElem_cons hi']
                intro x hx
                rcases List.mem_cons.1 hx with rfl | hx
                · exact hc'.2.2
                · exact h6 x hx
      obtain ⟨t, ht, hc⟩ := hh l.length 0 (by omega) (v - b.size - l.length) (by omega) (by omega)
      by_cases c4 : t < 0
      · exact ⟨-1, Evt2.neg c1 (Evt2.bind2 (Evt2.neg c2 ht) (Evt2.pos c4 (Evt2.ret _))), .inl rfl⟩
      · have hc' := hc.resolve_left (by omega)
        refine ⟨t, Evt2.neg c1 (Evt2.bind2 (Evt2.neg c2 ht) (Evt2.neg c4 (Evt2.ret _))), .inr ⟨hc'.1, by omega, toRegex_ev a b l (by omega) (by simpa using hc'.2.2)⟩⟩
    obtain ⟨t, ht, hc⟩ := hs
    refine ⟨t, Evt.step ?_, hc⟩
    simp only [laws_szRegex.f]
    exact Evt2.diag ht

end Go.Proofs.Ytpppopdmnejcfaa.F


namespace Go.Proofs.Ytpppopdmnejcfaa.F
set_option linter.unusedVariables false
set_option linter.unusedSimpArgs false
open Go.RowKit Go.Proofs.YtpppopdmnejcfaaW.PrintWords Go.Proofs.Ytpppopdmnejcfaa.Pl Go.Proofs.Ytpppopdmnejcfaa.A Go.Proofs.Ytpppopdmnejcfaa.Ext

theorem eqRegex_ev (x : S42) (h : Sm x) : Evt (fun k => laws_eqRegex.f k x.f0 x.f1 x.f2 x.f0 x.f1 x.f2) true := by
  induction h with
  | mk a b l hl hs ih =>
    refine Evt.step ?_
    simp only [laws_eqRegex.f]
    refine Evt2.diag (g := fun i j => laws_eqRegexG.f (fun _ => laws_eqRegex.f i) j a b l a b l) ?_
    simp only [laws_eqRegexG.f, laws_eqRegexSG.f]
    refine Evt2.pos trivial (Evt2.pos trivial (Evt2.bind2 (a := true) (Evt2.pos trivial ?_) (Evt2.pos rfl (Evt2.ret _))))
    have hh : ∀ d i : Nat, i + d = l.length → Evt2 (fun p q => laws_eqRegexSG.l0 (fun _ => laws_eqRegex.f p) q l l (i : Int)) true := by
      intro d
      induction d with
      | zero =>
        intro i hi
        refine Evt2.step ?_
        simp only [laws_eqRegexSG.l0]
        exact Evt2.neg (by omega) (Evt2.ret _)
      | succ d ihd =>
        intro i hi
        have hi' : i < l.length := by omega
        refine Evt2.step ?_
        simp only [laws_eqRegexSG.l0]
        rw [rxI_at l i hi', w64s (by omega)]
        exact Evt2.pos (by omega) (Evt2.pos (by omega) (Evt2.pos (by omega) (Evt2.bind (ih _ (List.getElem_mem hi')) (Evt2.pos rfl (ihd (i + 1) (by omega))))))
    exact hh l.length 0 (by omega)
theorem equalRegex_ev (x : S42) (h : Sm x) : ∀ y : S42, ∃ q, Evt (fun k => spec_EqualRegex.f k x.f0 x.f1 x.f2 y.f0 y.f1 y.f2) q ∧ Evt (fun k => impl_EqualRegex.f k x.f0 x.f1 x.f2 y.f0 y.f1 y.f2) q := by
  induction h with
  | mk a b l hl hs ih =>
    rintro ⟨a', b', l'⟩
    have hbad : Evt (fun k => spec_EqualRegex.j0 k true a b l a' b' l') false := by
      refine Evt.step ?_
      simp only [spec_EqualRegex.j0]
      exact Evt.pos trivial (Evt.ret _)
    have hg : ∀ q, Evt2 (fun i j => impl_EqualRegexG.f (fun _ => impl_EqualRegex.f i) j a b l a' b' l') q → Evt (fun k => impl_EqualRegex.f k a b l a' b' l') q := by
      intro q h
      refine Evt.step ?_
      simp only [impl_EqualRegex.f]
      exact Evt2.diag h
    by_cases c1 : a = a'
    · by_cases c2 : b.toList = b'.toList
      · by_cases c3 : l.length = l'.length
        · have hh : ∀ d i : Nat, i + d = l.length → ∃ q, Evt (fun k => spec_EqualRegex.l0 k (i : Int) a b l a' b' l') q ∧ Evt2 (fun p s => impl_RegexG.l0 (fun _ => impl_EqualRegex.f p) s l' l (l.length : Int) (i : Int)) q := by
            intro d
            induction d with
            | zero =>
              intro i hi
              refine ⟨true, Evt.step ?_, Evt2.step ?_⟩
              · simp only [spec_EqualRegex.l0]
                exact Evt.neg (by omega) (Evt.ret _)
              · simp only [impl_RegexG.l0]
                exact Evt2.neg (by omega) (Evt2.ret _)
            | succ d ihd =>
              intro i hi
              have hi' : i < l.length := by omega
              have hj' : i < l'.length := by omega
              obtain ⟨q, q1, q2⟩ := ih _ (List.getElem_mem hi') l'[i]
              obtain ⟨q', q1', q2'⟩ := ihd (i + 1) (by omega)
              cases q with
              | true =>
                refine ⟨q', Evt.step ?_, Evt2.step ?_⟩
                · simp only [spec_EqualRegex.l0]
                  rw [rxI_at l i hi', rxI_at l' i hj', w64s (by omega)]
                  exact Evt.pos (by omega) (Evt.pos (by omega) (Evt.pos (by omega) (Evt.bind q1 (Evt.pos rfl q1'))))
                · simp only [impl_RegexG.l0]
                  rw [rxI_at l i hi', rxI_at l' i hj', w64s (by omega)]
                  exact Evt2.pos (by omega) (Evt2.pos (by omega) (Evt2.pos (by omega) (Evt2.pos (by omega) (Evt2.bind q2 (Evt2.pos rfl q2')))))
              | false =>
                refine ⟨false, Evt.step ?_, Evt2.step ?_⟩
                · simp only [spec_EqualRegex.l0]
                  rw [rxI_at l i hi', rxI_at l' i hj']
                  exact Evt.pos (by omega) (Evt.pos (by omega) (Evt.pos (by omega) (Evt.bind q1 (Evt.neg (by decide) (Evt.ret _)))))
                · simp only [impl_RegexG.l0]
                  rw [rxI_at l i hi', rxI_at l' i hj']
                  exact Evt2.pos (by omega) (Evt2.pos (by omega) (Evt2.pos (by omega) (Evt2.pos (by omega) (Evt2.bind q2 (Evt2.neg (by decide) (Evt2.ret _))))))
          obtain ⟨q, q1, q2⟩ := hh l.length 0 (by omega)
          refine ⟨q, Evt.step ?_, hg _ ?_⟩
          · simp only [spec_EqualRegex.f]
            refine Evt.pos c1 (Evt.pos c2 (Evt.step ?_))
            simp only [spec_EqualRegex.j0]
            exact Evt.neg (by simp [c3]) q1
          · simp only [impl_EqualRegexG.f, impl_RegexG.f]
            exact Evt2.pos c1 (Evt2.pos c2 (Evt2.bind2 (Evt2.pos (by omega) q2) (Evt2.ret _)))
        · refine ⟨false, Evt.step ?_, hg _ ?_⟩
          · simp only [spec_EqualRegex.f]
            have e : ((l.length : Int) != (l'.length : Int)) = true := bne_iff_ne.mpr (by omega)
            rw [e]
            exact Evt.pos c1 (Evt.pos c2 hbad)
          · simp only [impl_EqualRegexG.f, impl_RegexG.f]
            exact Evt2.pos c1 (Evt2.pos c2 (Evt2.bind2 (Evt2.neg (by omega) (Evt2.ret _)) (Evt2.ret _)))
      · refine ⟨false, Evt.step ?_, hg _ ?_⟩
        · simp only [spec_EqualRegex.f]
          exact Evt.pos c1 (Evt.neg c2 hbad)
        · simp only [impl_EqualRegexG.f]
          exact Evt2.pos c1 (Evt2.neg c2 (Evt2.ret _))
    · refine ⟨false, Evt.step ?_, hg _ ?_⟩
      · simp only [spec_EqualRegex.f]
        exact Evt.neg c1 hbad
      · simp only [impl_EqualRegexG.f]
        exact Evt2.neg c1 (Evt2.ret _)

end Go.Proofs.Ytpppopdmnejcfaa.F


namespace Go.Proofs.Ytpppopdmnejcfaa.F
set_option linter.unusedVariables false
set_option linter.unusedSimpArgs false
open Go.RowKit Go.Proofs.YtpppopdmnejcfaaW.PrintWords Go.Proofs.Ytpppopdmnejcfaa.Pl Go.Proofs.Ytpppopdmnejcfaa.A

theorem szIntS_eq (l : List Int) (a : Int) (ha : -1 ≤ a) (ha' : a ≤ 1048576) (hl : l.length ≤ 9223372036854775807) :
    ∃ t, laws_szIntS.f l a = some t ∧ (t = -1 ∨ (0 ≤ t ∧ t = a - l.length)) := by
  unfold laws_szIntS.f
  rw [w64_sub ha ha' hl]
  by_cases h1 : a - l.length < 0
  · exact ⟨-1, by rw [if_pos h1], .inl rfl⟩
  · rw [if_neg h1]; exact ⟨_, rfl, .inr ⟨by omega, rfl⟩⟩
theorem set_next (l : List Int) (i n : Nat) (hn : l.length = n) (hi : i < n) : (l.take i ++ List.replicate (n - i) 0).set i (rd l (i : Int)) = l.take (i + 1) ++ List.replicate (n - (i + 1)) 0 := by
  have hl : (l.take i).length = i := by rw [List.length_take]; omega
  have e : rd l (i : Int) = l[i] := by simp [rd, show i < l.length by omega]
  rw [List.set_append_right _ _ (by omega), hl, Nat.sub_self, show n - i = (n - (i + 1)) + 1 by omega, List.replicate_succ, List.set_cons_zero, List.take_succ_eq_append_getElem (by omega), e, List.append_assoc]
  rfl
theorem toIntS_ev (l : List Int) (hl : l.length ≤ 35184372088832) : Evt (fun k => laws_toIntS.f k l) l := by
  simp only [laws_toIntS.f]
  refine Evt.pos (by omega) (Evt.pos (by omega) ?_)
  rw [Int.toNat_natCast]
  have h : ∀ d i : Nat, i + d = l.length → Evt (fun k => laws_toIntS.l0 k l (l.take i ++ List.replicate (l.length - i) 0) (i : Int)) l := by
    intro d
    induction d with
    | zero =>
      intro i hi
      refine Evt.step ?_
      simp only [laws_toIntS.l0]
      refine Evt.neg (by omega) (Evt.const ?_)
      obtain rfl : i = l.length := by omega
      simp
    | succ d ih =>
      intro i hi
      refine Evt.step ?_
      simp only [laws_toIntS.l0]
      rw [w64s (by omega), Int.toNat_natCast, set_next l i l.length rfl (by omega)]
      exact Evt.pos (by omega) (Evt.pos (by omega) (Evt.pos (by simp; omega) (ih (i + 1) (by omega))))
  simpa using h l.length 0 (by omega)
theorem eqIntS_ev (l l' : List Int) (hl : l.length ≤ 9223372036854775807) : Evt (fun k => laws_eqIntS.f k l l') (decide (l = l')) := by
  simp only [laws_eqIntS.f]
  by_cases he : l.length = l'.length
  · refine Evt.pos (by omega) ?_
    have h := Evt.up (fun k i => laws_eqIntS.l0 k l l' i) l.length (fun i => decide (l.drop i = l'.drop i)) ?_ ?_
    · simpa using h
    · refine Evt.step ?_
      simp only [laws_eqIntS.l0]
      refine Evt.neg (by omega) (Evt.const ?_)
      rw [List.drop_of_length_le (Nat.le_refl _), List.drop_of_length_le (by omega)]
      rfl
    · intro i hi h
      refine Evt.step ?_
      simp only [laws_eqIntS.l0]
      have hi' : i < l'.length := by omega
      refine Evt.pos (by omega) (Evt.pos (by omega) (Evt.pos (by omega) ?_))
      rw [List.drop_eq_getElem_cons hi, List.drop_eq_getElem_cons hi', w64s (by omega)]
      have e1 : rd l (i : Int) = l[i] := by simp [rd, hi]
      have e2 : rd l' (i : Int) = l'[i] := by simp [rd, hi']
      rw [e1, e2]
      by_cases hc : l[i] = l'[i]
      · exact Evt.pos hc (h.cast (by rw [hc]; simp only [List.cons.injEq, true_and]))
      · exact Evt.neg hc (Evt.const (by rw [decide_eq_false (fun e => hc (List.cons.inj e).1)]))
  · refine Evt.neg (by omega) (Evt.const ?_)
    have : l ≠ l' := fun e => he (by rw [e])
    simp [this]

end Go.Proofs.Ytpppopdmnejcfaa.F


namespace Go.Proofs.Ytpppopdmnejcfaa.F
set_option linter.unusedVariables false
set_option linter.unusedSimpArgs false
open Go.RowKit Go.Proofs.YtpppopdmnejcfaaW.PrintWords Go.Proofs.Ytpppopdmnejcfaa.Pl Go.Proofs.Ytpppopdmnejcfaa.A

theorem rd_at (l : List Int) (i : Nat) (h : i < l.length) : rd l (i : Int) = l[i] := by simp [rd, h]
theorem l5Ints_ev (l l' : List Int) (hl : l.length ≤ 9223372036854775807) : Evt (fun k => spec_l5Ints.f k l l') (decide (l = l')) := by
  simp only [spec_l5Ints.f]
  by_cases he : l.length = l'.length
  · refine Evt.pos (by omega) ?_
    have h := Evt.up (fun k i => spec_l5Ints.l0 k l l' i) l.length (fun i => decide (l.drop i = l'.drop i)) ?_ ?_
    · simpa using h
    · refine Evt.step ?_
      simp only [spec_l5Ints.l0]
      refine Evt.neg (by omega) (Evt.const ?_)
      rw [List.drop_of_length_le (Nat.le_refl _), List.drop_of_length_le (by omega)]
      rfl
    · intro i hi h
      refine Evt.step ?_
      simp only [spec_l5Ints.l0]
      have hi' : i < l'.length := by omega
      refine Evt.pos (by omega) (Evt.pos (by omega) (Evt.pos (by omega) ?_))
      rw [List.drop_eq_getElem_cons hi, List.drop_eq_getElem_cons hi', w64s (by omega), rd_at l i hi, rd_at l' i hi']
      by_cases hc : l[i] = l'[i]
      · exact Evt.pos hc (h.cast (by rw [hc]; simp only [List.cons.injEq, true_and]))
      · exact Evt.neg hc (Evt.const (by rw [decide_eq_false (fun e => hc (List.cons.inj e).1)]))
  · refine Evt.neg (by omega) (Evt.const ?_)
    have : l ≠ l' := fun e => he (by rw [e])
    simp [this]
theorem slEq_ev (l l' : List Int) (hl : l.length ≤ 9223372036854775807) : Evt (fun k => slices_Equal_int_int.f k l l') (decide (l = l')) := by
  simp only [slices_Equal_int_int.f]
  by_cases he : l.length = l'.length
  · refine Evt.pos (by omega) ?_
    have h := Evt.up (fun k i => slices_Equal_int_int.l0 k l l' (l.length : Int) i) l.length (fun i => decide (l.drop i = l'.drop i)) ?_ ?_
    · simpa using h
    · refine Evt.step ?_
      simp only [slices_Equal_int_int.l0]
      refine Evt.neg (by omega) (Evt.const ?_)
      rw [List.drop_of_length_le (Nat.le_refl _), List.drop_of_length_le (by omega)]
      rfl
    · intro i hi h
      refine Evt.step ?_
      simp only [slices_Equal_int_int.l0]
      have hi' : i < l'.length := by omega
      refine Evt.pos (by omega) (Evt.pos (by omega) (Evt.pos (by omega) (Evt.pos (by omega) ?_)))
      rw [List.drop_eq_getElem_cons hi, List.drop_eq_getElem_cons hi', w64s (by omega), rd_at l i hi, rd_at l' i hi']
      by_cases hc : l[i] = l'[i]
      · exact Evt.pos hc (h.cast (by rw [hc]; simp only [List.cons.injEq, true_and]))
      · exact Evt.neg hc (Evt.const (by rw [decide_eq_false (fun e => hc (List.cons.inj e).1)]))
  · refine Evt.neg (by omega) (Evt.const ?_)
    have : l ≠ l' := fun e => he (by rw [e])
    simp [this]

end Go.Proofs.Ytpppopdmnejcfaa.F


namespace Go.Proofs.Ytpppopdmnejcfaa.F
set_option linter.unusedVariables false
set_option linter.unusedSimpArgs false
open Go.RowKit Go.Proofs.YtpppopdmnejcfaaW.PrintWords Go.Proofs.Ytpppopdmnejcfaa.Pl Go.Proofs.Ytpppopdmnejcfaa.A Go.Proofs.Ytpppopdmnejcfaa.Ext

/-- A copy of a constraint: of its expression, that is. -/
def CpC (a : Int) (b c : ByteArray) (d : Int) (e : ByteArray) (l : List S34) (m : List Int) (n : Int) (y : List S42) : Prop :=
  Sm ⟨d, e, y⟩ ∧ m.length ≤ 1048576 ∧ Evt (fun k => laws_toConstraint.f k a b c d e l m n) (a, b, c, d, e, y, m, n)
theorem szConstraint_ev (a : Int) (b c : ByteArray) (d : Int) (e : ByteArray) (l : List S34) (m : List Int) (n : Int) (N : Nat) (v : Int) (hv : 0 ≤ v) (hv' : v ≤ 1048576) (hb : b.size ≤ 9223372036854775807) (hc : c.size ≤ 9223372036854775807) (hr : RxOk N ⟨d, e, l⟩) (hm : m.length ≤ 9223372036854775807) :
    ∃ t, Evt (fun k => laws_szConstraint.f k a b c d e l m n v) t ∧ (t = -1 ∨ (0 ≤ t ∧ t ≤ v ∧ ∃ y, CpC a b c d e l m n y)) := by
  simp only [laws_szConstraint.f]
  rw [w64_sub (by omega) (by omega) hb]
  by_cases c1 : v - b.size < 0
  · exact ⟨-1, Evt.pos c1 (Evt.ret _), .inl rfl⟩
  rw [w64_sub (by omega) (by omega) hc]
  by_cases c2 : v - b.size - c.size < 0
  · exact ⟨-1, Evt.neg c1 (Evt.pos c2 (Evt.ret _)), .inl rfl⟩
  obtain ⟨t, ht, h1⟩ := szRegex_ev N ⟨d, e, l⟩ hr (v - b.size - c.size) (by omega) (by omega)
  simp only at ht
  rcases h1 with rfl | ⟨h1, h2, h3⟩
  · exact ⟨-1, Evt.neg c1 (Evt.neg c2 (Evt.bind ht (Evt.pos (by decide) (Evt.ret _)))), .inl rfl⟩
  obtain ⟨u, hu, h4⟩ := szIntS_eq m t (by omega) (by omega) hm
  rcases h4 with rfl | ⟨h4, h5⟩
  · exact ⟨-1, Evt.neg c1 (Evt.neg c2 (Evt.bind ht (Evt.neg (by omega) (Evt.bindc hu (Evt.pos (by decide) (Evt.ret _)))))), .inl rfl⟩
  refine ⟨u, Evt.neg c1 (Evt.neg c2 (Evt.bind ht (Evt.neg (by omega) (Evt.bindc hu (Evt.neg (by omega) (Evt.ret _)))))), .inr ⟨h4, by omega, ?_⟩⟩
  obtain ⟨⟨d', e', y⟩, hs, he⟩ := h3
  simp only at he
  have hde : d' = d ∧ e' = e := by
    obtain ⟨K, hK⟩ := he
    have h6 := hK (K + 1) (by omega)
    simp only [laws_toRegex.f, laws_toRegexG.f] at h6
    obtain ⟨z, _, h7⟩ := Option.bind_eq_some_iff.mp h6
    simp only [Option.some.injEq, Prod.mk.injEq] at h7
    exact ⟨h7.1.symm, h7.2.1.symm⟩
  obtain ⟨rfl, rfl⟩ := hde
  refine ⟨y, hs, by omega, ?_⟩
  simp only [laws_toConstraint.f]
  exact Evt.bind he (Evt.bind (toIntS_ev m (by omega)) (Evt.ret _))
theorem eqConstraint_ev (a : Int) (b c : ByteArray) (d : Int) (e : ByteArray) (y : List S42) (m : List Int) (n : Int) (hy : Sm ⟨d, e, y⟩) (hm : m.length ≤ 1048576) : Evt (fun k => laws_eqConstraint.f k a b c d e y m n a b c d e y m n) true := by
  simp only [laws_eqConstraint.f]
  exact Evt.pos trivial (Evt.pos trivial (Evt.pos trivial (Evt.bind (eqRegex_ev _ hy) (Evt.pos rfl (Evt.bind (eqIntS_ev m m (by omega)) (Evt.pos (by simp) (Evt.pos trivial (Evt.ret _))))))))
theorem equalConstraint_ev (a : Int) (b c : ByteArray) (d : Int) (e : ByteArray) (y : List S42) (m : List Int) (n : Int) (a' : Int) (b' c' : ByteArray) (d' : Int) (e' : ByteArray) (y' : List S42) (m' : List Int) (n' : Int) (hy : Sm ⟨d, e, y⟩) (hm : m.length ≤ 1048576) :
    ∃ q, Evt (fun k => spec_EqualConstraint.f k a b c d e y m n a' b' c' d' e' y' m' n') q ∧ Evt (fun k => impl_EqualConstraint.f k a b c d e y m n a' b' c' d' e' y' m' n') q := by
  simp only [spec_EqualConstraint.f, impl_EqualConstraint.f]
  obtain ⟨q, q1, q2⟩ := equalRegex_ev ⟨d, e, y⟩ hy ⟨d', e', y'⟩
  have h1 := l5Ints_ev m m' (by omega)
  have h2 := slEq_ev m m' (by omega)
  by_cases c1 : a = a'
  · by_cases c2 : b.toList = b'.toList
    · by_cases c3 : c.toList = c'.toList
      · cases q with
        | true =>
          by_cases c4 : m = m'
          · exact ⟨_, Evt.pos c1 (Evt.pos c2 (Evt.pos c3 (Evt.bind q1 (Evt.pos rfl (Evt.bind h1 (Evt.pos (by simp [c4]) (Evt.ret _))))))), Evt.pos c1 (Evt.pos c2 (Evt.pos c3 (Evt.bind q2 (Evt.pos rfl (Evt.bind h2 (Evt.pos (by simp [c4]) (Evt.ret _)))))))⟩
          · exact ⟨_, Evt.pos c1 (Evt.pos c2 (Evt.pos c3 (Evt.bind q1 (Evt.pos rfl (Evt.bind h1 (Evt.neg (by simp [c4]) (Evt.ret _))))))), Evt.pos c1 (Evt.pos c2 (Evt.pos c3 (Evt.bind q2 (Evt.pos rfl (Evt.bind h2 (Evt.neg (by simp [c4]) (Evt.ret _)))))))⟩
        | false => exact ⟨_, Evt.pos c1 (Evt.pos c2 (Evt.pos c3 (Evt.bind q1 (Evt.neg (by decide) (Evt.ret _))))), Evt.pos c1 (Evt.pos c2 (Evt.pos c3 (Evt.bind q2 (Evt.neg (by decide) (Evt.ret _)))))⟩
      · exact ⟨_, Evt.pos c1 (Evt.pos c2 (Evt.neg c3 (Evt.ret _))), Evt.pos c1 (Evt.pos c2 (Evt.neg c3 (Evt.ret _)))⟩
    · exact ⟨_, Evt.pos c1 (Evt.neg c2 (Evt.ret _)), Evt.pos c1 (Evt.neg c2 (Evt.ret _))⟩
  · exact ⟨_, Evt.neg c1 (Evt.ret _), Evt.neg c1 (Evt.ret _)⟩

end Go.Proofs.Ytpppopdmnejcfaa.F


namespace Go.Proofs.Ytpppopdmnejcfaa.F
set_option linter.unusedVariables false
set_option linter.unusedSimpArgs false
open Go.RowKit Go.Proofs.YtpppopdmnejcfaaW.PrintWords Go.Proofs.Ytpppopdmnejcfaa.Pl Go.Proofs.Ytpppopdmnejcfaa.A Go.Proofs.Ytpppopdmnejcfaa.Ext

theorem csL_at (l : List S37) (i : Nat) (h : i < l.length) : rd_T37 l (i : Int) = l[i] := by simp [rd_T37, h]
theorem csI_at (l : List S44) (i : Nat) (h : i < l.length) : rd_T44 l (i : Int) = l[i] := by simp [rd_T44, h]
theorem rxL_eta (y : S34) : (⟨y.f0, y.f1, y.f2⟩ : S34) = y := by cases y; rfl
/-- Lengths that a machine can hold. -/
def CsOk (x : S37) : Prop := x.f1.size ≤ 9223372036854775807 ∧ x.f2.size ≤ 9223372036854775807 ∧ (∃ n, RxOk n x.f3) ∧ x.f4.length ≤ 9223372036854775807
/-- What copying hands out. -/
def CsSm (y : S44) : Prop := Sm y.f3 ∧ y.f4.length ≤ 1048576 ∧ y.f1.size ≤ 1048576 ∧ y.f2.size ≤ 1048576
def CpK (x : S37) (y : S44) : Prop := CsSm y ∧ Evt (fun k => laws_toConstraint.f k x.f0 x.f1 x.f2 x.f3.f0 x.f3.f1 x.f3.f2 x.f4 x.f5) (y.f0, y.f1, y.f2, y.f3.f0, y.f3.f1, y.f3.f2, y.f4, y.f5)
theorem csI_eta (y : S44) : (⟨y.f0, y.f1, y.f2, (⟨y.f3.f0, y.f3.f1, y.f3.f2⟩ : S42), y.f4, y.f5⟩ : S44) = y := by
  have h := rx_eta y.f3
  rw [h]
theorem szCs_ev (x : S37) (h : CsOk x) (v : Int) (hv : 0 ≤ v) (hv' : v ≤ 1048576) : ∃ t, Evt (fun k => laws_szConstraint.f k x.f0 x.f1 x.f2 x.f3.f0 x.f3.f1 x.f3.f2 x.f4 x.f5 v) t ∧ (t = -1 ∨ (0 ≤ t ∧ t ≤ v ∧ ∃ y, CpK x y)) := by
  obtain ⟨h1, h2, ⟨N, h3⟩, h4⟩ := h
  by_cases c1 : v - x.f1.size < 0
  · refine ⟨-1, ?_, .inl rfl⟩
    simp only [laws_szConstraint.f]
    rw [w64_sub (by omega) (by omega) h1]
    exact Evt.pos c1 (Evt.ret _)
  by_cases c2 : v - x.f1.size - x.f2.size < 0
  · refine ⟨-1, ?_, .inl rfl⟩
    simp only [laws_szConstraint.f]
    rw [w64_sub (by omega) (by omega) h1, w64_sub (by omega) (by omega) h2]
    exact Evt.neg c1 (Evt.pos c2 (Evt.ret _))
  obtain ⟨t, ht, hc⟩ := szConstraint_ev x.f0 x.f1 x.f2 x.f3.f0 x.f3.f1 x.f3.f2 x.f4 x.f5 N v hv hv' h1 h2 (by rw [rxL_eta]; exact h3) h4
  refine ⟨t, ht, hc.imp id ?_⟩
  rintro ⟨g1, g2, y, y1, y2, y3⟩
  exact ⟨g1, g2, ⟨x.f0, x.f1, x.f2, ⟨x.f3.f0, x.f3.f1, y⟩, x.f4, x.f5⟩, ⟨y1, y2, show x.f1.size ≤ 1048576 by omega, show x.f2.size ≤ 1048576 by omega⟩, y3⟩
theorem copiesK (l : List S37) (h : ∀ x ∈ l, ∃ y, CpK x y) : ∃ ys : List S44, ys.length = l.length ∧ ∀ (i : Nat) (h : i < l.length) (h' : i < ys.length), CpK l[i] ys[i] := by
  induction l with
  | nil => exact ⟨[], rfl, fun i h => absurd h (by simp)⟩
  | cons x l ih =>
    obtain ⟨y, hy⟩ := h x (by simp)
    obtain ⟨ys, h1, h2⟩ := ih (fun z hz => h z (by simp [hz]))
    refine ⟨y :: ys, by simp [h1], fun i hi hi' => ?_⟩
    cases i with
    | zero => exact hy
    | succ i => exact h2 i (by simpa using hi) (by simpa using hi')
/-- A copy of a list of constraints. -/
def CpL (l : List S37) (ys : List S44) : Prop := ys.length ≤ 1048576 ∧ (∀ y ∈ ys, CsSm y) ∧ Evt (fun k => laws_toConstraintS.f k l) ys
theorem toCsS_ev (l : List S37) (hl : l.length ≤ 1048576) (h : ∀ x ∈ l, ∃ y, CpK x y) : ∃ ys, CpL l ys := by
  obtain ⟨ys, e, hc⟩ := copiesK l h
  refine ⟨ys, by omega, fun y hy => ?_, ?_⟩
  · obtain ⟨i, hi, rfl⟩ := List.mem_iff_getElem.1 hy
    exact (hc i (by omega) hi).1
  · simp only [laws_toConstraintS.f]
    refine Evt.pos (by omega) (Evt.pos (by omega) ?_)
    rw [Int.toNat_natCast]
    have hh : ∀ d i : Nat, i + d = l.length → Evt (fun k => laws_toConstraintS.l0 k l (ys.take i ++ List.replicate (l.length - i) z44) (i : Int)) ys := by
      intro d
      induction d with
      | zero =>
        intro i hi
        refine Evt.step ?_
        simp only [laws_toConstraintS.l0]
        refine Evt.neg (by omega) ((Evt.ret _).cast ?_)
        rw [show l.length - i = 0 by omega, List.take_of_length_le (by omega)]
        simp
      | succ d ih =>
        intro i hi
        have hi' : i < l.length := by omega
        refine Evt.step ?_
        simp only [laws_toConstraintS.l0]
        rw [csL_at l i hi']
        refine Evt.pos (by omega) (Evt.pos (by omega) (Evt.bind (hc i hi' (by omega)).2 (Evt.pos (by simp; omega) ?_)))
        rw [Int.toNat_natCast, w64s (by omega)]
        have hx : (ys.take i).length = i := by rw [List.length_take]; omega
        have e2 : (ys.take i ++ List.replicate (l.length - i) z44).set i (ys[i]'(by omega)) = ys.take (i + 1) ++ List.replicate (l.length - (i + 1)) z44 := by
          rw [List.set_append_right _ _ (by omega), hx, Nat.sub_self, show l.length - i = (l.length - (i + 1)) + 1 by omega, List.replicate_succ, List.set_cons_zero, List.take_succ_eq_append_getElem (by omega), List.append_assoc]
          rfl
        simp only [csI_eta, e2]
        exact ih (i + 1) (by omega)
    simpa using hh l.length 0 (by omega)
theorem szCsS_ev (l : List S37) (hl : l.length ≤ 9223372036854775807) (h : ∀ x ∈ l, CsOk x) (v : Int) (hv : 0 ≤ v) (hv' : v ≤ 1048576) : ∃ t, Evt (fun k => laws_szConstraintS.f k l v) t ∧ (t = -1 ∨ (0 ≤ t ∧ t ≤ v ∧ ∃ ys, CpL l ys)) := by
  simp only [laws_szConstraintS.f]
  rw [w64_sub (by omega) hv' hl]
  by_cases h1 : v - l.length < 0
  · exact ⟨-1, Evt.pos h1 (Evt.ret _), .inl rfl⟩
  have hh : ∀ d i : Nat, i + d = l.length → ∀ b : Int, 0 ≤ b → b ≤ 1048576 → ∃ t, Evt (fun k => laws_szConstraintS.l0 k l b (i : Int)) t ∧ (t = -1 ∨ (0 ≤ t ∧ t ≤ b ∧ ∀ x ∈ l.drop i, ∃ y, CpK x y)) := by
    intro d
    induction d with
    | zero =>
      intro i hi b hb hb'
      refine ⟨b, Evt.step ?_, .inr ⟨hb, Int.le_refl _, ?_⟩⟩
      · simp only [laws_szConstraintS.l0]
        exact Evt.neg (by omega) (Evt.ret _)
      · rw [List.drop_of_length_le (by omega)]
        intro x hx
        cases hx
    | succ d ih =>
      intro i hi b hb hb'
      have hi' : i < l.length := by omega
      obtain ⟨t, ht, hc⟩ := szCs_ev l[i] (h _ (List.getElem_mem hi')) b hb hb'
      by_cases h2 : t < 0
      · refine ⟨-1, Evt.step ?_, .inl rfl⟩
        simp only [laws_szConstraintS.l0]
        rw [csL_at l i hi']
        exact Evt.pos (by omega) (Evt.pos (by omega) (Evt.bind ht (Evt.pos h2 (Evt.ret _))))
      · have hc' := hc.resolve_left (by omega)
        obtain ⟨t', ht', hc2⟩ := ih (i + 1) (by omega) t (by omega) (by omega)
        refine ⟨t', Evt.step ?_, ?_⟩
        · simp only [laws_szConstraintS.l0]
          rw [csL_at l i hi', w64s (by omega)]
          exact Evt.pos (by omega) (Evt.pos (by omega) (Evt.bind ht (Evt.neg h2 ht')))
        · rcases hc2 with h3 | ⟨h3, h4, h5⟩
          · exact .inl h3
          · refine .inr ⟨h3, by omega, ?_⟩
            rw [List.drop_eq_getElem_cons hi']
            intro x hx
            rcases List.mem_cons.1 hx with rfl | hx
            · exact hc'.2.2
            · exact h5 x hx
  obtain ⟨t, ht, hc⟩ := hh l.length 0 (by omega) (v - l.length) (by omega) (by omega)
  refine ⟨t, Evt.neg h1 ht, hc.imp id ?_⟩
  rintro ⟨g1, g2, g3⟩
  exact ⟨g1, by omega, toCsS_ev l (by omega) (by simpa using g3)⟩
theorem eqCsS_ev (ys : List S44) (hl : ys.length ≤ 1048576) (h : ∀ y ∈ ys, CsSm y) : Evt (fun k => laws_eqConstraintS.f k ys ys) true := by
  simp only [laws_eqConstraintS.f]
  refine Evt.pos trivial ?_
  have hh := Evt.up (fun k i => laws_eqConstraintS.l0 k ys ys i) ys.length (fun _ => true) ?_ ?_
  · exact hh
  · refine Evt.step ?_
    simp only [laws_eqConstraintS.l0]
    exact Evt.neg (by omega) (Evt.ret _)
  · intro i hi ih
    refine Evt.step ?_
    simp only [laws_eqConstraintS.l0]
    rw [csI_at ys i hi, w64s (by omega)]
    obtain ⟨g1, g2, _, _⟩ := h _ (List.getElem_mem hi)
    exact Evt.pos (by omega) (Evt.pos (by omega) (Evt.pos (by omega) (Evt.bind (eqConstraint_ev _ _ _ _ _ _ _ _ (by rw [rx_eta]; exact g1) g2) (Evt.pos rfl ih))))

end Go.Proofs.Ytpppopdmnejcfaa.F


namespace Go.Proofs.Ytpppopdmnejcfaa.F
set_option linter.unusedVariables false
set_option linter.unusedSimpArgs false
open Go.RowKit Go.Proofs.YtpppopdmnejcfaaW.PrintWords Go.Proofs.Ytpppopdmnejcfaa.Pl Go.Proofs.Ytpppopdmnejcfaa.A Go.Proofs.Ytpppopdmnejcfaa.Ext

theorem szProblem_ev (l : List S37) (hl : l.length ≤ 9223372036854775807) (h : ∀ x ∈ l, CsOk x) (v : Int) (hv : 0 ≤ v) (hv' : v ≤ 1048576) : ∃ t, Evt (fun k => laws_szProblem.f k l v) t ∧ (t = -1 ∨ (0 ≤ t ∧ t ≤ v ∧ ∃ ys, CpL l ys)) := by
  obtain ⟨t, ht, hc⟩ := szCsS_ev l hl h v hv hv'
  simp only [laws_szProblem.f]
  rcases hc with rfl | ⟨h0, h1, h2⟩
  · exact ⟨-1, Evt.bind ht (Evt.pos (by decide) (Evt.ret _)), .inl rfl⟩
  · exact ⟨t, Evt.bind ht (Evt.neg (by omega) (Evt.ret _)), .inr ⟨h0, h1, h2⟩⟩
theorem toProblem_ev {l : List S37} {ys : List S44} (h : CpL l ys) : Evt (fun k => laws_toProblem.f k l) ys := by
  simp only [laws_toProblem.f]
  exact Evt.bind h.2.2 (Evt.ret _)
theorem eqProblem_ev {l : List S37} {ys : List S44} (h : CpL l ys) : Evt (fun k => laws_eqProblem.f k ys ys) true := by
  simp only [laws_eqProblem.f]
  exact Evt.bind (eqCsS_ev ys h.1 h.2.1) (Evt.pos rfl (Evt.ret _))

end Go.Proofs.Ytpppopdmnejcfaa.F


namespace Go.Proofs.Ytpppopdmnejcfaa.Pure
set_option linter.unusedVariables false
set_option linter.unusedSimpArgs false
open Go Go.RowKit Go.Proofs.YtpppopdmnejcfaaW.PrintWords Go.Proofs.Ytpppopdmnejcfaa.Pl Go.Proofs.Ytpppopdmnejcfaa.F Go.Proofs.Ytpppopdmnejcfaa.A Go.Proofs.Ytpppopdmnejcfaa.Ext Go.Proofs.Ytpppopdmnejcfaa.BtFnExactEqualProblem

theorem rxOk_of (n : Nat) : ∀ x : S34, wf34N n x → RxOk n x := by
  induction n with
  | zero => intro x h; exact h.elim
  | succ n ih => intro x h; exact ⟨h.2.1, h.2.2.1, fun a ha => ih a (h.2.2.2 a ha)⟩
theorem csOk_of (x : S37) (h : wf37 x) : CsOk x := by
  obtain ⟨_, h1, h2, ⟨n, h3⟩, h4, _⟩ := h
  exact ⟨h1, h2, ⟨n, rxOk_of n _ h3⟩, h4.1⟩
theorem spec_l0 (ys zs : List S44) (hl : ys.length = zs.length) (hs : ys.length ≤ 1048576) (hy : ∀ y ∈ ys, CsSm y) : ∀ d i : Nat, i + d = ys.length → ∃ q, Evt (fun k => spec_EqualProblem.l0 k (i : Int) ys zs) q ∧ Evt (fun k => impl_Constraint_83.l0 k zs ys (ys.length : Int) (i : Int)) q := by
  intro d
  induction d with
  | zero =>
    intro i hi
    refine ⟨true, Evt.step ?_, Evt.step ?_⟩
    · simp only [spec_EqualProblem.l0]
      exact Evt.neg (by omega) (Evt.ret _)
    · simp only [impl_Constraint_83.l0]
      exact Evt.neg (by omega) (Evt.ret _)
  | succ d ih =>
    intro i hi
    have hi' : i < ys.length := by omega
    have hj' : i < zs.length := by omega
    obtain ⟨g1, g2, _, _⟩ := hy _ (List.getElem_mem hi')
    obtain ⟨q, q1, q2⟩ := equalConstraint_ev ys[i].f0 ys[i].f1 ys[i].f2 ys[i].f3.f0 ys[i].f3.f1 ys[i].f3.f2 ys[i].f4 ys[i].f5 zs[i].f0 zs[i].f1 zs[i].f2 zs[i].f3.f0 zs[i].f3.f1 zs[i].f3.f2 zs[i].f4 zs[i].f5 (by rw [rx_eta]; exact g1) g2
    obtain ⟨q', q1', q2'⟩ := ih (i + 1) (by omega)
    cases q with
    | true =>
      refine ⟨q', Evt.step ?_, Evt.step ?_⟩
      · simp only [spec_EqualProblem.l0]
        rw [csI_at ys i hi', csI_at zs i hj', w64s (by omega)]
        exact Evt.pos (by omega) (Evt.pos (by omega) (Evt.pos (by omega) (Evt.bind q1 (Evt.pos rfl q1'))))
      · simp only [impl_Constraint_83.l0]
        rw [csI_at ys i hi', csI_at zs i hj', w64s (by omega)]
        exact Evt.pos (by omega) (Evt.pos (by omega) (Evt.pos (by omega) (Evt.pos (by omega) (Evt.bind q2 (Evt.pos rfl q2')))))
    | false =>
      refine ⟨false, Evt.step ?_, Evt.step ?_⟩
      · simp only [spec_EqualProblem.l0]
        rw [csI_at ys i hi', csI_at zs i hj']
        exact Evt.pos (by omega) (Evt.pos (by omega) (Evt.pos (by omega) (Evt.bind q1 (Evt.neg (by decide) (Evt.ret _)))))
      · simp only [impl_Constraint_83.l0]
        rw [csI_at ys i hi', csI_at zs i hj']
        exact Evt.pos (by omega) (Evt.pos (by omega) (Evt.pos (by omega) (Evt.pos (by omega) (Evt.bind q2 (Evt.neg (by decide) (Evt.ret _))))))
theorem equalProblem_ev (ys zs : List S44) (hs : ys.length ≤ 1048576) (hy : ∀ y ∈ ys, CsSm y) : ∃ q, Evt (fun k => spec_EqualProblem.f k ys zs) q ∧ Evt (fun k => impl_EqualProblem.f k ys zs) q := by
  simp only [spec_EqualProblem.f, impl_EqualProblem.f, impl_Constraint_83.f]
  by_cases h : ys.length = zs.length
  · obtain ⟨q, q1, q2⟩ := spec_l0 ys zs h hs hy ys.length 0 (by omega)
    exact ⟨q, Evt.pos (by omega) q1, Evt.bind (Evt.pos (by omega) q2) (Evt.ret _)⟩
  · exact ⟨false, Evt.neg (by omega) (Evt.ret _), Evt.bind (Evt.neg (by omega) (Evt.ret _)) (Evt.ret _)⟩
theorem FnExactEqualProblem : FnExactEqualProblem.Pure := by
  intro l l' hl hl'
  refine Evt.get (g := fun k => laws_FnExactEqualProblem.f k l l') ?_
  simp only [laws_FnExactEqualProblem.f]
  obtain ⟨t, ht, hs⟩ := szProblem_ev l hl.1 (fun x hx => csOk_of x (hl.2 x hx)) 1048576 (by omega) (by omega)
  rcases hs with rfl | ⟨h0, h1, ys, hy⟩
  · exact Evt.bind ht (Evt.pos (by decide) (Evt.ret _))
  obtain ⟨t', ht', hs'⟩ := szProblem_ev l' hl'.1 (fun x hx => csOk_of x (hl'.2 x hx)) t (by omega) (by omega)
  rcases hs' with rfl | ⟨h0', h1', zs, hz⟩
  · exact Evt.bind ht (Evt.neg (by omega) (Evt.bind ht' (Evt.pos (by decide) (Evt.ret _))))
  have q1 := toProblem_ev hy
  have q2 := toProblem_ev hz
  obtain ⟨q, e1, e2⟩ := equalProblem_ev ys zs hy.1 hy.2.1
  refine Evt.bind ht (Evt.neg (by omega) (Evt.bind ht' (Evt.neg (by omega) (Evt.bind q1 (Evt.bind q2 (Evt.bind e1 (Evt.bind q1 (Evt.bind q2 (Evt.bind e2 (Evt.neg (by simp) ?_))))))))))
  exact Evt.bind q1 (Evt.bind (eqProblem_ev hy) (Evt.pos rfl (Evt.bind q2 (Evt.bind (eqProblem_ev hz) (Evt.pos rfl (Evt.ret _))))))

end Go.Proofs.Ytpppopdmnejcfaa.Pure


namespace Go.Proofs.Ytpppopdmnejcfaa.fnExactEqualProblem
open Go.ChangeShapes Go.WideShapes Go.ChangeAt Go.RowKit Go.Proofs.Ytpppopdmnejcfaa.Br Go.Proofs.YtpppopdmnejcfaaW.PrintWords Go.Proofs.Ytpppopdmnejcfaa.A Go.Proofs.Ytpppopdmnejcfaa.BtFnExactEqualProblem
open Go.ChangeMaps (open_string shut_string)
set_option linter.unusedVariables false
theorem own : ownKnob Try.prog.godebug = none := by kernel_rfl
theorem laidOut : laidOutB Try.prog = true := by kernel_rfl
set_option maxHeartbeats 2000000 in
set_option maxRecDepth 100000 in
theorem lifted (os : Os) (started : os.Started) (H : Type) (enc : TypeId × Value → H) :
    ReturnsInHanded {} Try.checked os 3 .any (Rows.fnExactEqualProblemSpec.pre6 enc Try.prog Try.f3 Rows.fnExactEqualProblemRow.domain false) (Rows.fnExactEqualProblemSpec.post enc Try.prog Try.f3 false true false false) := by
  refine returnsInHanded_of_change_sized (C := Try.checked) own started (by kernel_rfl) Try.func3
    (ChangeSpec.witness6 (enc := enc) (C := Try.checked) false ⟨#[], #[.agg #[.slice none 0 0], .agg #[.slice none 0 0]], []⟩ 8 (by kernel_rfl) (by kernel_rfl) (by kernel_rfl) (by kernel_rfl)) ?_
  intro W base args ds gs before hval0 hW hcnd hsz0 _
  have hval : ∀ (j : Nat) t v, Try.f3.params[j]? = some t → args[j]? = some v → Value.okWide Try.prog W .any base t v := hval0
  have hW' := hW
  obtain ⟨p, q, hA0, hV, rfl, hfz, hnd⟩ := hW
  have hA : DataW.TrodAll enc Try.prog W 0 (fun _ => true) true Try.f3.params.toList args.toList ds p := hA0
  rw [Try.params3] at hA hval
  obtain ⟨v0, vs0, d0, ds0, p0, q0, hargs, rfl, rfl, h0, r0⟩ := trodAll_cons hA
  obtain ⟨v1, vs1, d1, ds1, p1, q1, rfl, rfl, rfl, h1, r1⟩ := trodAll_cons r0
  obtain ⟨rfl, rfl, rfl⟩ := trodAll_nil r1
  obtain rfl : args = #[v0, v1] := by cases args; simp_all
  obtain ⟨rfl, rfl⟩ := trodVars_none hV
  have k0 := h0
  have lt0 : ∀ x ∈ p0, x.block < W.heap.size := by obtain ⟨m, hm⟩ := k0; exact DataW.trod_lt m _ _ _ hm
  obtain ⟨arr0, rfl, _, _⟩ : ∃ cs, v0 = .agg cs ∧ cs.size = Try.prog.cellsOf 24 ∧ Row.okWide Try.prog W .any base 24 cs := by have z := (hval 0 24 v0 rfl rfl); unfold Value.okWide at z; rw [Try.underlying24] at z; exact z
  obtain ⟨fuel0, hf0⟩ := h0
  obtain ⟨l0_0, hK0, hw0⟩ := (show ∀ n, BrN Try.prog n 24 _ _ from fun n => (br_struct' Try.underlying24 (show Try.prog.cellsOf 24 = 1 by kernel_rfl) (fun n => (bf_one rfl (show Try.prog.cellsOf 22 = 1 by kernel_rfl) (br_slice' Try.underlying22 (show Try.prog.cellsOf 37 = 8 by kernel_rfl) (fun n => (br37 n)) n))) n)) fuel0 H enc W 0 (fun _ => true) true fuel0 _ _ (Nat.le_refl _) hf0
  replace hw0 := hw0
  have w0_0 := hw0
  obtain ⟨cs0, hcs0, hK0⟩ : ∃ cs, (Value.agg arr0).cells.toList = cs ∧ _ := ⟨_, rfl, hK0⟩
  obtain ⟨A0_0, c0_0, rfl, hc0_0, hr0_0⟩ := hK0
  obtain rfl : arr0 = #[.slice A0_0 l0_0.length c0_0] := arr_of hcs0
  have k1 := h1
  have lt1 : ∀ x ∈ p1, x.block < W.heap.size := by obtain ⟨m, hm⟩ := k1; exact DataW.trod_lt m _ _ _ hm
  obtain ⟨arr1, rfl, _, _⟩ : ∃ cs, v1 = .agg cs ∧ cs.size = Try.prog.cellsOf 24 ∧ Row.okWide Try.prog W .any base 24 cs := by have z := (hval 1 24 v1 rfl rfl); unfold Value.okWide at z; rw [Try.underlying24] at z; exact z
  obtain ⟨fuel1, hf1⟩ := h1
  obtain ⟨l1_0, hK1, hw1⟩ := (show ∀ n, BrN Try.prog n 24 _ _ from fun n => (br_struct' Try.underlying24 (show Try.prog.cellsOf 24 = 1 by kernel_rfl) (fun n => (bf_one rfl (show Try.prog.cellsOf 22 = 1 by kernel_rfl) (br_slice' Try.underlying22 (show Try.prog.cellsOf 37 = 8 by kernel_rfl) (fun n => (br37 n)) n))) n)) fuel1 H enc W 0 (fun _ => true) true fuel1 _ _ (Nat.le_refl _) hf1
  replace hw1 := hw1
  have w1_0 := hw1
  obtain ⟨cs1, hcs1, hK1⟩ : ∃ cs, (Value.agg arr1).cells.toList = cs ∧ _ := ⟨_, rfl, hK1⟩
  obtain ⟨A1_0, c1_0, rfl, hc1_0, hr1_0⟩ := hK1
  obtain rfl : arr1 = #[.slice A1_0 l1_0.length c1_0] := arr_of hcs1
  clear hA0 hval0 hsz0
  obtain ⟨k, hp⟩ := Pure.FnExactEqualProblem l0_0 l1_0 w0_0 w1_0
  refine (laws_FnExactEqualProblem.calls k _ _ l0_0 _ _ l1_0 true W hr0_0 hc0_0 hr1_0 hc1_0 hp rfl).mono fun e W' ⟨he, bel0⟩ => ?_
  subst he
  have bel : Below W.heap.size W W' := bel0
  exact ⟨_, rfl, _, _, _, [], _, [], hW', trodAll_mk1 (shut_bool Try.underlying4 _), (trodAll_cons_mk (Below.trod laidOut (by kernel_rfl) (of_decide_eq_true (by kernel_rfl)) k0 bel lt0) (trodAll_cons_mk (Below.trod laidOut (by kernel_rfl) (of_decide_eq_true (by kernel_rfl)) k1 bel lt1) trodAll_mk0)), rfl, bel.frame _, fun h => by cases h⟩
theorem fact0 : (Rows.fnExactEqualProblemRow.inPlace == Try.pinned.checked.prog.inPlace 3) = true := by kernel_rfl
theorem fact1 : (Rows.fnExactEqualProblemRow.unfollowed == Try.pinned.checked.prog.unfollowed 3) = true := by kernel_rfl
theorem fact2 : (Rows.fnExactEqualProblemRow.recurses == Try.pinned.checked.prog.recurses 3) = true := by kernel_rfl
theorem fact3 : (Rows.fnExactEqualProblemRow.named == Try.pinned.checked.prog.varsNamed 3) = true := by kernel_rfl
theorem facts : joinedFacts Try.pinned.checked.prog 3 Try.f3 Rows.fnExactEqualProblemSpec Rows.fnExactEqualProblemRow = true := by
  unfold joinedFacts
  rw [fact0, fact1, fact2, fact3]
  kernel_rfl
theorem known : Try.pinned.checked.prog.funcNamed Rows.fnExactEqualProblemRow.func = some 3 := by kernel_rfl
theorem inst : Try.f3.isInstance Try.pinned.checked.prog Rows.fnExactEqualProblemRow.origin Rows.fnExactEqualProblemRow.targs := of_decide_eq_true (by kernel_rfl)
theorem wrap : Try.f3.isWrapper Try.pinned.checked.prog Rows.fnExactEqualProblemRow.wrapper Rows.fnExactEqualProblemRow.mainSum := by unfold Func.isWrapper; first | (rw [if_pos (by decide +kernel)]; kernel_rfl) | (rw [if_neg (by decide +kernel)]; exact ⟨rfl, rfl⟩)
theorem over : Rows.fnExactEqualProblemRow.holds Try.pinned (OpenSpec.ofChange Rows.fnExactEqualProblemSpec) :=
  OpenClaim.holds_of_wide 3 Try.f3 rfl rfl rfl rfl rfl rfl rfl ⟨rfl, rfl, rfl, rfl, rfl⟩ rfl rfl rfl rfl rfl known Try.func3 facts inst wrap
    (fun os started H enc _ => lifted os started H enc)
theorem proved : Rows.FnExactEqualProblemSaid := over
#print axioms proved
end Go.Proofs.Ytpppopdmnejcfaa.fnExactEqualProblem
namespace Go.Proofs.Ytpppopdmnejcfaa
/-- The row, under a short name, for the claim. -/
theorem fnExactEqualProblem_holds : Rows.FnExactEqualProblemSaid := fnExactEqualProblem.proved
end Go.Proofs.Ytpppopdmnejcfaa
