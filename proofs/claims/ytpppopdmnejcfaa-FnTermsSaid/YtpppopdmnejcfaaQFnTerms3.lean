/- FnTerms: what its proof needs, put together by this session's program wip/merge.py out of the texts that wip/xp.py printed and of this session's own. -/
import Derived.Test.YtpppopdmnejcfaaQFnTerms2
import Derived.Test.YtpppopdmnejcfaaProg
import Derived.Shelf.Abstract
import Derived.Deep.LoopGhost
import Derived.Deep.QuietTactic
import Derived.BigQuiet
import Derived.Below
set_option linter.unusedVariables false
set_option linter.unusedSimpArgs false
set_option maxHeartbeats 8000000
set_option maxRecDepth 100000
namespace Go.Proofs.Ytpppopdmnejcfaa.A
open Go.RowKit Go.Proofs.Ytpppopdmnejcfaa.Ext Go.Proofs.YtpppopdmnejcfaaW.PrintWords Go.Proofs.YtpppopdmnejcfaaW.PrintLast Go.Proofs.YtpppopdmnejcfaaW.PrintMore
attribute [local go_sem] max2_int min2_int max_two min_two max_three min_three max_four min_four
def spec_FormatValues.l0 : Nat → List ByteArray → ByteArray → Int → ByteArray → ByteArray → ByteArray → Option (ByteArray)
 | 0, _, _, _, _, _, _ => none
 | k + 1, x5, x6, x7, x60002000, x60002001, x60002002 => if x7 < (x6.size : Int) then (if 0 ≤ x7 then (if x7 ≤ (wrap64 (x7 + 1)) then (if (wrap64 (x7 + 1)) ≤ (x6.size : Int) then (if (x6.extract (x7 : Int).toNat ((wrap64 (x7 + 1)) : Int).toNat).size + 1 ≤ 9223372036854775807 then ((spec_ValueOf.f x60002000 x60002001 x60002002 (bt x6 x7)).bind fun t60006 => (if ((x6.extract (x7 : Int).toNat ((wrap64 (x7 + 1)) : Int).toNat) ++ (⟨#[61]⟩ : ByteArray)).size + t60006.size ≤ 9223372036854775807 then (if x5.length < 8796093022208 then (spec_FormatValues.l0 k (x5 ++ [((x6.extract (x7 : Int).toNat ((wrap64 (x7 + 1)) : Int).toNat) ++ (⟨#[61]⟩ : ByteArray)) ++ t60006]) x6 (wrap64 (x7 + 1)) x60002000 x60002001 x60002002) else (none)) else (none))) else (none)) else (none)) else (none)) else (none)) else ((spec_Join.f k x5 (⟨#[32]⟩ : ByteArray)).bind fun t60010 => (some t60010))
def spec_FormatValues.f (k : Nat) (a0_0 : ByteArray) (a0_1 : ByteArray) (a0_2 : ByteArray) (a1 : ByteArray) : Option (ByteArray) := (spec_VarsOf.f k a1).bind fun t60005 => (spec_FormatValues.l0 k (([] : List ByteArray)) t60005 0 a0_0 a0_1 a0_2)
theorem spec_FormatValues.mono_l : ∀ k, (∀ y0 y1 y2 y3 y4 y5, LeO (spec_FormatValues.l0 k y0 y1 y2 y3 y4 y5) (spec_FormatValues.l0 (k + 1) y0 y1 y2 y3 y4 y5))
 | 0 => fun _ _ _ _ _ _ r h => by simp [spec_FormatValues.l0] at h
 | k + 1 => by
  have ih0 := spec_FormatValues.mono_l k
  ·intro y0 y1 y2 y3 y4 y5
   unfold spec_FormatValues.l0
   repeat' first
   | (with_reducible exact ih0 _ _ _ _ _ _)
   | (with_reducible exact spec_Join.mono _ _ _)
   | (with_reducible exact spec_VarsOf.mono _ _)
   | (with_reducible exact LeO.refl _)
   | (with_reducible exact LeO.none _)
   | (with_reducible refine LeO.ite ?_ ?_)
   | (with_reducible refine LeO.bind ?_ (fun _ => ?_))
theorem spec_FormatValues.mono : ∀ a0 a1 a2 a3 k, LeO (spec_FormatValues.f k a0 a1 a2 a3) (spec_FormatValues.f (k + 1) a0 a1 a2 a3) := by
 intro a0 a1 a2 a3 k
 have ih0 := spec_FormatValues.mono_l k
 unfold spec_FormatValues.f
 repeat' first
   | (with_reducible exact ih0 _ _ _ _ _ _)
   | (with_reducible exact spec_Join.mono _ _ _)
   | (with_reducible exact spec_VarsOf.mono _ _)
   | (with_reducible exact LeO.refl _)
   | (with_reducible exact LeO.none _)
   | (with_reducible refine LeO.ite ?_ ?_)
   | (with_reducible refine LeO.bind ?_ (fun _ => ?_))
def spec_FormatValues.T6 : Bool × List (List Nat × List Nat) := (true, [([], []), ([], []), ([], []), ([], []), ([3], [3]), ([1, 2, 4], [1, 2, 4]), ([5], [5]), ([], []), ([], []), ([], []), ([8, 9], [8, 9]), ([7, 10], [7, 10]), ([6, 11], [6, 11]), ([12], [12]), ([0, 13, 11], [0, 13]), ([14, 14, 0, 1, 2, 3, 4, 5, 6, 7, 8, 9, 10, 11, 12, 13, 14], [0, 14])])
def spec_FormatValues.B6 : List Nat := [0, 0, 0, 0, 8, 30, 62, 0, 0, 0, 768, 1920, 4094, 8190, 16383, 32767]
theorem spec_FormatValues.tab6 : rtab .any (opsOf Try.f60 6) = spec_FormatValues.T6 := by kernel_rfl
theorem spec_FormatValues.bits6 : waitsOk spec_FormatValues.T6.2 spec_FormatValues.B6 = true := by kernel_rfl
theorem spec_FormatValues.calls (k : Nat) (a0_0 : ByteArray) (a0_1 : ByteArray) (a0_2 : ByteArray) (a1 : ByteArray) (r : ByteArray) (w : World) (h : spec_FormatValues.f k a0_0 a0_1 a0_2 a1 = some r) :
  Calls Try.prog 60 #[.agg #[.string a0_0, .string a0_1, .string a0_2], .string a1] w fun e w' => e = .returned (.string r) ∧ Below w.heap.size w w' := by
 have hu84 := Try.underlying84
 have HB := Aside0.mk (Below.refl w.heap.size w)
 have H : ((spec_VarsOf.f k a1).bind fun t60005 => (spec_FormatValues.l0 k (([] : List ByteArray)) t60005 0 a0_0 a0_1 a0_2)) = some r := h
 clear h
 obtain ⟨y60002, hy60002⟩ : ∃ y_ : List ByteArray, y_ = (([] : List ByteArray)) := ⟨_, rfl⟩
 replace H : ((spec_VarsOf.f k a1).bind fun t60005 => (spec_FormatValues.l0 k y60002 t60005 0 a0_0 a0_1 a0_2)) = some r := by first | (rw [hy60002]; with_reducible exact H) | (have H2_ := (Option.bind_some _ _).symm.trans H; rw [hy60002]; with_reducible exact H2_) | (have H2_ := (Option.bind_some _ _).symm.trans H; with_reducible exact H2_) | with_reducible exact H | (rw [hy60002]; exact H) | exact H
 have Ny60002 := Aside0.mk hy60002
 clear hy60002
 replace H := Option.bind_eq_some_iff.mp H
 obtain ⟨t60005, A30, H⟩ := H
 replace H : (spec_FormatValues.l0 k y60002 t60005 0 a0_0 a0_1 a0_2) = some r := H
 have A3 := Aside0.mk A30
 clear A30
 have H' := Aside0.mk H
 clear H
 go_enter Try.func60, Try.ntmps60
 go_wp2_with (first | ((with_reducible refine gate_dst (N := 2) rfl ?_); refine box_event ?hg (N := 2) ?hd (cs := #[.string a0_0, .string a0_1, .string a0_2]) (t := 84) ?hr ?_; (case hd => rfl); (case hg => rfl); (case hr => first | (go_simp; done) | (go_simp; rfl)); intro gb60001 hg w4 hbox hb; have n0_ := Aside0.mk (below_step (by repeat (first | (with_reducible first | exact HB.out | apply below_alloc | apply pw_below_drewN | apply below_drew1) | exact HB.out)) hb); have n1_ := Aside0.mk (hbox); have n2_ := Aside0.mk ((by rw [hg]; exact (below_size (by repeat (first | (with_reducible first | exact HB.out | apply below_alloc | apply pw_below_drewN | apply below_drew1) | exact HB.out))) : w.heap.size ≤ gb60001)); have n3_ := Aside0.mk ((by rw [hg]; exact (below_size (by repeat (first | (with_reducible first | exact HB.out | apply below_alloc | apply pw_below_drewN | apply below_drew1) | exact HB.out))) : w.heap.size ≤ gb60001)); clear HB; have HB := n0_; have BK60001 := n1_; have GW60001 := n2_; have GE60001 := n3_; clear n0_ n1_ n2_ n3_; clear hb hbox hg) | ((with_reducible refine gate_dst (N := 8) rfl ?_); refine Kd.R_lit Kd.string _ 9 ?hg (N := 8) ?hd (xs := ([] : List ByteArray)) (inner := []) (ok := fun _ => True) (okp := fun _ => True) ?hr ?hp (fun _ hk => hk) trivial (Below.refl _ _) (Nat.le_refl _) (by simp) ?_; (case hd => rfl); (case hg => rfl); (case hr => first | (go_simp; done) | (go_simp; rfl)); (case hp => exact (Reps.none _ _)); intro v60003 w5 ho6 hb hg_ hnew_; clear hg_ hnew_; (first | rw [← Ny60002.out] at ho6 | (simp only [Int.reduceToNat] at ho6; rw [← Ny60002.out] at ho6)); have n0_ := Aside0.mk (Kd.R_lower ho6 (below_size (by repeat (first | (with_reducible first | exact HB.out | apply below_alloc | apply pw_below_drewN | apply below_drew1 | refine below_set ?_ GE60001.out) | exact HB.out)))); have n1_ := Aside0.mk (blk_below (g := gb60001) (o := .cells #[.string a0_0, .string a0_1, .string a0_2] 84 (0, 0)) (by (with_reducible repeat (first | refine blk_drewN ?_ _ | refine blk_drew ?_ | refine blk_alloc ?_ _)); exact BK60001.out) hb); have n2_ := Aside0.mk (below_step (by repeat (first | (with_reducible first | exact HB.out | apply below_alloc | apply pw_below_drewN | apply below_drew1 | refine below_set ?_ GE60001.out) | exact HB.out)) hb); clear BK60001; clear HB; have HO60004 := n0_; have BK60001 := n1_; have HB := n2_; clear n0_ n1_ n2_; clear hb ho6) | ((with_reducible refine gate_callee (f := 48) rfl ?_); refine goesL_ (some 10) rfl rfl Try.func48 (by kernel_rfl) rfl #[.string a1] rfl (by (try simp only [List.map_toArray, List.map_cons, List.map_nil]); first | done | rfl | (simp only [List.length_drop, List.length_take]; rfl)) ?_; (with_reducible refine (spec_VarsOf.calls k a1 t60005 _ A3.out).mono ?_); rintro e w' ⟨rfl, ⟨nd, rfl⟩⟩; refine ⟨_, rfl, ?_⟩))
 first | go_loopg [5, 7] k (fun kq v5 v7 w' => ∃ (x5_1 : List ByteArray) (x7_1 : Int), v7 = .int .i64 x7_1 ∧ Aside0 (spec_FormatValues.l0 kq x5_1 t60005 x7_1 a0_0 a0_1 a0_2 = some r) ∧ Aside0 (kq ≤ k) ∧ Aside0 (Kd.R Kd.string 9 w' w.heap.size (fun _ => True) v5 x5_1) ∧ Aside0 (w'.heap[gb60001]? = some (.cells #[.string a0_0, .string a0_1, .string a0_2] 84 (0, 0))) ∧ Aside0 (Below w.heap.size w w')) | (simp only [Act.put, List.setIfInBounds_toArray, List.set_cons_succ, List.set_cons_zero]; go_loopg [5, 7] k (fun kq v5 v7 w' => ∃ (x5_1 : List ByteArray) (x7_1 : Int), v7 = .int .i64 x7_1 ∧ Aside0 (spec_FormatValues.l0 kq x5_1 t60005 x7_1 a0_0 a0_1 a0_2 = some r) ∧ Aside0 (kq ≤ k) ∧ Aside0 (Kd.R Kd.string 9 w' w.heap.size (fun _ => True) v5 x5_1) ∧ Aside0 (w'.heap[gb60001]? = some (.cells #[.string a0_0, .string a0_1, .string a0_2] 84 (0, 0))) ∧ Aside0 (Below w.heap.size w w')))
 case atStart => exact ⟨(y60002), (0), (by first | rfl | (simp; done) | (simp [*]; done)), H', ⟨Nat.le_refl _⟩, ⟨by (with_reducible repeat (first | apply Kd.R_alloc | apply Kd.R_drewN | apply Kd.R_drew)); exact HO60004.out⟩, ⟨by (with_reducible repeat (first | refine blk_drewN ?_ _ | refine blk_drew ?_ | refine blk_alloc ?_ _)); exact BK60001.out⟩, ⟨by repeat (first | (with_reducible first | exact HB.out | apply below_alloc | apply pw_below_drewN | apply below_drew1 | refine below_set ?_ GE60001.out) | exact HB.out)⟩⟩
 case round =>
  clear H'
  try clear p2
  try clear c4
  try clear c6
  obtain ⟨x5_1, x7_1, rfl, HA, HK1, HO_5, BK60001, HB⟩ := hrel
  cases gk with
  | zero => exact absurd HA.out (by simp [spec_FormatValues.l0])
  | succ k1 =>
   have H := HA.out
   clear HA
   simp only [spec_FormatValues.l0] at H
   by_cases c7 : x7_1 < (t60005.size : Int)
   ·rw [if_pos c7] at H
    have c7b0 : decide (x7_1 < (t60005.size : Int)) = true := decide_eq_true c7
    clear c7
    by_cases c8 : 0 ≤ x7_1
    ·rw [if_pos c8] at H
     have c8b0 := eq_true c8
     have c8b1 : decide (0 ≤ x7_1) = true := decide_eq_true c8
     clear c8
     by_cases c9 : x7_1 ≤ (wrap64 (x7_1 + 1))
     ·rw [if_pos c9] at H
      have c9b0 := eq_true c9
      have c9b1 : decide (x7_1 ≤ (wrap64 (x7_1 + 1))) = true := decide_eq_true c9
      by_cases c10 : (wrap64 (x7_1 + 1)) ≤ (t60005.size : Int)
      ·rw [if_pos c10] at H
       have c10b0 := eq_true c10
       have c10b1 : decide ((wrap64 (x7_1 + 1)) ≤ (t60005.size : Int)) = true := decide_eq_true c10
       by_cases c11 : (t60005.extract (x7_1 : Int).toNat ((wrap64 (x7_1 + 1)) : Int).toNat).size + 1 ≤ 9223372036854775807
       ·rw [if_pos c11] at H
        have c11z := c11
        try simp at c11z
        try replace c11z := eq_false (Nat.not_lt.2 c11z)
        have c11b0 := eq_true c11
        have c11b1 : decide ((t60005.extract (x7_1 : Int).toNat ((wrap64 (x7_1 + 1)) : Int).toNat).size + 1 ≤ 9223372036854775807) = true := decide_eq_true c11
        try have c11b2 : (9223372036854775807 < (t60005.extract (x7_1 : Int).toNat ((wrap64 (x7_1 + 1)) : Int).toNat).size + 1) = False := eq_false (Nat.not_lt.2 c11)
        replace H := Option.bind_eq_some_iff.mp H
        obtain ⟨t60006, A130, H⟩ := H
        replace H : (if ((t60005.extract (x7_1 : Int).toNat ((wrap64 (x7_1 + 1)) : Int).toNat) ++ (⟨#[61]⟩ : ByteArray)).size + t60006.size ≤ 9223372036854775807 then (if x5_1.length < 8796093022208 then (spec_FormatValues.l0 k1 (x5_1 ++ [((t60005.extract (x7_1 : Int).toNat ((wrap64 (x7_1 + 1)) : Int).toNat) ++ (⟨#[61]⟩ : ByteArray)) ++ t60006]) t60005 (wrap64 (x7_1 + 1)) a0_0 a0_1 a0_2) else (none)) else (none)) = some r := H
        have A13 := Aside0.mk A130
        clear A130
        by_cases c14 : ((t60005.extract (x7_1 : Int).toNat ((wrap64 (x7_1 + 1)) : Int).toNat) ++ (⟨#[61]⟩ : ByteArray)).size + t60006.size ≤ 9223372036854775807
        ·rw [if_pos c14] at H
         have c14z := c14
         try simp at c14z
         try replace c14z := eq_false (Nat.not_lt.2 c14z)
         have c14b0 := eq_true c14
         have c14b1 : decide (((t60005.extract (x7_1 : Int).toNat ((wrap64 (x7_1 + 1)) : Int).toNat) ++ (⟨#[61]⟩ : ByteArray)).size + t60006.size ≤ 9223372036854775807) = true := decide_eq_true c14
         try have c14b2 : (9223372036854775807 < ((t60005.extract (x7_1 : Int).toNat ((wrap64 (x7_1 + 1)) : Int).toNat) ++ (⟨#[61]⟩ : ByteArray)).size + t60006.size) = False := eq_false (Nat.not_lt.2 c14)
         by_cases c15 : x5_1.length < 8796093022208
         ·rw [if_pos c15] at H
          have LMc15 := Aside0.mk c15
          clear c15
          obtain ⟨y60007, hy60007⟩ : ∃ y_ : List ByteArray, y_ = (x5_1 ++ [((t60005.extract (x7_1 : Int).toNat ((wrap64 (x7_1 + 1)) : Int).toNat) ++ (⟨#[61]⟩ : ByteArray)) ++ t60006]) := ⟨_, rfl⟩
          replace H : (spec_FormatValues.l0 k1 y60007 t60005 (wrap64 (x7_1 + 1)) a0_0 a0_1 a0_2) = some r := by first | (rw [hy60007]; with_reducible exact H) | (have H2_ := (Option.bind_some _ _).symm.trans H; rw [hy60007]; with_reducible exact H2_) | (have H2_ := (Option.bind_some _ _).symm.trans H; with_reducible exact H2_) | with_reducible exact H | (rw [hy60007]; exact H) | exact H
          have Ny60007 := Aside0.mk hy60007
          clear hy60007
          have H' := Aside0.mk H
          clear H
          try go_wp2
          have n0_ := Aside0.mk (Kd.R_drew HO_5.out)
          have n1_ := Aside0.mk (blk_drew BK60001.out)
          have n2_ := Aside0.mk (below_drew1 HB.out)
          clear HO_5
          clear BK60001
          clear HB
          have HO_5 := n0_
          have BK60001 := n1_
          have HB := n2_
          clear n0_ n1_ n2_
          have p12 : 0 ≤ (x7_1 : Int) := of_decide_eq_true (by first | (with_reducible assumption) | assumption)
          have q12 : x7_1 < (t60005.size : Int) := of_decide_eq_true (by first | (with_reducible assumption) | assumption)
          have hx12 := bt_at t60005 x7_1
          replace p12 := eq_true p12
          replace q12 := eq_true q12
          refine start_ (n := 16) (S := fun w' => w'.cell? ⟨gb60001, 0, none⟩ = some (.string a0_0) ∧ w'.cell? ⟨gb60001, 1, none⟩ = some (.string a0_1) ∧ w'.cell? ⟨gb60001, 2, none⟩ = some (.string a0_2)) (ds := []) #[false, false, false, false, false, false, false, false, false, false, false, false, false, false, false, false] (by kernel_rfl) rfl rfl ⟨(blk_cell BK60001.out 0).trans rfl, (blk_cell BK60001.out 1).trans rfl, (blk_cell BK60001.out 2).trans rfl⟩ (fun hHeld => ?_); refine with_tabW spec_FormatValues.tab6 spec_FormatValues.bits6 (fun HT_ HW_ => ?_)
          generalize wr.drew = w16 at HO_5 BK60001 HB hHeld ⊢
          refine pure_ (i := 0) (N := some 17) (v := ?_) (a' := ?_) #[true, false, false, false, false, false, false, false, false, false, false, false, false, false, false, false] rfl rfl (any_of HT_.out (by kernel_rfl)) (fun _ _ _ h => h) (Or.inl ⟨by rfl, ?_⟩) ?_ ?_
          rotate_left
          ·intro w'
           go_simp
           first | with_reducible rfl | (rw [if_neg (by omega)]; done) | (rw [if_neg (by (try simp only [decide_eq_true_eq, decide_eq_false_iff_not, eq_iff_iff, iff_true, iff_false] at *); (try simp only [ByteArray.size_extract, ByteArray.size_append, show (⟨#[97, 98, 99]⟩ : ByteArray).size = 3 from rfl, show (⟨#[88, 89, 90]⟩ : ByteArray).size = 3 from rfl, show (⟨#[61]⟩ : ByteArray).size = 1 from rfl] at *); omega)]; done)
          rotate_left
          ·simp only [Act.put, List.setIfInBounds_toArray, List.set_cons_zero, List.set_cons_succ, i64_w, i32_w]
           rfl
          refine pure_ (i := 1) (N := some 18) (v := ?_) (a' := ?_) #[true, true, false, false, false, false, false, false, false, false, false, false, false, false, false, false] rfl rfl (any_of HT_.out (by kernel_rfl)) (fun _ _ _ h => h) (Or.inl ⟨by rfl, ?_⟩) ?_ ?_
          rotate_left
          ·intro w'
           go_simp
           first | with_reducible rfl | (rw [if_neg (by omega)]; done) | (rw [if_neg (by (try simp only [decide_eq_true_eq, decide_eq_false_iff_not, eq_iff_iff, iff_true, iff_false] at *); (try simp only [ByteArray.size_extract, ByteArray.size_append, show (⟨#[97, 98, 99]⟩ : ByteArray).size = 3 from rfl, show (⟨#[88, 89, 90]⟩ : ByteArray).size = 3 from rfl, show (⟨#[61]⟩ : ByteArray).size = 1 from rfl] at *); omega)]; done)
          rotate_left
          ·simp only [Act.put, List.setIfInBounds_toArray, List.set_cons_zero, List.set_cons_succ, i64_w, i32_w]
           rfl
          refine pure_ (i := 2) (N := some 19) (v := ?_) (a' := ?_) #[true, true, true, false, false, false, false, false, false, false, false, false, false, false, false, false] rfl rfl (any_of HT_.out (by kernel_rfl)) (fun _ _ _ h => h) (Or.inl ⟨by rfl, ?_⟩) ?_ ?_
          rotate_left
          ·intro w'
           go_simp
           first | with_reducible rfl | (rw [if_neg (by omega)]; done) | (rw [if_neg (by (try simp only [decide_eq_true_eq, decide_eq_false_iff_not, eq_iff_iff, iff_true, iff_false] at *); (try simp only [ByteArray.size_extract, ByteArray.size_append, show (⟨#[97, 98, 99]⟩ : ByteArray).size = 3 from rfl, show (⟨#[88, 89, 90]⟩ : ByteArray).size = 3 from rfl, show (⟨#[61]⟩ : ByteArray).size = 1 from rfl] at *); omega)]; done)
          rotate_left
          ·simp only [Act.put, List.setIfInBounds_toArray, List.set_cons_zero, List.set_cons_succ, i64_w, i32_w]
           rfl
          refine pure_ (i := 3) (N := some 20) (v := ?_) (a' := ?_) #[true, true, true, true, false, false, false, false, false, false, false, false, false, false, false, false] rfl rfl (any_of HT_.out (by kernel_rfl)) (fun _ _ _ h => h) (Or.inl ⟨by rfl, ?_⟩) ?_ ?_
          rotate_left
          ·intro w'
           go_simp
           first | with_reducible rfl | (rw [if_neg (by omega)]; done) | (rw [if_neg (by (try simp only [decide_eq_true_eq, decide_eq_false_iff_not, eq_iff_iff, iff_true, iff_false] at *); (try simp only [ByteArray.size_extract, ByteArray.size_append, show (⟨#[97, 98, 99]⟩ : ByteArray).size = 3 from rfl, show (⟨#[88, 89, 90]⟩ : ByteArray).size = 3 from rfl, show (⟨#[61]⟩ : ByteArray).size = 1 from rfl] at *); omega)]; done)
          rotate_left
          ·simp only [Act.put, List.setIfInBounds_toArray, List.set_cons_zero, List.set_cons_succ, i64_w, i32_w]
           rfl
          refine pure_ (i := 4) (N := some 21) (v := ?_) (a' := ?_) #[true, true, true, true, true, false, false, false, false, false, false, false, false, false, false, false] rfl rfl (any_of HT_.out (by kernel_rfl)) (fun _ _ _ h => h) (Or.inl ⟨by rfl, ?_⟩) ?_ ?_
          rotate_left
          ·intro w'
           go_simp
           first | with_reducible rfl | (rw [if_neg (by omega)]; done) | (rw [if_neg (by (try simp only [decide_eq_true_eq, decide_eq_false_iff_not, eq_iff_iff, iff_true, iff_false] at *); (try simp only [ByteArray.size_extract, ByteArray.size_append, show (⟨#[97, 98, 99]⟩ : ByteArray).size = 3 from rfl, show (⟨#[88, 89, 90]⟩ : ByteArray).size = 3 from rfl, show (⟨#[61]⟩ : ByteArray).size = 1 from rfl] at *); omega)]; done)
          rotate_left
          ·simp only [Act.put, List.setIfInBounds_toArray, List.set_cons_zero, List.set_cons_succ, i64_w, i32_w]
           rfl
          refine pure_ (i := 5) (N := some 22) (v := ?_) (a' := ?_) #[true, true, true, true, true, true, false, false, false, false, false, false, false, false, false, false] rfl rfl (any_of HT_.out (by kernel_rfl)) (fun _ _ _ h => h) (Or.inl ⟨by rfl, ?_⟩) ?_ ?_
          rotate_left
          ·intro w'
           go_simp
           first | with_reducible rfl | (rw [if_neg (by omega)]; done) | (rw [if_neg (by (try simp only [decide_eq_true_eq, decide_eq_false_iff_not, eq_iff_iff, iff_true, iff_false] at *); (try simp only [ByteArray.size_extract, ByteArray.size_append, show (⟨#[97, 98, 99]⟩ : ByteArray).size = 3 from rfl, show (⟨#[88, 89, 90]⟩ : ByteArray).size = 3 from rfl, show (⟨#[61]⟩ : ByteArray).size = 1 from rfl] at *); omega)]; done)
          rotate_left
          ·simp only [Act.put, List.setIfInBounds_toArray, List.set_cons_zero, List.set_cons_succ, i64_w, i32_w]
           rfl
          refine pure_ (i := 6) (N := some 23) (v := ?_) (a' := ?_) #[true, true, true, true, true, true, true, false, false, false, false, false, false, false, false, false] rfl rfl (any_of HT_.out (by kernel_rfl)) (fun _ _ _ h => h) (Or.inl ⟨by rfl, ?_⟩) ?_ ?_
          rotate_left
          ·intro w'
           go_simp
           first | with_reducible rfl | (rw [if_neg (by omega)]; done) | (rw [if_neg (by (try simp only [decide_eq_true_eq, decide_eq_false_iff_not, eq_iff_iff, iff_true, iff_false] at *); (try simp only [ByteArray.size_extract, ByteArray.size_append, show (⟨#[97, 98, 99]⟩ : ByteArray).size = 3 from rfl, show (⟨#[88, 89, 90]⟩ : ByteArray).size = 3 from rfl, show (⟨#[61]⟩ : ByteArray).size = 1 from rfl] at *); omega)]; done)
          rotate_left
          ·simp only [Act.put, List.setIfInBounds_toArray, List.set_cons_zero, List.set_cons_succ, i64_w, i32_w]
           rfl
          refine pure_ (i := 8) (N := some 25) (v := ?_) (a' := ?_) #[true, true, true, true, true, true, true, false, true, false, false, false, false, false, false, false] rfl rfl (any_of HT_.out (by kernel_rfl)) (fun _ _ _ h => h) (Or.inl ⟨by rfl, ?_⟩) ?_ ?_
          rotate_left
          ·intro w'
           go_simp
           first | with_reducible rfl | (rw [if_neg (by omega)]; done) | (rw [if_neg (by (try simp only [decide_eq_true_eq, decide_eq_false_iff_not, eq_iff_iff, iff_true, iff_false] at *); (try simp only [ByteArray.size_extract, ByteArray.size_append, show (⟨#[97, 98, 99]⟩ : ByteArray).size = 3 from rfl, show (⟨#[88, 89, 90]⟩ : ByteArray).size = 3 from rfl, show (⟨#[61]⟩ : ByteArray).size = 1 from rfl] at *); omega)]; done)
          rotate_left
          ·simp only [Act.put, List.setIfInBounds_toArray, List.set_cons_zero, List.set_cons_succ, i64_w, i32_w]
           rfl
          refine pure_ (i := 9) (N := some 26) (v := ?_) (a' := ?_) #[true, true, true, true, true, true, true, false, true, true, false, false, false, false, false, false] rfl rfl (any_of HT_.out (by kernel_rfl)) (fun _ _ _ h => h) (Or.inl ⟨by rfl, ?_⟩) ?_ ?_
          rotate_left
          ·intro w'
           go_simp
           first | with_reducible rfl | (rw [if_neg (by omega)]; done) | (rw [if_neg (by (try simp only [decide_eq_true_eq, decide_eq_false_iff_not, eq_iff_iff, iff_true, iff_false] at *); (try simp only [ByteArray.size_extract, ByteArray.size_append, show (⟨#[97, 98, 99]⟩ : ByteArray).size = 3 from rfl, show (⟨#[88, 89, 90]⟩ : ByteArray).size = 3 from rfl, show (⟨#[61]⟩ : ByteArray).size = 1 from rfl] at *); omega)]; done)
          rotate_left
          ·simp only [Act.put, List.setIfInBounds_toArray, List.set_cons_zero, List.set_cons_succ, i64_w, i32_w]
           rfl
          refine take_ (i := 7) (N := some 24) (v := ?_) (a' := ?_) #[true, true, true, true, true, true, true, true, true, true, false, false, false, false, false, false] rfl rfl (take_ofW HT_.out HW_.out (by kernel_rfl)) (fun _ _ _ h => h) (Or.inl ⟨by rfl, ?_⟩) hHeld ?_ ?_
          rotate_left
          ·rintro w' ⟨s0, s1, s2⟩
           go_simp
           first | with_reducible rfl | (rw [if_neg (by omega)]; done) | (rw [if_neg (by (try simp only [decide_eq_true_eq, decide_eq_false_iff_not, eq_iff_iff, iff_true, iff_false] at *); (try simp only [ByteArray.size_extract, ByteArray.size_append, show (⟨#[97, 98, 99]⟩ : ByteArray).size = 3 from rfl, show (⟨#[88, 89, 90]⟩ : ByteArray).size = 3 from rfl, show (⟨#[61]⟩ : ByteArray).size = 1 from rfl] at *); omega)]; done)
          rotate_left
          ·simp only [Act.put, List.setIfInBounds_toArray, List.set_cons_zero, List.set_cons_succ, i64_w, i32_w]
           rfl
          refine take_ (i := 10) (N := some 27) (v := ?_) (a' := ?_) #[true, true, true, true, true, true, true, true, true, true, true, false, false, false, false, false] rfl rfl (take_ofW HT_.out HW_.out (by kernel_rfl)) (fun _ _ _ h => h) (Or.inl ⟨by rfl, ?_⟩) hHeld ?_ ?_
          rotate_left
          ·rintro w' ⟨s0, s1, s2⟩
           go_simp
           first | with_reducible rfl | (rw [if_neg (by omega)]; done) | (rw [if_neg (by (try simp only [decide_eq_true_eq, decide_eq_false_iff_not, eq_iff_iff, iff_true, iff_false] at *); (try simp only [ByteArray.size_extract, ByteArray.size_append, show (⟨#[97, 98, 99]⟩ : ByteArray).size = 3 from rfl, show (⟨#[88, 89, 90]⟩ : ByteArray).size = 3 from rfl, show (⟨#[61]⟩ : ByteArray).size = 1 from rfl] at *); omega)]; done)
          rotate_left
          ·simp only [Act.put, List.setIfInBounds_toArray, List.set_cons_zero, List.set_cons_succ, i64_w, i32_w]
           rfl
          refine one_ (i := 11) (N := some 28) #[true, true, true, true, true, true, true, true, true, true, true, true, false, false, false, false] rfl rfl (one_of HT_.out (by kernel_rfl)) (by decide) (fun K hK => ?_)
          refine goes_ Try.func138 (by kernel_rfl) rfl #[.agg #[.string a0_0, .string a0_1, .string a0_2], .int .u8 (bt t60005 x7_1)] (by rfl) rfl rfl (by (try simp only [List.map_toArray, List.map_cons, List.map_nil]); first | done | rfl | (simp only [List.length_drop, List.length_take]; rfl)) ?_
          with_reducible refine (spec_ValueOf.calls a0_0 a0_1 a0_2 (bt t60005 x7_1) t60006 _ A13.out).mono ?_
          rintro e w17 ⟨rfl, hb⟩
          refine ⟨_, rfl, ?_⟩
          have n0_ := Aside0.mk (Kd.R_below (by (with_reducible repeat (first | apply Kd.R_alloc | apply Kd.R_drewN | apply Kd.R_drew)); exact HO_5.out) hb)
          have n1_ := Aside0.mk (blk_below (g := gb60001) (o := .cells #[.string a0_0, .string a0_1, .string a0_2] 84 (0, 0)) (by (with_reducible repeat (first | refine blk_drewN ?_ _ | refine blk_drew ?_ | refine blk_alloc ?_ _)); exact BK60001.out) hb)
          have n2_ := Aside0.mk (below_step (by repeat (first | (with_reducible first | exact HB.out | apply below_alloc | apply pw_below_drewN | apply below_drew1 | refine below_set ?_ GE60001.out) | exact HB.out)) hb)
          clear HO_5
          clear BK60001
          clear HB
          have HO_5 := n0_
          have BK60001 := n1_
          have HB := n2_
          clear n0_ n1_ n2_
          (try clear hb)
          (try clear hb2)
          (try clear hk)
          (try clear hi)
          refine hK.out _ _ ⟨(blk_cell BK60001.out 0).trans rfl, (blk_cell BK60001.out 1).trans rfl, (blk_cell BK60001.out 2).trans rfl⟩ (fun hHeld => ?_)
          clear hK K
          refine norm_ (a' := ?_) ?_ ?_
          rotate_left
          ·show Act.put _ (some 28) _ = _
           simp only [Act.put, List.setIfInBounds_toArray, List.set_cons_zero, List.set_cons_succ, i64_w, i32_w]
           rfl
          refine pure_ (i := 12) (N := some 29) (v := ?_) (a' := ?_) #[true, true, true, true, true, true, true, true, true, true, true, true, true, false, false, false] rfl rfl (any_of HT_.out (by kernel_rfl)) (fun _ _ _ h => h) (Or.inl ⟨by rfl, ?_⟩) ?_ ?_
          rotate_left
          ·intro w'
           go_simp
           first | with_reducible rfl | (rw [if_neg (by omega)]; done) | (rw [if_neg (by (try simp only [decide_eq_true_eq, decide_eq_false_iff_not, eq_iff_iff, iff_true, iff_false] at *); (try simp only [ByteArray.size_extract, ByteArray.size_append, show (⟨#[97, 98, 99]⟩ : ByteArray).size = 3 from rfl, show (⟨#[88, 89, 90]⟩ : ByteArray).size = 3 from rfl, show (⟨#[61]⟩ : ByteArray).size = 1 from rfl] at *); omega)]; done)
          rotate_left
          ·simp only [Act.put, List.setIfInBounds_toArray, List.set_cons_zero, List.set_cons_succ, i64_w, i32_w]
           rfl
          refine one_ (i := 13) (N := some 30) #[true, true, true, true, true, true, true, true, true, true, true, true, true, true, false, false] rfl rfl (one_of HT_.out (by kernel_rfl)) (by decide) (fun K hK => ?_)
          refine value_ (w1 := ?_) (v := ?_) (by rfl) rfl ?_ ?_
          rotate_left 2
          ·go_simp
           constructor
           ·rfl
           ·rfl
          refine hK.out _ _ ⟨(blk_cell (blk_alloc BK60001.out _) 0).trans rfl, (blk_cell (blk_alloc BK60001.out _) 1).trans rfl, (blk_cell (blk_alloc BK60001.out _) 2).trans rfl⟩ (fun hHeld => ?_)
          clear hK K
          refine norm_ (a' := ?_) ?_ ?_
          rotate_left
          ·show Act.put _ (some 30) _ = _
           simp only [Act.put, List.setIfInBounds_toArray, List.set_cons_zero, List.set_cons_succ, i64_w, i32_w]
           rfl
          refine one_ (i := 14) (N := some 31) #[true, true, true, true, true, true, true, true, true, true, true, true, true, true, true, false] rfl rfl (one_of HT_.out (by kernel_rfl)) (by decide) (fun K hK => ?_)
          refine Kd.R_append_step Kd.string (w0 := w) w.heap.size (by rfl) (.tmp 17) (.tmp 30) 165 9 (.string ⟨#[]⟩) 16 rfl Try.underlying165 info9 rfl (by decide) (by omega) u5 x5_1 (((t60005.extract (x7_1 : Int).toNat ((wrap64 (x7_1 + 1)) : Int).toNat) ++ (⟨#[61]⟩ : ByteArray)) ++ t60006) [.string (((t60005.extract (x7_1 : Int).toNat ((wrap64 (x7_1 + 1)) : Int).toNat) ++ (⟨#[61]⟩ : ByteArray)) ++ t60006)] (fun _ => True) (fun _ => False) rfl rfl ?aP (fun _ hk => hk.elim) ?aF ?aO ?aB ?aS ?aL ?_
          (case aP => exact rfl)
          (case aB => exact (by repeat (first | (with_reducible first | exact HB.out | apply below_alloc | apply pw_below_drewN | apply below_drew1 | refine below_set ?_ GE60001.out) | exact HB.out)))
          (case aF => exact (fun _ _ => trivial))
          (case aO => exact (by (with_reducible repeat (first | apply Kd.R_alloc | apply Kd.R_drewN | apply Kd.R_drew)); exact HO_5.out))
          (case aS => exact (below_size (by repeat (first | (with_reducible first | exact HB.out | apply below_alloc | apply pw_below_drewN | apply below_drew1 | refine below_set ?_ GE60001.out) | exact HB.out))))
          (case aL => have := LMc15.out; omega)
          intro v60008 w18 ho hb hg hat
          rw [← Ny60007.out] at ho
          have n0_ := Aside0.mk (blk_grown (g := gb60001) (o := .cells #[.string a0_0, .string a0_1, .string a0_2] 84 (0, 0)) (by (with_reducible repeat (first | refine blk_drewN ?_ _ | refine blk_drew ?_ | refine blk_alloc ?_ _)); exact BK60001.out) hg (Kd.R_ne HO_5.out BK60001.out (by decide)))
          have n1_ := Aside0.mk (hb)
          have n2_ := Aside0.mk (ho)
          clear BK60001
          clear HB
          clear HO_5
          have BK60001 := n0_
          have HB := n1_
          have HO60009 := n2_
          clear n0_ n1_ n2_
          clear ho hb hg hat
          refine hK.out _ _ ⟨(blk_cell BK60001.out 0).trans rfl, (blk_cell BK60001.out 1).trans rfl, (blk_cell BK60001.out 2).trans rfl⟩ (fun hHeld => ?_)
          clear hK K
          refine norm_ (a' := ?_) ?_ ?_
          rotate_left
          ·show Act.put _ (some 31) _ = _
           simp only [Act.put, List.setIfInBounds_toArray, List.set_cons_zero, List.set_cons_succ, i64_w, i32_w]
           rfl
          refine pure_ (i := 15) (N := some 5) (v := ?_) (a' := ?_) #[true, true, true, true, true, true, true, true, true, true, true, true, true, true, true, true] rfl rfl (any_of HT_.out (by kernel_rfl)) (fun _ _ _ h => h) (Or.inl ⟨by rfl, ?_⟩) ?_ ?_
          rotate_left
          ·intro w'
           go_simp
           first | with_reducible rfl | (rw [if_neg (by omega)]; done) | (rw [if_neg (by (try simp only [decide_eq_true_eq, decide_eq_false_iff_not, eq_iff_iff, iff_true, iff_false] at *); (try simp only [ByteArray.size_extract, ByteArray.size_append, show (⟨#[97, 98, 99]⟩ : ByteArray).size = 3 from rfl, show (⟨#[88, 89, 90]⟩ : ByteArray).size = 3 from rfl, show (⟨#[61]⟩ : ByteArray).size = 1 from rfl] at *); omega)]; done)
          rotate_left
          ·simp only [Act.put, List.setIfInBounds_toArray, List.set_cons_zero, List.set_cons_succ, i64_w, i32_w]
           rfl
          refine done_ (done_of HT_.out (by kernel_rfl)) ?_
          try go_wp2
          go_roundg k1
          case measure => have := HK1.out; omega
          case rel => exact ⟨(y60007), (wrap64 (x7_1 + 1)), (by first | rfl | (simp; done) | (simp [*]; done)), H', ⟨by have := HK1.out; omega⟩, ⟨by (with_reducible repeat (first | apply Kd.R_alloc | apply Kd.R_drewN | apply Kd.R_drew)); exact HO60009.out⟩, ⟨by (with_reducible repeat (first | refine blk_drewN ?_ _ | refine blk_drew ?_ | refine blk_alloc ?_ _)); exact BK60001.out⟩, ⟨by repeat (first | (with_reducible first | exact HB.out | apply below_alloc | apply pw_below_drewN | apply below_drew1 | refine below_set ?_ GE60001.out) | exact HB.out)⟩⟩
         ·rw [if_neg c15] at H
          exact absurd H (by simp)
        ·rw [if_neg c14] at H
         exact absurd H (by simp)
       ·rw [if_neg c11] at H
        exact absurd H (by simp)
      ·rw [if_neg c10] at H
       exact absurd H (by simp)
     ·rw [if_neg c9] at H
      exact absurd H (by simp)
    ·rw [if_neg c8] at H
     exact absurd H (by simp)
   ·rw [if_neg c7] at H
    have c7b0 : decide (x7_1 < (t60005.size : Int)) = false := decide_eq_false c7
    clear c7
    replace H := Option.bind_eq_some_iff.mp H
    obtain ⟨t60010, A190, H⟩ := H
    replace H : (some t60010) = some r := H
    have A19 := Aside0.mk A190
    clear A190
    obtain rfl := Option.some.inj H
    obtain ⟨Ao20, co20, eo20⟩ := Kd.R_slice HO_5.out
    subst eo20
    go_wp2_with (first | ((with_reducible refine gate_callee (f := 147) rfl ?_); refine goesL_ (some 33) rfl rfl Try.func147 (by kernel_rfl) rfl #[.slice Ao20 x5_1.length co20, .string (⟨#[32]⟩ : ByteArray)] rfl (by (try simp only [List.map_toArray, List.map_cons, List.map_nil]); first | done | rfl | (simp only [List.length_drop, List.length_take]; rfl)) ?_; (with_reducible refine (spec_Join.calls k1 _ _ x5_1 (⟨#[32]⟩ : ByteArray) t60010 _ ?side1 ?side2 A19.out).mono ?_); (case side1 => repeat (first | exact (Kd.R_reads' HO_5.out).2.2 | (with_reducible refine Kd.C_alloc ?_ _) | (with_reducible refine Kd.C_drewN ?_ _) | (with_reducible refine Kd.C_drew ?_))); (case side2 => exact (Kd.R_reads' HO_5.out).2.1); rintro e w21 ⟨rfl, hb⟩; refine ⟨_, rfl, ?_⟩; have n0_ := Aside0.mk (Kd.R_below (by (with_reducible repeat (first | apply Kd.R_alloc | apply Kd.R_drewN | apply Kd.R_drew)); exact HO_5.out) hb); have n1_ := Aside0.mk (blk_below (g := gb60001) (o := .cells #[.string a0_0, .string a0_1, .string a0_2] 84 (0, 0)) (by (with_reducible repeat (first | refine blk_drewN ?_ _ | refine blk_drew ?_ | refine blk_alloc ?_ _)); exact BK60001.out) hb); have n2_ := Aside0.mk (below_step (by repeat (first | (with_reducible first | exact HB.out | apply below_alloc | apply pw_below_drewN | apply below_drew1 | refine below_set ?_ GE60001.out) | exact HB.out)) hb); clear HO_5; clear BK60001; clear HB; have HO_5 := n0_; have BK60001 := n1_; have HB := n2_; clear n0_ n1_ n2_; (try clear hb); (try clear hb2); (try clear hk); (try clear hi)))
    go_ret
    exact ⟨by first | rfl | (simp [errW_none, errW_some] <;> rfl) | (simp [*, errW_none, errW_some] <;> rfl), by repeat (first | (with_reducible first | exact HB.out | apply below_alloc | apply pw_below_drewN | apply below_drew1 | refine below_set ?_ GE60001.out) | exact HB.out)⟩
end Go.Proofs.Ytpppopdmnejcfaa.A
namespace Go.Proofs.Ytpppopdmnejcfaa.A
open Go.RowKit Go.Proofs.Ytpppopdmnejcfaa.Ext Go.Proofs.YtpppopdmnejcfaaW.PrintWords Go.Proofs.YtpppopdmnejcfaaW.PrintLast Go.Proofs.YtpppopdmnejcfaaW.PrintMore
attribute [local go_sem] max2_int min2_int max_two min_two max_three min_three max_four min_four
theorem eqA84 (d : Nat) (w : World) (x0 y0 : ByteArray) (x1 y1 : ByteArray) (x2 y2 : ByteArray) :
  (Op.equalIn (d + 2) 84 (.agg #[.string x0, .string x1, .string x2]) (.agg #[.string y0, .string y1, .string y2])).run Try.prog w = .ok (x0.toList == y0.toList && (x1.toList == y1.toList && (x2.toList == y2.toList))) w := by
 refine eqA_of Try.underlying84 (by kernel_rfl) ?_
 refine eqf_cons (by rfl) (by go_simp; rfl) (by go_simp; rfl) (by go_simp) ?_
 refine eqf_cons (by rfl) (by go_simp; rfl) (by go_simp; rfl) (by go_simp) ?_
 exact eqf_last (by rfl) (by go_simp; rfl) (by go_simp; rfl) (by go_simp)
end Go.Proofs.Ytpppopdmnejcfaa.A
namespace Go.Proofs.Ytpppopdmnejcfaa.Ext
open Go.RowKit Go.Proofs.YtpppopdmnejcfaaW.PrintWords Go.Proofs.YtpppopdmnejcfaaW.PrintLast Go.Proofs.Ytpppopdmnejcfaa.A
def repl (G : Int → ByteArray × Bool) : List Int → List Int → List Int
 | [], acc => acc
 | c :: cs, acc =>
  if (acc ++ (if (G c).2 = true then bytesOf (G c).1 else [c])).length > 1048576 then [] else repl G cs (acc ++ (if (G c).2 = true then bytesOf (G c).1 else [c]))
def replB (G : Int → ByteArray × Bool) (s : ByteArray) : ByteArray := strOfNums (repl G (bytesOf s) [])
theorem infou8 : (Try.prog.info? 5).map (fun i => (i.zero, i.size, i.bytes)) = some (some (.int .u8 0), 1, 1) := by kernel_rfl
theorem repl_at (G : Int → ByteArray × Bool) (s : ByteArray) (x : Int) (acc : List Int) (h0 : 0 ≤ x) (h1 : x < s.size) :
  repl G ((bytesOf s).drop x.toNat) acc = if (acc ++ (if (G (bt s x)).2 = true then bytesOf (G (bt s x)).1 else [bt s x])).length > 1048576 then [] else repl G ((bytesOf s).drop (x.toNat + 1)) (acc ++ (if (G (bt s x)).2 = true then bytesOf (G (bt s x)).1 else [bt s x])) := by
 have hl : x.toNat < (bytesOf s).length := by rw [bytesOf_length]; omega
 have e : (bytesOf s)[x.toNat] = bt s x := by
  rw [← rd_bytesOf]
  simp [rd, hl]
 rw [List.drop_eq_getElem_cons hl, e]
 rfl
theorem replB_of {G : Int → ByteArray × Bool} {s : ByteArray} {a : List Int} (h : a = repl G (bytesOf s) []) (h' : a = []) : replB G s = ⟨#[]⟩ := by
 unfold replB
 rw [← h, h']
 rfl
set_option maxHeartbeats 4000000 in
theorem replaced_any (G : Int → ByteArray × Bool) (g : Nat) (lb : Array Value) (eg : ∀ args w, (callFunc g args).run Try.prog w = .ok (.enter g args) w) (s : ByteArray) (w : World)
  (hs : s.size ≤ 9223372036854775807) (hB : ∀ c, (G c).1.size ≤ 1048576)
  (hG : ∀ (W : World) (c : Int), Below w.heap.size w W → 0 ≤ c → c ≤ 255 → Calls Try.prog g (#[.int .u8 c] ++ lb) W fun e W' => e = .returned (.tuple #[.string (G c).1, .bool (G c).2]) ∧ Below W.heap.size W W') :
  Calls Try.prog 134 #[.string s, .func (.func g) #[] lb] w fun e w' => e = .returned (.string (replB G s)) ∧ Below w.heap.size w w' := by
 have HS := Aside0.mk hs
 have HBd := Aside0.mk hB
 have HG := Aside0.mk hG
 clear hB hG
 go_enter Try.func134, Try.ntmps134
 go_wp2
 first
  | go_loopg [5, 6] s.size (fun gk v5 v6 wr => ∃ (x : Int) (acc : List Int), v6 = .int .i64 x ∧ Aside0 (0 ≤ x) ∧ Aside0 (x ≤ s.size) ∧ Aside0 ((s.size : Int) - x ≤ gk) ∧ Aside0 (repl G ((bytesOf s).drop x.toNat) acc = repl G (bytesOf s) []) ∧ Aside0 (acc.length ≤ 1048576) ∧ Aside0 (wr.ownsRow w.heap.size 5 1 v5 acc.length (nums .u8 acc)) ∧ Aside0 (Below w.heap.size w wr))
 case atStart => exact ⟨0, [], rfl, ⟨by omega⟩, ⟨by omega⟩, ⟨by omega⟩, ⟨rfl⟩, ⟨by simp⟩, ⟨by simpa [nums] using own_lit w w.heap.size 5 .u8 [] (Nat.le_refl _) (by simp)⟩, ⟨below_alloc (Below.refl _ _) _⟩⟩
 case round =>
  obtain ⟨x, acc, rfl, H0, H1, HK, HR, HL, HO, HB⟩ := hrel
  by_cases hlt : x < (s.size : Int)
  ·have hcall := HG.out wr (bt s x) HB.out (bt_range _ _).1 (bt_range _ _).2
   have hR := repl_at G s x acc H0.out hlt
   have hsz := HBd.out (bt s x)
   generalize G (bt s x) = q at hcall hR hsz
   obtain ⟨t, b⟩ := q
   simp only at hcall hR hsz
   have HR2 := Aside0.mk hR
   have HZ := Aside0.mk hsz
   clear hR hsz HG HBd
   have HC := Aside0.mk hcall
   clear hcall
   have c2b0 : decide (x < (s.size : Int)) = true := decide_eq_true hlt
   have p4 := H0.out
   have q4 := hlt
   have hx4 := bt_at s x
   have P4 := Aside0.mk p4
   have Q4 := Aside0.mk q4
   clear hlt
   replace p4 := eq_true p4
   replace q4 := eq_true q4
   cases b with
   | true =>
    have HR3 : Aside0 (repl G ((bytesOf s).drop x.toNat) acc = if (acc ++ bytesOf t).length > 1048576 then [] else repl G ((bytesOf s).drop (x.toNat + 1)) (acc ++ bytesOf t)) := ⟨HR2.out⟩
    clear HR2
    go_wp2_with (first
     | (go_at_fn g; refine HC.out.mono ?_; rintro e w2 ⟨rfl, hb2⟩; have n0_ := Aside0.mk (pw_own_below HO.out hb2); have n1_ := Aside0.mk (below_step HB.out hb2); clear HO HB hb2; have HO := n0_; have HB := n1_; clear n0_ n1_)
     | (at_builtin; refine print_append_str (w0 := w) w.heap.size rfl (.tmp 25) _ 81 9 5 rfl Try.underlying81 Try.underlying9 infou8 _ acc t rfl rfl HO.out HB.out HB.out.size (by have := HL.out; have := HZ.out; omega) ?_; intro v1 w1 hO1 hB1 hg1; obtain ⟨A1, c1, rfl⟩ := own_slice hO1; generalize hN : (acc ++ bytesOf t).length = N at hO1; have n0_ := Aside0.mk hO1; have n1_ := Aside0.mk hB1; have HN := Aside0.mk hN; have hN2 : N ≤ 2097152 := (by rw [← hN, List.length_append, bytesOf_length]; have := HL.out; have := HZ.out; omega); clear hN hO1 hB1 hg1 HO HB; have HO := n0_; have HB := n1_; clear n0_ n1_))
    ·have hbig : (1048576 : Int) < (N : Int) := by assumption
     go_ret
     refine ⟨?_, HB.out⟩
     exact congrArg (fun r => Ending.returned (Value.string r)) (replB_of HR.out (HR3.out.trans (if_pos (by rw [HN.out]; omega)))).symm
    ·have hbig : (N : Int) ≤ 1048576 := by assumption
     go_roundg (gk - 1)
     case measure => have := HK.out; have := Q4.out; omega
     case rel =>
      have hw : wrap64 (x + 1) = x + 1 := by have := Q4.out; have := P4.out; unfold wrap64; omega
      refine ⟨x + 1, acc ++ bytesOf t, by rw [hw], ⟨by have := P4.out; omega⟩, ⟨by have := Q4.out; omega⟩, ⟨by have := HK.out; omega⟩, ⟨?_⟩, ⟨by rw [HN.out]; omega⟩, ⟨by rw [HN.out]; exact HO.out⟩, HB⟩
      rw [show (x + 1).toNat = x.toNat + 1 by have := P4.out; omega, ← HR.out, HR3.out, if_neg]
      rw [HN.out]; omega
   | false =>
    have HR3 : Aside0 (repl G ((bytesOf s).drop x.toNat) acc = if (acc ++ [bt s x]).length > 1048576 then [] else repl G ((bytesOf s).drop (x.toNat + 1)) (acc ++ [bt s x])) := ⟨HR2.out⟩
    clear HR2
    go_wp2_with (first
     | (go_at_fn g; refine HC.out.mono ?_; rintro e w2 ⟨rfl, hb2⟩; have n0_ := Aside0.mk (pw_own_below HO.out hb2); have n1_ := Aside0.mk (below_step HB.out hb2); clear HO HB hb2; have HO := n0_; have HB := n1_; clear n0_ n1_)
     | (at_builtin; refine print_append_num (w0 := w) w.heap.size rfl (.tmp 28) _ 81 5 .u8 1 rfl Try.underlying81 infou8 (by decide) _ acc (bt s x) rfl rfl HO.out HB.out HB.out.size (by have := HL.out; omega) ?_; intro v1 w1 hO1 hB1 hg1 _; obtain ⟨A1, c1, rfl⟩ := own_slice hO1; generalize hN : (acc ++ [bt s x]).length = N at hO1; have n0_ := Aside0.mk hO1; have n1_ := Aside0.mk hB1; have HN := Aside0.mk hN; have hN2 : N ≤ 2097152 := (by rw [← hN, List.length_append, List.length_singleton]; have := HL.out; omega); clear hN hO1 hB1 hg1 HO HB; have HO := n0_; have HB := n1_; clear n0_ n1_))
    ·have hbig : (1048576 : Int) < (N : Int) := by assumption
     go_ret
     refine ⟨?_, HB.out⟩
     exact congrArg (fun r => Ending.returned (Value.string r)) (replB_of HR.out (HR3.out.trans (if_pos (by rw [HN.out]; omega)))).symm
    ·have hbig : (N : Int) ≤ 1048576 := by assumption
     go_roundg (gk - 1)
     case measure => have := HK.out; have := Q4.out; omega
     case rel =>
      have hw : wrap64 (x + 1) = x + 1 := by have := Q4.out; have := P4.out; unfold wrap64; omega
      refine ⟨x + 1, acc ++ [bt s x], by rw [hw], ⟨by have := P4.out; omega⟩, ⟨by have := Q4.out; omega⟩, ⟨by have := HK.out; omega⟩, ⟨?_⟩, ⟨by rw [HN.out]; omega⟩, ⟨by rw [HN.out]; exact HO.out⟩, HB⟩
      rw [show (x + 1).toNat = x.toNat + 1 by have := P4.out; omega, ← HR.out, HR3.out, if_neg]
      rw [HN.out]; omega
  ·have c2b0 : decide (x < (s.size : Int)) = false := decide_eq_false hlt
   have hx : x = s.size := by have := H1.out; omega
   have hr : repl G (bytesOf s) [] = acc := by
    rw [← HR.out, List.drop_of_length_le (by rw [bytesOf_length]; omega)]
    rfl
   have HF := Aside0.mk hr
   clear hr hx hlt HG HBd
   have hconv := own_string (P := Try.prog) Try.underlying81 Try.underlying5 Try.underlying9 HO.out
   go_wp2
   go_ret
   exact ⟨congrArg (fun r => Ending.returned (Value.string (strOfNums r))) HF.out.symm, HB.out⟩
-- EXT loop.example/g00582/impl.ReplaceVar making
def impl_ReplaceVar.f (s : ByteArray) (nm : Int) (b : ByteArray) : Option ByteArray :=
 if s.size ≤ 9223372036854775807 ∧ b.size ≤ 1048576 then some (replB (fun c => (b, c == nm)) s) else none
set_option maxHeartbeats 1000000 in
theorem clo_ReplaceVar (c nm : Int) (b : ByteArray) (p1 p2 : Addr) (W : World) (h1 : W.cell? p1 = some (.string b)) (h2 : W.cell? p2 = some (.int .u8 nm)) :
  Calls Try.prog 142 #[.int .u8 c, .pointer (some p1), .pointer (some p2)] W fun e W' => e = .returned (.tuple #[.string b, .bool (c == nm)]) ∧ Below W.heap.size W W' := by
 go_enter Try.func142, Try.ntmps142
 go_wp2
 go_quiet (fail)
 go_wp2
 go_ret2
 exact ⟨rfl, (Drawn0.step (Drawn0.refl _) _).below⟩
set_option maxHeartbeats 1000000 in
theorem impl_ReplaceVar.calls (s : ByteArray) (nm : Int) (b : ByteArray) (r : ByteArray) (w : World) (h : impl_ReplaceVar.f s nm b = some r) :
  Calls Try.prog 51 #[.string s, .int .u8 nm, .string b] w fun e w' => e = .returned (.string r) ∧ Below w.heap.size w w' := by
 unfold impl_ReplaceVar.f at h
 split at h
 ·rename_i hc
  obtain ⟨hs, hb⟩ := hc
  obtain rfl := Option.some.inj h
  clear h
  have HS := Aside0.mk hs
  have HB := Aside0.mk hb
  clear hs hb
  have hmf : ∀ (fn : Fn) (first cap : Array Value) (w : World), (Instr.makeFunc fn first cap).run Try.prog w = .ok (.func fn first cap) w := fun _ _ _ _ => rfl
  go_enter Try.func51, Try.ntmps51
  go_wp2_with fail
  refine (replaced_any (fun c => (b, c == nm)) 142 _ (enters_of Try.func142 (by kernel_rfl) rfl) s _ HS.out (fun _ => HB.out) ?_).mono ?_
  ·intro W c hb _ _
   refine clo_ReplaceVar c nm b _ _ W ?_ ?_
   ·rw [hb.cell (p := ⟨w.heap.size + 1, 0, none⟩) (by simp)]
    go_simp
   ·rw [hb.cell (p := ⟨w.heap.size, 0, none⟩) (by simp; omega)]
    go_simp
  ·rintro e w' ⟨rfl, hb'⟩
   have hb2 : Below w.heap.size w w' := below_then (below_alloc (below_alloc (Below.refl _ _) _) _) (by simp; omega) hb'
   have HB2 := Aside0.mk hb2
   clear hb2 hb'
   go_wp2
   go_ret
   exact ⟨rfl, HB2.out⟩
 ·exact absurd h (by simp)
-- EXT loop.example/g00582/impl.ApplyValues making
def wordOf (x y z : ByteArray) (c : Int) : ByteArray × Bool := ((impl_ValueOf.f x y z c).getD ⟨#[]⟩, (impl_isVariable.f c).getD false)
def impl_ApplyValues.f (s x y z : ByteArray) : Option ByteArray :=
 if s.size ≤ 9223372036854775807 ∧ x.size ≤ 1048576 ∧ y.size ≤ 1048576 ∧ z.size ≤ 1048576 then some (replB (wordOf x y z) s) else none
theorem valueOf_some (x y z : ByteArray) (c : Int) : impl_ValueOf.f x y z c = some (wordOf x y z c).1 := by
 unfold wordOf impl_ValueOf.f
 repeat' split
 all_goals rfl
theorem isVariable_some (x y z : ByteArray) (c : Int) : impl_isVariable.f c = some (wordOf x y z c).2 := rfl
theorem wordOf_size (x y z : ByteArray) (c : Int) (hx : x.size ≤ 1048576) (hy : y.size ≤ 1048576) (hz : z.size ≤ 1048576) : (wordOf x y z c).1.size ≤ 1048576 := by
 unfold wordOf impl_ValueOf.f
 repeat' split
 all_goals first | exact hx | exact hy | exact hz | exact Nat.zero_le _
set_option maxHeartbeats 1000000 in
theorem clo_ApplyValues (c : Int) (x y z : ByteArray) (g : Nat) (W : World) (h0 : W.cell? ⟨g, 0, none⟩ = some (.string x)) (h1 : W.cell? ⟨g, 1, none⟩ = some (.string y)) (h2 : W.cell? ⟨g, 2, none⟩ = some (.string z)) :
  Calls Try.prog 135 #[.int .u8 c, .pointer (some ⟨g, 0, none⟩)] W fun e W' => e = .returned (.tuple #[.string (wordOf x y z c).1, .bool (wordOf x y z c).2]) ∧ Below W.heap.size W W' := by
 have hv := Aside0.mk (valueOf_some x y z c)
 have hi := Aside0.mk (isVariable_some x y z c)
 generalize (wordOf x y z c).1 = a at hv ⊢
 generalize (wordOf x y z c).2 = b at hi ⊢
 go_enter Try.func135, Try.ntmps135
 go_wp2_with fail
 refine (impl_ValueOf.calls x y z c a _ hv.out).mono ?_
 rintro e w1 ⟨rfl, hb1⟩
 have HB := Aside0.mk hb1
 clear hb1 h0 h1 h2
 go_wp2_with (go_at_call 136; refine (impl_isVariable.calls c b _ hi.out).mono ?_; rintro e w2 ⟨rfl, ⟨nd, rfl⟩⟩)
 go_ret2
 exact ⟨rfl, pw_below_drewN HB.out _⟩
set_option maxHeartbeats 1000000 in
theorem impl_ApplyValues.calls (s x y z : ByteArray) (r : ByteArray) (w : World) (h : impl_ApplyValues.f s x y z = some r) :
  Calls Try.prog 45 #[.string s, .agg #[.string x, .string y, .string z]] w fun e w' => e = .returned (.string r) ∧ Below w.heap.size w w' := by
 unfold impl_ApplyValues.f at h
 split at h
 ·rename_i hc
  obtain ⟨hs, hx, hy, hz⟩ := hc
  obtain rfl := Option.some.inj h
  clear h
  have HS := Aside0.mk hs
  have HX := Aside0.mk (fun c => wordOf_size x y z c hx hy hz)
  clear hs hx hy hz
  have hmf : ∀ (fn : Fn) (first cap : Array Value) (w : World), (Instr.makeFunc fn first cap).run Try.prog w = .ok (.func fn first cap) w := fun _ _ _ _ => rfl
  go_enter Try.func45, Try.ntmps45
  go_wp2_with fail
  refine (replaced_any (wordOf x y z) 135 _ (enters_of Try.func135 (by kernel_rfl) rfl) s _ HS.out HX.out ?_).mono ?_
  ·intro W c hb _ _
   refine clo_ApplyValues c x y z _ W ?_ ?_ ?_
   ·rw [hb.cell (p := ⟨w.heap.size, 0, none⟩) (by simp)]
    go_simp
   ·rw [hb.cell (p := ⟨w.heap.size, 1, none⟩) (by simp)]
    go_simp
   ·rw [hb.cell (p := ⟨w.heap.size, 2, none⟩) (by simp)]
    go_simp
  ·rintro e w' ⟨rfl, hb'⟩
   have hb2 : Below w.heap.size w w' := below_then (below_alloc (Below.refl _ _) _) (by simp) hb'
   have HB2 := Aside0.mk hb2
   clear hb2 hb'
   go_wp2
   go_ret
   exact ⟨rfl, HB2.out⟩
 ·exact absurd h (by simp)
end Go.Proofs.Ytpppopdmnejcfaa.Ext
