/- FnExactWordOfMap: what its proof needs, put together by this session's program wip/merge.py out of the texts that wip/xp.py printed and of this session's own. -/
import Derived.Test.YtgllnohlocfeoaaQFnExactWordOfMap1
import Derived.Test.YtgllnohlocfeoaaProg
import Derived.Shelf.Abstract
import Derived.Deep.LoopGhost
import Derived.Laws.EntriesVeiled
import Derived.Maps.Own
import Derived.Maps.OwnOps
import Derived.Maps.OwnSet
import Derived.Deep.QuietTactic
import Derived.BigQuiet
import Derived.Below
namespace Go.Proofs.Ytgllnohlocfeoaa.A
open Go.RowKit Go.Proofs.Ytgllnohlocfeoaa.Ext Go.Proofs.YtgllnohlocfeoaaW.PrintWords Go.Proofs.YtgllnohlocfeoaaW.PrintLast Go.Proofs.YtgllnohlocfeoaaW.PrintMore
attribute [local go_sem] max2_int min2_int max_two min_two max_three min_three max_four min_four   -- for this text's walks alone
set_option linter.unusedVariables false
set_option linter.unusedSimpArgs false

/-! ### spec_WordOfMap: function 18 -/
mutual
def spec_WordOfMap.l0 : Nat → Int → List Int → List ByteArray → Int → List (List Int) → List Int → List (List Int) → Option (ByteArray × Bool)
  | 0, _, _, _, _, _, _, _ => none
  | k + 1, x1, x6, x7, x8, x18002000, x18002001, x18002002 => if x8 < (x6.length : Int) then (if 0 ≤ x8 then (if (rd x6 x8) = x1 then (if x8 < (x7.length : Int) then (some (rdOf ByteArray.empty x7 x8, true)) else (none)) else (spec_WordOfMap.l1 k x1 x6 x7 x8 0 x18002000 x18002001 x18002002)) else (none)) else (some ((⟨#[]⟩ : ByteArray), false))
def spec_WordOfMap.l1 : Nat → Int → List Int → List ByteArray → Int → Int → List (List Int) → List Int → List (List Int) → Option (ByteArray × Bool)
  | 0, _, _, _, _, _, _, _, _ => none
  | k + 1, x1, x6, x7, x8, x9, x18002000, x18002001, x18002002 => if x9 < 3 then (if 0 ≤ x8 then (if x8 < (x6.length : Int) then (if 0 ≤ (rd x6 x8) then (if (rd x6 x8) < (x18002002.length : Int) then (if 0 ≤ x9 then (if x9 < (x18002001.length : Int) then (if 0 ≤ (rd x18002001 x9) then (if (rd x18002001 x9) < ((rd_L5 x18002002 (rd x6 x8)).length : Int) then ((spec_l5Find.f k x6 (rd (rd_L5 x18002002 (rd x6 x8)) (rd x18002001 x9))).bind fun t18015 => (if t18015 < 0 then (if x6.length < 17592186044416 then (if x8 < (x7.length : Int) then (if x9 ≤ (wrap64 (x9 + 1)) then (if (wrap64 (x9 + 1)) ≤ 3 then (if (rdOf ByteArray.empty x7 x8).size + ((⟨#[97, 98, 99]⟩ : ByteArray).extract (x9 : Int).toNat ((wrap64 (x9 + 1)) : Int).toNat).size ≤ 9223372036854775807 then (if x7.length < 8796093022208 then (spec_WordOfMap.l1 k x1 (x6 ++ [rd (rd_L5 x18002002 (rd x6 x8)) (rd x18002001 x9)]) (x7 ++ [(rdOf ByteArray.empty x7 x8) ++ ((⟨#[97, 98, 99]⟩ : ByteArray).extract (x9 : Int).toNat ((wrap64 (x9 + 1)) : Int).toNat)]) x8 (wrap64 (x9 + 1)) x18002000 x18002001 x18002002) else (none)) else (none)) else (none)) else (none)) else (none)) else (none)) else (spec_WordOfMap.l1 k x1 x6 x7 x8 (wrap64 (x9 + 1)) x18002000 x18002001 x18002002))) else (none)) else (none)) else (none)) else (none)) else (none)) else (none)) else (none)) else (none)) else (spec_WordOfMap.l0 k x1 x6 x7 (wrap64 (x8 + 1)) x18002000 x18002001 x18002002)
end
def spec_WordOfMap.f (k : Nat) (l0_0 : List (List Int)) (l0_1 : List Int) (l0_2 : List (List Int)) (a1 : Int) : Option (ByteArray × Bool) := (spec_l13Good.f k l0_0 l0_1 l0_2).bind fun t18002 => (if t18002 = true then (spec_WordOfMap.l0 k a1 (([0] : List Int)) (([(⟨#[]⟩ : ByteArray)] : List ByteArray)) 0 l0_0 l0_1 l0_2) else (some ((⟨#[]⟩ : ByteArray), false)))
theorem spec_WordOfMap.mono_l : ∀ k, (∀ y0 y1 y2 y3 y4 y5 y6, LeO (spec_WordOfMap.l0 k y0 y1 y2 y3 y4 y5 y6) (spec_WordOfMap.l0 (k + 1) y0 y1 y2 y3 y4 y5 y6)) ∧ (∀ y0 y1 y2 y3 y4 y5 y6 y7, LeO (spec_WordOfMap.l1 k y0 y1 y2 y3 y4 y5 y6 y7) (spec_WordOfMap.l1 (k + 1) y0 y1 y2 y3 y4 y5 y6 y7))
  | 0 => ⟨fun _ _ _ _ _ _ _ r h => by simp [spec_WordOfMap.l0] at h, fun _ _ _ _ _ _ _ _ r h => by simp [spec_WordOfMap.l1] at h⟩
  | k + 1 => by
    obtain ⟨ih0, ih1⟩ := spec_WordOfMap.mono_l k
    refine ⟨?_, ?_⟩
    · intro y0 y1 y2 y3 y4 y5 y6
      unfold spec_WordOfMap.l0
      repeat' first
      | (with_reducible exact ih0 _ _ _ _ _ _ _)
      | (with_reducible exact ih1 _ _ _ _ _ _ _ _)
      | (with_reducible exact spec_l13Good.mono _ _ _ _)
      | (with_reducible exact spec_l5Find.mono _ _ _)
      | (with_reducible exact LeO.refl _)
      | (with_reducible exact LeO.none _)
      | (with_reducible refine LeO.ite ?_ ?_)
      | (with_reducible refine LeO.bind ?_ (fun _ => ?_))
      | exact ih0 _ _ _ _ _ _ _
      | exact ih1 _ _ _ _ _ _ _ _
      | exact spec_l13Good.mono _ _ _ _
      | exact spec_l5Find.mono _ _ _
      | exact LeO.none _
      | refine LeO.ite ?_ ?_
      | refine LeO.bind ?_ (fun _ => ?_)
    · intro y0 y1 y2 y3 y4 y5 y6 y7
      unfold spec_WordOfMap.l1
      repeat' first
      | (with_reducible exact ih0 _ _ _ _ _ _ _)
      | (with_reducible exact ih1 _ _ _ _ _ _ _ _)
      | (with_reducible exact spec_l13Good.mono _ _ _ _)
      | (with_reducible exact spec_l5Find.mono _ _ _)
      | (with_reducible exact LeO.refl _)
      | (with_reducible exact LeO.none _)
      | (with_reducible refine LeO.ite ?_ ?_)
      | (with_reducible refine LeO.bind ?_ (fun _ => ?_))
      | exact ih0 _ _ _ _ _ _ _
      | exact ih1 _ _ _ _ _ _ _ _
      | exact spec_l13Good.mono _ _ _ _
      | exact spec_l5Find.mono _ _ _
      | exact LeO.none _
      | refine LeO.ite ?_ ?_
      | refine LeO.bind ?_ (fun _ => ?_)
theorem spec_WordOfMap.mono : ∀ a0 a1 a2 a3 k, LeO (spec_WordOfMap.f k a0 a1 a2 a3) (spec_WordOfMap.f (k + 1) a0 a1 a2 a3) := by
  intro a0 a1 a2 a3 k
  obtain ⟨ih0, ih1⟩ := spec_WordOfMap.mono_l k
  unfold spec_WordOfMap.f
  repeat' first
      | (with_reducible exact ih0 _ _ _ _ _ _ _)
      | (with_reducible exact ih1 _ _ _ _ _ _ _ _)
      | (with_reducible exact spec_l13Good.mono _ _ _ _)
      | (with_reducible exact spec_l5Find.mono _ _ _)
      | (with_reducible exact LeO.refl _)
      | (with_reducible exact LeO.none _)
      | (with_reducible refine LeO.ite ?_ ?_)
      | (with_reducible refine LeO.bind ?_ (fun _ => ?_))
      | exact ih0 _ _ _ _ _ _ _
      | exact ih1 _ _ _ _ _ _ _ _
      | exact spec_l13Good.mono _ _ _ _
      | exact spec_l5Find.mono _ _ _
      | exact LeO.none _
      | refine LeO.ite ?_ ?_
      | refine LeO.bind ?_ (fun _ => ?_)
def spec_WordOfMap.T13 : Bool × List (List Nat × List Nat) := (true, [([], []), ([0], [0]), ([], []), ([], []), ([2, 3], [2, 3]), ([4], [4]), ([1, 5], [1, 5]), ([6], [6]), ([], []), ([8], [8]), ([], []), ([9, 10], [9, 10]), ([11], [11]), ([7, 12], [7, 12]), ([13], [13]), ([14, 0, 1, 2, 3, 4, 5, 6, 7, 8, 9, 10, 11, 12, 13, 14], [14])])
def spec_WordOfMap.B13 : List Nat := [0, 1, 0, 0, 12, 28, 63, 127, 0, 256, 0, 1792, 3840, 8191, 16383, 32767]
theorem spec_WordOfMap.tab13 : rtab .any (opsOf Try.f18 13) = spec_WordOfMap.T13 := by kernel_rfl
theorem spec_WordOfMap.bits13 : waitsOk spec_WordOfMap.T13.2 spec_WordOfMap.B13 = true := by kernel_rfl
def spec_WordOfMap.T16 : Bool × List (List Nat × List Nat) := (true, [([], []), ([], []), ([], []), ([1, 2], [1, 2]), ([3], [3]), ([], []), ([], []), ([6], [6]), ([5, 7], [5, 7]), ([4, 8], [4, 8]), ([9], [9]), ([0, 10], [0, 10]), ([11, 11, 0, 1, 2, 3, 4, 5, 6, 7, 8, 9, 10, 11], [0, 1, 11])])
def spec_WordOfMap.B16 : List Nat := [0, 0, 0, 6, 14, 0, 0, 64, 224, 510, 1022, 2047, 4095]
theorem spec_WordOfMap.tab16 : rtab .any (opsOf Try.f18 16) = spec_WordOfMap.T16 := by kernel_rfl
theorem spec_WordOfMap.bits16 : waitsOk spec_WordOfMap.T16.2 spec_WordOfMap.B16 = true := by kernel_rfl
set_option maxHeartbeats 8000000 in
set_option maxRecDepth 100000 in
theorem spec_WordOfMap.calls (k : Nat) (A0_0 : Option Addr) (c0_0 : Nat) (l0_0 : List (List Int)) (A0_1 : Option Addr) (c0_1 : Nat) (l0_1 : List Int) (A0_2 : Option Addr) (c0_2 : Nat) (l0_2 : List (List Int)) (a1 : Int) (r1 : ByteArray) (r2 : Bool) (w : World) (hr0_0 : Kd.C (Kd.slice 3 (Kd.int .i64)) w A0_0 l0_0.length l0_0) (hc0_0 : l0_0.length ≤ c0_0) (hr0_1 : Kd.C (Kd.int .i64) w A0_1 l0_1.length l0_1) (hc0_1 : l0_1.length ≤ c0_1) (hr0_2 : Kd.C (Kd.slice 3 (Kd.int .i64)) w A0_2 l0_2.length l0_2) (hc0_2 : l0_2.length ≤ c0_2) (h : spec_WordOfMap.f k l0_0 l0_1 l0_2 a1 = some (r1, r2)) :
    Calls Try.prog 18 #[.agg #[.slice A0_0 l0_0.length c0_0, .slice A0_1 l0_1.length c0_1, .slice A0_2 l0_2.length c0_2], .int .i64 a1] w fun e w' => e = .returned (.tuple #[.string r1, .bool r2]) ∧ Below w.heap.size w w' := by
  have hu46 := Try.underlying46
  have HR0_0 := Aside0.mk hr0_0
  have HC0_0 := Aside0.mk hc0_0
  clear hr0_0 hc0_0
  have HR0_1 := Aside0.mk hr0_1
  have HC0_1 := Aside0.mk hc0_1
  clear hr0_1 hc0_1
  have HR0_2 := Aside0.mk hr0_2
  have HC0_2 := Aside0.mk hc0_2
  clear hr0_2 hc0_2
  have HB := Aside0.mk (Below.refl w.heap.size w)
  have H : ((spec_l13Good.f k l0_0 l0_1 l0_2).bind fun t18002 => (if t18002 = true then (spec_WordOfMap.l0 k a1 (([0] : List Int)) (([(⟨#[]⟩ : ByteArray)] : List ByteArray)) 0 l0_0 l0_1 l0_2) else (some ((⟨#[]⟩ : ByteArray), false)))) = some (r1, r2) := h
  clear h
  replace H := Option.bind_eq_some_iff.mp H
  obtain ⟨t18002, A30, H⟩ := H
  replace H : (if t18002 = true then (spec_WordOfMap.l0 k a1 (([0] : List Int)) (([(⟨#[]⟩ : ByteArray)] : List ByteArray)) 0 l0_0 l0_1 l0_2) else (some ((⟨#[]⟩ : ByteArray), false))) = some (r1, r2) := H
  have A3 := Aside0.mk A30
  clear A30
  by_cases c4 : t18002 = true
  · subst c4
    have H1 : (spec_WordOfMap.l0 k a1 (([0] : List Int)) (([(⟨#[]⟩ : ByteArray)] : List ByteArray)) 0 l0_0 l0_1 l0_2) = some (r1, r2) := by rw [if_pos rfl] at H; exact H
    clear H
    have H := H1
    clear H1
    obtain ⟨y18003, hy18003⟩ : ∃ y_ : List Int, y_ = (([0] : List Int)) := ⟨_, rfl⟩
    replace H : (spec_WordOfMap.l0 k a1 y18003 (([(⟨#[]⟩ : ByteArray)] : List ByteArray)) 0 l0_0 l0_1 l0_2) = some (r1, r2) := by first | (rw [hy18003]; with_reducible exact H) | (have H2_ := (Option.bind_some _ _).symm.trans H; rw [hy18003]; with_reducible exact H2_) | (have H2_ := (Option.bind_some _ _).symm.trans H; with_reducible exact H2_) | with_reducible exact H | (rw [hy18003]; exact H) | exact H
    have Ny18003 := Aside0.mk hy18003
    clear hy18003
    obtain ⟨y18006, hy18006⟩ : ∃ y_ : List ByteArray, y_ = (([(⟨#[]⟩ : ByteArray)] : List ByteArray)) := ⟨_, rfl⟩
    replace H : (spec_WordOfMap.l0 k a1 y18003 y18006 0 l0_0 l0_1 l0_2) = some (r1, r2) := by first | (rw [hy18006]; with_reducible exact H) | (have H2_ := (Option.bind_some _ _).symm.trans H; rw [hy18006]; with_reducible exact H2_) | (have H2_ := (Option.bind_some _ _).symm.trans H; with_reducible exact H2_) | with_reducible exact H | (rw [hy18006]; exact H) | exact H
    have Ny18006 := Aside0.mk hy18006
    clear hy18006
    have H' := Aside0.mk H
    clear H
    go_enter Try.func18, Try.ntmps18
    go_wp2_with (first | ((with_reducible refine gate_dst (N := 2) rfl ?_); refine box_event ?hg (N := 2) ?hd (cs := #[.slice A0_0 l0_0.length c0_0, .slice A0_1 l0_1.length c0_1, .slice A0_2 l0_2.length c0_2]) (t := 46) ?hr ?_; (case hd => rfl); (case hg => rfl); (case hr => first | (go_simp; done) | (go_simp; rfl)); intro gb18001 hg w5 hbox hb; have n0_ := Aside0.mk (below_step (by repeat (first | (with_reducible first | exact HB.out | apply below_alloc | apply pw_below_drewN | apply below_drew1) | exact HB.out)) hb); have n1_ := Aside0.mk (hbox); have n2_ := Aside0.mk ((by rw [hg]; exact (below_size (by repeat (first | (with_reducible first | exact HB.out | apply below_alloc | apply pw_below_drewN | apply below_drew1) | exact HB.out))) : w.heap.size ≤ gb18001)); have n3_ := Aside0.mk ((by rw [hg]; exact (below_size (by repeat (first | (with_reducible first | exact HB.out | apply below_alloc | apply pw_below_drewN | apply below_drew1) | exact HB.out))) : w.heap.size ≤ gb18001)); clear HB; have HB := n0_; have BK18001 := n1_; have GW18001 := n2_; have GE18001 := n3_; clear n0_ n1_ n2_ n3_; clear hb hbox hg; have hcz6_0 : w5.cell? ⟨gb18001, 0, none⟩ = some (.slice A0_0 l0_0.length c0_0) := (blk_cell BK18001.out 0).trans rfl; have hcz6_1 : w5.cell? ⟨gb18001, 1, none⟩ = some (.slice A0_1 l0_1.length c0_1) := (blk_cell BK18001.out 1).trans rfl; have hcz6_2 : w5.cell? ⟨gb18001, 2, none⟩ = some (.slice A0_2 l0_2.length c0_2) := (blk_cell BK18001.out 2).trans rfl; have hfz6_0 := blk_frozen BK18001.out 0; have hfz6_1 := blk_frozen BK18001.out 1; have hfz6_2 := blk_frozen BK18001.out 2) | ((with_reducible refine gate_callee (f := 39) rfl ?_); refine goesL_ (some 12) rfl rfl Try.func39 (by kernel_rfl) rfl #[.agg #[.slice A0_0 l0_0.length c0_0, .slice A0_1 l0_1.length c0_1, .slice A0_2 l0_2.length c0_2]] rfl (by (try simp only [List.map_toArray, List.map_cons, List.map_nil]); first | done | rfl | (simp only [List.length_drop, List.length_take]; rfl)) ?_; (with_reducible refine (spec_l13Good.calls k _ _ l0_0 _ _ l0_1 _ _ l0_2 true _ ?side1 ?side2 ?side3 ?side4 ?side5 ?side6 A3.out).mono ?_); (case side1 => repeat (first | exact (Kd.C_below HR0_0.out HB.out) | (with_reducible refine Kd.C_alloc ?_ _) | (with_reducible refine Kd.C_drewN ?_ _) | (with_reducible refine Kd.C_drew ?_))); (case side2 => exact HC0_0.out); (case side3 => repeat (first | exact (Kd.C_below HR0_1.out HB.out) | (with_reducible refine Kd.C_alloc ?_ _) | (with_reducible refine Kd.C_drewN ?_ _) | (with_reducible refine Kd.C_drew ?_))); (case side4 => exact HC0_1.out); (case side5 => repeat (first | exact (Kd.C_below HR0_2.out HB.out) | (with_reducible refine Kd.C_alloc ?_ _) | (with_reducible refine Kd.C_drewN ?_ _) | (with_reducible refine Kd.C_drew ?_))); (case side6 => exact HC0_2.out); rintro e w7 ⟨rfl, hb⟩; refine ⟨_, rfl, ?_⟩; have n0_ := Aside0.mk (blk_below (g := gb18001) (o := .cells #[.slice A0_0 l0_0.length c0_0, .slice A0_1 l0_1.length c0_1, .slice A0_2 l0_2.length c0_2] 46 (0, 0)) (by (with_reducible repeat (first | refine blk_drewN ?_ _ | refine blk_drew ?_ | refine blk_alloc ?_ _)); exact BK18001.out) hb); have n1_ := Aside0.mk (below_step (by repeat (first | (with_reducible first | exact HB.out | apply below_alloc | apply pw_below_drewN | apply below_drew1 | refine below_set ?_ GE18001.out) | exact HB.out)) hb); clear BK18001; clear HB; have BK18001 := n0_; have HB := n1_; clear n0_ n1_; (try clear hb); (try clear hb2); (try clear hk); (try clear hi)) | ((with_reducible refine gate_dst (N := 14) rfl ?_); refine Kd.R_lit (Kd.int .i64) _ 3 ?hg (N := 14) ?hd (xs := ([0] : List Int)) (inner := [.int .i64 0]) (ok := fun _ => True) (okp := fun _ => True) ?hr ?hp (fun _ hk => hk) trivial (Below.refl _ _) (Nat.le_refl _) (by simp) ?_; (case hd => rfl); (case hg => rfl); (case hr => first | (go_simp; done) | (go_simp; rfl)); (case hp => exact (Reps.one (show Kd.M (Kd.int .i64) _ _ _ 0 [.int .i64 0] from rfl) (Reps.none _ _))); intro v18004 w8 ho9 hb hg_ hnew_; clear hg_ hnew_; (first | rw [← Ny18003.out] at ho9 | (simp only [Int.reduceToNat] at ho9; rw [← Ny18003.out] at ho9)); have n0_ := Aside0.mk (Kd.R_lower ho9 (below_size (by repeat (first | (with_reducible first | exact HB.out | apply below_alloc | apply pw_below_drewN | apply below_drew1 | refine below_set ?_ GE18001.out) | exact HB.out)))); have n1_ := Aside0.mk (blk_below (g := gb18001) (o := .cells #[.slice A0_0 l0_0.length c0_0, .slice A0_1 l0_1.length c0_1, .slice A0_2 l0_2.length c0_2] 46 (0, 0)) (by (with_reducible repeat (first | refine blk_drewN ?_ _ | refine blk_drew ?_ | refine blk_alloc ?_ _)); exact BK18001.out) hb); have n2_ := Aside0.mk (below_step (by repeat (first | (with_reducible first | exact HB.out | apply below_alloc | apply pw_below_drewN | apply below_drew1 | refine below_set ?_ GE18001.out) | exact HB.out)) hb); clear BK18001; clear HB; have HO18005 := n0_; have BK18001 := n1_; have HB := n2_; clear n0_ n1_ n2_; clear hb ho9) | ((with_reducible refine gate_dst (N := 15) rfl ?_); refine Kd.R_lit Kd.string _ 9 ?hg (N := 15) ?hd (xs := ([(⟨#[]⟩ : ByteArray)] : List ByteArray)) (inner := [.string (⟨#[]⟩ : ByteArray)]) (ok := fun _ => True) (okp := fun _ => True) ?hr ?hp (fun _ hk => hk) trivial (Below.refl _ _) (Nat.le_refl _) (by simp) ?_; (case hd => rfl); (case hg => rfl); (case hr => first | (go_simp; done) | (go_simp; rfl)); (case hp => exact (Reps.one (show Kd.M Kd.string _ _ _ (⟨#[]⟩ : ByteArray) [.string (⟨#[]⟩ : ByteArray)] from rfl) (Reps.none _ _))); intro v18007 w10 ho11 hb hg_ hnew_; clear hg_ hnew_; (first | rw [← Ny18006.out] at ho11 | (simp only [Int.reduceToNat] at ho11; rw [← Ny18006.out] at ho11)); have n0_ := Aside0.mk (Kd.R_below (by (with_reducible repeat (first | apply Kd.R_alloc | apply Kd.R_drewN | apply Kd.R_drew)); exact HO18005.out) hb); have n1_ := Aside0.mk (Kd.R_lower ho11 (below_size (by repeat (first | (with_reducible first | exact HB.out | apply below_alloc | apply pw_below_drewN | apply below_drew1 | refine below_set ?_ GE18001.out) | exact HB.out)))); have n2_ := Aside0.mk (blk_below (g := gb18001) (o := .cells #[.slice A0_0 l0_0.length c0_0, .slice A0_1 l0_1.length c0_1, .slice A0_2 l0_2.length c0_2] 46 (0, 0)) (by (with_reducible repeat (first | refine blk_drewN ?_ _ | refine blk_drew ?_ | refine blk_alloc ?_ _)); exact BK18001.out) hb); have n3_ := Aside0.mk (below_step (by repeat (first | (with_reducible first | exact HB.out | apply below_alloc | apply pw_below_drewN | apply below_drew1 | refine below_set ?_ GE18001.out) | exact HB.out)) hb); clear HO18005; clear BK18001; clear HB; have HO18005 := n0_; have HO18008 := n1_; have BK18001 := n2_; have HB := n3_; clear n0_ n1_ n2_ n3_; clear hb ho11))
    first | go_loopg [6, 7, 8] k (fun kq v6 v7 v8 w' => ∃ (x6_1 : List Int) (x7_1 : List ByteArray) (x8_1 : Int), v8 = .int .i64 x8_1 ∧ Aside0 (spec_WordOfMap.l0 kq a1 x6_1 x7_1 x8_1 l0_0 l0_1 l0_2 = some (r1, r2)) ∧ Aside0 (kq ≤ k) ∧ Aside0 (Kd.R (Kd.int .i64) 3 w' w.heap.size (fun _ => True) v6 x6_1) ∧ Aside0 (Kd.R Kd.string 9 w' w.heap.size (fun _ => True) v7 x7_1) ∧ Aside0 (w'.heap[gb18001]? = some (.cells #[(.slice A0_0 l0_0.length c0_0), (.slice A0_1 l0_1.length c0_1), (.slice A0_2 l0_2.length c0_2)] 46 (0, 0))) ∧ Aside0 (Below w.heap.size w w')) | (simp only [Act.put, List.setIfInBounds_toArray, List.set_cons_succ, List.set_cons_zero]; go_loopg [6, 7, 8] k (fun kq v6 v7 v8 w' => ∃ (x6_1 : List Int) (x7_1 : List ByteArray) (x8_1 : Int), v8 = .int .i64 x8_1 ∧ Aside0 (spec_WordOfMap.l0 kq a1 x6_1 x7_1 x8_1 l0_0 l0_1 l0_2 = some (r1, r2)) ∧ Aside0 (kq ≤ k) ∧ Aside0 (Kd.R (Kd.int .i64) 3 w' w.heap.size (fun _ => True) v6 x6_1) ∧ Aside0 (Kd.R Kd.string 9 w' w.heap.size (fun _ => True) v7 x7_1) ∧ Aside0 (w'.heap[gb18001]? = some (.cells #[(.slice A0_0 l0_0.length c0_0), (.slice A0_1 l0_1.length c0_1), (.slice A0_2 l0_2.length c0_2)] 46 (0, 0))) ∧ Aside0 (Below w.heap.size w w')))
    case atStart => exact ⟨(y18003), (y18006), (0), (by first | rfl | (simp; done) | (simp [*]; done)), H', ⟨Nat.le_refl _⟩, ⟨by (with_reducible repeat (first | apply Kd.R_alloc | apply Kd.R_drewN | apply Kd.R_drew)); exact HO18005.out⟩, ⟨by (with_reducible repeat (first | apply Kd.R_alloc | apply Kd.R_drewN | apply Kd.R_drew)); exact HO18008.out⟩, ⟨by (with_reducible repeat (first | refine blk_drewN ?_ _ | refine blk_drew ?_ | refine blk_alloc ?_ _)); exact BK18001.out⟩, ⟨by repeat (first | (with_reducible first | exact HB.out | apply below_alloc | apply pw_below_drewN | apply below_drew1 | refine below_set ?_ GE18001.out) | exact HB.out)⟩⟩
    case round =>
      clear H'
      try clear c1
      try clear p2
      try clear c3
      try clear c4
      try clear hcz6_0
      try clear hcz6_1
      try clear hcz6_2
      try clear hfz6_0
      try clear hfz6_1
      try clear hfz6_2
      obtain ⟨x6_1, x7_1, x8_1, rfl, HA, HK1, HO_6, HO_7, BK18001, HB⟩ := hrel
      cases gk with
      | zero => exact absurd HA.out (by simp [spec_WordOfMap.l0])
      | succ k1 =>
        have H := HA.out
        clear HA
        simp only [spec_WordOfMap.l0] at H
        by_cases c12 : x8_1 < (x6_1.length : Int)
        · rw [if_pos c12] at H
          have c12b0 : decide (x8_1 < (x6_1.length : Int)) = true := decide_eq_true c12
          clear c12
          by_cases c13 : 0 ≤ x8_1
          · rw [if_pos c13] at H
            have c13b0 : decide (0 ≤ x8_1) = true := decide_eq_true c13
            clear c13
            by_cases c14 : (rd x6_1 x8_1) = a1
            · rw [if_pos c14] at H
              have c14b0 : ((rd x6_1 x8_1) == a1) = true := beq_iff_eq.mpr c14
              have c14b1 : ((rd x6_1 x8_1) != a1) = false := bne_eq_false_iff_eq.mpr c14
              clear c14
              by_cases c15 : x8_1 < (x7_1.length : Int)
              · rw [if_pos c15] at H
                have c15b0 : decide (x8_1 < (x7_1.length : Int)) = true := decide_eq_true c15
                clear c15
                simp only [Option.some.injEq, Prod.mk.injEq] at H
                obtain ⟨rfl, rfl⟩ := H
                obtain ⟨Ao16, co16, eo16⟩ := Kd.R_slice HO_6.out
                subst eo16
                have p18009 : 0 ≤ (x8_1 : Int) := of_decide_eq_true (by first | (with_reducible assumption) | assumption)
                have q18009 : x8_1 < (x6_1.length : Int) := of_decide_eq_true (by first | (with_reducible assumption) | assumption)
                obtain ⟨ad18009, e18009, hx18009_0⟩ := Kd.at_int (Kd.R_reads' HO_6.out).2.2 x8_1 p18009 q18009
                cases e18009
                replace p18009 := eq_true p18009
                replace q18009 := eq_true q18009
                obtain ⟨Ao17, co17, eo17⟩ := Kd.R_slice HO_7.out
                subst eo17
                have p18010 : 0 ≤ (x8_1 : Int) := of_decide_eq_true (by first | (with_reducible assumption) | assumption)
                have q18010 : x8_1 < (x7_1.length : Int) := of_decide_eq_true (by first | (with_reducible assumption) | assumption)
                obtain ⟨ad18010, e18010, hx18010_0⟩ := Kd.at_string (Kd.R_reads' HO_7.out).2.2 x8_1 p18010 q18010
                cases e18010
                replace p18010 := eq_true p18010
                replace q18010 := eq_true q18010
                go_wp2
                go_ret2
                exact ⟨by first | rfl | (simp [errW_none, errW_some] <;> rfl) | (simp [*, errW_none, errW_some] <;> rfl), by repeat (first | (with_reducible first | exact HB.out | apply below_alloc | apply pw_below_drewN | apply below_drew1 | refine below_set ?_ GE18001.out) | exact HB.out)⟩
              · rw [if_neg c15] at H
                exact absurd H (by simp)
            · rw [if_neg c14] at H
              have c14b0 : ((rd x6_1 x8_1) == a1) = false := beq_eq_false_iff_ne.mpr c14
              have c14b1 : ((rd x6_1 x8_1) != a1) = true := bne_iff_ne.mpr c14
              have H' := Aside0.mk H
              clear H
              obtain ⟨Ao18, co18, eo18⟩ := Kd.R_slice HO_6.out
              subst eo18
              have p18009 : 0 ≤ (x8_1 : Int) := of_decide_eq_true (by first | (with_reducible assumption) | assumption)
              have q18009 : x8_1 < (x6_1.length : Int) := of_decide_eq_true (by first | (with_reducible assumption) | assumption)
              obtain ⟨ad18009, e18009, hx18009_0⟩ := Kd.at_int (Kd.R_reads' HO_6.out).2.2 x8_1 p18009 q18009
              cases e18009
              replace p18009 := eq_true p18009
              replace q18009 := eq_true q18009
              go_wp2
              first | go_loopg [6, 7, 9] k1 (fun kq v6 v7 v9 w' => ∃ (x6_2 : List Int) (x7_2 : List ByteArray) (x9_2 : Int), v9 = .int .i64 x9_2 ∧ Aside0 (spec_WordOfMap.l1 kq a1 x6_2 x7_2 x8_1 x9_2 l0_0 l0_1 l0_2 = some (r1, r2)) ∧ Aside0 (kq ≤ k1) ∧ Aside0 (Kd.R (Kd.int .i64) 3 w' w.heap.size (fun _ => True) v6 x6_2) ∧ Aside0 (Kd.R Kd.string 9 w' w.heap.size (fun _ => True) v7 x7_2) ∧ Aside0 (w'.heap[gb18001]? = some (.cells #[(.slice A0_0 l0_0.length c0_0), (.slice A0_1 l0_1.length c0_1), (.slice A0_2 l0_2.length c0_2)] 46 (0, 0))) ∧ Aside0 (Below w.heap.size w w')) | (simp only [Act.put, List.setIfInBounds_toArray, List.set_cons_succ, List.set_cons_zero]; go_loopg [6, 7, 9] k1 (fun kq v6 v7 v9 w' => ∃ (x6_2 : List Int) (x7_2 : List ByteArray) (x9_2 : Int), v9 = .int .i64 x9_2 ∧ Aside0 (spec_WordOfMap.l1 kq a1 x6_2 x7_2 x8_1 x9_2 l0_0 l0_1 l0_2 = some (r1, r2)) ∧ Aside0 (kq ≤ k1) ∧ Aside0 (Kd.R (Kd.int .i64) 3 w' w.heap.size (fun _ => True) v6 x6_2) ∧ Aside0 (Kd.R Kd.string 9 w' w.heap.size (fun _ => True) v7 x7_2) ∧ Aside0 (w'.heap[gb18001]? = some (.cells #[(.slice A0_0 l0_0.length c0_0), (.slice A0_1 l0_1.length c0_1), (.slice A0_2 l0_2.length c0_2)] 46 (0, 0))) ∧ Aside0 (Below w.heap.size w w')))
              case atStart => exact ⟨(x6_1), (x7_1), (0), (by first | rfl | (simp; done) | (simp [*]; done)), H', ⟨Nat.le_refl _⟩, ⟨by (with_reducible repeat (first | apply Kd.R_alloc | apply Kd.R_drewN | apply Kd.R_drew)); exact HO_6.out⟩, ⟨by (with_reducible repeat (first | apply Kd.R_alloc | apply Kd.R_drewN | apply Kd.R_drew)); exact HO_7.out⟩, ⟨by (with_reducible repeat (first | refine blk_drewN ?_ _ | refine blk_drew ?_ | refine blk_alloc ?_ _)); exact BK18001.out⟩, ⟨by repeat (first | (with_reducible first | exact HB.out | apply below_alloc | apply pw_below_drewN | apply below_drew1 | refine below_set ?_ GE18001.out) | exact HB.out)⟩⟩
              case round =>
                clear H'
                try clear c1
                try clear p1
                try clear q1
                try clear hx1
                try clear p2
                try clear c3
                try clear c4
                try clear c12
                try clear c12b0
                try clear c13
                try clear c13b0
                try clear c14
                try clear c14b0
                try clear c14b1
                try clear c15
                try clear c15b0
                try clear c18
                try clear p18
                try clear q18
                try clear hx18
                try clear hcz6_0
                try clear hcz6_1
                try clear hcz6_2
                try clear hfz6_0
                try clear hfz6_1
                try clear hfz6_2
                try clear hx18009_0
                try clear hx18010_0
                try clear p18009
                try clear p18010
                try clear p2
                try clear q18009
                try clear q18010
                obtain ⟨x6_2, x7_2, x9_2, rfl, HA, HK2, HO_6, HO_7, BK18001, HB⟩ := hrel
                cases gk with
                | zero => exact absurd HA.out (by simp [spec_WordOfMap.l1])
                | succ k2 =>
                  have H := HA.out
                  clear HA
                  simp only [spec_WordOfMap.l1] at H
                  by_cases c19 : x9_2 < 3
                  · rw [if_pos c19] at H
                    have c19b0 : decide (x9_2 < 3) = true := decide_eq_true c19
                    clear c19
                    by_cases c20 : 0 ≤ x8_1
                    · rw [if_pos c20] at H
                      have c20b0 : decide (0 ≤ x8_1) = true := decide_eq_true c20
                      clear c20
                      by_cases c21 : x8_1 < (x6_2.length : Int)
                      · rw [if_pos c21] at H
                        have c21b0 : decide (x8_1 < (x6_2.length : Int)) = true := decide_eq_true c21
                        clear c21
                        by_cases c22 : 0 ≤ (rd x6_2 x8_1)
                        · rw [if_pos c22] at H
                          have c22b0 : decide (0 ≤ (rd x6_2 x8_1)) = true := decide_eq_true c22
                          clear c22
                          by_cases c23 : (rd x6_2 x8_1) < (l0_2.length : Int)
                          · rw [if_pos c23] at H
                            have c23b0 : decide ((rd x6_2 x8_1) < (l0_2.length : Int)) = true := decide_eq_true c23
                            clear c23
                            by_cases c24 : 0 ≤ x9_2
                            · rw [if_pos c24] at H
                              have c24b0 : decide (0 ≤ x9_2) = true := decide_eq_true c24
                              clear c24
                              by_cases c25 : x9_2 < (l0_1.length : Int)
                              · rw [if_pos c25] at H
                                have c25b0 : decide (x9_2 < (l0_1.length : Int)) = true := decide_eq_true c25
                                clear c25
                                by_cases c26 : 0 ≤ (rd l0_1 x9_2)
                                · rw [if_pos c26] at H
                                  have c26b0 : decide (0 ≤ (rd l0_1 x9_2)) = true := decide_eq_true c26
                                  clear c26
                                  by_cases c27 : (rd l0_1 x9_2) < ((rd_L5 l0_2 (rd x6_2 x8_1)).length : Int)
                                  · rw [if_pos c27] at H
                                    have c27b0 : decide ((rd l0_1 x9_2) < ((rd_L5 l0_2 (rd x6_2 x8_1)).length : Int)) = true := decide_eq_true c27
                                    clear c27
                                    replace H := Option.bind_eq_some_iff.mp H
                                    obtain ⟨t18015, A280, H⟩ := H
                                    replace H : (if t18015 < 0 then (if x6_2.length < 17592186044416 then (if x8_1 < (x7_2.length : Int) then (if x9_2 ≤ (wrap64 (x9_2 + 1)) then (if (wrap64 (x9_2 + 1)) ≤ 3 then (if (rdOf ByteArray.empty x7_2 x8_1).size + ((⟨#[97, 98, 99]⟩ : ByteArray).extract (x9_2 : Int).toNat ((wrap64 (x9_2 + 1)) : Int).toNat).size ≤ 9223372036854775807 then (if x7_2.length < 8796093022208 then (spec_WordOfMap.l1 k2 a1 (x6_2 ++ [rd (rd_L5 l0_2 (rd x6_2 x8_1)) (rd l0_1 x9_2)]) (x7_2 ++ [(rdOf ByteArray.empty x7_2 x8_1) ++ ((⟨#[97, 98, 99]⟩ : ByteArray).extract (x9_2 : Int).toNat ((wrap64 (x9_2 + 1)) : Int).toNat)]) x8_1 (wrap64 (x9_2 + 1)) l0_0 l0_1 l0_2) else (none)) else (none)) else (none)) else (none)) else (none)) else (none)) else (spec_WordOfMap.l1 k2 a1 x6_2 x7_2 x8_1 (wrap64 (x9_2 + 1)) l0_0 l0_1 l0_2)) = some (r1, r2) := H
                                    have A28 := Aside0.mk A280
                                    clear A280
                                    by_cases c29 : t18015 < 0
                                    · rw [if_pos c29] at H
                                      have c29b0 : decide (t18015 < 0) = true := decide_eq_true c29
                                      clear c29
                                      by_cases c30 : x6_2.length < 17592186044416
                                      · rw [if_pos c30] at H
                                        have LMc30 := Aside0.mk c30
                                        clear c30
                                        obtain ⟨y18016, hy18016⟩ : ∃ y_ : List Int, y_ = (x6_2 ++ [rd (rd_L5 l0_2 (rd x6_2 x8_1)) (rd l0_1 x9_2)]) := ⟨_, rfl⟩
                                        replace H : (if x8_1 < (x7_2.length : Int) then (if x9_2 ≤ (wrap64 (x9_2 + 1)) then (if (wrap64 (x9_2 + 1)) ≤ 3 then (if (rdOf ByteArray.empty x7_2 x8_1).size + ((⟨#[97, 98, 99]⟩ : ByteArray).extract (x9_2 : Int).toNat ((wrap64 (x9_2 + 1)) : Int).toNat).size ≤ 9223372036854775807 then (if x7_2.length < 8796093022208 then (spec_WordOfMap.l1 k2 a1 y18016 (x7_2 ++ [(rdOf ByteArray.empty x7_2 x8_1) ++ ((⟨#[97, 98, 99]⟩ : ByteArray).extract (x9_2 : Int).toNat ((wrap64 (x9_2 + 1)) : Int).toNat)]) x8_1 (wrap64 (x9_2 + 1)) l0_0 l0_1 l0_2) else (none)) else (none)) else (none)) else (none)) else (none)) = some (r1, r2) := by first | (rw [hy18016]; with_reducible exact H) | (have H2_ := (Option.bind_some _ _).symm.trans H; rw [hy18016]; with_reducible exact H2_) | (have H2_ := (Option.bind_some _ _).symm.trans H; with_reducible exact H2_) | with_reducible exact H | (rw [hy18016]; exact H) | exact H
                                        have Ny18016 := Aside0.mk hy18016
                                        clear hy18016
                                        by_cases c31 : x8_1 < (x7_2.length : Int)
                                        · rw [if_pos c31] at H
                                          have c31b0 : decide (x8_1 < (x7_2.length : Int)) = true := decide_eq_true c31
                                          clear c31
                                          have c32b0 := eq_true (of_decide_eq_true (by first | (with_reducible assumption) | assumption) : 0 ≤ x9_2)
                                          by_cases c33 : x9_2 ≤ (wrap64 (x9_2 + 1))
                                          · rw [if_pos c33] at H
                                            have c33b0 := eq_true c33
                                            have c33b1 : decide (x9_2 ≤ (wrap64 (x9_2 + 1))) = true := decide_eq_true c33
                                            by_cases c34 : (wrap64 (x9_2 + 1)) ≤ 3
                                            · rw [if_pos c34] at H
                                              have c34b0 := eq_true c34
                                              have c34b1 : decide ((wrap64 (x9_2 + 1)) ≤ 3) = true := decide_eq_true c34
                                              by_cases c35 : (rdOf ByteArray.empty x7_2 x8_1).size + ((⟨#[97, 98, 99]⟩ : ByteArray).extract (x9_2 : Int).toNat ((wrap64 (x9_2 + 1)) : Int).toNat).size ≤ 9223372036854775807
                                              · rw [if_pos c35] at H
                                                have c35z := c35
                                                try simp at c35z
                                                try replace c35z := eq_false (Nat.not_lt.2 c35z)
                                                have c35b0 := eq_true c35
                                                have c35b1 : decide ((rdOf ByteArray.empty x7_2 x8_1).size + ((⟨#[97, 98, 99]⟩ : ByteArray).extract (x9_2 : Int).toNat ((wrap64 (x9_2 + 1)) : Int).toNat).size ≤ 9223372036854775807) = true := decide_eq_true c35
                                                try have c35b2 : (9223372036854775807 < (rdOf ByteArray.empty x7_2 x8_1).size + ((⟨#[97, 98, 99]⟩ : ByteArray).extract (x9_2 : Int).toNat ((wrap64 (x9_2 + 1)) : Int).toNat).size) = False := eq_false (Nat.not_lt.2 c35)
                                                by_cases c36 : x7_2.length < 8796093022208
                                                · rw [if_pos c36] at H
                                                  have LMc36 := Aside0.mk c36
                                                  clear c36
                                                  obtain ⟨y18020, hy18020⟩ : ∃ y_ : List ByteArray, y_ = (x7_2 ++ [(rdOf ByteArray.empty x7_2 x8_1) ++ ((⟨#[97, 98, 99]⟩ : ByteArray).extract (x9_2 : Int).toNat ((wrap64 (x9_2 + 1)) : Int).toNat)]) := ⟨_, rfl⟩
                                                  replace H : (spec_WordOfMap.l1 k2 a1 y18016 y18020 x8_1 (wrap64 (x9_2 + 1)) l0_0 l0_1 l0_2) = some (r1, r2) := by first | (rw [hy18020]; with_reducible exact H) | (have H2_ := (Option.bind_some _ _).symm.trans H; rw [hy18020]; with_reducible exact H2_) | (have H2_ := (Option.bind_some _ _).symm.trans H; with_reducible exact H2_) | with_reducible exact H | (rw [hy18020]; exact H) | exact H
                                                  have Ny18020 := Aside0.mk hy18020
                                                  clear hy18020
                                                  have H' := Aside0.mk H
                                                  clear H
                                                  try go_wp2
                                                  have n0_ := Aside0.mk (Kd.R_drew HO_6.out)
                                                  have n1_ := Aside0.mk (Kd.R_drew HO_7.out)
                                                  have n2_ := Aside0.mk (blk_drew BK18001.out)
                                                  have n3_ := Aside0.mk (below_drew1 HB.out)
                                                  clear HO_6
                                                  clear HO_7
                                                  clear BK18001
                                                  clear HB
                                                  have HO_6 := n0_
                                                  have HO_7 := n1_
                                                  have BK18001 := n2_
                                                  have HB := n3_
                                                  clear n0_ n1_ n2_ n3_
                                                  obtain ⟨Ao38, co38, eo38⟩ := Kd.R_slice HO_6.out
                                                  (first | subst eo38 | (injection eo38 with f1_ f2_ f3_; have f4_ := f1_.symm; have f5_ := f3_.symm; clear f1_ f2_ f3_; subst f4_; subst f5_))
                                                  have p18011 : 0 ≤ (x8_1 : Int) := of_decide_eq_true (by first | (with_reducible assumption) | assumption)
                                                  have q18011 : x8_1 < (x6_2.length : Int) := of_decide_eq_true (by first | (with_reducible assumption) | assumption)
                                                  obtain ⟨ad18011, e18011, hx18011_0⟩ := Kd.at_int (Kd.R_reads' HO_6.out).2.2 x8_1 p18011 q18011
                                                  cases e18011
                                                  replace p18011 := eq_true p18011
                                                  replace q18011 := eq_true q18011
                                                  have p18012 : 0 ≤ ((rd x6_2 x8_1) : Int) := of_decide_eq_true (by first | (with_reducible assumption) | assumption)
                                                  have q18012 : (rd x6_2 x8_1) < (l0_2.length : Int) := of_decide_eq_true (by first | (with_reducible assumption) | assumption)
                                                  obtain ⟨ad18012, A18012_0, c18012_0, e18012, hx18012_0, hl18012_0, hi18012_0⟩ := at_L5 HR0_2.out (rd x6_2 x8_1) p18012 q18012
                                                  have hw18012_0 := hx18012_0
                                                  cases e18012
                                                  replace hx18012_0 := (HB.out.cell (World.block_lt_of_cell? w _ hx18012_0)).trans hx18012_0
                                                  have HR18012_0 := Aside0.mk hi18012_0
                                                  have HC18012_0 := Aside0.mk hl18012_0
                                                  clear hi18012_0 hl18012_0
                                                  replace p18012 := eq_true p18012
                                                  replace q18012 := eq_true q18012
                                                  have p18013 : 0 ≤ (x9_2 : Int) := of_decide_eq_true (by first | (with_reducible assumption) | assumption)
                                                  have q18013 : x9_2 < (l0_1.length : Int) := of_decide_eq_true (by first | (with_reducible assumption) | assumption)
                                                  obtain ⟨ad18013, e18013, hx18013_0⟩ := Kd.at_int HR0_1.out x9_2 p18013 q18013
                                                  have hw18013_0 := hx18013_0
                                                  cases e18013
                                                  replace hx18013_0 := (HB.out.cell (World.block_lt_of_cell? w _ hx18013_0)).trans hx18013_0
                                                  replace p18013 := eq_true p18013
                                                  replace q18013 := eq_true q18013
                                                  have p18014 : 0 ≤ ((rd l0_1 x9_2) : Int) := of_decide_eq_true (by first | (with_reducible assumption) | assumption)
                                                  have q18014 : (rd l0_1 x9_2) < ((rd_L5 l0_2 (rd x6_2 x8_1)).length : Int) := of_decide_eq_true (by first | (with_reducible assumption) | assumption)
                                                  obtain ⟨ad18014, e18014, hx18014_0⟩ := Kd.at_int HR18012_0.out (rd l0_1 x9_2) p18014 q18014
                                                  have hw18014_0 := hx18014_0
                                                  cases e18014
                                                  replace hx18014_0 := (HB.out.cell (World.block_lt_of_cell? w _ hx18014_0)).trans hx18014_0
                                                  replace p18014 := eq_true p18014
                                                  replace q18014 := eq_true q18014
                                                  refine start_ (n := 16) (S := fun w' => w'.cell? ⟨gb18001, 0, none⟩ = some (.slice A0_0 l0_0.length c0_0) ∧ w'.cell? ⟨gb18001, 1, none⟩ = some (.slice (some ad18013) l0_1.length c0_1) ∧ w'.cell? ⟨gb18001, 2, none⟩ = some (.slice (some ad18012) l0_2.length c0_2) ∧ w'.cell? (ad18011.add (x8_1).toNat) = some (.int .i64 (rd x6_2 x8_1)) ∧ w'.cell? (ad18012.add ((rd x6_2 x8_1)).toNat) = some (.slice (some ad18014) (rd_L5 l0_2 (rd x6_2 x8_1)).length c18012_0) ∧ w'.cell? (ad18013.add (x9_2).toNat) = some (.int .i64 (rd l0_1 x9_2)) ∧ w'.cell? (ad18014.add ((rd l0_1 x9_2)).toNat) = some (.int .i64 (rd (rd_L5 l0_2 (rd x6_2 x8_1)) (rd l0_1 x9_2)))) (ds := []) #[false, false, false, false, false, false, false, false, false, false, false, false, false, false, false, false] (by kernel_rfl) rfl rfl ⟨(blk_cell BK18001.out 0).trans rfl, (blk_cell BK18001.out 1).trans rfl, (blk_cell BK18001.out 2).trans rfl, hx18011_0, ((HB.out.cell (World.block_lt_of_cell? w _ hw18012_0)).trans hw18012_0), ((HB.out.cell (World.block_lt_of_cell? w _ hw18013_0)).trans hw18013_0), ((HB.out.cell (World.block_lt_of_cell? w _ hw18014_0)).trans hw18014_0)⟩ (fun hHeld => ?_); refine with_tabW spec_WordOfMap.tab13 spec_WordOfMap.bits13 (fun HT_ HW_ => ?_)
                                                  generalize wr.drew = w37 at HO_6 HO_7 BK18001 HB HR18012_0 hx18011_0 hx18012_0 hx18013_0 hx18014_0 hHeld ⊢
                                                  refine pure_ (i := 0) (N := some 36) (v := ?_) (a' := ?_) #[true, false, false, false, false, false, false, false, false, false, false, false, false, false, false, false] rfl rfl (any_of HT_.out (by kernel_rfl)) (fun _ _ _ h => h) (Or.inl ⟨by rfl, ?_⟩) ?_ ?_
                                                  rotate_left
                                                  · intro w'
                                                    go_simp
                                                    first | with_reducible rfl | (rw [if_neg (by omega)]; done) | (rw [if_neg (by (try simp only [decide_eq_true_eq, decide_eq_false_iff_not, eq_iff_iff, iff_true, iff_false] at *); (try simp only [ByteArray.size_extract, ByteArray.size_append, show (⟨#[97, 98, 99]⟩ : ByteArray).size = 3 from rfl, show (⟨#[88, 89, 90]⟩ : ByteArray).size = 3 from rfl, show (⟨#[61]⟩ : ByteArray).size = 1 from rfl] at *); omega)]; done)
                                                  rotate_left
                                                  · simp only [Act.put, List.setIfInBounds_toArray, List.set_cons_zero, List.set_cons_succ, i64_w, i32_w]
                                                    rfl
                                                  refine pure_ (i := 2) (N := some 38) (v := ?_) (a' := ?_) #[true, false, true, false, false, false, false, false, false, false, false, false, false, false, false, false] rfl rfl (any_of HT_.out (by kernel_rfl)) (fun _ _ _ h => h) (Or.inl ⟨by rfl, ?_⟩) ?_ ?_
                                                  rotate_left
                                                  · intro w'
                                                    go_simp
                                                    first | with_reducible rfl | (rw [if_neg (by omega)]; done) | (rw [if_neg (by (try simp only [decide_eq_true_eq, decide_eq_false_iff_not, eq_iff_iff, iff_true, iff_false] at *); (try simp only [ByteArray.size_extract, ByteArray.size_append, show (⟨#[97, 98, 99]⟩ : ByteArray).size = 3 from rfl, show (⟨#[88, 89, 90]⟩ : ByteArray).size = 3 from rfl, show (⟨#[61]⟩ : ByteArray).size = 1 from rfl] at *); omega)]; done)
                                                  rotate_left
                                                  · simp only [Act.put, List.setIfInBounds_toArray, List.set_cons_zero, List.set_cons_succ, i64_w, i32_w]
                                                    rfl
                                                  refine pure_ (i := 3) (N := some 39) (v := ?_) (a' := ?_) #[true, false, true, true, false, false, false, false, false, false, false, false, false, false, false, false] rfl rfl (any_of HT_.out (by kernel_rfl)) (fun _ _ _ h => h) (Or.inl ⟨by rfl, ?_⟩) ?_ ?_
                                                  rotate_left
                                                  · intro w'
                                                    go_simp
                                                    first | with_reducible rfl | (rw [if_neg (by omega)]; done) | (rw [if_neg (by (try simp only [decide_eq_true_eq, decide_eq_false_iff_not, eq_iff_iff, iff_true, iff_false] at *); (try simp only [ByteArray.size_extract, ByteArray.size_append, show (⟨#[97, 98, 99]⟩ : ByteArray).size = 3 from rfl, show (⟨#[88, 89, 90]⟩ : ByteArray).size = 3 from rfl, show (⟨#[61]⟩ : ByteArray).size = 1 from rfl] at *); omega)]; done)
                                                  rotate_left
                                                  · simp only [Act.put, List.setIfInBounds_toArray, List.set_cons_zero, List.set_cons_succ, i64_w, i32_w]
                                                    rfl
                                                  refine pure_ (i := 4) (N := some 40) (v := ?_) (a' := ?_) #[true, false, true, true, true, false, false, false, false, false, false, false, false, false, false, false] rfl rfl (any_of HT_.out (by kernel_rfl)) (fun _ _ _ h => h) (Or.inl ⟨by rfl, ?_⟩) ?_ ?_
                                                  rotate_left
                                                  · intro w'
                                                    go_simp
                                                    first | with_reducible rfl | (rw [if_neg (by omega)]; done) | (rw [if_neg (by (try simp only [decide_eq_true_eq, decide_eq_false_iff_not, eq_iff_iff, iff_true, iff_false] at *); (try simp only [ByteArray.size_extract, ByteArray.size_append, show (⟨#[97, 98, 99]⟩ : ByteArray).size = 3 from rfl, show (⟨#[88, 89, 90]⟩ : ByteArray).size = 3 from rfl, show (⟨#[61]⟩ : ByteArray).size = 1 from rfl] at *); omega)]; done)
                                                  rotate_left
                                                  · simp only [Act.put, List.setIfInBounds_toArray, List.set_cons_zero, List.set_cons_succ, i64_w, i32_w]
                                                    rfl
                                                  refine pure_ (i := 8) (N := some 44) (v := ?_) (a' := ?_) #[true, false, true, true, true, false, false, false, true, false, false, false, false, false, false, false] rfl rfl (any_of HT_.out (by kernel_rfl)) (fun _ _ _ h => h) (Or.inl ⟨by rfl, ?_⟩) ?_ ?_
                                                  rotate_left
                                                  · intro w'
                                                    go_simp
                                                    first | with_reducible rfl | (rw [if_neg (by omega)]; done) | (rw [if_neg (by (try simp only [decide_eq_true_eq, decide_eq_false_iff_not, eq_iff_iff, iff_true, iff_false] at *); (try simp only [ByteArray.size_extract, ByteArray.size_append, show (⟨#[97, 98, 99]⟩ : ByteArray).size = 3 from rfl, show (⟨#[88, 89, 90]⟩ : ByteArray).size = 3 from rfl, show (⟨#[61]⟩ : ByteArray).size = 1 from rfl] at *); omega)]; done)
                                                  rotate_left
                                                  · simp only [Act.put, List.setIfInBounds_toArray, List.set_cons_zero, List.set_cons_succ, i64_w, i32_w]
                                                    rfl
                                                  refine pure_ (i := 10) (N := some 46) (v := ?_) (a' := ?_) #[true, false, true, true, true, false, false, false, true, false, true, false, false, false, false, false] rfl rfl (any_of HT_.out (by kernel_rfl)) (fun _ _ _ h => h) (Or.inl ⟨by rfl, ?_⟩) ?_ ?_
                                                  rotate_left
                                                  · intro w'
                                                    go_simp
                                                    first | with_reducible rfl | (rw [if_neg (by omega)]; done) | (rw [if_neg (by (try simp only [decide_eq_true_eq, decide_eq_false_iff_not, eq_iff_iff, iff_true, iff_false] at *); (try simp only [ByteArray.size_extract, ByteArray.size_append, show (⟨#[97, 98, 99]⟩ : ByteArray).size = 3 from rfl, show (⟨#[88, 89, 90]⟩ : ByteArray).size = 3 from rfl, show (⟨#[61]⟩ : ByteArray).size = 1 from rfl] at *); omega)]; done)
                                                  rotate_left
                                                  · simp only [Act.put, List.setIfInBounds_toArray, List.set_cons_zero, List.set_cons_succ, i64_w, i32_w]
                                                    rfl
                                                  refine take_ (i := 1) (N := some 37) (v := ?_) (a' := ?_) #[true, true, true, true, true, false, false, false, true, false, true, false, false, false, false, false] rfl rfl (take_ofW HT_.out HW_.out (by kernel_rfl)) (fun _ _ _ h => h) (Or.inl ⟨by rfl, ?_⟩) hHeld ?_ ?_
                                                  rotate_left
                                                  · rintro w' ⟨s0, s1, s2, s3, s4, s5, s6⟩
                                                    go_simp
                                                    first | with_reducible rfl | (rw [if_neg (by omega)]; done) | (rw [if_neg (by (try simp only [decide_eq_true_eq, decide_eq_false_iff_not, eq_iff_iff, iff_true, iff_false] at *); (try simp only [ByteArray.size_extract, ByteArray.size_append, show (⟨#[97, 98, 99]⟩ : ByteArray).size = 3 from rfl, show (⟨#[88, 89, 90]⟩ : ByteArray).size = 3 from rfl, show (⟨#[61]⟩ : ByteArray).size = 1 from rfl] at *); omega)]; done)
                                                  rotate_left
                                                  · simp only [Act.put, List.setIfInBounds_toArray, List.set_cons_zero, List.set_cons_succ, i64_w, i32_w]
                                                    rfl
                                                  refine take_ (i := 5) (N := some 41) (v := ?_) (a' := ?_) #[true, true, true, true, true, true, false, false, true, false, true, false, false, false, false, false] rfl rfl (take_ofW HT_.out HW_.out (by kernel_rfl)) (fun _ _ _ h => h) (Or.inl ⟨by rfl, ?_⟩) hHeld ?_ ?_
                                                  rotate_left
                                                  · rintro w' ⟨s0, s1, s2, s3, s4, s5, s6⟩
                                                    go_simp
                                                    first | with_reducible rfl | (rw [if_neg (by omega)]; done) | (rw [if_neg (by (try simp only [decide_eq_true_eq, decide_eq_false_iff_not, eq_iff_iff, iff_true, iff_false] at *); (try simp only [ByteArray.size_extract, ByteArray.size_append, show (⟨#[97, 98, 99]⟩ : ByteArray).size = 3 from rfl, show (⟨#[88, 89, 90]⟩ : ByteArray).size = 3 from rfl, show (⟨#[61]⟩ : ByteArray).size = 1 from rfl] at *); omega)]; done)
                                                  rotate_left
                                                  · simp only [Act.put, List.setIfInBounds_toArray, List.set_cons_zero, List.set_cons_succ, i64_w, i32_w]
                                                    rfl
                                                  refine pure_ (i := 6) (N := some 42) (v := ?_) (a' := ?_) #[true, true, true, true, true, true, true, false, true, false, true, false, false, false, false, false] rfl rfl (any_of HT_.out (by kernel_rfl)) (fun _ _ _ h => h) (Or.inl ⟨by rfl, ?_⟩) ?_ ?_
                                                  rotate_left
                                                  · intro w'
                                                    go_simp
                                                    first | with_reducible rfl | (rw [if_neg (by omega)]; done) | (rw [if_neg (by (try simp only [decide_eq_true_eq, decide_eq_false_iff_not, eq_iff_iff, iff_true, iff_false] at *); (try simp only [ByteArray.size_extract, ByteArray.size_append, show (⟨#[97, 98, 99]⟩ : ByteArray).size = 3 from rfl, show (⟨#[88, 89, 90]⟩ : ByteArray).size = 3 from rfl, show (⟨#[61]⟩ : ByteArray).size = 1 from rfl] at *); omega)]; done)
                                                  rotate_left
                                                  · simp only [Act.put, List.setIfInBounds_toArray, List.set_cons_zero, List.set_cons_succ, i64_w, i32_w]
                                                    rfl
                                                  refine take_ (i := 7) (N := some 43) (v := ?_) (a' := ?_) #[true, true, true, true, true, true, true, true, true, false, true, false, false, false, false, false] rfl rfl (take_ofW HT_.out HW_.out (by kernel_rfl)) (fun _ _ _ h => h) (Or.inl ⟨by rfl, ?_⟩) hHeld ?_ ?_
                                                  rotate_left
                                                  · rintro w' ⟨s0, s1, s2, s3, s4, s5, s6⟩
                                                    go_simp
                                                    first | with_reducible rfl | (rw [if_neg (by omega)]; done) | (rw [if_neg (by (try simp only [decide_eq_true_eq, decide_eq_false_iff_not, eq_iff_iff, iff_true, iff_false] at *); (try simp only [ByteArray.size_extract, ByteArray.size_append, show (⟨#[97, 98, 99]⟩ : ByteArray).size = 3 from rfl, show (⟨#[88, 89, 90]⟩ : ByteArray).size = 3 from rfl, show (⟨#[61]⟩ : ByteArray).size = 1 from rfl] at *); omega)]; done)
                                                  rotate_left
                                                  · simp only [Act.put, List.setIfInBounds_toArray, List.set_cons_zero, List.set_cons_succ, i64_w, i32_w]
                                                    rfl
                                                  refine take_ (i := 9) (N := some 45) (v := ?_) (a' := ?_) #[true, true, true, true, true, true, true, true, true, true, true, false, false, false, false, false] rfl rfl (take_ofW HT_.out HW_.out (by kernel_rfl)) (fun _ _ _ h => h) (Or.inl ⟨by rfl, ?_⟩) hHeld ?_ ?_
                                                  rotate_left
                                                  · rintro w' ⟨s0, s1, s2, s3, s4, s5, s6⟩
                                                    go_simp
                                                    first | with_reducible rfl | (rw [if_neg (by omega)]; done) | (rw [if_neg (by (try simp only [decide_eq_true_eq, decide_eq_false_iff_not, eq_iff_iff, iff_true, iff_false] at *); (try simp only [ByteArray.size_extract, ByteArray.size_append, show (⟨#[97, 98, 99]⟩ : ByteArray).size = 3 from rfl, show (⟨#[88, 89, 90]⟩ : ByteArray).size = 3 from rfl, show (⟨#[61]⟩ : ByteArray).size = 1 from rfl] at *); omega)]; done)
                                                  rotate_left
                                                  · simp only [Act.put, List.setIfInBounds_toArray, List.set_cons_zero, List.set_cons_succ, i64_w, i32_w]
                                                    rfl
                                                  refine pure_ (i := 11) (N := some 47) (v := ?_) (a' := ?_) #[true, true, true, true, true, true, true, true, true, true, true, true, false, false, false, false] rfl rfl (any_of HT_.out (by kernel_rfl)) (fun _ _ _ h => h) (Or.inl ⟨by rfl, ?_⟩) ?_ ?_
                                                  rotate_left
                                                  · intro w'
                                                    go_simp
                                                    first | with_reducible rfl | (rw [if_neg (by omega)]; done) | (rw [if_neg (by (try simp only [decide_eq_true_eq, decide_eq_false_iff_not, eq_iff_iff, iff_true, iff_false] at *); (try simp only [ByteArray.size_extract, ByteArray.size_append, show (⟨#[97, 98, 99]⟩ : ByteArray).size = 3 from rfl, show (⟨#[88, 89, 90]⟩ : ByteArray).size = 3 from rfl, show (⟨#[61]⟩ : ByteArray).size = 1 from rfl] at *); omega)]; done)
                                                  rotate_left
                                                  · simp only [Act.put, List.setIfInBounds_toArray, List.set_cons_zero, List.set_cons_succ, i64_w, i32_w]
                                                    rfl
                                                  refine take_ (i := 12) (N := some 48) (v := ?_) (a' := ?_) #[true, true, true, true, true, true, true, true, true, true, true, true, true, false, false, false] rfl rfl (take_ofW HT_.out HW_.out (by kernel_rfl)) (fun _ _ _ h => h) (Or.inl ⟨by rfl, ?_⟩) hHeld ?_ ?_
                                                  rotate_left
                                                  · rintro w' ⟨s0, s1, s2, s3, s4, s5, s6⟩
                                                    go_simp
                                                    first | with_reducible rfl | (rw [if_neg (by omega)]; done) | (rw [if_neg (by (try simp only [decide_eq_true_eq, decide_eq_false_iff_not, eq_iff_iff, iff_true, iff_false] at *); (try simp only [ByteArray.size_extract, ByteArray.size_append, show (⟨#[97, 98, 99]⟩ : ByteArray).size = 3 from rfl, show (⟨#[88, 89, 90]⟩ : ByteArray).size = 3 from rfl, show (⟨#[61]⟩ : ByteArray).size = 1 from rfl] at *); omega)]; done)
                                                  rotate_left
                                                  · simp only [Act.put, List.setIfInBounds_toArray, List.set_cons_zero, List.set_cons_succ, i64_w, i32_w]
                                                    rfl
                                                  refine pure_ (i := 13) (N := some 49) (v := ?_) (a' := ?_) #[true, true, true, true, true, true, true, true, true, true, true, true, true, true, false, false] rfl rfl (any_of HT_.out (by kernel_rfl)) (fun _ _ _ h => h) (Or.inl ⟨by rfl, ?_⟩) ?_ ?_
                                                  rotate_left
                                                  · intro w'
                                                    go_simp
                                                    first | with_reducible rfl | (rw [if_neg (by omega)]; done) | (rw [if_neg (by (try simp only [decide_eq_true_eq, decide_eq_false_iff_not, eq_iff_iff, iff_true, iff_false] at *); (try simp only [ByteArray.size_extract, ByteArray.size_append, show (⟨#[97, 98, 99]⟩ : ByteArray).size = 3 from rfl, show (⟨#[88, 89, 90]⟩ : ByteArray).size = 3 from rfl, show (⟨#[61]⟩ : ByteArray).size = 1 from rfl] at *); omega)]; done)
                                                  rotate_left
                                                  · simp only [Act.put, List.setIfInBounds_toArray, List.set_cons_zero, List.set_cons_succ, i64_w, i32_w]
                                                    rfl
                                                  refine take_ (i := 14) (N := some 50) (v := ?_) (a' := ?_) #[true, true, true, true, true, true, true, true, true, true, true, true, true, true, true, false] rfl rfl (take_ofW HT_.out HW_.out (by kernel_rfl)) (fun _ _ _ h => h) (Or.inl ⟨by rfl, ?_⟩) hHeld ?_ ?_
                                                  rotate_left
                                                  · rintro w' ⟨s0, s1, s2, s3, s4, s5, s6⟩
                                                    go_simp
                                                    first | with_reducible rfl | (rw [if_neg (by omega)]; done) | (rw [if_neg (by (try simp only [decide_eq_true_eq, decide_eq_false_iff_not, eq_iff_iff, iff_true, iff_false] at *); (try simp only [ByteArray.size_extract, ByteArray.size_append, show (⟨#[97, 98, 99]⟩ : ByteArray).size = 3 from rfl, show (⟨#[88, 89, 90]⟩ : ByteArray).size = 3 from rfl, show (⟨#[61]⟩ : ByteArray).size = 1 from rfl] at *); omega)]; done)
                                                  rotate_left
                                                  · simp only [Act.put, List.setIfInBounds_toArray, List.set_cons_zero, List.set_cons_succ, i64_w, i32_w]
                                                    rfl
                                                  refine pure_ (i := 15) (N := some 10) (v := ?_) (a' := ?_) #[true, true, true, true, true, true, true, true, true, true, true, true, true, true, true, true] rfl rfl (any_of HT_.out (by kernel_rfl)) (fun _ _ _ h => h) (Or.inl ⟨by rfl, ?_⟩) ?_ ?_
                                                  rotate_left
                                                  · intro w'
                                                    go_simp
                                                    first | with_reducible rfl | (rw [if_neg (by omega)]; done) | (rw [if_neg (by (try simp only [decide_eq_true_eq, decide_eq_false_iff_not, eq_iff_iff, iff_true, iff_false] at *); (try simp only [ByteArray.size_extract, ByteArray.size_append, show (⟨#[97, 98, 99]⟩ : ByteArray).size = 3 from rfl, show (⟨#[88, 89, 90]⟩ : ByteArray).size = 3 from rfl, show (⟨#[61]⟩ : ByteArray).size = 1 from rfl] at *); omega)]; done)
                                                  rotate_left
                                                  · simp only [Act.put, List.setIfInBounds_toArray, List.set_cons_zero, List.set_cons_succ, i64_w, i32_w]
                                                    rfl
                                                  refine done_ (done_of HT_.out (by kernel_rfl)) ?_
                                                  try go_wp2_with (first | ((with_reducible refine gate_callee (f := 40) rfl ?_); refine goesL_ (some 53) rfl rfl Try.func40 (by kernel_rfl) rfl #[.slice (some ad18011) x6_2.length co38, .int .i64 (rd (rd_L5 l0_2 (rd x6_2 x8_1)) (rd l0_1 x9_2))] rfl (by (try simp only [List.map_toArray, List.map_cons, List.map_nil]); first | done | rfl | (simp only [List.length_drop, List.length_take]; rfl)) ?_; (with_reducible refine (spec_l5Find.calls k2 _ _ x6_2 (rd (rd_L5 l0_2 (rd x6_2 x8_1)) (rd l0_1 x9_2)) t18015 _ ?side1 ?side2 A28.out).mono ?_); (case side1 => repeat (first | exact (Kd.R_reads' HO_6.out).2.2 | (with_reducible refine Kd.C_alloc ?_ _) | (with_reducible refine Kd.C_drewN ?_ _) | (with_reducible refine Kd.C_drew ?_))); (case side2 => exact (Kd.R_reads' HO_6.out).2.1); rintro e w' ⟨rfl, ⟨nd, rfl⟩⟩; refine ⟨_, rfl, ?_⟩) | ((with_reducible refine gate_builtin (b := .append) (xs := #[.tmp 55, .tmp 57]) rfl ?_); at_builtin; refine Kd.R_append (Kd.int .i64) (w0 := w) w.heap.size rfl (.tmp 55) (.tmp 57) 40 3 (.int .i64 0) 8 rfl Try.underlying40 info3 rfl (by decide) (by omega) (.slice (some ad18011) x6_2.length co38) x6_2 (rd (rd_L5 l0_2 (rd x6_2 x8_1)) (rd l0_1 x9_2)) [.int .i64 (rd (rd_L5 l0_2 (rd x6_2 x8_1)) (rd l0_1 x9_2))] (fun _ => True) (fun _ => False) rfl rfl ?aP (fun _ hk => hk.elim) ?aF ?aO ?aB ?aS ?aL ?_; (case aP => exact rfl); (case aB => exact (by repeat (first | (with_reducible first | exact HB.out | apply below_alloc | apply pw_below_drewN | apply below_drew1 | refine below_set ?_ GE18001.out) | exact HB.out))); (case aF => exact (fun _ _ => trivial)); (case aO => exact (by (with_reducible repeat (first | apply Kd.R_alloc | apply Kd.R_drewN | apply Kd.R_drew)); exact HO_6.out)); (case aS => exact (below_size (by repeat (first | (with_reducible first | exact HB.out | apply below_alloc | apply pw_below_drewN | apply below_drew1 | refine below_set ?_ GE18001.out) | exact HB.out)))); (case aL => have := LMc30.out; omega); intro v18017 w39 ho hb hg hat; rw [← Ny18016.out] at ho; have n0_ := Aside0.mk (Kd.R_over' (by (with_reducible repeat (first | apply Kd.R_alloc | apply Kd.R_drewN | apply Kd.R_drew)); exact HO_7.out) (Kd.R_typed (by (with_reducible repeat (first | apply Kd.R_alloc | apply Kd.R_drewN | apply Kd.R_drew)); exact HO_6.out)) (by decide) hg); have n1_ := Aside0.mk (blk_grown (g := gb18001) (o := .cells #[.slice A0_0 l0_0.length c0_0, .slice (some ad18013) l0_1.length c0_1, .slice (some ad18012) l0_2.length c0_2] 46 (0, 0)) (by (with_reducible repeat (first | refine blk_drewN ?_ _ | refine blk_drew ?_ | refine blk_alloc ?_ _)); exact BK18001.out) hg (Kd.R_ne HO_6.out BK18001.out (by decide))); have n2_ := Aside0.mk (hb); have n3_ := Aside0.mk (ho); clear HO_7; clear BK18001; clear HB; clear HO_6; have HO_7 := n0_; have BK18001 := n1_; have HB := n2_; have HO18018 := n3_; clear n0_ n1_ n2_ n3_; clear ho hb hg hat))
                                                  have n0_ := Aside0.mk (Kd.R_drew HO_7.out)
                                                  have n1_ := Aside0.mk (Kd.R_drew HO18018.out)
                                                  have n2_ := Aside0.mk (blk_drew BK18001.out)
                                                  have n3_ := Aside0.mk (below_drew1 HB.out)
                                                  clear HO_7
                                                  clear HO18018
                                                  clear BK18001
                                                  clear HB
                                                  have HO_7 := n0_
                                                  have HO18018 := n1_
                                                  have BK18001 := n2_
                                                  have HB := n3_
                                                  clear n0_ n1_ n2_ n3_
                                                  obtain ⟨Ao41, co41, eo41⟩ := Kd.R_slice HO_7.out
                                                  (first | subst eo41 | (injection eo41 with f1_ f2_ f3_; have f4_ := f1_.symm; have f5_ := f3_.symm; clear f1_ f2_ f3_; subst f4_; subst f5_))
                                                  have p18019 : 0 ≤ (x8_1 : Int) := of_decide_eq_true (by first | (with_reducible assumption) | assumption)
                                                  have q18019 : x8_1 < (x7_2.length : Int) := of_decide_eq_true (by first | (with_reducible assumption) | assumption)
                                                  obtain ⟨ad18019, e18019, hx18019_0⟩ := Kd.at_string (Kd.R_reads' HO_7.out).2.2 x8_1 p18019 q18019
                                                  cases e18019
                                                  replace p18019 := eq_true p18019
                                                  replace q18019 := eq_true q18019
                                                  refine start_ (n := 13) (S := fun w' => w'.cell? (ad18019.add (x8_1).toNat) = some (.string (rdOf ByteArray.empty x7_2 x8_1))) (ds := [10, 11]) #[false, false, false, false, false, false, false, false, false, false, false, false, false] (by kernel_rfl) rfl rfl (hx18019_0) (fun hHeld => ?_); refine with_tabW spec_WordOfMap.tab16 spec_WordOfMap.bits16 (fun HT_ HW_ => ?_)
                                                  generalize w39.drew = w40 at HO_7 HO18018 BK18001 HB hx18019_0 hHeld ⊢
                                                  refine pure_ (i := 0) (N := some 59) (v := ?_) (a' := ?_) #[true, false, false, false, false, false, false, false, false, false, false, false, false] rfl rfl (any_of HT_.out (by kernel_rfl)) (fun _ _ _ h => h) (Or.inl ⟨by rfl, ?_⟩) ?_ ?_
                                                  rotate_left
                                                  · intro w'
                                                    go_simp
                                                    first | with_reducible rfl | (rw [if_neg (by omega)]; done) | (rw [if_neg (by (try simp only [decide_eq_true_eq, decide_eq_false_iff_not, eq_iff_iff, iff_true, iff_false] at *); (try simp only [ByteArray.size_extract, ByteArray.size_append, show (⟨#[97, 98, 99]⟩ : ByteArray).size = 3 from rfl, show (⟨#[88, 89, 90]⟩ : ByteArray).size = 3 from rfl, show (⟨#[61]⟩ : ByteArray).size = 1 from rfl] at *); omega)]; done)
                                                  rotate_left
                                                  · simp only [Act.put, List.setIfInBounds_toArray, List.set_cons_zero, List.set_cons_succ, i64_w, i32_w]
                                                    rfl
                                                  refine pure_ (i := 1) (N := some 60) (v := ?_) (a' := ?_) #[true, true, false, false, false, false, false, false, false, false, false, false, false] rfl rfl (any_of HT_.out (by kernel_rfl)) (fun _ _ _ h => h) (Or.inl ⟨by rfl, ?_⟩) ?_ ?_
                                                  rotate_left
                                                  · intro w'
                                                    go_simp
                                                    first | with_reducible rfl | (rw [if_neg (by omega)]; done) | (rw [if_neg (by (try simp only [decide_eq_true_eq, decide_eq_false_iff_not, eq_iff_iff, iff_true, iff_false] at *); (try simp only [ByteArray.size_extract, ByteArray.size_append, show (⟨#[97, 98, 99]⟩ : ByteArray).size = 3 from rfl, show (⟨#[88, 89, 90]⟩ : ByteArray).size = 3 from rfl, show (⟨#[61]⟩ : ByteArray).size = 1 from rfl] at *); omega)]; done)
                                                  rotate_left
                                                  · simp only [Act.put, List.setIfInBounds_toArray, List.set_cons_zero, List.set_cons_succ, i64_w, i32_w]
                                                    rfl
                                                  refine pure_ (i := 2) (N := some 61) (v := ?_) (a' := ?_) #[true, true, true, false, false, false, false, false, false, false, false, false, false] rfl rfl (any_of HT_.out (by kernel_rfl)) (fun _ _ _ h => h) (Or.inl ⟨by rfl, ?_⟩) ?_ ?_
                                                  rotate_left
                                                  · intro w'
                                                    go_simp
                                                    first | with_reducible rfl | (rw [if_neg (by omega)]; done) | (rw [if_neg (by (try simp only [decide_eq_true_eq, decide_eq_false_iff_not, eq_iff_iff, iff_true, iff_false] at *); (try simp only [ByteArray.size_extract, ByteArray.size_append, show (⟨#[97, 98, 99]⟩ : ByteArray).size = 3 from rfl, show (⟨#[88, 89, 90]⟩ : ByteArray).size = 3 from rfl, show (⟨#[61]⟩ : ByteArray).size = 1 from rfl] at *); omega)]; done)
                                                  rotate_left
                                                  · simp only [Act.put, List.setIfInBounds_toArray, List.set_cons_zero, List.set_cons_succ, i64_w, i32_w]
                                                    rfl
                                                  refine pure_ (i := 3) (N := some 62) (v := ?_) (a' := ?_) #[true, true, true, true, false, false, false, false, false, false, false, false, false] rfl rfl (any_of HT_.out (by kernel_rfl)) (fun _ _ _ h => h) (Or.inl ⟨by rfl, ?_⟩) ?_ ?_
                                                  rotate_left
                                                  · intro w'
                                                    go_simp
                                                    first | with_reducible rfl | (rw [if_neg (by omega)]; done) | (rw [if_neg (by (try simp only [decide_eq_true_eq, decide_eq_false_iff_not, eq_iff_iff, iff_true, iff_false] at *); (try simp only [ByteArray.size_extract, ByteArray.size_append, show (⟨#[97, 98, 99]⟩ : ByteArray).size = 3 from rfl, show (⟨#[88, 89, 90]⟩ : ByteArray).size = 3 from rfl, show (⟨#[61]⟩ : ByteArray).size = 1 from rfl] at *); omega)]; done)
                                                  rotate_left
                                                  · simp only [Act.put, List.setIfInBounds_toArray, List.set_cons_zero, List.set_cons_succ, i64_w, i32_w]
                                                    rfl
                                                  refine pure_ (i := 5) (N := some 64) (v := ?_) (a' := ?_) #[true, true, true, true, false, true, false, false, false, false, false, false, false] rfl rfl (any_of HT_.out (by kernel_rfl)) (fun _ _ _ h => h) (Or.inl ⟨by rfl, ?_⟩) ?_ ?_
                                                  rotate_left
                                                  · intro w'
                                                    go_simp
                                                    first | with_reducible rfl | (rw [if_neg (by omega)]; done) | (rw [if_neg (by (try simp only [decide_eq_true_eq, decide_eq_false_iff_not, eq_iff_iff, iff_true, iff_false] at *); (try simp only [ByteArray.size_extract, ByteArray.size_append, show (⟨#[97, 98, 99]⟩ : ByteArray).size = 3 from rfl, show (⟨#[88, 89, 90]⟩ : ByteArray).size = 3 from rfl, show (⟨#[61]⟩ : ByteArray).size = 1 from rfl] at *); omega)]; done)
                                                  rotate_left
                                                  · simp only [Act.put, List.setIfInBounds_toArray, List.set_cons_zero, List.set_cons_succ, i64_w, i32_w]
                                                    rfl
                                                  refine pure_ (i := 6) (N := some 65) (v := ?_) (a' := ?_) #[true, true, true, true, false, true, true, false, false, false, false, false, false] rfl rfl (any_of HT_.out (by kernel_rfl)) (fun _ _ _ h => h) (Or.inl ⟨by rfl, ?_⟩) ?_ ?_
                                                  rotate_left
                                                  · intro w'
                                                    go_simp
                                                    first | with_reducible rfl | (rw [if_neg (by omega)]; done) | (rw [if_neg (by (try simp only [decide_eq_true_eq, decide_eq_false_iff_not, eq_iff_iff, iff_true, iff_false] at *); (try simp only [ByteArray.size_extract, ByteArray.size_append, show (⟨#[97, 98, 99]⟩ : ByteArray).size = 3 from rfl, show (⟨#[88, 89, 90]⟩ : ByteArray).size = 3 from rfl, show (⟨#[61]⟩ : ByteArray).size = 1 from rfl] at *); omega)]; done)
                                                  rotate_left
                                                  · simp only [Act.put, List.setIfInBounds_toArray, List.set_cons_zero, List.set_cons_succ, i64_w, i32_w]
                                                    rfl
                                                  refine pure_ (i := 7) (N := some 66) (v := ?_) (a' := ?_) #[true, true, true, true, false, true, true, true, false, false, false, false, false] rfl rfl (any_of HT_.out (by kernel_rfl)) (fun _ _ _ h => h) (Or.inl ⟨by rfl, ?_⟩) ?_ ?_
                                                  rotate_left
                                                  · intro w'
                                                    go_simp
                                                    first | with_reducible rfl | (rw [if_neg (by omega)]; done) | (rw [if_neg (by (try simp only [decide_eq_true_eq, decide_eq_false_iff_not, eq_iff_iff, iff_true, iff_false] at *); (try simp only [ByteArray.size_extract, ByteArray.size_append, show (⟨#[97, 98, 99]⟩ : ByteArray).size = 3 from rfl, show (⟨#[88, 89, 90]⟩ : ByteArray).size = 3 from rfl, show (⟨#[61]⟩ : ByteArray).size = 1 from rfl] at *); omega)]; done)
                                                  rotate_left
                                                  · simp only [Act.put, List.setIfInBounds_toArray, List.set_cons_zero, List.set_cons_succ, i64_w, i32_w]
                                                    rfl
                                                  refine pure_ (i := 8) (N := some 67) (v := ?_) (a' := ?_) #[true, true, true, true, false, true, true, true, true, false, false, false, false] rfl rfl (any_of HT_.out (by kernel_rfl)) (fun _ _ _ h => h) (Or.inl ⟨by rfl, ?_⟩) ?_ ?_
                                                  rotate_left
                                                  · intro w'
                                                    go_simp
                                                    first | with_reducible rfl | (rw [if_neg (by omega)]; done) | (rw [if_neg (by (try simp only [decide_eq_true_eq, decide_eq_false_iff_not, eq_iff_iff, iff_true, iff_false] at *); (try simp only [ByteArray.size_extract, ByteArray.size_append, show (⟨#[97, 98, 99]⟩ : ByteArray).size = 3 from rfl, show (⟨#[88, 89, 90]⟩ : ByteArray).size = 3 from rfl, show (⟨#[61]⟩ : ByteArray).size = 1 from rfl] at *); omega)]; done)
                                                  rotate_left
                                                  · simp only [Act.put, List.setIfInBounds_toArray, List.set_cons_zero, List.set_cons_succ, i64_w, i32_w]
                                                    rfl
                                                  refine take_ (i := 4) (N := some 63) (v := ?_) (a' := ?_) #[true, true, true, true, true, true, true, true, true, false, false, false, false] rfl rfl (take_ofW HT_.out HW_.out (by kernel_rfl)) (fun _ _ _ h => h) (Or.inl ⟨by rfl, ?_⟩) hHeld ?_ ?_
                                                  rotate_left
                                                  · intro w' s0
                                                    go_simp
                                                    first | with_reducible rfl | (rw [if_neg (by omega)]; done) | (rw [if_neg (by (try simp only [decide_eq_true_eq, decide_eq_false_iff_not, eq_iff_iff, iff_true, iff_false] at *); (try simp only [ByteArray.size_extract, ByteArray.size_append, show (⟨#[97, 98, 99]⟩ : ByteArray).size = 3 from rfl, show (⟨#[88, 89, 90]⟩ : ByteArray).size = 3 from rfl, show (⟨#[61]⟩ : ByteArray).size = 1 from rfl] at *); omega)]; done)
                                                  rotate_left
                                                  · simp only [Act.put, List.setIfInBounds_toArray, List.set_cons_zero, List.set_cons_succ, i64_w, i32_w]
                                                    rfl
                                                  refine pure_ (i := 9) (N := some 68) (v := ?_) (a' := ?_) #[true, true, true, true, true, true, true, true, true, true, false, false, false] rfl rfl (any_of HT_.out (by kernel_rfl)) (fun _ _ _ h => h) (Or.inl ⟨by rfl, ?_⟩) ?_ ?_
                                                  rotate_left
                                                  · intro w'
                                                    go_simp
                                                    first | with_reducible rfl | (rw [if_neg (by omega)]; done) | (rw [if_neg (by (try simp only [decide_eq_true_eq, decide_eq_false_iff_not, eq_iff_iff, iff_true, iff_false] at *); (try simp only [ByteArray.size_extract, ByteArray.size_append, show (⟨#[97, 98, 99]⟩ : ByteArray).size = 3 from rfl, show (⟨#[88, 89, 90]⟩ : ByteArray).size = 3 from rfl, show (⟨#[61]⟩ : ByteArray).size = 1 from rfl] at *); omega)]; done)
                                                  rotate_left
                                                  · simp only [Act.put, List.setIfInBounds_toArray, List.set_cons_zero, List.set_cons_succ, i64_w, i32_w]
                                                    rfl
                                                  refine last_ (i := 10) (N := some 69) #[true, true, true, true, true, true, true, true, true, true, true, false, false] rfl rfl (one_of HT_.out (by kernel_rfl)) (by decide) (fun K hK => ?_)
                                                  refine value_ (w1 := ?_) (v := ?_) (by rfl) rfl ?_ ?_
                                                  rotate_left 2
                                                  · go_simp
                                                    constructor
                                                    · rfl
                                                    · rfl
                                                  refine hK.out _ _ ?_
                                                  clear hK K
                                                  refine norm_ (a' := ?_) ?_ ?_
                                                  rotate_left
                                                  · show Act.put _ (some 69) _ = _
                                                    simp only [Act.put, List.setIfInBounds_toArray, List.set_cons_zero, List.set_cons_succ, i64_w, i32_w]
                                                    rfl
                                                  refine last_ (i := 11) (N := some 70) #[true, true, true, true, true, true, true, true, true, true, true, true, false] rfl rfl (one_of HT_.out (by kernel_rfl)) (by decide) (fun K hK => ?_)
                                                  refine Kd.R_append_step Kd.string (w0 := w) w.heap.size (by rfl) (.tmp 59) (.tmp 69) 50 9 (.string ⟨#[]⟩) 16 rfl Try.underlying50 info9 rfl (by decide) (by omega) (.slice (some ad18019) x7_2.length co41) x7_2 ((rdOf ByteArray.empty x7_2 x8_1) ++ ((⟨#[97, 98, 99]⟩ : ByteArray).extract (x9_2 : Int).toNat ((wrap64 (x9_2 + 1)) : Int).toNat)) [.string ((rdOf ByteArray.empty x7_2 x8_1) ++ ((⟨#[97, 98, 99]⟩ : ByteArray).extract (x9_2 : Int).toNat ((wrap64 (x9_2 + 1)) : Int).toNat))] (fun _ => True) (fun _ => False) rfl rfl ?aP (fun _ hk => hk.elim) ?aF ?aO ?aB ?aS ?aL ?_
                                                  (case aP => exact rfl)
                                                  (case aB => exact (by repeat (first | (with_reducible first | exact HB.out | apply below_alloc | apply pw_below_drewN | apply below_drew1 | refine below_set ?_ GE18001.out) | exact HB.out)))
                                                  (case aF => exact (fun _ _ => trivial))
                                                  (case aO => exact (by (with_reducible repeat (first | apply Kd.R_alloc | apply Kd.R_drewN | apply Kd.R_drew)); exact HO_7.out))
                                                  (case aS => exact (below_size (by repeat (first | (with_reducible first | exact HB.out | apply below_alloc | apply pw_below_drewN | apply below_drew1 | refine below_set ?_ GE18001.out) | exact HB.out))))
                                                  (case aL => have := LMc36.out; omega)
                                                  intro v18021 w42 ho hb hg hat
                                                  rw [← Ny18020.out] at ho
                                                  have n0_ := Aside0.mk (blk_grown (g := gb18001) (o := .cells #[.slice A0_0 l0_0.length c0_0, .slice (some ad18013) l0_1.length c0_1, .slice (some ad18012) l0_2.length c0_2] 46 (0, 0)) (by (with_reducible repeat (first | refine blk_drewN ?_ _ | refine blk_drew ?_ | refine blk_alloc ?_ _)); exact BK18001.out) hg (Kd.R_ne HO_7.out BK18001.out (by decide)))
                                                  have n1_ := Aside0.mk (Kd.R_over' (by (with_reducible repeat (first | apply Kd.R_alloc | apply Kd.R_drewN | apply Kd.R_drew)); exact HO18018.out) (Kd.R_typed (by (with_reducible repeat (first | apply Kd.R_alloc | apply Kd.R_drewN | apply Kd.R_drew)); exact HO_7.out)) (by decide) hg)
                                                  have n2_ := Aside0.mk (hb)
                                                  have n3_ := Aside0.mk (ho)
                                                  clear BK18001
                                                  clear HO18018
                                                  clear HB
                                                  clear HO_7
                                                  have BK18001 := n0_
                                                  have HO18018 := n1_
                                                  have HB := n2_
                                                  have HO18022 := n3_
                                                  clear n0_ n1_ n2_ n3_
                                                  clear ho hb hg hat
                                                  refine hK.out _ _ ?_
                                                  clear hK K
                                                  refine norm_ (a' := ?_) ?_ ?_
                                                  rotate_left
                                                  · show Act.put _ (some 70) _ = _
                                                    simp only [Act.put, List.setIfInBounds_toArray, List.set_cons_zero, List.set_cons_succ, i64_w, i32_w]
                                                    rfl
                                                  refine pure_ (i := 12) (N := some 7) (v := ?_) (a' := ?_) #[true, true, true, true, true, true, true, true, true, true, true, true, true] rfl rfl (any_of HT_.out (by kernel_rfl)) (fun _ _ _ h => h) (Or.inl ⟨by rfl, ?_⟩) ?_ ?_
                                                  rotate_left
                                                  · intro w'
                                                    go_simp
                                                    first | with_reducible rfl | (rw [if_neg (by omega)]; done) | (rw [if_neg (by (try simp only [decide_eq_true_eq, decide_eq_false_iff_not, eq_iff_iff, iff_true, iff_false] at *); (try simp only [ByteArray.size_extract, ByteArray.size_append, show (⟨#[97, 98, 99]⟩ : ByteArray).size = 3 from rfl, show (⟨#[88, 89, 90]⟩ : ByteArray).size = 3 from rfl, show (⟨#[61]⟩ : ByteArray).size = 1 from rfl] at *); omega)]; done)
                                                  rotate_left
                                                  · simp only [Act.put, List.setIfInBounds_toArray, List.set_cons_zero, List.set_cons_succ, i64_w, i32_w]
                                                    rfl
                                                  refine done_ (done_of HT_.out (by kernel_rfl)) ?_
                                                  try go_wp2
                                                  go_roundg k2
                                                  case measure => have := HK1.out; have := HK2.out; omega
                                                  case rel => exact ⟨(y18016), (y18020), (wrap64 (x9_2 + 1)), (by first | rfl | (simp; done) | (simp [*]; done)), H', ⟨by have := HK1.out; have := HK2.out; omega⟩, ⟨by (with_reducible repeat (first | apply Kd.R_alloc | apply Kd.R_drewN | apply Kd.R_drew)); exact HO18018.out⟩, ⟨by (with_reducible repeat (first | apply Kd.R_alloc | apply Kd.R_drewN | apply Kd.R_drew)); exact HO18022.out⟩, ⟨by (with_reducible repeat (first | refine blk_drewN ?_ _ | refine blk_drew ?_ | refine blk_alloc ?_ _)); exact BK18001.out⟩, ⟨by repeat (first | (with_reducible first | exact HB.out | apply below_alloc | apply pw_below_drewN | apply below_drew1 | refine below_set ?_ GE18001.out) | exact HB.out)⟩⟩
                                                · rw [if_neg c36] at H
                                                  exact absurd H (by simp)
                                              · rw [if_neg c35] at H
                                                exact absurd H (by simp)
                                            · rw [if_neg c34] at H
                                              exact absurd H (by simp)
                                          · rw [if_neg c33] at H
                                            exact absurd H (by simp)
                                        · rw [if_neg c31] at H
                                          exact absurd H (by simp)
                                      · rw [if_neg c30] at H
                                        exact absurd H (by simp)
                                    · rw [if_neg c29] at H
                                      have c29b0 : decide (t18015 < 0) = false := decide_eq_false c29
                                      clear c29
                                      have H' := Aside0.mk H
                                      clear H
                                      try go_wp2
                                      have n0_ := Aside0.mk (Kd.R_drew HO_6.out)
                                      have n1_ := Aside0.mk (Kd.R_drew HO_7.out)
                                      have n2_ := Aside0.mk (blk_drew BK18001.out)
                                      have n3_ := Aside0.mk (below_drew1 HB.out)
                                      clear HO_6
                                      clear HO_7
                                      clear BK18001
                                      clear HB
                                      have HO_6 := n0_
                                      have HO_7 := n1_
                                      have BK18001 := n2_
                                      have HB := n3_
                                      clear n0_ n1_ n2_ n3_
                                      obtain ⟨Ao44, co44, eo44⟩ := Kd.R_slice HO_6.out
                                      (first | subst eo44 | (injection eo44 with f1_ f2_ f3_; have f4_ := f1_.symm; have f5_ := f3_.symm; clear f1_ f2_ f3_; subst f4_; subst f5_))
                                      have p18011 : 0 ≤ (x8_1 : Int) := of_decide_eq_true (by first | (with_reducible assumption) | assumption)
                                      have q18011 : x8_1 < (x6_2.length : Int) := of_decide_eq_true (by first | (with_reducible assumption) | assumption)
                                      obtain ⟨ad18011, e18011, hx18011_0⟩ := Kd.at_int (Kd.R_reads' HO_6.out).2.2 x8_1 p18011 q18011
                                      cases e18011
                                      replace p18011 := eq_true p18011
                                      replace q18011 := eq_true q18011
                                      have p18012 : 0 ≤ ((rd x6_2 x8_1) : Int) := of_decide_eq_true (by first | (with_reducible assumption) | assumption)
                                      have q18012 : (rd x6_2 x8_1) < (l0_2.length : Int) := of_decide_eq_true (by first | (with_reducible assumption) | assumption)
                                      obtain ⟨ad18012, A18012_0, c18012_0, e18012, hx18012_0, hl18012_0, hi18012_0⟩ := at_L5 HR0_2.out (rd x6_2 x8_1) p18012 q18012
                                      have hw18012_0 := hx18012_0
                                      cases e18012
                                      replace hx18012_0 := (HB.out.cell (World.block_lt_of_cell? w _ hx18012_0)).trans hx18012_0
                                      have HR18012_0 := Aside0.mk hi18012_0
                                      have HC18012_0 := Aside0.mk hl18012_0
                                      clear hi18012_0 hl18012_0
                                      replace p18012 := eq_true p18012
                                      replace q18012 := eq_true q18012
                                      have p18013 : 0 ≤ (x9_2 : Int) := of_decide_eq_true (by first | (with_reducible assumption) | assumption)
                                      have q18013 : x9_2 < (l0_1.length : Int) := of_decide_eq_true (by first | (with_reducible assumption) | assumption)
                                      obtain ⟨ad18013, e18013, hx18013_0⟩ := Kd.at_int HR0_1.out x9_2 p18013 q18013
                                      have hw18013_0 := hx18013_0
                                      cases e18013
                                      replace hx18013_0 := (HB.out.cell (World.block_lt_of_cell? w _ hx18013_0)).trans hx18013_0
                                      replace p18013 := eq_true p18013
                                      replace q18013 := eq_true q18013
                                      have p18014 : 0 ≤ ((rd l0_1 x9_2) : Int) := of_decide_eq_true (by first | (with_reducible assumption) | assumption)
                                      have q18014 : (rd l0_1 x9_2) < ((rd_L5 l0_2 (rd x6_2 x8_1)).length : Int) := of_decide_eq_true (by first | (with_reducible assumption) | assumption)
                                      obtain ⟨ad18014, e18014, hx18014_0⟩ := Kd.at_int HR18012_0.out (rd l0_1 x9_2) p18014 q18014
                                      have hw18014_0 := hx18014_0
                                      cases e18014
                                      replace hx18014_0 := (HB.out.cell (World.block_lt_of_cell? w _ hx18014_0)).trans hx18014_0
                                      replace p18014 := eq_true p18014
                                      replace q18014 := eq_true q18014
                                      refine start_ (n := 16) (S := fun w' => w'.cell? ⟨gb18001, 0, none⟩ = some (.slice A0_0 l0_0.length c0_0) ∧ w'.cell? ⟨gb18001, 1, none⟩ = some (.slice (some ad18013) l0_1.length c0_1) ∧ w'.cell? ⟨gb18001, 2, none⟩ = some (.slice (some ad18012) l0_2.length c0_2) ∧ w'.cell? (ad18011.add (x8_1).toNat) = some (.int .i64 (rd x6_2 x8_1)) ∧ w'.cell? (ad18012.add ((rd x6_2 x8_1)).toNat) = some (.slice (some ad18014) (rd_L5 l0_2 (rd x6_2 x8_1)).length c18012_0) ∧ w'.cell? (ad18013.add (x9_2).toNat) = some (.int .i64 (rd l0_1 x9_2)) ∧ w'.cell? (ad18014.add ((rd l0_1 x9_2)).toNat) = some (.int .i64 (rd (rd_L5 l0_2 (rd x6_2 x8_1)) (rd l0_1 x9_2)))) (ds := []) #[false, false, false, false, false, false, false, false, false, false, false, false, false, false, false, false] (by kernel_rfl) rfl rfl ⟨(blk_cell BK18001.out 0).trans rfl, (blk_cell BK18001.out 1).trans rfl, (blk_cell BK18001.out 2).trans rfl, hx18011_0, ((HB.out.cell (World.block_lt_of_cell? w _ hw18012_0)).trans hw18012_0), ((HB.out.cell (World.block_lt_of_cell? w _ hw18013_0)).trans hw18013_0), ((HB.out.cell (World.block_lt_of_cell? w _ hw18014_0)).trans hw18014_0)⟩ (fun hHeld => ?_); refine with_tabW spec_WordOfMap.tab13 spec_WordOfMap.bits13 (fun HT_ HW_ => ?_)
                                      generalize wr.drew = w43 at HO_6 HO_7 BK18001 HB HR18012_0 hx18011_0 hx18012_0 hx18013_0 hx18014_0 hHeld ⊢
                                      refine pure_ (i := 0) (N := some 36) (v := ?_) (a' := ?_) #[true, false, false, false, false, false, false, false, false, false, false, false, false, false, false, false] rfl rfl (any_of HT_.out (by kernel_rfl)) (fun _ _ _ h => h) (Or.inl ⟨by rfl, ?_⟩) ?_ ?_
                                      rotate_left
                                      · intro w'
                                        go_simp
                                        first | with_reducible rfl | (rw [if_neg (by omega)]; done) | (rw [if_neg (by (try simp only [decide_eq_true_eq, decide_eq_false_iff_not, eq_iff_iff, iff_true, iff_false] at *); (try simp only [ByteArray.size_extract, ByteArray.size_append, show (⟨#[97, 98, 99]⟩ : ByteArray).size = 3 from rfl, show (⟨#[88, 89, 90]⟩ : ByteArray).size = 3 from rfl, show (⟨#[61]⟩ : ByteArray).size = 1 from rfl] at *); omega)]; done)
                                      rotate_left
                                      · simp only [Act.put, List.setIfInBounds_toArray, List.set_cons_zero, List.set_cons_succ, i64_w, i32_w]
                                        rfl
                                      refine pure_ (i := 2) (N := some 38) (v := ?_) (a' := ?_) #[true, false, true, false, false, false, false, false, false, false, false, false, false, false, false, false] rfl rfl (any_of HT_.out (by kernel_rfl)) (fun _ _ _ h => h) (Or.inl ⟨by rfl, ?_⟩) ?_ ?_
                                      rotate_left
                                      · intro w'
                                        go_simp
                                        first | with_reducible rfl | (rw [if_neg (by omega)]; done) | (rw [if_neg (by (try simp only [decide_eq_true_eq, decide_eq_false_iff_not, eq_iff_iff, iff_true, iff_false] at *); (try simp only [ByteArray.size_extract, ByteArray.size_append, show (⟨#[97, 98, 99]⟩ : ByteArray).size = 3 from rfl, show (⟨#[88, 89, 90]⟩ : ByteArray).size = 3 from rfl, show (⟨#[61]⟩ : ByteArray).size = 1 from rfl] at *); omega)]; done)
                                      rotate_left
                                      · simp only [Act.put, List.setIfInBounds_toArray, List.set_cons_zero, List.set_cons_succ, i64_w, i32_w]
                                        rfl
                                      refine pure_ (i := 3) (N := some 39) (v := ?_) (a' := ?_) #[true, false, true, true, false, false, false, false, false, false, false, false, false, false, false, false] rfl rfl (any_of HT_.out (by kernel_rfl)) (fun _ _ _ h => h) (Or.inl ⟨by rfl, ?_⟩) ?_ ?_
                                      rotate_left
                                      · intro w'
                                        go_simp
                                        first | with_reducible rfl | (rw [if_neg (by omega)]; done) | (rw [if_neg (by (try simp only [decide_eq_true_eq, decide_eq_false_iff_not, eq_iff_iff, iff_true, iff_false] at *); (try simp only [ByteArray.size_extract, ByteArray.size_append, show (⟨#[97, 98, 99]⟩ : ByteArray).size = 3 from rfl, show (⟨#[88, 89, 90]⟩ : ByteArray).size = 3 from rfl, show (⟨#[61]⟩ : ByteArray).size = 1 from rfl] at *); omega)]; done)
                                      rotate_left
                                      · simp only [Act.put, List.setIfInBounds_toArray, List.set_cons_zero, List.set_cons_succ, i64_w, i32_w]
                                        rfl
                                      refine pure_ (i := 4) (N := some 40) (v := ?_) (a' := ?_) #[true, false, true, true, true, false, false, false, false, false, false, false, false, false, false, false] rfl rfl (any_of HT_.out (by kernel_rfl)) (fun _ _ _ h => h) (Or.inl ⟨by rfl, ?_⟩) ?_ ?_
                                      rotate_left
                                      · intro w'
                                        go_simp
                                        first | with_reducible rfl | (rw [if_neg (by omega)]; done) | (rw [if_neg (by (try simp only [decide_eq_true_eq, decide_eq_false_iff_not, eq_iff_iff, iff_true, iff_false] at *); (try simp only [ByteArray.size_extract, ByteArray.size_append, show (⟨#[97, 98, 99]⟩ : ByteArray).size = 3 from rfl, show (⟨#[88, 89, 90]⟩ : ByteArray).size = 3 from rfl, show (⟨#[61]⟩ : ByteArray).size = 1 from rfl] at *); omega)]; done)
                                      rotate_left
                                      · simp only [Act.put, List.setIfInBounds_toArray, List.set_cons_zero, List.set_cons_succ, i64_w, i32_w]
                                        rfl
                                      refine pure_ (i := 8) (N := some 44) (v := ?_) (a' := ?_) #[true, false, true, true, true, false, false, false, true, false, false, false, false, false, false, false] rfl rfl (any_of HT_.out (by kernel_rfl)) (fun _ _ _ h => h) (Or.inl ⟨by rfl, ?_⟩) ?_ ?_
                                      rotate_left
                                      · intro w'
                                        go_simp
                                        first | with_reducible rfl | (rw [if_neg (by omega)]; done) | (rw [if_neg (by (try simp only [decide_eq_true_eq, decide_eq_false_iff_not, eq_iff_iff, iff_true, iff_false] at *); (try simp only [ByteArray.size_extract, ByteArray.size_append, show (⟨#[97, 98, 99]⟩ : ByteArray).size = 3 from rfl, show (⟨#[88, 89, 90]⟩ : ByteArray).size = 3 from rfl, show (⟨#[61]⟩ : ByteArray).size = 1 from rfl] at *); omega)]; done)
                                      rotate_left
                                      · simp only [Act.put, List.setIfInBounds_toArray, List.set_cons_zero, List.set_cons_succ, i64_w, i32_w]
                                        rfl
                                      refine pure_ (i := 10) (N := some 46) (v := ?_) (a' := ?_) #[true, false, true, true, true, false, false, false, true, false, true, false, false, false, false, false] rfl rfl (any_of HT_.out (by kernel_rfl)) (fun _ _ _ h => h) (Or.inl ⟨by rfl, ?_⟩) ?_ ?_
                                      rotate_left
                                      · intro w'
                                        go_simp
                                        first | with_reducible rfl | (rw [if_neg (by omega)]; done) | (rw [if_neg (by (try simp only [decide_eq_true_eq, decide_eq_false_iff_not, eq_iff_iff, iff_true, iff_false] at *); (try simp only [ByteArray.size_extract, ByteArray.size_append, show (⟨#[97, 98, 99]⟩ : ByteArray).size = 3 from rfl, show (⟨#[88, 89, 90]⟩ : ByteArray).size = 3 from rfl, show (⟨#[61]⟩ : ByteArray).size = 1 from rfl] at *); omega)]; done)
                                      rotate_left
                                      · simp only [Act.put, List.setIfInBounds_toArray, List.set_cons_zero, List.set_cons_succ, i64_w, i32_w]
                                        rfl
                                      refine take_ (i := 1) (N := some 37) (v := ?_) (a' := ?_) #[true, true, true, true, true, false, false, false, true, false, true, false, false, false, false, false] rfl rfl (take_ofW HT_.out HW_.out (by kernel_rfl)) (fun _ _ _ h => h) (Or.inl ⟨by rfl, ?_⟩) hHeld ?_ ?_
                                      rotate_left
                                      · rintro w' ⟨s0, s1, s2, s3, s4, s5, s6⟩
                                        go_simp
                                        first | with_reducible rfl | (rw [if_neg (by omega)]; done) | (rw [if_neg (by (try simp only [decide_eq_true_eq, decide_eq_false_iff_not, eq_iff_iff, iff_true, iff_false] at *); (try simp only [ByteArray.size_extract, ByteArray.size_append, show (⟨#[97, 98, 99]⟩ : ByteArray).size = 3 from rfl, show (⟨#[88, 89, 90]⟩ : ByteArray).size = 3 from rfl, show (⟨#[61]⟩ : ByteArray).size = 1 from rfl] at *); omega)]; done)
                                      rotate_left
                                      · simp only [Act.put, List.setIfInBounds_toArray, List.set_cons_zero, List.set_cons_succ, i64_w, i32_w]
                                        rfl
                                      refine take_ (i := 5) (N := some 41) (v := ?_) (a' := ?_) #[true, true, true, true, true, true, false, false, true, false, true, false, false, false, false, false] rfl rfl (take_ofW HT_.out HW_.out (by kernel_rfl)) (fun _ _ _ h => h) (Or.inl ⟨by rfl, ?_⟩) hHeld ?_ ?_
                                      rotate_left
                                      · rintro w' ⟨s0, s1, s2, s3, s4, s5, s6⟩
                                        go_simp
                                        first | with_reducible rfl | (rw [if_neg (by omega)]; done) | (rw [if_neg (by (try simp only [decide_eq_true_eq, decide_eq_false_iff_not, eq_iff_iff, iff_true, iff_false] at *); (try simp only [ByteArray.size_extract, ByteArray.size_append, show (⟨#[97, 98, 99]⟩ : ByteArray).size = 3 from rfl, show (⟨#[88, 89, 90]⟩ : ByteArray).size = 3 from rfl, show (⟨#[61]⟩ : ByteArray).size = 1 from rfl] at *); omega)]; done)
                                      rotate_left
                                      · simp only [Act.put, List.setIfInBounds_toArray, List.set_cons_zero, List.set_cons_succ, i64_w, i32_w]
                                        rfl
                                      refine pure_ (i := 6) (N := some 42) (v := ?_) (a' := ?_) #[true, true, true, true, true, true, true, false, true, false, true, false, false, false, false, false] rfl rfl (any_of HT_.out (by kernel_rfl)) (fun _ _ _ h => h) (Or.inl ⟨by rfl, ?_⟩) ?_ ?_
                                      rotate_left
                                      · intro w'
                                        go_simp
                                        first | with_reducible rfl | (rw [if_neg (by omega)]; done) | (rw [if_neg (by (try simp only [decide_eq_true_eq, decide_eq_false_iff_not, eq_iff_iff, iff_true, iff_false] at *); (try simp only [ByteArray.size_extract, ByteArray.size_append, show (⟨#[97, 98, 99]⟩ : ByteArray).size = 3 from rfl, show (⟨#[88, 89, 90]⟩ : ByteArray).size = 3 from rfl, show (⟨#[61]⟩ : ByteArray).size = 1 from rfl] at *); omega)]; done)
                                      rotate_left
                                      · simp only [Act.put, List.setIfInBounds_toArray, List.set_cons_zero, List.set_cons_succ, i64_w, i32_w]
                                        rfl
                                      refine take_ (i := 7) (N := some 43) (v := ?_) (a' := ?_) #[true, true, true, true, true, true, true, true, true, false, true, false, false, false, false, false] rfl rfl (take_ofW HT_.out HW_.out (by kernel_rfl)) (fun _ _ _ h => h) (Or.inl ⟨by rfl, ?_⟩) hHeld ?_ ?_
                                      rotate_left
                                      · rintro w' ⟨s0, s1, s2, s3, s4, s5, s6⟩
                                        go_simp
                                        first | with_reducible rfl | (rw [if_neg (by omega)]; done) | (rw [if_neg (by (try simp only [decide_eq_true_eq, decide_eq_false_iff_not, eq_iff_iff, iff_true, iff_false] at *); (try simp only [ByteArray.size_extract, ByteArray.size_append, show (⟨#[97, 98, 99]⟩ : ByteArray).size = 3 from rfl, show (⟨#[88, 89, 90]⟩ : ByteArray).size = 3 from rfl, show (⟨#[61]⟩ : ByteArray).size = 1 from rfl] at *); omega)]; done)
                                      rotate_left
                                      · simp only [Act.put, List.setIfInBounds_toArray, List.set_cons_zero, List.set_cons_succ, i64_w, i32_w]
                                        rfl
                                      refine take_ (i := 9) (N := some 45) (v := ?_) (a' := ?_) #[true, true, true, true, true, true, true, true, true, true, true, false, false, false, false, false] rfl rfl (take_ofW HT_.out HW_.out (by kernel_rfl)) (fun _ _ _ h => h) (Or.inl ⟨by rfl, ?_⟩) hHeld ?_ ?_
                                      rotate_left
                                      · rintro w' ⟨s0, s1, s2, s3, s4, s5, s6⟩
                                        go_simp
                                        first | with_reducible rfl | (rw [if_neg (by omega)]; done) | (rw [if_neg (by (try simp only [decide_eq_true_eq, decide_eq_false_iff_not, eq_iff_iff, iff_true, iff_false] at *); (try simp only [ByteArray.size_extract, ByteArray.size_append, show (⟨#[97, 98, 99]⟩ : ByteArray).size = 3 from rfl, show (⟨#[88, 89, 90]⟩ : ByteArray).size = 3 from rfl, show (⟨#[61]⟩ : ByteArray).size = 1 from rfl] at *); omega)]; done)
                                      rotate_left
                                      · simp only [Act.put, List.setIfInBounds_toArray, List.set_cons_zero, List.set_cons_succ, i64_w, i32_w]
                                        rfl
                                      refine pure_ (i := 11) (N := some 47) (v := ?_) (a' := ?_) #[true, true, true, true, true, true, true, true, true, true, true, true, false, false, false, false] rfl rfl (any_of HT_.out (by kernel_rfl)) (fun _ _ _ h => h) (Or.inl ⟨by rfl, ?_⟩) ?_ ?_
                                      rotate_left
                                      · intro w'
                                        go_simp
                                        first | with_reducible rfl | (rw [if_neg (by omega)]; done) | (rw [if_neg (by (try simp only [decide_eq_true_eq, decide_eq_false_iff_not, eq_iff_iff, iff_true, iff_false] at *); (try simp only [ByteArray.size_extract, ByteArray.size_append, show (⟨#[97, 98, 99]⟩ : ByteArray).size = 3 from rfl, show (⟨#[88, 89, 90]⟩ : ByteArray).size = 3 from rfl, show (⟨#[61]⟩ : ByteArray).size = 1 from rfl] at *); omega)]; done)
                                      rotate_left
                                      · simp only [Act.put, List.setIfInBounds_toArray, List.set_cons_zero, List.set_cons_succ, i64_w, i32_w]
                                        rfl
                                      refine take_ (i := 12) (N := some 48) (v := ?_) (a' := ?_) #[true, true, true, true, true, true, true, true, true, true, true, true, true, false, false, false] rfl rfl (take_ofW HT_.out HW_.out (by kernel_rfl)) (fun _ _ _ h => h) (Or.inl ⟨by rfl, ?_⟩) hHeld ?_ ?_
                                      rotate_left
                                      · rintro w' ⟨s0, s1, s2, s3, s4, s5, s6⟩
                                        go_simp
                                        first | with_reducible rfl | (rw [if_neg (by omega)]; done) | (rw [if_neg (by (try simp only [decide_eq_true_eq, decide_eq_false_iff_not, eq_iff_iff, iff_true, iff_false] at *); (try simp only [ByteArray.size_extract, ByteArray.size_append, show (⟨#[97, 98, 99]⟩ : ByteArray).size = 3 from rfl, show (⟨#[88, 89, 90]⟩ : ByteArray).size = 3 from rfl, show (⟨#[61]⟩ : ByteArray).size = 1 from rfl] at *); omega)]; done)
                                      rotate_left
                                      · simp only [Act.put, List.setIfInBounds_toArray, List.set_cons_zero, List.set_cons_succ, i64_w, i32_w]
                                        rfl
                                      refine pure_ (i := 13) (N := some 49) (v := ?_) (a' := ?_) #[true, true, true, true, true, true, true, true, true, true, true, true, true, true, false, false] rfl rfl (any_of HT_.out (by kernel_rfl)) (fun _ _ _ h => h) (Or.inl ⟨by rfl, ?_⟩) ?_ ?_
                                      rotate_left
                                      · intro w'
                                        go_simp
                                        first | with_reducible rfl | (rw [if_neg (by omega)]; done) | (rw [if_neg (by (try simp only [decide_eq_true_eq, decide_eq_false_iff_not, eq_iff_iff, iff_true, iff_false] at *); (try simp only [ByteArray.size_extract, ByteArray.size_append, show (⟨#[97, 98, 99]⟩ : ByteArray).size = 3 from rfl, show (⟨#[88, 89, 90]⟩ : ByteArray).size = 3 from rfl, show (⟨#[61]⟩ : ByteArray).size = 1 from rfl] at *); omega)]; done)
                                      rotate_left
                                      · simp only [Act.put, List.setIfInBounds_toArray, List.set_cons_zero, List.set_cons_succ, i64_w, i32_w]
                                        rfl
                                      refine take_ (i := 14) (N := some 50) (v := ?_) (a' := ?_) #[true, true, true, true, true, true, true, true, true, true, true, true, true, true, true, false] rfl rfl (take_ofW HT_.out HW_.out (by kernel_rfl)) (fun _ _ _ h => h) (Or.inl ⟨by rfl, ?_⟩) hHeld ?_ ?_
                                      rotate_left
                                      · rintro w' ⟨s0, s1, s2, s3, s4, s5, s6⟩
                                        go_simp
                                        first | with_reducible rfl | (rw [if_neg (by omega)]; done) | (rw [if_neg (by (try simp only [decide_eq_true_eq, decide_eq_false_iff_not, eq_iff_iff, iff_true, iff_false] at *); (try simp only [ByteArray.size_extract, ByteArray.size_append, show (⟨#[97, 98, 99]⟩ : ByteArray).size = 3 from rfl, show (⟨#[88, 89, 90]⟩ : ByteArray).size = 3 from rfl, show (⟨#[61]⟩ : ByteArray).size = 1 from rfl] at *); omega)]; done)
                                      rotate_left
                                      · simp only [Act.put, List.setIfInBounds_toArray, List.set_cons_zero, List.set_cons_succ, i64_w, i32_w]
                                        rfl
                                      refine pure_ (i := 15) (N := some 10) (v := ?_) (a' := ?_) #[true, true, true, true, true, true, true, true, true, true, true, true, true, true, true, true] rfl rfl (any_of HT_.out (by kernel_rfl)) (fun _ _ _ h => h) (Or.inl ⟨by rfl, ?_⟩) ?_ ?_
                                      rotate_left
                                      · intro w'
                                        go_simp
                                        first | with_reducible rfl | (rw [if_neg (by omega)]; done) | (rw [if_neg (by (try simp only [decide_eq_true_eq, decide_eq_false_iff_not, eq_iff_iff, iff_true, iff_false] at *); (try simp only [ByteArray.size_extract, ByteArray.size_append, show (⟨#[97, 98, 99]⟩ : ByteArray).size = 3 from rfl, show (⟨#[88, 89, 90]⟩ : ByteArray).size = 3 from rfl, show (⟨#[61]⟩ : ByteArray).size = 1 from rfl] at *); omega)]; done)
                                      rotate_left
                                      · simp only [Act.put, List.setIfInBounds_toArray, List.set_cons_zero, List.set_cons_succ, i64_w, i32_w]
                                        rfl
                                      refine done_ (done_of HT_.out (by kernel_rfl)) ?_
                                      try go_wp2_with (first | ((with_reducible refine gate_callee (f := 40) rfl ?_); refine goesL_ (some 53) rfl rfl Try.func40 (by kernel_rfl) rfl #[.slice (some ad18011) x6_2.length co44, .int .i64 (rd (rd_L5 l0_2 (rd x6_2 x8_1)) (rd l0_1 x9_2))] rfl (by (try simp only [List.map_toArray, List.map_cons, List.map_nil]); first | done | rfl | (simp only [List.length_drop, List.length_take]; rfl)) ?_; (with_reducible refine (spec_l5Find.calls k2 _ _ x6_2 (rd (rd_L5 l0_2 (rd x6_2 x8_1)) (rd l0_1 x9_2)) t18015 _ ?side1 ?side2 A28.out).mono ?_); (case side1 => repeat (first | exact (Kd.R_reads' HO_6.out).2.2 | (with_reducible refine Kd.C_alloc ?_ _) | (with_reducible refine Kd.C_drewN ?_ _) | (with_reducible refine Kd.C_drew ?_))); (case side2 => exact (Kd.R_reads' HO_6.out).2.1); rintro e w' ⟨rfl, ⟨nd, rfl⟩⟩; refine ⟨_, rfl, ?_⟩))
                                      go_roundg k2
                                      case measure => have := HK1.out; have := HK2.out; omega
                                      case rel => exact ⟨(x6_2), (x7_2), (wrap64 (x9_2 + 1)), (by first | rfl | (simp; done) | (simp [*]; done)), H', ⟨by have := HK1.out; have := HK2.out; omega⟩, ⟨by (with_reducible repeat (first | apply Kd.R_alloc | apply Kd.R_drewN | apply Kd.R_drew)); exact HO_6.out⟩, ⟨by (with_reducible repeat (first | apply Kd.R_alloc | apply Kd.R_drewN | apply Kd.R_drew)); exact HO_7.out⟩, ⟨by (with_reducible repeat (first | refine blk_drewN ?_ _ | refine blk_drew ?_ | refine blk_alloc ?_ _)); exact BK18001.out⟩, ⟨by repeat (first | (with_reducible first | exact HB.out | apply below_alloc | apply pw_below_drewN | apply below_drew1 | refine below_set ?_ GE18001.out) | exact HB.out)⟩⟩
                                  · rw [if_neg c27] at H
                                    exact absurd H (by simp)
                                · rw [if_neg c26] at H
                                  exact absurd H (by simp)
                              · rw [if_neg c25] at H
                                exact absurd H (by simp)
                            · rw [if_neg c24] at H
                              exact absurd H (by simp)
                          · rw [if_neg c23] at H
                            exact absurd H (by simp)
                        · rw [if_neg c22] at H
                          exact absurd H (by simp)
                      · rw [if_neg c21] at H
                        exact absurd H (by simp)
                    · rw [if_neg c20] at H
                      exact absurd H (by simp)
                  · rw [if_neg c19] at H
                    have c19b0 : decide (x9_2 < 3) = false := decide_eq_false c19
                    clear c19
                    have H' := Aside0.mk H
                    clear H
                    go_wp2
                    go_roundg k2
                    case measure => have := HK1.out; have := HK2.out; omega
                    case rel => exact ⟨(x6_2), (x7_2), (wrap64 (x8_1 + 1)), (by first | rfl | (simp; done) | (simp [*]; done)), H', ⟨by have := HK1.out; have := HK2.out; omega⟩, ⟨by (with_reducible repeat (first | apply Kd.R_alloc | apply Kd.R_drewN | apply Kd.R_drew)); exact HO_6.out⟩, ⟨by (with_reducible repeat (first | apply Kd.R_alloc | apply Kd.R_drewN | apply Kd.R_drew)); exact HO_7.out⟩, ⟨by (with_reducible repeat (first | refine blk_drewN ?_ _ | refine blk_drew ?_ | refine blk_alloc ?_ _)); exact BK18001.out⟩, ⟨by repeat (first | (with_reducible first | exact HB.out | apply below_alloc | apply pw_below_drewN | apply below_drew1 | refine below_set ?_ GE18001.out) | exact HB.out)⟩⟩
          · rw [if_neg c13] at H
            exact absurd H (by simp)
        · rw [if_neg c12] at H
          have c12b0 : decide (x8_1 < (x6_1.length : Int)) = false := decide_eq_false c12
          clear c12
          simp only [Option.some.injEq, Prod.mk.injEq] at H
          obtain ⟨rfl, rfl⟩ := H
          obtain ⟨Ao45, co45, eo45⟩ := Kd.R_slice HO_6.out
          subst eo45
          go_wp2
          go_ret2
          exact ⟨by first | rfl | (simp [errW_none, errW_some] <;> rfl) | (simp [*, errW_none, errW_some] <;> rfl), by repeat (first | (with_reducible first | exact HB.out | apply below_alloc | apply pw_below_drewN | apply below_drew1 | refine below_set ?_ GE18001.out) | exact HB.out)⟩
  · replace c4 := Bool.eq_false_iff.mpr c4
    subst c4
    have H1 : (some ((⟨#[]⟩ : ByteArray), false)) = some (r1, r2) := by rw [if_neg (show ¬ (false = true) by decide)] at H; exact H
    clear H
    have H := H1
    clear H1
    simp only [Option.some.injEq, Prod.mk.injEq] at H
    obtain ⟨rfl, rfl⟩ := H
    go_enter Try.func18, Try.ntmps18
    go_wp2_with (first | ((with_reducible refine gate_dst (N := 2) rfl ?_); refine box_event ?hg (N := 2) ?hd (cs := #[.slice A0_0 l0_0.length c0_0, .slice A0_1 l0_1.length c0_1, .slice A0_2 l0_2.length c0_2]) (t := 46) ?hr ?_; (case hd => rfl); (case hg => rfl); (case hr => first | (go_simp; done) | (go_simp; rfl)); intro gb18001 hg w46 hbox hb; have n0_ := Aside0.mk (below_step (by repeat (first | (with_reducible first | exact HB.out | apply below_alloc | apply pw_below_drewN | apply below_drew1) | exact HB.out)) hb); have n1_ := Aside0.mk (hbox); have n2_ := Aside0.mk ((by rw [hg]; exact (below_size (by repeat (first | (with_reducible first | exact HB.out | apply below_alloc | apply pw_below_drewN | apply below_drew1) | exact HB.out))) : w.heap.size ≤ gb18001)); have n3_ := Aside0.mk ((by rw [hg]; exact (below_size (by repeat (first | (with_reducible first | exact HB.out | apply below_alloc | apply pw_below_drewN | apply below_drew1) | exact HB.out))) : w.heap.size ≤ gb18001)); clear HB; have HB := n0_; have BK18001 := n1_; have GW18001 := n2_; have GE18001 := n3_; clear n0_ n1_ n2_ n3_; clear hb hbox hg; have hcz47_0 : w46.cell? ⟨gb18001, 0, none⟩ = some (.slice A0_0 l0_0.length c0_0) := (blk_cell BK18001.out 0).trans rfl; have hcz47_1 : w46.cell? ⟨gb18001, 1, none⟩ = some (.slice A0_1 l0_1.length c0_1) := (blk_cell BK18001.out 1).trans rfl; have hcz47_2 : w46.cell? ⟨gb18001, 2, none⟩ = some (.slice A0_2 l0_2.length c0_2) := (blk_cell BK18001.out 2).trans rfl; have hfz47_0 := blk_frozen BK18001.out 0; have hfz47_1 := blk_frozen BK18001.out 1; have hfz47_2 := blk_frozen BK18001.out 2) | ((with_reducible refine gate_callee (f := 39) rfl ?_); refine goesL_ (some 12) rfl rfl Try.func39 (by kernel_rfl) rfl #[.agg #[.slice A0_0 l0_0.length c0_0, .slice A0_1 l0_1.length c0_1, .slice A0_2 l0_2.length c0_2]] rfl (by (try simp only [List.map_toArray, List.map_cons, List.map_nil]); first | done | rfl | (simp only [List.length_drop, List.length_take]; rfl)) ?_; (with_reducible refine (spec_l13Good.calls k _ _ l0_0 _ _ l0_1 _ _ l0_2 false _ ?side1 ?side2 ?side3 ?side4 ?side5 ?side6 A3.out).mono ?_); (case side1 => repeat (first | exact (Kd.C_below HR0_0.out HB.out) | (with_reducible refine Kd.C_alloc ?_ _) | (with_reducible refine Kd.C_drewN ?_ _) | (with_reducible refine Kd.C_drew ?_))); (case side2 => exact HC0_0.out); (case side3 => repeat (first | exact (Kd.C_below HR0_1.out HB.out) | (with_reducible refine Kd.C_alloc ?_ _) | (with_reducible refine Kd.C_drewN ?_ _) | (with_reducible refine Kd.C_drew ?_))); (case side4 => exact HC0_1.out); (case side5 => repeat (first | exact (Kd.C_below HR0_2.out HB.out) | (with_reducible refine Kd.C_alloc ?_ _) | (with_reducible refine Kd.C_drewN ?_ _) | (with_reducible refine Kd.C_drew ?_))); (case side6 => exact HC0_2.out); rintro e w48 ⟨rfl, hb⟩; refine ⟨_, rfl, ?_⟩; have n0_ := Aside0.mk (blk_below (g := gb18001) (o := .cells #[.slice A0_0 l0_0.length c0_0, .slice A0_1 l0_1.length c0_1, .slice A0_2 l0_2.length c0_2] 46 (0, 0)) (by (with_reducible repeat (first | refine blk_drewN ?_ _ | refine blk_drew ?_ | refine blk_alloc ?_ _)); exact BK18001.out) hb); have n1_ := Aside0.mk (below_step (by repeat (first | (with_reducible first | exact HB.out | apply below_alloc | apply pw_below_drewN | apply below_drew1 | refine below_set ?_ GE18001.out) | exact HB.out)) hb); clear BK18001; clear HB; have BK18001 := n0_; have HB := n1_; clear n0_ n1_; (try clear hb); (try clear hb2); (try clear hk); (try clear hi)))
    go_ret2
    exact ⟨by first | rfl | (simp [errW_none, errW_some] <;> rfl) | (simp [*, errW_none, errW_some] <;> rfl), by repeat (first | (with_reducible first | exact HB.out | apply below_alloc | apply pw_below_drewN | apply below_drew1 | refine below_set ?_ GE18001.out) | exact HB.out)⟩


end Go.Proofs.Ytgllnohlocfeoaa.A


namespace Go.Proofs.Ytgllnohlocfeoaa.Ext
set_option linter.unusedVariables false
set_option linter.unusedSimpArgs false
open Go.RowKit Go.Proofs.YtgllnohlocfeoaaW.PrintWords Go.Proofs.YtgllnohlocfeoaaW.PrintLast

theorem at_rows {e_ : Nat} {k : IntKind} {w : World} {A : Option Addr} {n : Nat} {xs : List (List Int)} (h : Kd.C (Kd.slice e_ (Kd.int k)) w A n xs) (i : Int) (h0 : 0 ≤ i) (h1 : i < n) :
    ∃ ad A' c' row, A = some ad ∧ w.cell? (ad.add i.toNat) = some (.slice A' row.length c') ∧ row.length ≤ c' ∧ Kd.C (Kd.int k) w A' row.length row ∧ Aside0 (xs.getD i.toNat [] = row) := by
  obtain ⟨ad, c, e, _, hK, hc⟩ := Kd.C_get h [] i h0 h1
  obtain ⟨A0, c0, rfl, l0, g0⟩ := hK
  exact ⟨ad, A0, c0, _, e, by have hq := hc 0 _ rfl; rwa [show (Kd.slice e_ (Kd.int k)).sz = 1 from rfl, Nat.mul_one, Nat.add_zero] at hq, l0, g0, ⟨rfl⟩⟩


end Go.Proofs.Ytgllnohlocfeoaa.Ext


namespace Go.Proofs.Ytgllnohlocfeoaa.Ext
set_option linter.unusedVariables false
set_option linter.unusedSimpArgs false
open Go.RowKit Go.Proofs.YtgllnohlocfeoaaW.PrintWords Go.Proofs.YtgllnohlocfeoaaW.PrintLast Go.Proofs.Ytgllnohlocfeoaa.A

/-- The first number below n of which p holds; -1 if there is none. -/
def idxN (p : Nat → Bool) (n : Nat) : Int := match (List.range n).find? p with | some i => (i : Int) | none => -1
def anyN (p : Nat → Bool) (n : Nat) : Bool := (List.range n).any p
theorem idxN_miss (p : Nat → Bool) (n : Nat) (h : ∀ j, j < n → p j = false) : idxN p n = -1 := by
  unfold idxN
  rw [List.find?_eq_none.2 (fun x hx => by rw [h x (List.mem_range.1 hx)]; simp)]
theorem idxN_hit (p : Nat → Bool) (n i : Nat) (hi : i < n) (h : ∀ j, j < i → p j = false) (hp : p i = true) : idxN p n = i := by
  unfold idxN
  have e : (List.range n).find? p = some i := by
    rw [List.find?_range_eq_some]
    exact ⟨hp, List.mem_range.2 hi, fun j hj => by simp [h j hj]⟩
  rw [e]
theorem anyN_idx (p : Nat → Bool) (n : Nat) : decide (0 ≤ idxN p n) = anyN p n := by
  unfold idxN anyN
  cases h : (List.range n).find? p with
  | none =>
    have : (List.range n).any p = false := by
      rw [List.any_eq_false]
      exact List.find?_eq_none.1 h
    simp [this]
  | some i =>
    have : (List.range n).any p = true := List.any_eq_true.2 ⟨i, List.mem_of_find?_eq_some h, List.find?_some h⟩
    simp [this]
set_option maxHeartbeats 2000000 in
set_option maxRecDepth 100000 in
theorem idx_ints (p : Nat → Bool) (g : Nat) (lb : Array Value) (eg : ∀ args w, (callFunc g args).run Try.prog w = .ok (.enter g args) w) (A : Option Addr) (n c : Nat) (w : World) (hn : n ≤ 9223372036854775807)
    (hcl : ∀ i, i < n → ∃ ad v, A = some ad ∧ w.cell? (ad.add i) = some v ∧ ∀ W, Below w.heap.size w W → Calls Try.prog g (#[v] ++ lb) W fun e W' => e = .returned (.bool (p i)) ∧ Below W.heap.size W W') :
    Calls Try.prog 67 #[.slice A n c, .func (.func g) #[] lb] w fun e w' => e = .returned (.int .i64 (idxN p n)) ∧ Below w.heap.size w w' := by
  have HN := Aside0.mk hn
  have HC := Aside0.mk hcl
  clear hcl
  go_enter Try.func67, Try.ntmps67
  go_wp2
  go_loopg [8] n (fun gk v wr => ∃ (x : Int), v = .int .i64 x ∧ Aside0 (0 ≤ x) ∧ Aside0 (x ≤ n) ∧ Aside0 ((n : Int) - x ≤ gk) ∧ Aside0 (∀ j : Nat, (j : Int) < x → p j = false) ∧ Aside0 (Below w.heap.size w wr))
  case atStart => exact ⟨0, rfl, ⟨by omega⟩, ⟨by omega⟩, ⟨by omega⟩, ⟨fun j hj => by omega⟩, ⟨by repeat (first | exact Below.refl _ _ | apply pw_below_drewN | apply below_drew1)⟩⟩
  case round =>
    obtain ⟨x, rfl, H0, H1, HG, HT, HB⟩ := hrel
    by_cases hlt : x < (n : Int)
    · have c4b0 : decide (x < (n : Int)) = true := decide_eq_true hlt
      obtain ⟨ad, v, rfl, hcell, hcall⟩ := HC.out x.toNat (by have := H0.out; omega)
      have hc1 := hcall wr HB.out
      have hx0 := H0.out
      replace hcell := pw_cell_below HB.out hcell
      have HL := Aside0.mk hlt
      have p4 := eq_true hx0
      have q4 := eq_true hlt
      cases hp : p x.toNat with
      | true =>
        rw [hp] at hc1
        have HP := Aside0.mk hp
        have HCl := Aside0.mk hc1
        clear hp hc1 hcall HC hlt hx0
        go_wp2_with (go_at_fn g; refine HCl.out.mono ?_; rintro e w2 ⟨rfl, hb2⟩; have n0_ := Aside0.mk (below_step HB.out hb2); clear HB hb2; have HB := n0_; clear n0_)
        go_ret
        exact ⟨congrArg (fun i => Ending.returned (Value.int .i64 i)) (by rw [idxN_hit p n x.toNat (by have := H0.out; have := HL.out; omega) (fun j hj => HT.out j (by omega)) HP.out]; have := H0.out; omega), HB.out⟩
      | false =>
        rw [hp] at hc1
        have HP := Aside0.mk hp
        have HCl := Aside0.mk hc1
        clear hp hc1 hcall HC hlt hx0
        go_wp2_with (go_at_fn g; refine HCl.out.mono ?_; rintro e w2 ⟨rfl, hb2⟩; have n0_ := Aside0.mk (below_step HB.out hb2); clear HB hb2; have HB := n0_; clear n0_)
        have hw : wrap64 (x + 1) = x + 1 := by have := HL.out; have := H0.out; have := HN.out; unfold wrap64; omega
        go_roundg (gk - 1)
        case measure => have := HG.out; have := HL.out; omega
        case rel =>
          refine ⟨wrap64 (x + 1), by first | rfl | (simp; done) | (simp [*]; done), ⟨by rw [hw]; have := H0.out; omega⟩, ⟨by rw [hw]; have := HL.out; omega⟩, ⟨by rw [hw]; have := HG.out; omega⟩, ⟨fun j hj => ?_⟩, HB⟩
          rw [hw] at hj
          by_cases e : (j : Int) < x
          · exact HT.out j e
          · have e2 : j = x.toNat := by have := H0.out; omega
            rw [e2]; exact HP.out
    · have c4b0 : decide (x < (n : Int)) = false := decide_eq_false hlt
      have hx : x = n := by have := H1.out; omega
      have HE := Aside0.mk (idxN_miss p n (fun j hj => HT.out j (by omega)))
      clear HC hlt hx
      go_wp2
      go_ret
      exact ⟨congrArg (fun i => Ending.returned (Value.int .i64 i)) HE.out.symm, HB.out⟩
set_option maxHeartbeats 1000000 in
set_option maxRecDepth 100000 in
theorem any_ints (p : Nat → Bool) (g : Nat) (lb : Array Value) (eg : ∀ args w, (callFunc g args).run Try.prog w = .ok (.enter g args) w) (A : Option Addr) (n c : Nat) (r : Bool) (w : World) (hn : n ≤ 9223372036854775807) (hr : anyN p n = r)
    (hcl : ∀ i, i < n → ∃ ad v, A = some ad ∧ w.cell? (ad.add i) = some v ∧ ∀ W, Below w.heap.size w W → Calls Try.prog g (#[v] ++ lb) W fun e W' => e = .returned (.bool (p i)) ∧ Below W.heap.size W W') :
    Calls Try.prog 59 #[.slice A n c, .func (.func g) #[] lb] w fun e w' => e = .returned (.bool r) ∧ Below w.heap.size w w' := by
  have HN := Aside0.mk hn
  have HC := Aside0.mk hcl
  have HR := Aside0.mk ((anyN_idx p n).trans hr)
  clear hcl hr
  go_enter Try.func59, Try.ntmps59
  go_wp2_with (go_at_call 67; refine (idx_ints p g lb eg _ _ _ _ HN.out HC.out).mono ?_; generalize idxN p n = m at HR; rintro e w' ⟨rfl, hb⟩)
  go_ret
  exact ⟨congrArg (fun b => Ending.returned (Value.bool b)) HR.out, hb⟩
set_option maxHeartbeats 2000000 in
set_option maxRecDepth 100000 in
theorem idx_rows (p : Nat → Bool) (g : Nat) (lb : Array Value) (eg : ∀ args w, (callFunc g args).run Try.prog w = .ok (.enter g args) w) (A : Option Addr) (n c : Nat) (w : World) (hn : n ≤ 9223372036854775807)
    (hcl : ∀ i, i < n → ∃ ad v, A = some ad ∧ w.cell? (ad.add i) = some v ∧ ∀ W, Below w.heap.size w W → Calls Try.prog g (#[v] ++ lb) W fun e W' => e = .returned (.bool (p i)) ∧ Below W.heap.size W W') :
    Calls Try.prog 68 #[.slice A n c, .func (.func g) #[] lb] w fun e w' => e = .returned (.int .i64 (idxN p n)) ∧ Below w.heap.size w w' := by
  have HN := Aside0.mk hn
  have HC := Aside0.mk hcl
  clear hcl
  go_enter Try.func68, Try.ntmps68
  go_wp2
  go_loopg [8] n (fun gk v wr => ∃ (x : Int), v = .int .i64 x ∧ Aside0 (0 ≤ x) ∧ Aside0 (x ≤ n) ∧ Aside0 ((n : Int) - x ≤ gk) ∧ Aside0 (∀ j : Nat, (j : Int) < x → p j = false) ∧ Aside0 (Below w.heap.size w wr))
  case atStart => exact ⟨0, rfl, ⟨by omega⟩, ⟨by omega⟩, ⟨by omega⟩, ⟨fun j hj => by omega⟩, ⟨by repeat (first | exact Below.refl _ _ | apply pw_below_drewN | apply below_drew1)⟩⟩
  case round =>
    obtain ⟨x, rfl, H0, H1, HG, HT, HB⟩ := hrel
    by_cases hlt : x < (n : Int)
    · have c4b0 : decide (x < (n : Int)) = true := decide_eq_true hlt
      obtain ⟨ad, v, rfl, hcell, hcall⟩ := HC.out x.toNat (by have := H0.out; omega)
      have hc1 := hcall wr HB.out
      have hx0 := H0.out
      replace hcell := pw_cell_below HB.out hcell
      have HL := Aside0.mk hlt
      have p4 := eq_true hx0
      have q4 := eq_true hlt
      cases hp : p x.toNat with
      | true =>
        rw [hp] at hc1
        have HP := Aside0.mk hp
        have HCl := Aside0.mk hc1
        clear hp hc1 hcall HC hlt hx0
        go_wp2_with (go_at_fn g; refine HCl.out.mono ?_; rintro e w2 ⟨rfl, hb2⟩; have n0_ := Aside0.mk (below_step HB.out hb2); clear HB hb2; have HB := n0_; clear n0_)
        go_ret
        exact ⟨congrArg (fun i => Ending.returned (Value.int .i64 i)) (by rw [idxN_hit p n x.toNat (by have := H0.out; have := HL.out; omega) (fun j hj => HT.out j (by omega)) HP.out]; have := H0.out; omega), HB.out⟩
      | false =>
        rw [hp] at hc1
        have HP := Aside0.mk hp
        have HCl := Aside0.mk hc1
        clear hp hc1 hcall HC hlt hx0
        go_wp2_with (go_at_fn g; refine HCl.out.mono ?_; rintro e w2 ⟨rfl, hb2⟩; have n0_ := Aside0.mk (below_step HB.out hb2); clear HB hb2; have HB := n0_; clear n0_)
        have hw : wrap64 (x + 1) = x + 1 := by have := HL.out; have := H0.out; have := HN.out; unfold wrap64; omega
        go_roundg (gk - 1)
        case measure => have := HG.out; have := HL.out; omega
        case rel =>
          refine ⟨wrap64 (x + 1), by first | rfl | (simp; done) | (simp [*]; done), ⟨by rw [hw]; have := H0.out; omega⟩, ⟨by rw [hw]; have := HL.out; omega⟩, ⟨by rw [hw]; have := HG.out; omega⟩, ⟨fun j hj => ?_⟩, HB⟩
          rw [hw] at hj
          by_cases e : (j : Int) < x
          · exact HT.out j e
          · have e2 : j = x.toNat := by have := H0.out; omega
            rw [e2]; exact HP.out
    · have c4b0 : decide (x < (n : Int)) = false := decide_eq_false hlt
      have hx : x = n := by have := H1.out; omega
      have HE := Aside0.mk (idxN_miss p n (fun j hj => HT.out j (by omega)))
      clear HC hlt hx
      go_wp2
      go_ret
      exact ⟨congrArg (fun i => Ending.returned (Value.int .i64 i)) HE.out.symm, HB.out⟩
set_option maxHeartbeats 1000000 in
set_option maxRecDepth 100000 in
theorem any_rows (p : Nat → Bool) (g : Nat) (lb : Array Value) (eg : ∀ args w, (callFunc g args).run Try.prog w = .ok (.enter g args) w) (A : Option Addr) (n c : Nat) (r : Bool) (w : World) (hn : n ≤ 9223372036854775807) (hr : anyN p n = r)
    (hcl : ∀ i, i < n → ∃ ad v, A = some ad ∧ w.cell? (ad.add i) = some v ∧ ∀ W, Below w.heap.size w W → Calls Try.prog g (#[v] ++ lb) W fun e W' => e = .returned (.bool (p i)) ∧ Below W.heap.size W W') :
    Calls Try.prog 60 #[.slice A n c, .func (.func g) #[] lb] w fun e w' => e = .returned (.bool r) ∧ Below w.heap.size w w' := by
  have HN := Aside0.mk hn
  have HC := Aside0.mk hcl
  have HR := Aside0.mk ((anyN_idx p n).trans hr)
  clear hcl hr
  go_enter Try.func60, Try.ntmps60
  go_wp2_with (go_at_call 68; refine (idx_rows p g lb eg _ _ _ _ HN.out HC.out).mono ?_; generalize idxN p n = m at HR; rintro e w' ⟨rfl, hb⟩)
  go_ret
  exact ⟨congrArg (fun b => Ending.returned (Value.bool b)) HR.out, hb⟩

end Go.Proofs.Ytgllnohlocfeoaa.Ext


namespace Go.Proofs.Ytgllnohlocfeoaa.Ext
set_option linter.unusedVariables false
set_option linter.unusedSimpArgs false
open Go.RowKit Go.Proofs.YtgllnohlocfeoaaW.PrintWords Go.Proofs.YtgllnohlocfeoaaW.PrintLast

-- EXT loop.example/g00582/impl.within
def impl_within.f (a0 : Int) (a1 : Int) (a2 : Int) : Option (Bool) := if a0 ≥ a1 then (some (decide (a0 ≤ a2))) else (some false)
set_option maxHeartbeats 8000000 in
set_option maxRecDepth 100000 in
theorem impl_within.calls (a0 : Int) (a1 : Int) (a2 : Int) (r : Bool) (w : World) (h : impl_within.f a0 a1 a2 = some r) :
    Calls Try.prog 58 #[.int .i64 a0, .int .i64 a1, .int .i64 a2] w fun e w' => e = .returned (.bool r) ∧ Drawn0 w w' := by
  have H : (if a0 ≥ a1 then (some (decide (a0 ≤ a2))) else (some false)) = some r := h
  clear h
  by_cases c4 : a0 ≥ a1
  · rw [if_pos c4] at H
    have c4b0 : decide (a1 ≤ a0) = true := decide_eq_true c4
    clear c4
    obtain rfl := Option.some.inj H
    go_enter Try.func58, Try.ntmps58
    go_wp2
    go_ret
    exact ⟨by first | rfl | (simp; done) | (simp [*]; done), by repeat (first | exact Drawn0.refl _ | apply Drawn0.step)⟩
  · rw [if_neg c4] at H
    have c4b0 : decide (a1 ≤ a0) = false := decide_eq_false c4
    clear c4
    obtain rfl := Option.some.inj H
    go_enter Try.func58, Try.ntmps58
    go_wp2
    go_ret
    exact ⟨by first | rfl | (simp; done) | (simp [*]; done), by repeat (first | exact Drawn0.refl _ | apply Drawn0.step)⟩

end Go.Proofs.Ytgllnohlocfeoaa.Ext


namespace Go.Proofs.Ytgllnohlocfeoaa.Ext
set_option linter.unusedVariables false
set_option linter.unusedSimpArgs false
open Go.RowKit Go.Proofs.YtgllnohlocfeoaaW.PrintWords Go.Proofs.YtgllnohlocfeoaaW.PrintLast Go.Proofs.Ytgllnohlocfeoaa.A

/-- A number of a map. -/
def inR (n : Nat) (k : Int) : Bool := decide (0 ≤ k) && decide (k ≤ (n : Int) - 1)
def rowOk (n : Nat) (l : List Int) : Bool := decide (l.length = n) && l.all (inR n)
def wellB (n : Nat) (L : List Int) (P : List (List Int)) : Bool := (!decide (n = 0) && decide (L.length = 3)) && (L.all (inR n) && (decide (P.length = n) && P.all (rowOk n)))
-- EXT loop.example/g00582/impl.wellFormed making
def impl_wellFormed.f (l0_0 : List (List Int)) (l0_1 : List Int) (l0_2 : List (List Int)) : Option Bool := some (wellB l0_0.length l0_1 l0_2)

theorem within_eq (k : Int) (n : Nat) : impl_within.f k 0 ((n : Int) - 1) = some (inR n k) := by
  unfold impl_within.f inR
  by_cases h : k ≥ 0
  · rw [if_pos h]; simp [show 0 ≤ k from h]
  · rw [if_neg h]; simp [show ¬ 0 ≤ k from h]
set_option maxHeartbeats 1000000 in
set_option maxRecDepth 100000 in
theorem well_bad (k : Int) (n : Nat) (g : Nat) (r : Bool) (W : World) (hn : n ≤ 9223372036854775807) (hr : (!inR n k) = r) (hc : W.cell? ⟨g, 0, none⟩ = some (.int .i64 n)) :
    Calls Try.prog 57 #[.int .i64 k, .pointer (some ⟨g, 0, none⟩)] W fun e W' => e = .returned (.bool r) ∧ Below W.heap.size W W' := by
  obtain rfl := hr
  have hw : (n : Int) - 1 = wrap64 ((n : Int) - 1) := by unfold wrap64; omega
  have hi := Aside0.mk (within_eq k n)
  generalize inR n k = b at hi ⊢
  have HN := Aside0.mk hn
  clear hw
  go_enter Try.func57, Try.ntmps57
  go_wp2_with (go_at_call 58; refine (impl_within.calls k 0 ((n : Int) - 1) b _ hi.out).mono ?_; rintro e w' ⟨rfl, ⟨nd, rfl⟩⟩)
  go_ret
  exact ⟨rfl, (Drawn0.step (Drawn0.refl _) _).below⟩
theorem anyN_ints (p : Int → Bool) (l : List Int) : anyN (fun i => p (rd l (i : Int))) l.length = l.any p := by
  unfold anyN
  rw [Bool.eq_iff_iff, List.any_eq_true, List.any_eq_true]
  constructor
  · rintro ⟨i, hi, hp⟩
    have hi := List.mem_range.1 hi
    refine ⟨l[i], List.getElem_mem hi, ?_⟩
    simpa [rd, hi] using hp
  · rintro ⟨x, hx, hp⟩
    obtain ⟨i, hi, rfl⟩ := List.mem_iff_getElem.1 hx
    exact ⟨i, List.mem_range.2 hi, by simpa [rd, hi] using hp⟩
theorem anyN_rows (p : List Int → Bool) (l : List (List Int)) : anyN (fun i => p (l.getD i [])) l.length = l.any p := by
  unfold anyN
  rw [Bool.eq_iff_iff, List.any_eq_true, List.any_eq_true]
  constructor
  · rintro ⟨i, hi, hp⟩
    have hi := List.mem_range.1 hi
    refine ⟨l[i], List.getElem_mem hi, ?_⟩
    simpa [hi] using hp
  · rintro ⟨x, hx, hp⟩
    obtain ⟨i, hi, rfl⟩ := List.mem_iff_getElem.1 hx
    exact ⟨i, List.mem_range.2 hi, by simpa [hi] using hp⟩
theorem not_all (p : Int → Bool) (l : List Int) : (!l.all p) = l.any fun x => !p x := by simp [List.any_eq_not_all_not]
/-- ContainsFunc over whole numbers with 'bad'. -/
theorem any_bad (A : Option Addr) (l : List Int) (c n g : Nat) (r : Bool) (w : World) (hl : Kd.C (Kd.int .i64) w A l.length l) (hn : n ≤ 9223372036854775807) (hg : g < w.heap.size) (hc : w.cell? ⟨g, 0, none⟩ = some (.int .i64 n)) (hr : (!l.all (inR n)) = r) :
    Calls Try.prog 59 #[.slice A l.length c, .func (.func 57) #[] #[.pointer (some ⟨g, 0, none⟩)]] w fun e w' => e = .returned (.bool r) ∧ Below w.heap.size w w' := by
  refine any_ints (fun i => !inR n (rd l (i : Int))) 57 _ (enters_of Try.func57 (by kernel_rfl) rfl) A l.length c r w hl.2.1 ?_ ?_
  · rw [anyN_ints (fun k => !inR n k) l, ← not_all]; exact hr
  · intro i hi
    obtain ⟨ad, e, hx⟩ := Kd.at_int hl (i : Int) (by omega) (by omega)
    refine ⟨ad, _, e, by simpa using hx, fun W hb => ?_⟩
    exact well_bad _ n g _ W hn rfl ((hb.cell (p := ⟨g, 0, none⟩) hg).trans hc)
set_option maxHeartbeats 2000000 in
set_option maxRecDepth 100000 in
theorem well_row (A : Option Addr) (l : List Int) (c n g q : Nat) (r : Bool) (W : World) (hl : Kd.C (Kd.int .i64) W A l.length l) (hn : n ≤ 9223372036854775807) (hg : g < W.heap.size) (hc : W.cell? ⟨g, 0, none⟩ = some (.int .i64 n))
    (hq : W.cell? ⟨q, 0, none⟩ = some (.func (.func 57) #[] #[.pointer (some ⟨g, 0, none⟩)])) (hr : (!rowOk n l) = r) :
    Calls Try.prog 61 #[.slice A l.length c, .pointer (some ⟨g, 0, none⟩), .pointer (some ⟨q, 0, none⟩)] W fun e W' => e = .returned (.bool r) ∧ Below W.heap.size W W' := by
  have HL := Aside0.mk hl
  have HN := Aside0.mk hn
  have HG := Aside0.mk hg
  have HC := Aside0.mk hc
  clear hl hg
  by_cases h : l.length = n
  · have c3b1 : ((l.length : Int) != (n : Int)) = false := by rw [h]; exact bne_self_eq_false _
    have c3b2 : (l.length != n) = false := by rw [h]; exact bne_self_eq_false _
    have HR := Aside0.mk (show (!l.all (inR n)) = r by rw [← hr]; simp [rowOk, h])
    clear h hr
    go_enter Try.func61, Try.ntmps61
    go_wp2_with (go_at_call 59; refine (any_bad _ l _ n g r _ HL.out HN.out HG.out HC.out HR.out).mono ?_; rintro e w' ⟨rfl, hb⟩)
    go_ret
    exact ⟨rfl, hb⟩
  · have c3b1 : ((l.length : Int) != (n : Int)) = true := bne_iff_ne.mpr (by omega)
    have c3b2 : (l.length != n) = true := bne_iff_ne.mpr h
    have HR := Aside0.mk (show true = r by rw [← hr]; simp [rowOk, h])
    clear h hr
    go_enter Try.func61, Try.ntmps61
    go_wp2
    go_ret
    exact ⟨congrArg (fun b => Ending.returned (Value.bool b)) HR.out, Below.refl _ _⟩
theorem not_allP {α : Type} (p : α → Bool) (l : List α) : (!l.all p) = l.any fun x => !p x := by simp [List.any_eq_not_all_not]
/-- ContainsFunc over a table with the second closure. -/
theorem any_row (A : Option Addr) (l : List (List Int)) (c n g q : Nat) (r : Bool) (w : World) (hl : Kd.C (Kd.slice 3 (Kd.int .i64)) w A l.length l) (hn : n ≤ 9223372036854775807) (hc : w.cell? ⟨g, 0, none⟩ = some (.int .i64 n))
    (hq : w.cell? ⟨q, 0, none⟩ = some (.func (.func 57) #[] #[.pointer (some ⟨g, 0, none⟩)])) (hr : (!l.all (rowOk n)) = r) :
    Calls Try.prog 60 #[.slice A l.length c, .func (.func 61) #[] #[.pointer (some ⟨g, 0, none⟩), .pointer (some ⟨q, 0, none⟩)]] w fun e w' => e = .returned (.bool r) ∧ Below w.heap.size w w' := by
  refine any_rows (fun i => !rowOk n (l.getD i [])) 61 _ (enters_of Try.func61 (by kernel_rfl) rfl) A l.length c r w hl.2.1 ?_ ?_
  · rw [anyN_rows (fun x => !rowOk n x) l, ← not_allP]; exact hr
  · intro i hi
    obtain ⟨ad, A', c', row, e, hx, hle, hC, he⟩ := at_rows hl (i : Int) (by omega) (by omega)
    have he := he.out
    rw [Int.toNat_natCast] at he hx
    subst he
    refine ⟨ad, _, e, hx, fun W hb => ?_⟩
    exact well_row A' _ c' n g q _ W (Kd.C_below hC hb) hn (World.block_lt_of_cell? W _ (pw_cell_below hb hc)) (pw_cell_below hb hc) (pw_cell_below hb hq) rfl
set_option maxHeartbeats 4000000 in
set_option maxRecDepth 100000 in
theorem impl_wellFormed.calls (A0_0 : Option Addr) (c0_0 : Nat) (l0_0 : List (List Int)) (A0_1 : Option Addr) (c0_1 : Nat) (l0_1 : List Int) (A0_2 : Option Addr) (c0_2 : Nat) (l0_2 : List (List Int)) (r : Bool) (w : World) (hr0_0 : Kd.C (Kd.slice 3 (Kd.int .i64)) w A0_0 l0_0.length l0_0) (hc0_0 : l0_0.length ≤ c0_0) (hr0_1 : Kd.C (Kd.int .i64) w A0_1 l0_1.length l0_1) (hc0_1 : l0_1.length ≤ c0_1) (hr0_2 : Kd.C (Kd.slice 3 (Kd.int .i64)) w A0_2 l0_2.length l0_2) (hc0_2 : l0_2.length ≤ c0_2) (h : impl_wellFormed.f l0_0 l0_1 l0_2 = some r) :
    Calls Try.prog 43 #[.agg #[.slice A0_0 l0_0.length c0_0, .slice A0_1 l0_1.length c0_1, .slice A0_2 l0_2.length c0_2]] w fun e w' => e = .returned (.bool r) ∧ Below w.heap.size w w' := by
  obtain rfl := Option.some.inj h
  have HA := Aside0.mk hr0_0
  have HB := Aside0.mk hr0_1
  have HC := Aside0.mk hr0_2
  clear hr0_0 hr0_1 hr0_2 hc0_0 hc0_1 hc0_2 h
  go_enter Try.func43, Try.ntmps43
  have HN := Aside0.mk HA.out.2.1
  have h2 := Aside0.mk HA
  by_cases c1 : l0_0.length = 0
  · have HE := Aside0.mk (show wellB l0_0.length l0_1 l0_2 = false by simp [wellB, c1])
    have d1 : ((l0_0.length : Int) == 0) = true := by rw [c1]; rfl
    clear c1
    go_wp2
    go_ret
    exact ⟨congrArg (fun b => Ending.returned (Value.bool b)) HE.out.symm, by repeat (first | exact Below.refl _ _ | apply below_alloc)⟩
  · have d1 : ((l0_0.length : Int) == 0) = false := beq_eq_false_iff_ne.mpr (by omega)
    have C1 := Aside0.mk c1
    clear c1
    by_cases c2 : l0_1.length = 3
    · have d2 : ((l0_1.length : Int) != 3) = false := by rw [c2]; rfl
      have C2 := Aside0.mk c2
      clear c2
      cases c3 : l0_1.all (inR l0_0.length) with
      | false =>
        have C3 := Aside0.mk (show (!l0_1.all (inR l0_0.length)) = true by rw [c3]; rfl)
        have HE := Aside0.mk (show wellB l0_0.length l0_1 l0_2 = false by simp [wellB, c3])
        clear c3
        go_wp2_with (go_at_call 59; refine (any_bad _ l0_1 _ l0_0.length (w.heap.size + 1) true _ ?ha HN.out ?hb ?hc C3.out).mono ?_; (case ha => repeat (first | (with_reducible exact HB.out) | (with_reducible refine Kd.C_alloc ?_ _))); (case hb => go_simp); (case hc => go_simp); rintro e w2 ⟨rfl, hb⟩; have HW := Aside0.mk hb; clear hb)
        go_ret
        exact ⟨congrArg (fun b => Ending.returned (Value.bool b)) HE.out.symm, below_step (by repeat (first | exact Below.refl _ _ | apply below_alloc)) HW.out⟩
      | true =>
        have C3 := Aside0.mk (show (!l0_1.all (inR l0_0.length)) = false by rw [c3]; rfl)
        by_cases c4 : l0_2.length = l0_0.length
        · have d4 : ((l0_2.length : Int) != (l0_0.length : Int)) = false := by rw [c4]; exact bne_self_eq_false _
          have d5 : (l0_2.length != l0_0.length) = false := by rw [c4]; exact bne_self_eq_false _
          have HE := Aside0.mk (show wellB l0_0.length l0_1 l0_2 = !!l0_2.all (rowOk l0_0.length) by simp [wellB, c3, c4, C1.out, C2.out])
          clear c3 c4
          generalize hm : (!l0_2.all (rowOk l0_0.length)) = m at HE
          have HM := Aside0.mk hm
          clear hm
          go_wp2_with (first | (go_at_call 59; refine (any_bad _ l0_1 _ l0_0.length (w.heap.size + 1) false _ ?ha HN.out ?hb ?hc C3.out).mono ?_; (case ha => repeat (first | (with_reducible exact HB.out) | (with_reducible refine Kd.C_alloc ?_ _))); (case hb => go_simp); (case hc => go_simp); rintro e w2 ⟨rfl, hb⟩; have k1 : w2.cell? ⟨w.heap.size, 2, none⟩ = some (.slice A0_2 l0_2.length c0_2) := pw_cell_below hb (by go_simp); have k2 : w2.cell? ⟨w.heap.size + 1, 0, none⟩ = some (.int .i64 l0_0.length) := pw_cell_below hb (by go_simp); have k3 : w2.cell? ⟨w.heap.size + 1 + 1, 0, none⟩ = some (.func (.func 57) #[] #[.pointer (some ⟨w.heap.size + 1, 0, none⟩)]) := pw_cell_below hb (by go_simp); have K2 := Aside0.mk k2; have K3 := Aside0.mk k3; have HW := Aside0.mk (show Below w.heap.size w w2 from below_step (by repeat (first | exact Below.refl _ _ | apply below_alloc)) hb); clear hb) | (go_at_call 60; refine (any_row _ l0_2 _ l0_0.length (w.heap.size + 1) (w.heap.size + 1 + 1) m _ (Kd.C_below HC.out HW.out) HN.out K2.out K3.out HM.out).mono ?_; rintro e w3 ⟨rfl, hb3⟩; have HW3 := Aside0.mk hb3; clear hb3))
          go_ret
          exact ⟨congrArg (fun b => Ending.returned (Value.bool b)) HE.out.symm, below_step HW.out HW3.out⟩
        · have d4 : ((l0_2.length : Int) != (l0_0.length : Int)) = true := bne_iff_ne.mpr (by omega)
          have d5 : (l0_2.length != l0_0.length) = true := bne_iff_ne.mpr c4
          have HE := Aside0.mk (show wellB l0_0.length l0_1 l0_2 = false by simp [wellB, c4])
          clear c3 c4
          go_wp2_with (first | (go_at_call 59; refine (any_bad _ l0_1 _ l0_0.length (w.heap.size + 1) false _ ?ha HN.out ?hb ?hc C3.out).mono ?_; (case ha => repeat (first | (with_reducible exact HB.out) | (with_reducible refine Kd.C_alloc ?_ _))); (case hb => go_simp); (case hc => go_simp); rintro e w2 ⟨rfl, hb⟩; have k1 : w2.cell? ⟨w.heap.size, 2, none⟩ = some (.slice A0_2 l0_2.length c0_2) := pw_cell_below hb (by go_simp); have k2 : w2.cell? ⟨w.heap.size + 1, 0, none⟩ = some (.int .i64 l0_0.length) := pw_cell_below hb (by go_simp); have HW := Aside0.mk (show Below w.heap.size w w2 from below_step (by repeat (first | exact Below.refl _ _ | apply below_alloc)) hb); clear hb))
          go_ret
          exact ⟨congrArg (fun b => Ending.returned (Value.bool b)) HE.out.symm, HW.out⟩
    · have d2 : ((l0_1.length : Int) != 3) = true := bne_iff_ne.mpr (by omega)
      have HE := Aside0.mk (show wellB l0_0.length l0_1 l0_2 = false by simp [wellB, c2])
      clear c2
      go_wp2
      go_ret
      exact ⟨congrArg (fun b => Ending.returned (Value.bool b)) HE.out.symm, by repeat (first | exact Below.refl _ _ | apply below_alloc)⟩

end Go.Proofs.Ytgllnohlocfeoaa.Ext


namespace Go.Proofs.Ytgllnohlocfeoaa.Ext
set_option linter.unusedVariables false
set_option linter.unusedSimpArgs false
open Go Go.RowKit Go.Maps Go.Proofs.YtgllnohlocfeoaaW.PrintWords Go.Proofs.YtgllnohlocfeoaaW.PrintLast

theorem keyI : Keyed Try.prog 3 := int_keyed Try.underlying3
theorem zeroI (w : World) : (zeroValue 3).run Try.prog w = .ok (.int .i64 0) w := by kernel_rfl
/-- Block b is a map that has just the keys of xs; it was written at most n times. -/
def MapIs (w : World) (b n : Nat) (xs : List Int) : Prop :=
  ∃ D : DataW Unit, w.ownsMap Try.prog 3 (plainElem Try.prog 3) b n D ∧ IsMap D ∧ ∀ y : Int, Maps.has D (.int .i64 y) = decide (y ∈ xs)
theorem MapIs.made (w : World) : MapIs (w.alloc (.map #[] 0)) w.heap.size 0 [] :=
  ⟨.map [], World.ownsMap_made _ _ _ _, ⟨[], rfl⟩, fun y => by simp [Maps.has]⟩
theorem MapIs.lt {w : World} {b n : Nat} {xs : List Int} (h : MapIs w b n xs) : b < w.heap.size := by
  obtain ⟨D, h, _⟩ := h
  exact h.lt
theorem MapIs.kept {w w' : World} {b n : Nat} {xs : List Int} {row : Option Nat} (h : MapIs w b n xs) (hg : w.grownBy w' row) (hne : some b ≠ row) : MapIs w' b n xs := by
  obtain ⟨D, h, h1, h2⟩ := h
  exact ⟨D, h.kept hg hne, h1, h2⟩
theorem MapIs.below {w w' : World} {b n : Nat} {xs : List Int} (h : MapIs w b n xs) (hb : Below w.heap.size w w') : MapIs w' b n xs := by
  have hl := h.lt
  obtain ⟨D, ⟨es, clock, h0, h1⟩, h2⟩ := h
  exact ⟨D, ⟨es, clock, (hb.block b hl).trans h0, h1⟩, h2⟩
theorem MapIs.drew {w : World} {b n : Nat} {xs : List Int} (h : MapIs w b n xs) : MapIs w.drew b n xs := h.below (below_drew1 (Below.refl _ _))
theorem MapIs.alloc {w : World} {b n : Nat} {xs : List Int} (h : MapIs w b n xs) (o : Obj) : MapIs (w.alloc o) b n xs := h.below (below_alloc (Below.refl _ _) o)
theorem MapIs.cell {w : World} {b n : Nat} {xs : List Int} (h : MapIs w b n xs) {t : TypeId} {cs : Array Value} {q : Nat × Nat} : w.heap[b]? ≠ some (.cells cs t q) := by
  obtain ⟨D, ⟨es, clock, h0, _⟩, _⟩ := h
  rw [h0]
  intro e
  cases e
theorem MapIs.step {D D' : DataW Unit} {xs : List Int} {y : Int} {d : DataW Unit} (h1 : IsMap D) (h2 : ∀ y : Int, Maps.has D (.int .i64 y) = decide (y ∈ xs)) : IsMap (D.put (.int .i64 y) d) ∧ ∀ z : Int, Maps.has (D.put (.int .i64 y) d) (.int .i64 z) = decide (z ∈ xs ++ [y]) := by
  refine ⟨h1.put _ _, fun z => ?_⟩
  by_cases e : z = y
  · subst e
    rw [has_put_same h1 (by exact trivial)]
    simp
  · rw [has_put_other (by intro hh; injection hh with _ hh; exact e hh), h2]
    simp [e]
theorem wf_i64 {x : Int} (h0 : -9223372036854775808 ≤ x) (h1 : x ≤ 9223372036854775807) : (Lit.int .i64 x).wf = true := WalkArith.wf_i64 ⟨h0, h1⟩
theorem map_insert {w : World} {ops : Array Oper} {rest : List Oper} {o : Oper} {a : Act} {Q : Exit → Act → World → Prop} (hg : o.guard = none) (m x v : Operand) (hop : o.op = Op.insert 83 m x v) (b n : Nat) (xs : List Int)
    (hm : a.eval m = .map (some b)) (hown : MapIs w b n xs) (hn : n < 9223372036854775807) (y c : Int) (hx : a.eval x = .int .i64 y) (hv : a.eval v = .int .i64 c) (wy : (Lit.int .i64 y).wf = true) (wc : (Lit.int .i64 c).wf = true)
    (hK : ∀ w', MapIs w' b (n + 1) (xs ++ [y]) → w.grownBy w' (some b) → wpList Try.prog ops Q rest (a.put o.dst undef) w') : wpList Try.prog ops Q (o :: rest) a w := by
  obtain ⟨D, hD, h1, h2⟩ := hown
  refine wpList_plain hg fun K' hK' => ?_
  obtain ⟨w', hrun, r1, r2⟩ := hD.update keyI Try.underlying83 (by unfold maxLen; omega) (keyOf_int_mk Try.underlying3 wy) (plainElem_int Try.underlying3 wc)
  unfold Oper.wp
  simp [execOp, hop, hm, hx, hv, hrun, Result.andThen]
  obtain ⟨g1, g2⟩ := MapIs.step (D' := D) (y := y) (d := .lit (.int .i64 c)) h1 h2
  exact hK' _ _ (hK w' ⟨_, r1, g1, g2⟩ r2)
theorem map_update {w : World} {ops : Array Oper} {rest : List Oper} {o : Oper} {a : Act} {Q : Exit → Act → World → Prop} (hg : o.guard = none) (m x v : Operand) (hop : o.op = Op.mapUpdate 83 m x v) (b n : Nat) (xs : List Int)
    (hm : a.eval m = .map (some b)) (hown : MapIs w b n xs) (hn : n < 9223372036854775807) (y c : Int) (hx : a.eval x = .int .i64 y) (hv : a.eval v = .int .i64 c) (wy : (Lit.int .i64 y).wf = true) (wc : (Lit.int .i64 c).wf = true)
    (hK : ∀ w', MapIs w' b (n + 1) (xs ++ [y]) → w.grownBy w' (some b) → wpList Try.prog ops Q rest (a.put o.dst undef) w') : wpList Try.prog ops Q (o :: rest) a w := by
  obtain ⟨D, hD, h1, h2⟩ := hown
  refine wpList_mapUpdate_own w hg m x v 83 hop 3 3 keyI Try.underlying83 (plainElem Try.prog 3) b n D hm hD (by unfold maxLen; omega) _ _ _ hx hv (keyOf_int_mk Try.underlying3 wy) _ [] (plainElem_int Try.underlying3 wc) fun w' r1 r2 => ?_
  obtain ⟨g1, g2⟩ := MapIs.step (D' := D) (y := y) (d := .lit (.int .i64 c)) h1 h2
  exact hK w' ⟨_, r1, g1, g2⟩ r2
theorem map_lookup {w : World} {ops : Array Oper} {rest : List Oper} {o : Oper} {a : Act} {Q : Exit → Act → World → Prop} (hg : o.guard = none) (m x : Operand) (hop : o.op = Op.lookup 83 m x true) (b n : Nat) (xs : List Int)
    (hm : a.eval m = .map (some b)) (hown : MapIs w b n xs) (y : Int) (hx : a.eval x = .int .i64 y) (wy : (Lit.int .i64 y).wf = true) (r : Bool) (hr : decide (y ∈ xs) = r)
    (hK : ∀ c : Int, wpList Try.prog ops Q rest (a.put o.dst (.tuple #[.int .i64 c, .bool r])) w) : wpList Try.prog ops Q (o :: rest) a w := by
  obtain ⟨D, hD, h1, h2⟩ := hown
  refine wpList_lookup_own_ok_int w hg m x 83 hop 3 3 .i64 keyI Try.underlying83 Try.underlying3 (zeroI w) b n D hm hD _ _ hx (keyOf_int_mk Try.underlying3 wy) fun c _ _ => ?_
  rw [h2 y, hr]
  exact hK c
section
variable {P : Program} {ops : Array Oper} {rest : List Oper} {o : Oper} {a : Act} {Q : Exit → Act → World → Prop} {W : World}
theorem gate_insert {t : TypeId} {m x v : Operand} (_ho : o.op = .insert t m x v) (h : wpList P ops Q (o :: rest) a W) : wpList P ops Q (o :: rest) a W := h
theorem gate_update {t : TypeId} {m x v : Operand} (_ho : o.op = .mapUpdate t m x v) (h : wpList P ops Q (o :: rest) a W) : wpList P ops Q (o :: rest) a W := h
theorem gate_lookup {t : TypeId} {m x : Operand} {c : Bool} (_ho : o.op = .lookup t m x c) (h : wpList P ops Q (o :: rest) a W) : wpList P ops Q (o :: rest) a W := h
end
end Go.Proofs.Ytgllnohlocfeoaa.Ext

namespace Go.Proofs.Ytgllnohlocfeoaa.Ext
set_option linter.unusedVariables false
set_option linter.unusedSimpArgs false
open Go Go.RowKit Go.Proofs.YtgllnohlocfeoaaW.PrintWords Go.Proofs.YtgllnohlocfeoaaW.PrintLast Go.Proofs.Ytgllnohlocfeoaa.A

def letB (j : Int) : ByteArray := (⟨#[97, 98, 99]⟩ : ByteArray).extract (j : Int).toNat ((j + 1) : Int).toNat
mutual
/-- The search from number i on. -/
def fwI (G : Int → Bool) (N : Int → Int → Int) : Nat → List Int → List ByteArray → Int → Option (ByteArray × Bool)
  | 0, _, _, _ => none
  | k + 1, xs, ws, i => if i < (xs.length : Int) then (if G (rd xs i) = true then some (rdOf ByteArray.empty ws i, true) else fwJ G N k xs ws i 0) else some ((⟨#[]⟩ : ByteArray), false)
def fwJ (G : Int → Bool) (N : Int → Int → Int) : Nat → List Int → List ByteArray → Int → Int → Option (ByteArray × Bool)
  | 0, _, _, _, _ => none
  | k + 1, xs, ws, i, j => if j < 3 then (if decide (N (rd xs i) j ∈ xs) = true then fwJ G N k xs ws i (j + 1) else if xs.length < 4000000 ∧ (rdOf ByteArray.empty ws i).size ≤ 4000000 then fwJ G N k (xs ++ [N (rd xs i) j]) (ws ++ [rdOf ByteArray.empty ws i ++ letB j]) i (j + 1) else none) else fwI G N k xs ws (i + 1)
end
theorem R_map {α : Type} {d : Kd α} {e base : Nat} {ok : Nat → Prop} {w w1 : World} {v : Value} {xs : List α} {b n : Nat} {ys : List Int} (h : d.R e w base ok v xs) (hE : d.E = []) (hp : 0 < xs.length) (hm : MapIs w b n ys) (hg : w.grownBy w1 (some b)) : d.R e w1 base ok v xs := by
  refine Kd.R_grown2 h hE hg fun k hk => ?_
  obtain ⟨g, cap, rfl, _, _, cells, hc⟩ := Kd.R_form h hp
  intro e'
  injection hk with hk
  subst hk
  have : b = g := by simpa [Value.ownBlock] using e'
  subst this
  exact hm.cell hc
theorem map_R {α : Type} {d : Kd α} {e base : Nat} {ok : Nat → Prop} {w w1 : World} {v : Value} {xs : List α} {b n : Nat} {ys : List Int} (h : d.R e w base ok v xs) (hp : 0 < xs.length) (hm : MapIs w b n ys) (hg : w.grownBy w1 v.ownBlock) : MapIs w1 b n ys := by
  refine hm.kept hg ?_
  obtain ⟨g, cap, rfl, _, _, cells, hc⟩ := Kd.R_form h hp
  intro e'
  have : b = g := by simpa [Value.ownBlock] using e'
  subst this
  exact hm.cell hc
def fw_T : Bool × List (List Nat × List Nat) := (true, [([], []), ([], []), ([], []), ([1, 2], [1, 2]), ([3], [3]), ([], []), ([], []), ([6], [6]), ([5, 7], [5, 7]), ([4, 8], [4, 8]), ([9], [9]), ([0, 10], [0, 10]), ([11, 11, 0, 1, 2, 3, 4, 5, 6, 7, 8, 9, 10, 11], [0, 1, 11])])
def fw_B : List Nat := [0, 0, 0, 6, 14, 0, 0, 64, 224, 510, 1022, 2047, 4095]
theorem fw_tab : rtab .any (opsOf Try.f44 17) = fw_T := by kernel_rfl
theorem fw_bits : waitsOk fw_T.2 fw_B = true := by kernel_rfl
theorem rd_mem {xs : List Int} {i : Int} (h0 : 0 ≤ i) (h1 : i < (xs.length : Int)) : rd xs i ∈ xs := by
  have hi : i.toNat < xs.length := by omega
  unfold rd
  rw [List.getD_eq_getElem?_getD, List.getElem?_eq_getElem hi]
  exact List.getElem_mem hi
set_option maxHeartbeats 4000000 in
set_option maxRecDepth 100000 in
theorem first_word (G : Int → Bool) (N : Int → Int → Int) (n : Nat) (hn1 : n ≤ 4000000) (g1 : Nat) (lb1 : Array Value) (eg1 : ∀ args w, (callFunc g1 args).run Try.prog w = .ok (.enter g1 args) w) (g2 : Nat) (lb2 : Array Value) (eg2 : ∀ args w, (callFunc g2 args).run Try.prog w = .ok (.enter g2 args) w)
    (k : Nat) (r1 : ByteArray) (r2 : Bool) (w : World) (hn : 0 < n) (hN : ∀ x j : Int, 0 ≤ x → x < n → 0 ≤ j → j < 3 → 0 ≤ N x j ∧ N x j < n)
    (hg : ∀ (x : Int) (W : World), 0 ≤ x → x < n → Below w.heap.size w W → Calls Try.prog g1 (#[.int .i64 x] ++ lb1) W fun e W' => e = .returned (.bool (G x)) ∧ Below W.heap.size W W')
    (hx : ∀ (x j : Int) (W : World), 0 ≤ x → x < n → 0 ≤ j → j < 3 → Below w.heap.size w W → Calls Try.prog g2 (#[.int .i64 x, .int .i64 j] ++ lb2) W fun e W' => e = .returned (.int .i64 (N x j)) ∧ Below W.heap.size W W')
    (h : fwI G N k [0] [(⟨#[]⟩ : ByteArray)] 0 = some (r1, r2)) :
    Calls Try.prog 44 #[.int .i64 0, .func (.func g1) #[] lb1, .func (.func g2) #[] lb2] w fun e w' => e = .returned (.tuple #[.string r1, .bool r2]) ∧ Below w.heap.size w w' := by
  have HB := Aside0.mk (Below.refl w.heap.size w)
  have H' := Aside0.mk h
  have HG := Aside0.mk hg
  have HX := Aside0.mk hx
  have HN := Aside0.mk hN
  have Hn := Aside0.mk hn
  have Hn1 := Aside0.mk hn1
  clear h hg hx hN hn hn1
  have hmm := @run_makeMap Try.prog
  go_enter Try.func44, Try.ntmps44
  go_wp2_with (first
    | ((with_reducible refine gate_dst (N := 17) rfl ?_); refine Kd.R_lit (Kd.int .i64) _ 3 ?hg (N := 17) ?hd (xs := ([0] : List Int)) (inner := [.int .i64 0]) (ok := fun _ => True) (okp := fun _ => True) ?hr ?hp (fun _ hk => hk) trivial (Below.refl _ _) (Nat.le_refl _) (by simp) ?_; (case hd => rfl); (case hg => rfl); (case hr => first | (go_simp; done) | (go_simp; rfl)); (case hp => exact (Reps.one (show Kd.M (Kd.int .i64) _ _ _ 0 [.int .i64 0] from rfl) (Reps.none _ _))); intro v8 w8 ho8 hb hg_ hnew_; clear hg_ hnew_; have n0_ := Aside0.mk (Kd.R_lower ho8 HB.out.size); have n1_ := Aside0.mk (below_step HB.out hb); clear HB hb ho8; have HO8 := n0_; have HB := n1_; clear n0_ n1_)
    | ((with_reducible refine gate_dst (N := 18) rfl ?_); refine Kd.R_lit Kd.string _ 9 ?hg (N := 18) ?hd (xs := ([(⟨#[]⟩ : ByteArray)] : List ByteArray)) (inner := [.string (⟨#[]⟩ : ByteArray)]) (ok := fun _ => True) (okp := fun _ => True) ?hr ?hp (fun _ hk => hk) trivial (Below.refl _ _) (Nat.le_refl _) (by simp) ?_; (case hd => rfl); (case hg => rfl); (case hr => first | (go_simp; done) | (go_simp; rfl)); (case hp => exact (Reps.one (show Kd.M Kd.string _ _ _ (⟨#[]⟩ : ByteArray) [.string (⟨#[]⟩ : ByteArray)] from rfl) (Reps.none _ _))); intro v9 w9 ho9 hb hg_ hnew_; clear hg_ hnew_; have n0_ := Aside0.mk (Kd.R_lower ho9 (below_size (by repeat (first | exact HB.out | apply pw_below_drewN | apply below_drew1)))); have n1_ := Aside0.mk (Kd.R_below (by (with_reducible repeat (first | apply Kd.R_alloc | apply Kd.R_drewN | apply Kd.R_drew)); exact HO8.out) hb); have n2_ := Aside0.mk (below_step (by repeat (first | exact HB.out | apply pw_below_drewN | apply below_drew1)) hb); clear HB hb ho9 HO8; have HO9 := n0_; have HO8 := n1_; have HB := n2_; clear n0_ n1_ n2_)
    | ((with_reducible refine gate_insert (t := 83) rfl ?_); refine map_insert rfl _ _ _ rfl w9.heap.size 0 [] rfl (MapIs.made w9) (by decide) 0 0 rfl rfl (by decide) (by decide) ?_; intro w10 hm10 hg10; have GE := Aside0.mk HB.out.size; have n0_ := Aside0.mk (R_map (Kd.R_alloc HO8.out _) rfl (by simp) (MapIs.made w9) hg10); have n1_ := Aside0.mk (R_map (Kd.R_alloc HO9.out _) rfl (by simp) (MapIs.made w9) hg10); have n2_ := Aside0.mk (Below.grown (below_alloc HB.out _) hg10 (below_size (below_alloc HB.out _)) (fun k hk => by injection hk with hk; rw [← hk]; exact HB.out.size)); have n3_ := Aside0.mk hm10; clear HO8 HO9 HB hm10 hg10; have HO8 := n0_; have HO9 := n1_; have HB := n2_; have HM := n3_; clear n0_ n1_ n2_ n3_))
  clear hmm
  go_loopg [8, 9, 11] k (fun kq v8 v9 v11 w' => ∃ (xs : List Int) (ws : List ByteArray) (i : Int) (m : Nat), v11 = .int .i64 i ∧ Aside0 (fwI G N kq xs ws i = some (r1, r2)) ∧ Aside0 (kq ≤ k) ∧ Aside0 (0 ≤ i ∧ i ≤ xs.length) ∧ Aside0 (0 < xs.length ∧ xs.length = ws.length ∧ m ≤ xs.length) ∧ Aside0 (∀ x ∈ xs, 0 ≤ x ∧ x < n) ∧ Aside0 (xs.length ≤ 4000000) ∧ Aside0 (Kd.R (Kd.int .i64) 3 w' w.heap.size (fun _ => True) v8 xs) ∧ Aside0 (Kd.R Kd.string 9 w' w.heap.size (fun _ => True) v9 ws) ∧ Aside0 (MapIs w' w9.heap.size m xs) ∧ Aside0 (Below w.heap.size w w'))
  case atStart => exact ⟨[0], [(⟨#[]⟩ : ByteArray)], 0, 1, (by first | rfl | (simp; done)), H', ⟨Nat.le_refl _⟩, ⟨by simp⟩, ⟨by simp⟩, ⟨by have := Hn.out; simp; omega⟩, ⟨by simp⟩, ⟨by (with_reducible repeat (first | apply Kd.R_alloc | apply Kd.R_drewN | apply Kd.R_drew)); exact HO8.out⟩, ⟨by (with_reducible repeat (first | apply Kd.R_alloc | apply Kd.R_drewN | apply Kd.R_drew)); exact HO9.out⟩, ⟨by (with_reducible repeat (first | apply MapIs.alloc | apply MapIs.drew)); exact HM.out⟩, ⟨by repeat (first | (with_reducible first | exact HB.out | apply below_alloc | apply pw_below_drewN | apply below_drew1) | exact HB.out)⟩⟩
  case round =>
    clear H' HO8 HO9 HM HB
    obtain ⟨xs, ws, i, m, rfl, HA, HK1, HI, HL, HR, HS, HO8, HO9, HM, HB⟩ := hrel
    cases gk with
    | zero => exact absurd HA.out (by simp [fwI])
    | succ k1 =>
      have H := HA.out
      clear HA
      simp only [fwI] at H
      by_cases c1 : i < (xs.length : Int)
      · rw [if_pos c1] at H
        have hxi := HR.out _ (rd_mem HI.out.1 c1)
        have hcall := HG.out (rd xs i) wr hxi.1 hxi.2 HB.out
        have c1b0 : decide (i < (xs.length : Int)) = true := decide_eq_true c1
        have p1 := HI.out.1
        have q2 : i < (ws.length : Int) := by have := HL.out.2.1; omega
        obtain ⟨Ao, co, eo⟩ := Kd.R_slice HO8.out
        subst eo
        obtain ⟨ad, e1, hx1⟩ := Kd.at_int (Kd.R_reads' HO8.out).2.2 i p1 c1
        cases e1
        cases hGx : G (rd xs i) with
        | true =>
          rw [hGx] at hcall H
          simp only [if_true, Option.some.injEq, Prod.mk.injEq] at H
          obtain ⟨rfl, rfl⟩ := H
          obtain ⟨Ap, cp, ep⟩ := Kd.R_slice HO9.out
          subst ep
          obtain ⟨ae, e2, hx2⟩ := Kd.at_string (Kd.R_reads' HO9.out).2.2 i p1 q2
          cases e2
          have HC := Aside0.mk hcall
          clear hcall HG HX
          have q1 := eq_true c1
          replace p1 := eq_true p1
          replace q2 := eq_true q2
          clear c1
          go_wp2_with (go_at_fn g1; refine HC.out.mono ?_; rintro e w2 ⟨rfl, hb2⟩; replace hx2 := pw_cell_below hb2 hx2; have n0_ := Aside0.mk (below_step HB.out hb2); clear HB hb2; have HB := n0_; clear n0_)
          go_ret2
          exact ⟨rfl, by repeat (first | (with_reducible first | exact HB.out | apply below_alloc | apply pw_below_drewN | apply below_drew1) | exact HB.out)⟩
        | false =>
          rw [hGx] at hcall H
          simp only [Bool.false_eq_true, if_false] at H
          have HH := Aside0.mk H
          have HC := Aside0.mk hcall
          clear hcall H
          have q1 := eq_true c1
          have HI2 := Aside0.mk (And.intro p1 c1)
          replace p1 := eq_true p1
          clear c1 q2
          go_wp2_with (go_at_fn g1; refine HC.out.mono ?_; rintro e w2 ⟨rfl, hb2⟩; have n0_ := Aside0.mk (below_step HB.out hb2); have n1_ := Aside0.mk (Kd.R_below HO8.out hb2); have n2_ := Aside0.mk (Kd.R_below HO9.out hb2); have n3_ := Aside0.mk (HM.out.below hb2); clear HB HO8 HO9 HM hb2; have HB := n0_; have HO8 := n1_; have HO9 := n2_; have HM := n3_; clear n0_ n1_ n2_ n3_)
          go_loopg [8, 9, 38] k1 (fun kq v8 v9 v38 w' => ∃ (xs2 : List Int) (ws2 : List ByteArray) (j : Int) (m2 : Nat), v38 = .int .i64 j ∧ Aside0 (fwJ G N kq xs2 ws2 i j = some (r1, r2)) ∧ Aside0 (kq ≤ k1) ∧ Aside0 (0 ≤ i ∧ i < xs2.length) ∧ Aside0 (0 ≤ j ∧ j ≤ 3) ∧ Aside0 (xs2.length = ws2.length ∧ m2 ≤ xs2.length) ∧ Aside0 (∀ x ∈ xs2, 0 ≤ x ∧ x < n) ∧ Aside0 (xs2.length ≤ 4000000) ∧ Aside0 (Kd.R (Kd.int .i64) 3 w' w.heap.size (fun _ => True) v8 xs2) ∧ Aside0 (Kd.R Kd.string 9 w' w.heap.size (fun _ => True) v9 ws2) ∧ Aside0 (MapIs w' w9.heap.size m2 xs2) ∧ Aside0 (Below w.heap.size w w'))
          case atStart => exact ⟨xs, ws, 0, m, (by first | rfl | (simp; done)), HH, ⟨Nat.le_refl _⟩, HI2, ⟨by omega⟩, ⟨HL.out.2⟩, HR, HS, ⟨by (with_reducible repeat (first | apply Kd.R_alloc | apply Kd.R_drewN | apply Kd.R_drew)); exact HO8.out⟩, ⟨by (with_reducible repeat (first | apply Kd.R_alloc | apply Kd.R_drewN | apply Kd.R_drew)); exact HO9.out⟩, ⟨by (with_reducible repeat (first | apply MapIs.alloc | apply MapIs.drew)); exact HM.out⟩, ⟨by repeat (first | (with_reducible first | exact HB.out | apply below_alloc | apply pw_below_drewN | apply below_drew1) | exact HB.out)⟩⟩
          case round =>
            clear HH HC HI HI2 HL HR HS HO8 HO9 HM HB
            try clear p1
            try clear q1
            try clear hx1
            try clear hxi
            try clear c1b0
            obtain ⟨xs2, ws2, j, m2, rfl, HA, HK2, HI, HJ, HL, HR, HS, HO8, HO9, HM, HB⟩ := hrel
            cases gk with
            | zero => exact absurd HA.out (by simp [fwJ])
            | succ k2 =>
              have H := HA.out
              clear HA
              simp only [fwJ] at H
              by_cases c2 : j < 3
              · rw [if_pos c2] at H
                have hxi := HR.out _ (rd_mem HI.out.1 HI.out.2)
                have hcall := HX.out (rd xs2 i) j wr hxi.1 hxi.2 HJ.out.1 c2 HB.out
                have hrange := HN.out (rd xs2 i) j hxi.1 hxi.2 HJ.out.1 c2
                generalize N (rd xs2 i) j = y at H hcall hrange
                have c2b0 : decide (j < 3) = true := decide_eq_true c2
                have HJ2 := Aside0.mk c2
                have HY := Aside0.mk hrange
                clear c2 hrange
                have p1 := eq_true HI.out.1
                have q1 := eq_true HI.out.2
                obtain ⟨Ao, co, eo⟩ := Kd.R_slice HO8.out
                subst eo
                obtain ⟨ad, e1, hx1⟩ := Kd.at_int (Kd.R_reads' HO8.out).2.2 i HI.out.1 HI.out.2
                cases e1
                have HC := Aside0.mk hcall
                clear hcall HX HG
                cases hmem : decide (y ∈ xs2) with
                | true =>
                  rw [hmem] at H
                  simp only [if_true] at H
                  have HH := Aside0.mk H
                  clear H
                  go_wp2_with (first
                    | (go_at_fn g2; refine HC.out.mono ?_; rintro e w2 ⟨rfl, hb2⟩; have n0_ := Aside0.mk (below_step HB.out hb2); have n1_ := Aside0.mk (Kd.R_below HO8.out hb2); have n2_ := Aside0.mk (Kd.R_below HO9.out hb2); have n3_ := Aside0.mk (HM.out.below hb2); clear HB HO8 HO9 HM hb2; have HB := n0_; have HO8 := n1_; have HO9 := n2_; have HM := n3_; clear n0_ n1_ n2_ n3_)
                    | ((with_reducible refine gate_lookup (t := 83) (c := true) rfl ?_); refine map_lookup rfl _ _ rfl w9.heap.size m2 xs2 rfl (by (with_reducible repeat (first | apply MapIs.alloc | apply MapIs.drew)); exact HM.out) y rfl (wf_i64 (by have := HY.out.1; omega) (by have := HY.out.2; have := Hn1.out; omega)) true hmem ?_; intro cc))
                  go_roundg k2
                  case measure => have := HK1.out; have := HK2.out; omega
                  case rel => exact ⟨xs2, ws2, j + 1, m2, (by have := HJ.out; have := HJ2.out; first | rfl | (rw [show wrap64 (j + 1) = j + 1 by unfold wrap64; omega]; done)), HH, ⟨by have := HK2.out; omega⟩, HI, ⟨by have := HJ.out; have := HJ2.out; omega⟩, HL, HR, HS, ⟨by (with_reducible repeat (first | apply Kd.R_alloc | apply Kd.R_drewN | apply Kd.R_drew)); exact HO8.out⟩, ⟨by (with_reducible repeat (first | apply Kd.R_alloc | apply Kd.R_drewN | apply Kd.R_drew)); exact HO9.out⟩, ⟨by (with_reducible repeat (first | apply MapIs.alloc | apply MapIs.drew)); exact HM.out⟩, ⟨by repeat (first | (with_reducible first | exact HB.out | apply below_alloc | apply pw_below_drewN | apply below_drew1) | exact HB.out)⟩⟩
                | false =>
                  rw [hmem] at H
                  simp only [Bool.false_eq_true, if_false] at H
                  by_cases c3 : xs2.length < 4000000 ∧ (rdOf ByteArray.empty ws2 i).size ≤ 4000000
                  · rw [if_pos c3] at H
                    have HH := Aside0.mk H
                    have H3 := Aside0.mk c3
                    clear H c3
                    obtain ⟨Ap, cp, ep⟩ := Kd.R_slice HO9.out
                    subst ep
                    have q2' : i < (ws2.length : Int) := by have := HL.out.1; have := HI.out.2; omega
                    have Q2 := Aside0.mk q2'
                    have q2 := eq_true q2'
                    clear q2'
                    have wy : (Lit.int .i64 y).wf = true := wf_i64 (by have := HY.out.1; omega) (by have := HY.out.2; have := Hn1.out; omega)
                    go_wp2_with (first
                      | (go_at_fn g2; refine HC.out.mono ?_; rintro e w2 ⟨rfl, hb2⟩; have n0_ := Aside0.mk (below_step HB.out hb2); have n1_ := Aside0.mk (Kd.R_below HO8.out hb2); have n2_ := Aside0.mk (Kd.R_below HO9.out hb2); have n3_ := Aside0.mk (HM.out.below hb2); clear HB HO8 HO9 HM hb2; have HB := n0_; have HO8 := n1_; have HO9 := n2_; have HM := n3_; clear n0_ n1_ n2_ n3_)
                      | ((with_reducible refine gate_lookup (t := 83) (c := true) rfl ?_); refine map_lookup rfl _ _ rfl w9.heap.size m2 xs2 rfl (by (with_reducible repeat (first | apply MapIs.alloc | apply MapIs.drew)); exact HM.out) y rfl wy false hmem ?_; intro cc)
                      | ((with_reducible refine gate_update (t := 83) rfl ?_); refine map_update rfl _ _ _ rfl w9.heap.size m2 xs2 rfl (by (with_reducible repeat (first | apply MapIs.alloc | apply MapIs.drew)); exact HM.out) (by have := HL.out.2; have := H3.out.1; omega) y _ rfl rfl wy (wf_i64 (by omega) (by have := H3.out.1; omega)) ?_; intro w4 hm4 hg4; have n0_ := Aside0.mk (R_map (by (with_reducible repeat (first | apply Kd.R_alloc | apply Kd.R_drewN | apply Kd.R_drew)); exact HO8.out) rfl (by have := HI.out; omega) (by (with_reducible repeat (first | apply MapIs.alloc | apply MapIs.drew)); exact HM.out) hg4); have n1_ := Aside0.mk (R_map (by (with_reducible repeat (first | apply Kd.R_alloc | apply Kd.R_drewN | apply Kd.R_drew)); exact HO9.out) rfl (by have := HI.out; have := HL.out.1; omega) (by (with_reducible repeat (first | apply MapIs.alloc | apply MapIs.drew)); exact HM.out) hg4); have n2_ := Aside0.mk (Below.grown (by repeat (first | (with_reducible first | exact HB.out | apply below_alloc | apply pw_below_drewN | apply below_drew1) | exact HB.out) : Below w.heap.size w _) hg4 (below_size (by repeat (first | (with_reducible first | exact HB.out | apply below_alloc | apply pw_below_drewN | apply below_drew1) | exact HB.out))) (fun k hk => by injection hk with hk; rw [← hk]; exact GE.out)); have n3_ := Aside0.mk hm4; clear HO8 HO9 HB HM hm4 hg4; have HO8 := n0_; have HO9 := n1_; have HB := n2_; have HM := n3_; clear n0_ n1_ n2_ n3_)
                      | ((with_reducible refine gate_builtin (b := .append) (xs := #[.tmp 60, .tmp 62]) rfl ?_); at_builtin; refine Kd.R_append (Kd.int .i64) (w0 := w) w.heap.size rfl (.tmp 60) (.tmp 62) 40 3 (.int .i64 0) 8 rfl Try.underlying40 info3 rfl (by decide) (by omega) (.slice (some ad) xs2.length co) xs2 y [.int .i64 y] (fun _ => True) (fun _ => False) rfl rfl ?aP (fun _ hk => hk.elim) ?aF ?aO ?aB ?aS ?aL ?_; (case aP => exact rfl); (case aB => exact (by repeat (first | (with_reducible first | exact HB.out | apply below_alloc | apply pw_below_drewN | apply below_drew1) | exact HB.out))); (case aF => exact (fun _ _ => trivial)); (case aO => exact (by (with_reducible repeat (first | apply Kd.R_alloc | apply Kd.R_drewN | apply Kd.R_drew)); exact HO8.out)); (case aS => exact (below_size (by repeat (first | (with_reducible first | exact HB.out | apply below_alloc | apply pw_below_drewN | apply below_drew1) | exact HB.out)))); (case aL => have := H3.out.1; omega); intro v5 w5 ho hb hg hat; have n0_ := Aside0.mk (Kd.R_over' (by (with_reducible repeat (first | apply Kd.R_alloc | apply Kd.R_drewN | apply Kd.R_drew)); exact HO9.out) (Kd.R_typed (by (with_reducible repeat (first | apply Kd.R_alloc | apply Kd.R_drewN | apply Kd.R_drew)); exact HO8.out)) (by decide) hg); have n1_ := Aside0.mk (map_R (by (with_reducible repeat (first | apply Kd.R_alloc | apply Kd.R_drewN | apply Kd.R_drew)); exact HO8.out) (by have := HI.out; omega) (by (with_reducible repeat (first | apply MapIs.alloc | apply MapIs.drew)); exact HM.out) hg); have n2_ := Aside0.mk hb; have n3_ := Aside0.mk ho; clear HO8 HO9 HB HM ho hb hg hat; have HO9 := n0_; have HM := n1_; have HB := n2_; have HO8 := n3_; clear n0_ n1_ n2_ n3_; obtain ⟨ae, e2, hx2⟩ := Kd.at_string (Kd.R_reads' HO9.out).2.2 i HI.out.1 Q2.out; cases e2))
                    have hw1 : wrap64 (j + 1) = j + 1 := by have := HJ.out; have := HJ2.out; unfold wrap64; omega
                    have z32 : 0 ≤ j := HJ.out.1
                    have z33 : j ≤ wrap64 (j + 1) := by rw [hw1]; omega
                    have z34 : wrap64 (j + 1) ≤ 3 := by rw [hw1]; have := HJ2.out; omega
                    have z35 : (rdOf ByteArray.empty ws2 i).size + ((⟨#[97, 98, 99]⟩ : ByteArray).extract (j : Int).toNat ((wrap64 (j + 1)) : Int).toNat).size ≤ 9223372036854775807 := by rw [ByteArray.size_extract]; have := H3.out.2; have : (⟨#[97, 98, 99]⟩ : ByteArray).size = 3 := rfl; omega
                    have HW1 := Aside0.mk hw1
                    clear hw1
                    have c32b0 := eq_true z32
                    have c33b0 := eq_true z33
                    have c33b1 : decide (j ≤ (wrap64 (j + 1))) = true := decide_eq_true z33
                    have c34b0 := eq_true z34
                    have c34b1 : decide ((wrap64 (j + 1)) ≤ 3) = true := decide_eq_true z34
                    have c35z := z35
                    try simp at c35z
                    have c35b0 := eq_true z35
                    have c35b1 : decide ((rdOf ByteArray.empty ws2 i).size + ((⟨#[97, 98, 99]⟩ : ByteArray).extract (j : Int).toNat ((wrap64 (j + 1)) : Int).toNat).size ≤ 9223372036854775807) = true := decide_eq_true z35
                    have c35b2 : (9223372036854775807 < (rdOf ByteArray.empty ws2 i).size + ((⟨#[97, 98, 99]⟩ : ByteArray).extract (j : Int).toNat ((wrap64 (j + 1)) : Int).toNat).size) = False := eq_false (Nat.not_lt.2 z35)
                    clear z32 z33 z34 z35
                    have n0_ := Aside0.mk (Kd.R_drew HO9.out)
                    have n1_ := Aside0.mk (Kd.R_drew HO8.out)
                    have n2_ := Aside0.mk (HM.out.drew)
                    have n3_ := Aside0.mk (below_drew1 HB.out)
                    clear HO9 HO8 HM HB
                    have HO9 := n0_
                    have HO8 := n1_
                    have HM := n2_
                    have HB := n3_
                    clear n0_ n1_ n2_ n3_
                    have HS2 : Aside0 (ws2.length < 8796093022208) := ⟨by have := H3.out.1; have := HL.out.1; omega⟩
                    refine start_ (n := 13) (S := fun w' => w'.cell? (ae.add (i).toNat) = some (.string (rdOf ByteArray.empty ws2 i))) (ds := [10, 11]) #[false, false, false, false, false, false, false, false, false, false, false, false, false] (by kernel_rfl) rfl rfl (hx2) (fun hHeld => ?_); refine with_tabW fw_tab fw_bits (fun HT_ HW_ => ?_)
                    generalize w5.drew = w6 at HO9 HO8 HM HB hx2 hHeld ⊢
                    refine pure_ (i := 0) (N := some 64) (v := ?_) (a' := ?_) #[true, false, false, false, false, false, false, false, false, false, false, false, false] rfl rfl (any_of HT_.out (by kernel_rfl)) (fun _ _ _ h => h) (Or.inl ⟨by rfl, ?_⟩) ?_ ?_
                    rotate_left
                    · intro w'
                      go_simp
                      first | with_reducible rfl | (rw [if_neg (by omega)]; done) | (rw [if_neg (by (try simp only [decide_eq_true_eq, decide_eq_false_iff_not, eq_iff_iff, iff_true, iff_false] at *); (try simp only [ByteArray.size_extract, ByteArray.size_append, show (⟨#[97, 98, 99]⟩ : ByteArray).size = 3 from rfl, show (⟨#[88, 89, 90]⟩ : ByteArray).size = 3 from rfl, show (⟨#[61]⟩ : ByteArray).size = 1 from rfl] at *); omega)]; done)
                    rotate_left
                    · simp only [Act.put, List.setIfInBounds_toArray, List.set_cons_zero, List.set_cons_succ, i64_w, i32_w]
                      rfl
                    refine pure_ (i := 1) (N := some 65) (v := ?_) (a' := ?_) #[true, true, false, false, false, false, false, false, false, false, false, false, false] rfl rfl (any_of HT_.out (by kernel_rfl)) (fun _ _ _ h => h) (Or.inl ⟨by rfl, ?_⟩) ?_ ?_
                    rotate_left
                    · intro w'
                      go_simp
                      first | with_reducible rfl | (rw [if_neg (by omega)]; done) | (rw [if_neg (by (try simp only [decide_eq_true_eq, decide_eq_false_iff_not, eq_iff_iff, iff_true, iff_false] at *); (try simp only [ByteArray.size_extract, ByteArray.size_append, show (⟨#[97, 98, 99]⟩ : ByteArray).size = 3 from rfl, show (⟨#[88, 89, 90]⟩ : ByteArray).size = 3 from rfl, show (⟨#[61]⟩ : ByteArray).size = 1 from rfl] at *); omega)]; done)
                    rotate_left
                    · simp only [Act.put, List.setIfInBounds_toArray, List.set_cons_zero, List.set_cons_succ, i64_w, i32_w]
                      rfl
                    refine pure_ (i := 2) (N := some 66) (v := ?_) (a' := ?_) #[true, true, true, false, false, false, false, false, false, false, false, false, false] rfl rfl (any_of HT_.out (by kernel_rfl)) (fun _ _ _ h => h) (Or.inl ⟨by rfl, ?_⟩) ?_ ?_
                    rotate_left
                    · intro w'
                      go_simp
                      first | with_reducible rfl | (rw [if_neg (by omega)]; done) | (rw [if_neg (by (try simp only [decide_eq_true_eq, decide_eq_false_iff_not, eq_iff_iff, iff_true, iff_false] at *); (try simp only [ByteArray.size_extract, ByteArray.size_append, show (⟨#[97, 98, 99]⟩ : ByteArray).size = 3 from rfl, show (⟨#[88, 89, 90]⟩ : ByteArray).size = 3 from rfl, show (⟨#[61]⟩ : ByteArray).size = 1 from rfl] at *); omega)]; done)
                    rotate_left
                    · simp only [Act.put, List.setIfInBounds_toArray, List.set_cons_zero, List.set_cons_succ, i64_w, i32_w]
                      rfl
                    refine pure_ (i := 3) (N := some 67) (v := ?_) (a' := ?_) #[true, true, true, true, false, false, false, false, false, false, false, false, false] rfl rfl (any_of HT_.out (by kernel_rfl)) (fun _ _ _ h => h) (Or.inl ⟨by rfl, ?_⟩) ?_ ?_
                    rotate_left
                    · intro w'
                      go_simp
                      first | with_reducible rfl | (rw [if_neg (by omega)]; done) | (rw [if_neg (by (try simp only [decide_eq_true_eq, decide_eq_false_iff_not, eq_iff_iff, iff_true, iff_false] at *); (try simp only [ByteArray.size_extract, ByteArray.size_append, show (⟨#[97, 98, 99]⟩ : ByteArray).size = 3 from rfl, show (⟨#[88, 89, 90]⟩ : ByteArray).size = 3 from rfl, show (⟨#[61]⟩ : ByteArray).size = 1 from rfl] at *); omega)]; done)
                    rotate_left
                    · simp only [Act.put, List.setIfInBounds_toArray, List.set_cons_zero, List.set_cons_succ, i64_w, i32_w]
                      rfl
                    refine pure_ (i := 5) (N := some 69) (v := ?_) (a' := ?_) #[true, true, true, true, false, true, false, false, false, false, false, false, false] rfl rfl (any_of HT_.out (by kernel_rfl)) (fun _ _ _ h => h) (Or.inl ⟨by rfl, ?_⟩) ?_ ?_
                    rotate_left
                    · intro w'
                      go_simp
                      first | with_reducible rfl | (rw [if_neg (by omega)]; done) | (rw [if_neg (by (try simp only [decide_eq_true_eq, decide_eq_false_iff_not, eq_iff_iff, iff_true, iff_false] at *); (try simp only [ByteArray.size_extract, ByteArray.size_append, show (⟨#[97, 98, 99]⟩ : ByteArray).size = 3 from rfl, show (⟨#[88, 89, 90]⟩ : ByteArray).size = 3 from rfl, show (⟨#[61]⟩ : ByteArray).size = 1 from rfl] at *); omega)]; done)
                    rotate_left
                    · simp only [Act.put, List.setIfInBounds_toArray, List.set_cons_zero, List.set_cons_succ, i64_w, i32_w]
                      rfl
                    refine pure_ (i := 6) (N := some 70) (v := ?_) (a' := ?_) #[true, true, true, true, false, true, true, false, false, false, false, false, false] rfl rfl (any_of HT_.out (by kernel_rfl)) (fun _ _ _ h => h) (Or.inl ⟨by rfl, ?_⟩) ?_ ?_
                    rotate_left
                    · intro w'
                      go_simp
                      first | with_reducible rfl | (rw [if_neg (by omega)]; done) | (rw [if_neg (by (try simp only [decide_eq_true_eq, decide_eq_false_iff_not, eq_iff_iff, iff_true, iff_false] at *); (try simp only [ByteArray.size_extract, ByteArray.size_append, show (⟨#[97, 98, 99]⟩ : ByteArray).size = 3 from rfl, show (⟨#[88, 89, 90]⟩ : ByteArray).size = 3 from rfl, show (⟨#[61]⟩ : ByteArray).size = 1 from rfl] at *); omega)]; done)
                    rotate_left
                    · simp only [Act.put, List.setIfInBounds_toArray, List.set_cons_zero, List.set_cons_succ, i64_w, i32_w]
                      rfl
                    refine pure_ (i := 7) (N := some 71) (v := ?_) (a' := ?_) #[true, true, true, true, false, true, true, true, false, false, false, false, false] rfl rfl (any_of HT_.out (by kernel_rfl)) (fun _ _ _ h => h) (Or.inl ⟨by rfl, ?_⟩) ?_ ?_
                    rotate_left
                    · intro w'
                      go_simp
                      first | with_reducible rfl | (rw [if_neg (by omega)]; done) | (rw [if_neg (by (try simp only [decide_eq_true_eq, decide_eq_false_iff_not, eq_iff_iff, iff_true, iff_false] at *); (try simp only [ByteArray.size_extract, ByteArray.size_append, show (⟨#[97, 98, 99]⟩ : ByteArray).size = 3 from rfl, show (⟨#[88, 89, 90]⟩ : ByteArray).size = 3 from rfl, show (⟨#[61]⟩ : ByteArray).size = 1 from rfl] at *); omega)]; done)
                    rotate_left
                    · simp only [Act.put, List.setIfInBounds_toArray, List.set_cons_zero, List.set_cons_succ, i64_w, i32_w]
                      rfl
                    refine pure_ (i := 8) (N := some 72) (v := ?_) (a' := ?_) #[true, true, true, true, false, true, true, true, true, false, false, false, false] rfl rfl (any_of HT_.out (by kernel_rfl)) (fun _ _ _ h => h) (Or.inl ⟨by rfl, ?_⟩) ?_ ?_
                    rotate_left
                    · intro w'
                      go_simp
                      first | with_reducible rfl | (rw [if_neg (by omega)]; done) | (rw [if_neg (by (try simp only [decide_eq_true_eq, decide_eq_false_iff_not, eq_iff_iff, iff_true, iff_false] at *); (try simp only [ByteArray.size_extract, ByteArray.size_append, show (⟨#[97, 98, 99]⟩ : ByteArray).size = 3 from rfl, show (⟨#[88, 89, 90]⟩ : ByteArray).size = 3 from rfl, show (⟨#[61]⟩ : ByteArray).size = 1 from rfl] at *); omega)]; done)
                    rotate_left
                    · simp only [Act.put, List.setIfInBounds_toArray, List.set_cons_zero, List.set_cons_succ, i64_w, i32_w]
                      rfl
                    refine take_ (i := 4) (N := some 68) (v := ?_) (a' := ?_) #[true, true, true, true, true, true, true, true, true, false, false, false, false] rfl rfl (take_ofW HT_.out HW_.out (by kernel_rfl)) (fun _ _ _ h => h) (Or.inl ⟨by rfl, ?_⟩) hHeld ?_ ?_
                    rotate_left
                    · intro w' s0
                      go_simp
                      first | with_reducible rfl | (rw [if_neg (by omega)]; done) | (rw [if_neg (by (try simp only [decide_eq_true_eq, decide_eq_false_iff_not, eq_iff_iff, iff_true, iff_false] at *); (try simp only [ByteArray.size_extract, ByteArray.size_append, show (⟨#[97, 98, 99]⟩ : ByteArray).size = 3 from rfl, show (⟨#[88, 89, 90]⟩ : ByteArray).size = 3 from rfl, show (⟨#[61]⟩ : ByteArray).size = 1 from rfl] at *); omega)]; done)
                    rotate_left
                    · simp only [Act.put, List.setIfInBounds_toArray, List.set_cons_zero, List.set_cons_succ, i64_w, i32_w]
                      rfl
                    refine pure_ (i := 9) (N := some 73) (v := ?_) (a' := ?_) #[true, true, true, true, true, true, true, true, true, true, false, false, false] rfl rfl (any_of HT_.out (by kernel_rfl)) (fun _ _ _ h => h) (Or.inl ⟨by rfl, ?_⟩) ?_ ?_
                    rotate_left
                    · intro w'
                      go_simp
                      first | with_reducible rfl | (rw [if_neg (by omega)]; done) | (rw [if_neg (by (try simp only [decide_eq_true_eq, decide_eq_false_iff_not, eq_iff_iff, iff_true, iff_false] at *); (try simp only [ByteArray.size_extract, ByteArray.size_append, show (⟨#[97, 98, 99]⟩ : ByteArray).size = 3 from rfl, show (⟨#[88, 89, 90]⟩ : ByteArray).size = 3 from rfl, show (⟨#[61]⟩ : ByteArray).size = 1 from rfl] at *); omega)]; done)
                    rotate_left
                    · simp only [Act.put, List.setIfInBounds_toArray, List.set_cons_zero, List.set_cons_succ, i64_w, i32_w]
                      rfl
                    refine last_ (i := 10) (N := some 74) #[true, true, true, true, true, true, true, true, true, true, true, false, false] rfl rfl (one_of HT_.out (by kernel_rfl)) (by decide) (fun K hK => ?_)
                    refine value_ (w1 := ?_) (v := ?_) (by rfl) rfl ?_ ?_
                    rotate_left 2
                    · go_simp
                      constructor
                      · rfl
                      · rfl
                    refine hK.out _ _ ?_
                    clear hK K
                    refine norm_ (a' := ?_) ?_ ?_
                    rotate_left
                    · show Act.put _ (some 74) _ = _
                      simp only [Act.put, List.setIfInBounds_toArray, List.set_cons_zero, List.set_cons_succ, i64_w, i32_w]
                      rfl
                    refine last_ (i := 11) (N := some 75) #[true, true, true, true, true, true, true, true, true, true, true, true, false] rfl rfl (one_of HT_.out (by kernel_rfl)) (by decide) (fun K hK => ?_)
                    refine Kd.R_append_step Kd.string (w0 := w) w.heap.size (by rfl) (.tmp 64) (.tmp 74) 50 9 (.string ⟨#[]⟩) 16 rfl Try.underlying50 info9 rfl (by decide) (by omega) (.slice (some ae) ws2.length cp) ws2 ((rdOf ByteArray.empty ws2 i) ++ ((⟨#[97, 98, 99]⟩ : ByteArray).extract (j : Int).toNat ((wrap64 (j + 1)) : Int).toNat)) [.string ((rdOf ByteArray.empty ws2 i) ++ ((⟨#[97, 98, 99]⟩ : ByteArray).extract (j : Int).toNat ((wrap64 (j + 1)) : Int).toNat))] (fun _ => True) (fun _ => False) rfl rfl ?aP (fun _ hk => hk.elim) ?aF ?aO ?aB ?aS ?aL ?_
                    (case aP => exact rfl)
                    (case aB => exact (by repeat (first | (with_reducible first | exact HB.out | apply below_alloc | apply pw_below_drewN | apply below_drew1) | exact HB.out)))
                    (case aF => exact (fun _ _ => trivial))
                    (case aO => exact (by (with_reducible repeat (first | apply Kd.R_alloc | apply Kd.R_drewN | apply Kd.R_drew)); exact HO9.out))
                    (case aS => exact (below_size (by repeat (first | (with_reducible first | exact HB.out | apply below_alloc | apply pw_below_drewN | apply below_drew1) | exact HB.out))))
                    (case aL => have := HS2.out; omega)
                    intro v7 w7 ho hb hg hat
                    have n0_ := Aside0.mk (map_R (by (with_reducible repeat (first | apply Kd.R_alloc | apply Kd.R_drewN | apply Kd.R_drew)); exact HO9.out) (by have := HI.out; have := HL.out.1; omega) (by (with_reducible repeat (first | apply MapIs.alloc | apply MapIs.drew)); exact HM.out) hg)
                    have n1_ := Aside0.mk (Kd.R_over' (by (with_reducible repeat (first | apply Kd.R_alloc | apply Kd.R_drewN | apply Kd.R_drew)); exact HO8.out) (Kd.R_typed (by (with_reducible repeat (first | apply Kd.R_alloc | apply Kd.R_drewN | apply Kd.R_drew)); exact HO9.out)) (by decide) hg)
                    have n2_ := Aside0.mk (hb)
                    have n3_ := Aside0.mk (ho)
                    clear HM
                    clear HO8
                    clear HB
                    clear HO9
                    have HM := n0_
                    have HO8 := n1_
                    have HB := n2_
                    have HO9b := n3_
                    clear n0_ n1_ n2_ n3_
                    clear ho hb hg hat
                    refine hK.out _ _ ?_
                    clear hK K
                    refine norm_ (a' := ?_) ?_ ?_
                    rotate_left
                    · show Act.put _ (some 75) _ = _
                      simp only [Act.put, List.setIfInBounds_toArray, List.set_cons_zero, List.set_cons_succ, i64_w, i32_w]
                      rfl
                    refine pure_ (i := 12) (N := some 9) (v := ?_) (a' := ?_) #[true, true, true, true, true, true, true, true, true, true, true, true, true] rfl rfl (any_of HT_.out (by kernel_rfl)) (fun _ _ _ h => h) (Or.inl ⟨by rfl, ?_⟩) ?_ ?_
                    rotate_left
                    · intro w'
                      go_simp
                      first | with_reducible rfl | (rw [if_neg (by omega)]; done) | (rw [if_neg (by (try simp only [decide_eq_true_eq, decide_eq_false_iff_not, eq_iff_iff, iff_true, iff_false] at *); (try simp only [ByteArray.size_extract, ByteArray.size_append, show (⟨#[97, 98, 99]⟩ : ByteArray).size = 3 from rfl, show (⟨#[88, 89, 90]⟩ : ByteArray).size = 3 from rfl, show (⟨#[61]⟩ : ByteArray).size = 1 from rfl] at *); omega)]; done)
                    rotate_left
                    · simp only [Act.put, List.setIfInBounds_toArray, List.set_cons_zero, List.set_cons_succ, i64_w, i32_w]
                      rfl
                    refine done_ (done_of HT_.out (by kernel_rfl)) ?_
                    try go_wp2
                    go_roundg k2
                    case measure => have := HK1.out; have := HK2.out; omega
                    case rel =>
                      have HO9c : Aside0 (Kd.R Kd.string 9 w7 w.heap.size (fun _ => True) v7 (ws2 ++ [rdOf ByteArray.empty ws2 i ++ letB j])) := ⟨by unfold letB; rw [← HW1.out]; exact HO9b.out⟩
                      exact ⟨xs2 ++ [y], ws2 ++ [rdOf ByteArray.empty ws2 i ++ letB j], j + 1, m2 + 1, (by have := HW1.out; first | rfl | (rw [this]; done)), HH, ⟨by have := HK2.out; omega⟩, ⟨by have := HI.out; simp; omega⟩, ⟨by have := HJ.out; have := HJ2.out; omega⟩, ⟨by have := HL.out; simp; omega⟩, ⟨fun x hx => by
                        rcases List.mem_append.1 hx with hx | hx
                        · exact HR.out x hx
                        · rw [List.mem_singleton.1 hx]; exact HY.out⟩, ⟨by have := H3.out.1; simp; omega⟩, ⟨by (with_reducible repeat (first | apply Kd.R_alloc | apply Kd.R_drewN | apply Kd.R_drew)); exact HO8.out⟩, ⟨by (with_reducible repeat (first | apply Kd.R_alloc | apply Kd.R_drewN | apply Kd.R_drew)); exact HO9c.out⟩, ⟨by (with_reducible repeat (first | apply MapIs.alloc | apply MapIs.drew)); exact HM.out⟩, ⟨by repeat (first | (with_reducible first | exact HB.out | apply below_alloc | apply pw_below_drewN | apply below_drew1) | exact HB.out)⟩⟩
                  · rw [if_neg c3] at H
                    exact absurd H (by simp)
              · rw [if_neg c2] at H
                have HH := Aside0.mk H
                have c2b0 : decide (j < 3) = false := decide_eq_false c2
                clear H c2
                go_wp2
                go_roundg k2
                case measure => have := HK1.out; have := HK2.out; omega
                case rel => exact ⟨xs2, ws2, i + 1, m2, (by have := HI.out; have := HS.out; first | rfl | (rw [show wrap64 (i + 1) = i + 1 by unfold wrap64; omega]; done)), HH, ⟨by have := HK1.out; have := HK2.out; omega⟩, ⟨by have := HI.out; omega⟩, ⟨by have := HI.out; have := HL.out; omega⟩, HR, HS, ⟨by (with_reducible repeat (first | apply Kd.R_alloc | apply Kd.R_drewN | apply Kd.R_drew)); exact HO8.out⟩, ⟨by (with_reducible repeat (first | apply Kd.R_alloc | apply Kd.R_drewN | apply Kd.R_drew)); exact HO9.out⟩, ⟨by (with_reducible repeat (first | apply MapIs.alloc | apply MapIs.drew)); exact HM.out⟩, ⟨by repeat (first | (with_reducible first | exact HB.out | apply below_alloc | apply pw_below_drewN | apply below_drew1) | exact HB.out)⟩⟩
      · rw [if_neg c1] at H
        have c1b0 : decide (i < (xs.length : Int)) = false := decide_eq_false c1
        clear c1
        simp only [Option.some.injEq, Prod.mk.injEq] at H
        obtain ⟨rfl, rfl⟩ := H
        obtain ⟨Ao, co, eo⟩ := Kd.R_slice HO8.out
        subst eo
        go_wp2
        go_ret2
        exact ⟨rfl, by repeat (first | (with_reducible first | exact HB.out | apply below_alloc | apply pw_below_drewN | apply below_drew1) | exact HB.out)⟩
end Go.Proofs.Ytgllnohlocfeoaa.Ext

namespace Go.Proofs.Ytgllnohlocfeoaa.Ext
set_option linter.unusedVariables false
set_option linter.unusedSimpArgs false
open Go.RowKit Go.Proofs.YtgllnohlocfeoaaW.PrintWords Go.Proofs.YtgllnohlocfeoaaW.PrintLast Go.Proofs.Ytgllnohlocfeoaa.A

-- EXT loop.example/g00582/impl.WordOfMap making
def nextW (L : List Int) (P : List (List Int)) (x j : Int) : Int := rd (P.getD x.toNat []) (rd L j)
def impl_WordOfMap.f (l0_0 : List (List Int)) (l0_1 : List Int) (l0_2 : List (List Int)) (a1 : Int) : Option (ByteArray × Bool) :=
  if wellB l0_0.length l0_1 l0_2 = true then (if l0_0.length ≤ 4000000 then fwI (fun i => i == a1) (nextW l0_1 l0_2) (5 * l0_0.length + 10) [0] [(⟨#[]⟩ : ByteArray)] 0 else none) else some ((⟨#[]⟩ : ByteArray), false)
set_option maxHeartbeats 4000000 in
set_option maxRecDepth 100000 in
theorem word_good (x a : Int) (g : Nat) (W : World) (hc : W.cell? ⟨g, 0, none⟩ = some (.int .i64 a)) :
    Calls Try.prog 45 #[.int .i64 x, .pointer (some ⟨g, 0, none⟩)] W fun e W' => e = .returned (.bool (x == a)) ∧ Below W.heap.size W W' := by
  go_enter Try.func45, Try.ntmps45
  go_wp2
  go_ret
  exact ⟨rfl, by repeat (first | exact Below.refl _ _ | apply pw_below_drewN | apply below_drew1)⟩
set_option maxHeartbeats 4000000 in
set_option maxRecDepth 100000 in
theorem word_next (A1 A2 : Option Addr) (L : List Int) (P : List (List Int)) (c1 c2 : Nat) (x j : Int) (g : Nat) (W : World) (h1 : W.cell? ⟨g, 1, none⟩ = some (.slice A1 L.length c1)) (h2 : W.cell? ⟨g, 2, none⟩ = some (.slice A2 P.length c2))
    (hL : Kd.C (Kd.int .i64) W A1 L.length L) (hP : Kd.C (Kd.slice 3 (Kd.int .i64)) W A2 P.length P) (x0 : 0 ≤ x) (x1 : x < P.length) (j0 : 0 ≤ j) (j1 : j < L.length) (y0 : 0 ≤ rd L j) (y1 : rd L j < (P.getD x.toNat []).length) :
    Calls Try.prog 46 #[.int .i64 x, .int .i64 j, .pointer (some ⟨g, 0, none⟩)] W fun e W' => e = .returned (.int .i64 (nextW L P x j)) ∧ Below W.heap.size W W' := by
  unfold nextW
  obtain ⟨ad, A', c', row, rfl, hx, hle, hC, he⟩ := at_rows hP x x0 x1
  have he := he.out
  rw [he] at y1 ⊢
  clear he
  obtain ⟨al, rfl, hl⟩ := Kd.at_int hL j j0 j1
  obtain ⟨ar, rfl, hr⟩ := Kd.at_int hC (rd L j) y0 y1
  have HL := Aside0.mk hL
  have HP := Aside0.mk hP
  have HC := Aside0.mk hC
  clear hL hP hC hle
  replace x0 := eq_true x0
  replace x1 := eq_true x1
  replace j0 := eq_true j0
  replace j1 := eq_true j1
  replace y0 := eq_true y0
  replace y1 := eq_true y1
  go_enter Try.func46, Try.ntmps46
  go_wp2
  go_quiet (fail)
  go_wp2
  go_ret
  exact ⟨rfl, by repeat (first | exact Below.refl _ _ | apply pw_below_drewN | apply below_drew1)⟩
theorem well_next {n : Nat} {L : List Int} {P : List (List Int)} (h : wellB n L P = true) : 0 < n ∧ P.length = n ∧ L.length = 3 ∧ ∀ x j : Int, 0 ≤ x → x < n → 0 ≤ j → j < 3 → 0 ≤ rd L j ∧ rd L j < (P.getD x.toNat []).length ∧ 0 ≤ nextW L P x j ∧ nextW L P x j < n := by
  unfold wellB at h
  simp only [Bool.and_eq_true, Bool.not_eq_true', decide_eq_false_iff_not, decide_eq_true_eq, List.all_eq_true] at h
  obtain ⟨⟨h0, h1⟩, h2, h3, h4⟩ := h
  have hin : ∀ k : Int, inR n k = true → 0 ≤ k ∧ k < n := by
    intro k hk
    unfold inR at hk
    simp only [Bool.and_eq_true, decide_eq_true_eq] at hk
    omega
  refine ⟨by omega, h3, h1, fun x j x0 x1 j0 j1 => ?_⟩
  have hj := hin _ (h2 _ (rd_mem j0 (by omega)))
  have hx : x.toNat < P.length := by omega
  have hrow : P.getD x.toNat [] ∈ P := by
    rw [List.getD_eq_getElem?_getD, List.getElem?_eq_getElem hx]
    exact List.getElem_mem hx
  have hr := h4 _ hrow
  unfold rowOk at hr
  simp only [Bool.and_eq_true, decide_eq_true_eq, List.all_eq_true] at hr
  refine ⟨hj.1, by rw [hr.1]; exact hj.2, ?_⟩
  exact hin _ (hr.2 _ (rd_mem hj.1 (by rw [hr.1]; exact hj.2)))
theorem word_first (A1 A2 : Option Addr) (L : List Int) (P : List (List Int)) (c1 c2 n k : Nat) (a : Int) (gm gk : Nat) (r1 : ByteArray) (r2 : Bool) (W : World) (hn : n ≤ 4000000) (h0 : 0 < n) (hp : P.length = n) (h3 : L.length = 3)
    (hN : ∀ x j : Int, 0 ≤ x → x < n → 0 ≤ j → j < 3 → 0 ≤ rd L j ∧ rd L j < (P.getD x.toNat []).length ∧ 0 ≤ nextW L P x j ∧ nextW L P x j < n)
    (k1 : W.cell? ⟨gm, 1, none⟩ = some (.slice A1 L.length c1)) (k2 : W.cell? ⟨gm, 2, none⟩ = some (.slice A2 P.length c2)) (k3 : W.cell? ⟨gk, 0, none⟩ = some (.int .i64 a))
    (hL : Kd.C (Kd.int .i64) W A1 L.length L) (hP : Kd.C (Kd.slice 3 (Kd.int .i64)) W A2 P.length P) (h : fwI (fun i => i == a) (nextW L P) k [0] [(⟨#[]⟩ : ByteArray)] 0 = some (r1, r2)) :
    Calls Try.prog 44 #[.int .i64 0, .func (.func 45) #[] #[.pointer (some ⟨gk, 0, none⟩)], .func (.func 46) #[] #[.pointer (some ⟨gm, 0, none⟩)]] W fun e w' => e = .returned (.tuple #[.string r1, .bool r2]) ∧ Below W.heap.size W w' := by
  refine first_word (fun i => i == a) (nextW L P) n hn 45 #[.pointer (some ⟨gk, 0, none⟩)] (enters_of Try.func45 (by kernel_rfl) rfl) 46 #[.pointer (some ⟨gm, 0, none⟩)] (enters_of Try.func46 (by kernel_rfl) rfl) k r1 r2 W h0 ?_ ?_ ?_ h
  · exact fun x j x0 x1 j0 j1 => (hN x j x0 x1 j0 j1).2.2
  · intro x W' x0 x1 hb
    exact word_good x a gk W' (pw_cell_below hb k3)
  · intro x j W' x0 x1 j0 j1 hb
    exact word_next A1 A2 L P c1 c2 x j gm W' (pw_cell_below hb k1) (pw_cell_below hb k2) (Kd.C_below hL hb) (Kd.C_below hP hb) x0 (by omega) j0 (by omega) (hN x j x0 x1 j0 j1).1 (hN x j x0 x1 j0 j1).2.1
set_option maxHeartbeats 4000000 in
set_option maxRecDepth 100000 in
theorem impl_WordOfMap.calls (A0_0 : Option Addr) (c0_0 : Nat) (l0_0 : List (List Int)) (A0_1 : Option Addr) (c0_1 : Nat) (l0_1 : List Int) (A0_2 : Option Addr) (c0_2 : Nat) (l0_2 : List (List Int)) (a1 : Int) (r1 : ByteArray) (r2 : Bool) (w : World) (hr0_0 : Kd.C (Kd.slice 3 (Kd.int .i64)) w A0_0 l0_0.length l0_0) (hc0_0 : l0_0.length ≤ c0_0) (hr0_1 : Kd.C (Kd.int .i64) w A0_1 l0_1.length l0_1) (hc0_1 : l0_1.length ≤ c0_1) (hr0_2 : Kd.C (Kd.slice 3 (Kd.int .i64)) w A0_2 l0_2.length l0_2) (hc0_2 : l0_2.length ≤ c0_2) (h : impl_WordOfMap.f l0_0 l0_1 l0_2 a1 = some (r1, r2)) :
    Calls Try.prog 20 #[.agg #[.slice A0_0 l0_0.length c0_0, .slice A0_1 l0_1.length c0_1, .slice A0_2 l0_2.length c0_2], .int .i64 a1] w fun e w' => e = .returned (.tuple #[.string r1, .bool r2]) ∧ Below w.heap.size w w' := by
  have HA := Aside0.mk hr0_0
  have HL := Aside0.mk hr0_1
  have HP := Aside0.mk hr0_2
  have CA := Aside0.mk hc0_0
  have CL := Aside0.mk hc0_1
  have CP := Aside0.mk hc0_2
  clear hr0_0 hr0_1 hr0_2 hc0_0 hc0_1 hc0_2
  unfold impl_WordOfMap.f at h
  cases hw : wellB l0_0.length l0_1 l0_2 with
  | false =>
    rw [hw] at h
    simp only [Bool.false_eq_true, if_false, Option.some.injEq, Prod.mk.injEq] at h
    obtain ⟨rfl, rfl⟩ := h
    have HW := Aside0.mk (congrArg some hw)
    clear hw
    go_enter Try.func20, Try.ntmps20
    go_wp2_with (go_at_call 43; refine (impl_wellFormed.calls _ _ l0_0 _ _ l0_1 _ _ l0_2 false _ ?ha CA.out ?hb CL.out ?hc CP.out HW.out).mono ?_; (case ha => repeat (first | (with_reducible exact HA.out) | (with_reducible refine Kd.C_alloc ?_ _))); (case hb => repeat (first | (with_reducible exact HL.out) | (with_reducible refine Kd.C_alloc ?_ _))); (case hc => repeat (first | (with_reducible exact HP.out) | (with_reducible refine Kd.C_alloc ?_ _))); rintro e w2 ⟨rfl, hb⟩; have HB := Aside0.mk (show Below w.heap.size w w2 from below_step (by repeat (first | exact Below.refl _ _ | apply below_alloc)) hb); clear hb)
    go_ret2
    exact ⟨rfl, HB.out⟩
  | true =>
    rw [hw] at h
    simp only [if_true] at h
    by_cases hn : l0_0.length ≤ 4000000
    · rw [if_pos hn] at h
      obtain ⟨n0, n1, n2, n3⟩ := well_next hw
      have H := Aside0.mk h
      have HN := Aside0.mk hn
      have H0 := Aside0.mk n0
      have H1 := Aside0.mk n1
      have H2 := Aside0.mk n2
      have H3 := Aside0.mk n3
      have HW := Aside0.mk (congrArg some hw)
      clear hw h hn n0 n1 n2 n3
      go_enter Try.func20, Try.ntmps20
      go_wp2_with (first
        | (go_at_call 43; refine (impl_wellFormed.calls _ _ l0_0 _ _ l0_1 _ _ l0_2 true _ ?ha CA.out ?hb CL.out ?hc CP.out HW.out).mono ?_; (case ha => repeat (first | (with_reducible exact HA.out) | (with_reducible refine Kd.C_alloc ?_ _))); (case hb => repeat (first | (with_reducible exact HL.out) | (with_reducible refine Kd.C_alloc ?_ _))); (case hc => repeat (first | (with_reducible exact HP.out) | (with_reducible refine Kd.C_alloc ?_ _))); rintro e w2 ⟨rfl, hb⟩; have k1 : w2.cell? ⟨w.heap.size, 1, none⟩ = some (.slice A0_1 l0_1.length c0_1) := pw_cell_below hb (by go_simp); have k2 : w2.cell? ⟨w.heap.size, 2, none⟩ = some (.slice A0_2 l0_2.length c0_2) := pw_cell_below hb (by go_simp); have k3 : w2.cell? ⟨w.heap.size + 1, 0, none⟩ = some (.int .i64 a1) := pw_cell_below hb (by go_simp); have K1 := Aside0.mk k1; have K2 := Aside0.mk k2; have K3 := Aside0.mk k3; have HB := Aside0.mk (show Below w.heap.size w w2 from below_step (by repeat (first | exact Below.refl _ _ | apply below_alloc)) hb); clear hb k1 k2 k3)
        | (go_at_call 44; refine (word_first A0_1 A0_2 l0_1 l0_2 c0_1 c0_2 l0_0.length (5 * l0_0.length + 10) a1 w.heap.size (w.heap.size + 1) r1 r2 _ HN.out H0.out H1.out H2.out H3.out K1.out K2.out K3.out (Kd.C_below HL.out HB.out) (Kd.C_below HP.out HB.out) H.out).mono ?_; rintro e w3 ⟨rfl, hb⟩; have n0_ := Aside0.mk (below_step HB.out hb); clear HB hb; have HB := n0_; clear n0_))
      go_ret2
      exact ⟨rfl, HB.out⟩
    · rw [if_neg hn] at h
      exact absurd h (by simp)

end Go.Proofs.Ytgllnohlocfeoaa.Ext


namespace Go.Proofs.Ytgllnohlocfeoaa.A
open Go.RowKit Go.Proofs.Ytgllnohlocfeoaa.Ext Go.Proofs.YtgllnohlocfeoaaW.PrintWords Go.Proofs.YtgllnohlocfeoaaW.PrintLast Go.Proofs.YtgllnohlocfeoaaW.PrintMore
attribute [local go_sem] max2_int min2_int max_two min_two max_three min_three max_four min_four   -- for this text's walks alone
set_option linter.unusedVariables false
set_option linter.unusedSimpArgs false

/-! ### laws_FnExactWordOfMap: function 5 -/
def laws_FnExactWordOfMap.j0 : Nat → Bool → List (List Int) → List Int → List (List Int) → List (List Int) → List Int → List (List Int) → Option (Bool)
  | 0, _, _, _, _, _, _, _ => none
  | k + 1, x38, x5002000, x5002001, x5002002, x5024000, x5024001, x5024002 => if x38 = true then (some false) else ((laws_toMonoid.f k x5002000 x5002001 x5002002).bind fun bt5026 => ((laws_eqMonoid.f k x5024000 x5024001 x5024002 bt5026.1 bt5026.2.1 bt5026.2.2).bind fun t5035 => (if t5035 = true then (some true) else (some false))))
def laws_FnExactWordOfMap.f (k : Nat) (l0_0 : List (List Int)) (l0_1 : List Int) (l0_2 : List (List Int)) (a1 : Int) : Option (Bool) := (laws_szMonoid.f k l0_0 l0_1 l0_2 1048576).bind fun t5002 => (if t5002 < 0 then (some true) else ((laws_toMonoid.f k l0_0 l0_1 l0_2).bind fun bt5003 => ((spec_WordOfMap.f k bt5003.1 bt5003.2.1 bt5003.2.2 a1).bind fun bt5012 => ((laws_toMonoid.f k l0_0 l0_1 l0_2).bind fun bt5014 => ((impl_WordOfMap.f bt5014.1 bt5014.2.1 bt5014.2.2 a1).bind fun bt5024 => (if bt5024.1.toList = bt5012.1.toList then (laws_FnExactWordOfMap.j0 k (bt5024.2 != bt5012.2) l0_0 l0_1 l0_2 bt5014.1 bt5014.2.1 bt5014.2.2) else (laws_FnExactWordOfMap.j0 k true l0_0 l0_1 l0_2 bt5014.1 bt5014.2.1 bt5014.2.2)))))))
theorem laws_FnExactWordOfMap.mono_l : ∀ k, (∀ y0 y1 y2 y3 y4 y5 y6, LeO (laws_FnExactWordOfMap.j0 k y0 y1 y2 y3 y4 y5 y6) (laws_FnExactWordOfMap.j0 (k + 1) y0 y1 y2 y3 y4 y5 y6))
  | 0 => fun _ _ _ _ _ _ _ r h => by simp [laws_FnExactWordOfMap.j0] at h
  | k + 1 => by
    have ih0 := laws_FnExactWordOfMap.mono_l k
    · intro y0 y1 y2 y3 y4 y5 y6
      unfold laws_FnExactWordOfMap.j0
      repeat' first
      | (with_reducible exact ih0 _ _ _ _ _ _ _)
      | (with_reducible exact laws_eqMonoid.mono _ _ _ _ _ _ _)
      | (with_reducible exact laws_szMonoid.mono _ _ _ _ _)
      | (with_reducible exact laws_toMonoid.mono _ _ _ _)
      | (with_reducible exact spec_WordOfMap.mono _ _ _ _ _)
      | (with_reducible exact LeO.refl _)
      | (with_reducible exact LeO.none _)
      | (with_reducible refine LeO.ite ?_ ?_)
      | (with_reducible refine LeO.bind ?_ (fun _ => ?_))
      | exact ih0 _ _ _ _ _ _ _
      | exact laws_eqMonoid.mono _ _ _ _ _ _ _
      | exact laws_szMonoid.mono _ _ _ _ _
      | exact laws_toMonoid.mono _ _ _ _
      | exact spec_WordOfMap.mono _ _ _ _ _
      | exact LeO.none _
      | refine LeO.ite ?_ ?_
      | refine LeO.bind ?_ (fun _ => ?_)
theorem laws_FnExactWordOfMap.mono : ∀ a0 a1 a2 a3 k, LeO (laws_FnExactWordOfMap.f k a0 a1 a2 a3) (laws_FnExactWordOfMap.f (k + 1) a0 a1 a2 a3) := by
  intro a0 a1 a2 a3 k
  have ih0 := laws_FnExactWordOfMap.mono_l k
  unfold laws_FnExactWordOfMap.f
  repeat' first
      | (with_reducible exact ih0 _ _ _ _ _ _ _)
      | (with_reducible exact laws_eqMonoid.mono _ _ _ _ _ _ _)
      | (with_reducible exact laws_szMonoid.mono _ _ _ _ _)
      | (with_reducible exact laws_toMonoid.mono _ _ _ _)
      | (with_reducible exact spec_WordOfMap.mono _ _ _ _ _)
      | (with_reducible exact LeO.refl _)
      | (with_reducible exact LeO.none _)
      | (with_reducible refine LeO.ite ?_ ?_)
      | (with_reducible refine LeO.bind ?_ (fun _ => ?_))
      | exact ih0 _ _ _ _ _ _ _
      | exact laws_eqMonoid.mono _ _ _ _ _ _ _
      | exact laws_szMonoid.mono _ _ _ _ _
      | exact laws_toMonoid.mono _ _ _ _
      | exact spec_WordOfMap.mono _ _ _ _ _
      | exact LeO.none _
      | refine LeO.ite ?_ ?_
      | refine LeO.bind ?_ (fun _ => ?_)
set_option maxHeartbeats 8000000 in
set_option maxRecDepth 100000 in
theorem laws_FnExactWordOfMap.calls (k : Nat) (A0_0 : Option Addr) (c0_0 : Nat) (l0_0 : List (List Int)) (A0_1 : Option Addr) (c0_1 : Nat) (l0_1 : List Int) (A0_2 : Option Addr) (c0_2 : Nat) (l0_2 : List (List Int)) (a1 : Int) (r : Bool) (w : World) (hr0_0 : Kd.C (Kd.slice 3 (Kd.int .i64)) w A0_0 l0_0.length l0_0) (hc0_0 : l0_0.length ≤ c0_0) (hr0_1 : Kd.C (Kd.int .i64) w A0_1 l0_1.length l0_1) (hc0_1 : l0_1.length ≤ c0_1) (hr0_2 : Kd.C (Kd.slice 3 (Kd.int .i64)) w A0_2 l0_2.length l0_2) (hc0_2 : l0_2.length ≤ c0_2) (h : laws_FnExactWordOfMap.f k l0_0 l0_1 l0_2 a1 = some r) :
    Calls Try.prog 5 #[.agg #[.slice A0_0 l0_0.length c0_0, .slice A0_1 l0_1.length c0_1, .slice A0_2 l0_2.length c0_2], .int .i64 a1] w fun e w' => e = .returned (.bool r) ∧ Below w.heap.size w w' := by
  have hu42 := Try.underlying42
  have hu46 := Try.underlying46
  have HR0_0 := Aside0.mk hr0_0
  have HC0_0 := Aside0.mk hc0_0
  clear hr0_0 hc0_0
  have HR0_1 := Aside0.mk hr0_1
  have HC0_1 := Aside0.mk hc0_1
  clear hr0_1 hc0_1
  have HR0_2 := Aside0.mk hr0_2
  have HC0_2 := Aside0.mk hc0_2
  clear hr0_2 hc0_2
  have HB := Aside0.mk (Below.refl w.heap.size w)
  have H : ((laws_szMonoid.f k l0_0 l0_1 l0_2 1048576).bind fun t5002 => (if t5002 < 0 then (some true) else ((laws_toMonoid.f k l0_0 l0_1 l0_2).bind fun bt5003 => ((spec_WordOfMap.f k bt5003.1 bt5003.2.1 bt5003.2.2 a1).bind fun bt5012 => ((laws_toMonoid.f k l0_0 l0_1 l0_2).bind fun bt5014 => ((impl_WordOfMap.f bt5014.1 bt5014.2.1 bt5014.2.2 a1).bind fun bt5024 => (if bt5024.1.toList = bt5012.1.toList then (laws_FnExactWordOfMap.j0 k (bt5024.2 != bt5012.2) l0_0 l0_1 l0_2 bt5014.1 bt5014.2.1 bt5014.2.2) else (laws_FnExactWordOfMap.j0 k true l0_0 l0_1 l0_2 bt5014.1 bt5014.2.1 bt5014.2.2)))))))) = some r := h
  clear h
  replace H := Option.bind_eq_some_iff.mp H
  obtain ⟨t5002, A30, H⟩ := H
  replace H : (if t5002 < 0 then (some true) else ((laws_toMonoid.f k l0_0 l0_1 l0_2).bind fun bt5003 => ((spec_WordOfMap.f k bt5003.1 bt5003.2.1 bt5003.2.2 a1).bind fun bt5012 => ((laws_toMonoid.f k l0_0 l0_1 l0_2).bind fun bt5014 => ((impl_WordOfMap.f bt5014.1 bt5014.2.1 bt5014.2.2 a1).bind fun bt5024 => (if bt5024.1.toList = bt5012.1.toList then (laws_FnExactWordOfMap.j0 k (bt5024.2 != bt5012.2) l0_0 l0_1 l0_2 bt5014.1 bt5014.2.1 bt5014.2.2) else (laws_FnExactWordOfMap.j0 k true l0_0 l0_1 l0_2 bt5014.1 bt5014.2.1 bt5014.2.2))))))) = some r := H
  have A3 := Aside0.mk A30
  clear A30
  by_cases c4 : t5002 < 0
  · rw [if_pos c4] at H
    have c4b0 : decide (t5002 < 0) = true := decide_eq_true c4
    clear c4
    obtain rfl := Option.some.inj H
    go_enter Try.func5, Try.ntmps5
    go_wp2_with (first | ((with_reducible refine gate_dst (N := 2) rfl ?_); refine box_event ?hg (N := 2) ?hd (cs := #[.slice A0_0 l0_0.length c0_0, .slice A0_1 l0_1.length c0_1, .slice A0_2 l0_2.length c0_2]) (t := 42) ?hr ?_; (case hd => rfl); (case hg => rfl); (case hr => first | (go_simp; done) | (go_simp; rfl)); intro gb5001 hg w5 hbox hb; have n0_ := Aside0.mk (below_step (by repeat (first | (with_reducible first | exact HB.out | apply below_alloc | apply pw_below_drewN | apply below_drew1) | exact HB.out)) hb); have n1_ := Aside0.mk (hbox); have n2_ := Aside0.mk ((by rw [hg]; exact (below_size (by repeat (first | (with_reducible first | exact HB.out | apply below_alloc | apply pw_below_drewN | apply below_drew1) | exact HB.out))) : w.heap.size ≤ gb5001)); have n3_ := Aside0.mk ((by rw [hg]; exact (below_size (by repeat (first | (with_reducible first | exact HB.out | apply below_alloc | apply pw_below_drewN | apply below_drew1) | exact HB.out))) : w.heap.size ≤ gb5001)); clear HB; have HB := n0_; have BK5001 := n1_; have GW5001 := n2_; have GE5001 := n3_; clear n0_ n1_ n2_ n3_; clear hb hbox hg; have hcz6_0 : w5.cell? ⟨gb5001, 0, none⟩ = some (.slice A0_0 l0_0.length c0_0) := (blk_cell BK5001.out 0).trans rfl; have hcz6_1 : w5.cell? ⟨gb5001, 1, none⟩ = some (.slice A0_1 l0_1.length c0_1) := (blk_cell BK5001.out 1).trans rfl; have hcz6_2 : w5.cell? ⟨gb5001, 2, none⟩ = some (.slice A0_2 l0_2.length c0_2) := (blk_cell BK5001.out 2).trans rfl; have hfz6_0 := blk_frozen BK5001.out 0; have hfz6_1 := blk_frozen BK5001.out 1; have hfz6_2 := blk_frozen BK5001.out 2) | ((with_reducible refine gate_callee (f := 17) rfl ?_); refine goesL_ (some 13) rfl rfl Try.func17 (by kernel_rfl) rfl #[.agg #[.slice A0_0 l0_0.length c0_0, .slice A0_1 l0_1.length c0_1, .slice A0_2 l0_2.length c0_2], .int .i64 1048576] rfl (by (try simp only [List.map_toArray, List.map_cons, List.map_nil]); first | done | rfl | (simp only [List.length_drop, List.length_take]; rfl)) ?_; (with_reducible refine (laws_szMonoid.calls k _ _ l0_0 _ _ l0_1 _ _ l0_2 1048576 t5002 _ ?side1 ?side2 ?side3 ?side4 ?side5 ?side6 A3.out).mono ?_); (case side1 => repeat (first | exact (Kd.C_below HR0_0.out HB.out) | (with_reducible refine Kd.C_alloc ?_ _) | (with_reducible refine Kd.C_drewN ?_ _) | (with_reducible refine Kd.C_drew ?_))); (case side2 => exact HC0_0.out); (case side3 => repeat (first | exact (Kd.C_below HR0_1.out HB.out) | (with_reducible refine Kd.C_alloc ?_ _) | (with_reducible refine Kd.C_drewN ?_ _) | (with_reducible refine Kd.C_drew ?_))); (case side4 => exact HC0_1.out); (case side5 => repeat (first | exact (Kd.C_below HR0_2.out HB.out) | (with_reducible refine Kd.C_alloc ?_ _) | (with_reducible refine Kd.C_drewN ?_ _) | (with_reducible refine Kd.C_drew ?_))); (case side6 => exact HC0_2.out); rintro e w7 ⟨rfl, hb⟩; refine ⟨_, rfl, ?_⟩; have n0_ := Aside0.mk (blk_below (g := gb5001) (o := .cells #[.slice A0_0 l0_0.length c0_0, .slice A0_1 l0_1.length c0_1, .slice A0_2 l0_2.length c0_2] 42 (0, 0)) (by (with_reducible repeat (first | refine blk_drewN ?_ _ | refine blk_drew ?_ | refine blk_alloc ?_ _)); exact BK5001.out) hb); have n1_ := Aside0.mk (below_step (by repeat (first | (with_reducible first | exact HB.out | apply below_alloc | apply pw_below_drewN | apply below_drew1 | refine below_set ?_ GE5001.out) | exact HB.out)) hb); clear BK5001; clear HB; have BK5001 := n0_; have HB := n1_; clear n0_ n1_; (try clear hb); (try clear hb2); (try clear hk); (try clear hi)))
    go_ret
    exact ⟨by first | rfl | (simp [errW_none, errW_some] <;> rfl) | (simp [*, errW_none, errW_some] <;> rfl), by repeat (first | (with_reducible first | exact HB.out | apply below_alloc | apply pw_below_drewN | apply below_drew1 | refine below_set ?_ GE5001.out) | exact HB.out)⟩
  · rw [if_neg c4] at H
    have c4b0 : decide (t5002 < 0) = false := decide_eq_false c4
    clear c4
    replace H := Option.bind_eq_some_iff.mp H
    obtain ⟨⟨t5003, t5006, t5009⟩, A80, H⟩ := H
    replace H : ((spec_WordOfMap.f k t5003 t5006 t5009 a1).bind fun bt5012 => ((laws_toMonoid.f k l0_0 l0_1 l0_2).bind fun bt5014 => ((impl_WordOfMap.f bt5014.1 bt5014.2.1 bt5014.2.2 a1).bind fun bt5024 => (if bt5024.1.toList = bt5012.1.toList then (laws_FnExactWordOfMap.j0 k (bt5024.2 != bt5012.2) l0_0 l0_1 l0_2 bt5014.1 bt5014.2.1 bt5014.2.2) else (laws_FnExactWordOfMap.j0 k true l0_0 l0_1 l0_2 bt5014.1 bt5014.2.1 bt5014.2.2))))) = some r := H
    have A8 := Aside0.mk A80
    clear A80
    replace H := Option.bind_eq_some_iff.mp H
    obtain ⟨⟨t5012, t5013⟩, A90, H⟩ := H
    replace H : ((laws_toMonoid.f k l0_0 l0_1 l0_2).bind fun bt5014 => ((impl_WordOfMap.f bt5014.1 bt5014.2.1 bt5014.2.2 a1).bind fun bt5024 => (if bt5024.1.toList = t5012.toList then (laws_FnExactWordOfMap.j0 k (bt5024.2 != t5013) l0_0 l0_1 l0_2 bt5014.1 bt5014.2.1 bt5014.2.2) else (laws_FnExactWordOfMap.j0 k true l0_0 l0_1 l0_2 bt5014.1 bt5014.2.1 bt5014.2.2)))) = some r := H
    have A9 := Aside0.mk A90
    clear A90
    replace H := Option.bind_eq_some_iff.mp H
    obtain ⟨⟨t5014, t5017, t5020⟩, A100, H⟩ := H
    replace H : ((impl_WordOfMap.f t5014 t5017 t5020 a1).bind fun bt5024 => (if bt5024.1.toList = t5012.toList then (laws_FnExactWordOfMap.j0 k (bt5024.2 != t5013) l0_0 l0_1 l0_2 t5014 t5017 t5020) else (laws_FnExactWordOfMap.j0 k true l0_0 l0_1 l0_2 t5014 t5017 t5020))) = some r := H
    have A10 := Aside0.mk A100
    clear A100
    replace H := Option.bind_eq_some_iff.mp H
    obtain ⟨⟨t5024, t5025⟩, A110, H⟩ := H
    replace H : (if t5024.toList = t5012.toList then (laws_FnExactWordOfMap.j0 k (t5025 != t5013) l0_0 l0_1 l0_2 t5014 t5017 t5020) else (laws_FnExactWordOfMap.j0 k true l0_0 l0_1 l0_2 t5014 t5017 t5020)) = some r := H
    have A11 := Aside0.mk A110
    clear A110
    have HC12 := Aside0.mk H
    clear H
    go_enter Try.func5, Try.ntmps5
    go_upto_region 8 with (first | ((with_reducible refine gate_dst (N := 2) rfl ?_); refine box_event ?hg (N := 2) ?hd (cs := #[.slice A0_0 l0_0.length c0_0, .slice A0_1 l0_1.length c0_1, .slice A0_2 l0_2.length c0_2]) (t := 42) ?hr ?_; (case hd => rfl); (case hg => rfl); (case hr => first | (go_simp; done) | (go_simp; rfl)); intro gb5001 hg w13 hbox hb; have n0_ := Aside0.mk (below_step (by repeat (first | (with_reducible first | exact HB.out | apply below_alloc | apply pw_below_drewN | apply below_drew1) | exact HB.out)) hb); have n1_ := Aside0.mk (hbox); have n2_ := Aside0.mk ((by rw [hg]; exact (below_size (by repeat (first | (with_reducible first | exact HB.out | apply below_alloc | apply pw_below_drewN | apply below_drew1) | exact HB.out))) : w.heap.size ≤ gb5001)); have n3_ := Aside0.mk ((by rw [hg]; exact (below_size (by repeat (first | (with_reducible first | exact HB.out | apply below_alloc | apply pw_below_drewN | apply below_drew1) | exact HB.out))) : w.heap.size ≤ gb5001)); clear HB; have HB := n0_; have BK5001 := n1_; have GW5001 := n2_; have GE5001 := n3_; clear n0_ n1_ n2_ n3_; clear hb hbox hg; have hcz14_0 : w13.cell? ⟨gb5001, 0, none⟩ = some (.slice A0_0 l0_0.length c0_0) := (blk_cell BK5001.out 0).trans rfl; have hcz14_1 : w13.cell? ⟨gb5001, 1, none⟩ = some (.slice A0_1 l0_1.length c0_1) := (blk_cell BK5001.out 1).trans rfl; have hcz14_2 : w13.cell? ⟨gb5001, 2, none⟩ = some (.slice A0_2 l0_2.length c0_2) := (blk_cell BK5001.out 2).trans rfl; have hfz14_0 := blk_frozen BK5001.out 0; have hfz14_1 := blk_frozen BK5001.out 1; have hfz14_2 := blk_frozen BK5001.out 2) | ((with_reducible refine gate_callee (f := 17) rfl ?_); refine goesL_ (some 13) rfl rfl Try.func17 (by kernel_rfl) rfl #[.agg #[.slice A0_0 l0_0.length c0_0, .slice A0_1 l0_1.length c0_1, .slice A0_2 l0_2.length c0_2], .int .i64 1048576] rfl (by (try simp only [List.map_toArray, List.map_cons, List.map_nil]); first | done | rfl | (simp only [List.length_drop, List.length_take]; rfl)) ?_; (with_reducible refine (laws_szMonoid.calls k _ _ l0_0 _ _ l0_1 _ _ l0_2 1048576 t5002 _ ?side1 ?side2 ?side3 ?side4 ?side5 ?side6 A3.out).mono ?_); (case side1 => repeat (first | exact (Kd.C_below HR0_0.out HB.out) | (with_reducible refine Kd.C_alloc ?_ _) | (with_reducible refine Kd.C_drewN ?_ _) | (with_reducible refine Kd.C_drew ?_))); (case side2 => exact HC0_0.out); (case side3 => repeat (first | exact (Kd.C_below HR0_1.out HB.out) | (with_reducible refine Kd.C_alloc ?_ _) | (with_reducible refine Kd.C_drewN ?_ _) | (with_reducible refine Kd.C_drew ?_))); (case side4 => exact HC0_1.out); (case side5 => repeat (first | exact (Kd.C_below HR0_2.out HB.out) | (with_reducible refine Kd.C_alloc ?_ _) | (with_reducible refine Kd.C_drewN ?_ _) | (with_reducible refine Kd.C_drew ?_))); (case side6 => exact HC0_2.out); rintro e w15 ⟨rfl, hb⟩; refine ⟨_, rfl, ?_⟩; have n0_ := Aside0.mk (blk_below (g := gb5001) (o := .cells #[.slice A0_0 l0_0.length c0_0, .slice A0_1 l0_1.length c0_1, .slice A0_2 l0_2.length c0_2] 42 (0, 0)) (by (with_reducible repeat (first | refine blk_drewN ?_ _ | refine blk_drew ?_ | refine blk_alloc ?_ _)); exact BK5001.out) hb); have n1_ := Aside0.mk (below_step (by repeat (first | (with_reducible first | exact HB.out | apply below_alloc | apply pw_below_drewN | apply below_drew1 | refine below_set ?_ GE5001.out) | exact HB.out)) hb); clear BK5001; clear HB; have BK5001 := n0_; have HB := n1_; clear n0_ n1_; (try clear hb); (try clear hb2); (try clear hk); (try clear hi); have hcz16_0 : w15.cell? ⟨gb5001, 0, none⟩ = some (.slice A0_0 l0_0.length c0_0) := (blk_cell BK5001.out 0).trans rfl; have hcz16_1 : w15.cell? ⟨gb5001, 1, none⟩ = some (.slice A0_1 l0_1.length c0_1) := (blk_cell BK5001.out 1).trans rfl; have hcz16_2 : w15.cell? ⟨gb5001, 2, none⟩ = some (.slice A0_2 l0_2.length c0_2) := (blk_cell BK5001.out 2).trans rfl; have hfz16_0 := blk_frozen BK5001.out 0; have hfz16_1 := blk_frozen BK5001.out 1; have hfz16_2 := blk_frozen BK5001.out 2) | ((with_reducible refine gate_callee (f := 19) rfl ?_); refine goesL_ (some 18) rfl rfl Try.func19 (by kernel_rfl) rfl #[.agg #[.slice A0_0 l0_0.length c0_0, .slice A0_1 l0_1.length c0_1, .slice A0_2 l0_2.length c0_2]] rfl (by (try simp only [List.map_toArray, List.map_cons, List.map_nil]); first | done | rfl | (simp only [List.length_drop, List.length_take]; rfl)) ?_; (with_reducible refine (laws_toMonoid.calls k _ _ l0_0 _ _ l0_1 _ _ l0_2 t5003 t5006 t5009 _ ?side1 ?side2 ?side3 ?side4 ?side5 ?side6 A8.out).mono ?_); (case side1 => repeat (first | exact (Kd.C_below HR0_0.out HB.out) | (with_reducible refine Kd.C_alloc ?_ _) | (with_reducible refine Kd.C_drewN ?_ _) | (with_reducible refine Kd.C_drew ?_))); (case side2 => exact HC0_0.out); (case side3 => repeat (first | exact (Kd.C_below HR0_1.out HB.out) | (with_reducible refine Kd.C_alloc ?_ _) | (with_reducible refine Kd.C_drewN ?_ _) | (with_reducible refine Kd.C_drew ?_))); (case side4 => exact HC0_1.out); (case side5 => repeat (first | exact (Kd.C_below HR0_2.out HB.out) | (with_reducible refine Kd.C_alloc ?_ _) | (with_reducible refine Kd.C_drewN ?_ _) | (with_reducible refine Kd.C_drew ?_))); (case side6 => exact HC0_2.out); rintro e w17 ⟨v5004, v5007, v5010, rfl, ho0, ho1, ho2, hb⟩; refine ⟨_, rfl, ?_⟩; have n0_ := Aside0.mk (Kd.S_lower ho0 (below_size (by repeat (first | (with_reducible first | exact HB.out | apply below_alloc | apply pw_below_drewN | apply below_drew1 | refine below_set ?_ GE5001.out) | exact HB.out)))); have n1_ := Aside0.mk (Kd.R_lower ho1 (below_size (by repeat (first | (with_reducible first | exact HB.out | apply below_alloc | apply pw_below_drewN | apply below_drew1 | refine below_set ?_ GE5001.out) | exact HB.out)))); have n2_ := Aside0.mk (Kd.S_lower ho2 (below_size (by repeat (first | (with_reducible first | exact HB.out | apply below_alloc | apply pw_below_drewN | apply below_drew1 | refine below_set ?_ GE5001.out) | exact HB.out)))); have n3_ := Aside0.mk (blk_below (g := gb5001) (o := .cells #[.slice A0_0 l0_0.length c0_0, .slice A0_1 l0_1.length c0_1, .slice A0_2 l0_2.length c0_2] 42 (0, 0)) (by (with_reducible repeat (first | refine blk_drewN ?_ _ | refine blk_drew ?_ | refine blk_alloc ?_ _)); exact BK5001.out) hb); have n4_ := Aside0.mk (below_step (by repeat (first | (with_reducible first | exact HB.out | apply below_alloc | apply pw_below_drewN | apply below_drew1 | refine below_set ?_ GE5001.out) | exact HB.out)) hb); clear BK5001; clear HB; have HO5005 := n0_; have HO5008 := n1_; have HO5011 := n2_; have BK5001 := n3_; have HB := n4_; clear n0_ n1_ n2_ n3_ n4_; (try clear hb); (try clear hb2); (try clear hk); (try clear hi); (try clear ho0); (try clear ho1); (try clear ho2); obtain ⟨Ao18, co18, eo18⟩ := Kd.S_slice HO5005.out; subst eo18; obtain ⟨Ao19, co19, eo19⟩ := Kd.R_slice HO5008.out; subst eo19; obtain ⟨Ao20, co20, eo20⟩ := Kd.S_slice HO5011.out; subst eo20) | ((with_reducible refine gate_callee (f := 18) rfl ?_); refine goesL_ (some 20) rfl rfl Try.func18 (by kernel_rfl) rfl #[.agg #[.slice Ao18 t5003.length co18, .slice Ao19 t5006.length co19, .slice Ao20 t5009.length co20], .int .i64 a1] rfl (by (try simp only [List.map_toArray, List.map_cons, List.map_nil]); first | done | rfl | (simp only [List.length_drop, List.length_take]; rfl)) ?_; (with_reducible refine (spec_WordOfMap.calls k _ _ t5003 _ _ t5006 _ _ t5009 a1 t5012 t5013 _ ?side1 ?side2 ?side3 ?side4 ?side5 ?side6 A9.out).mono ?_); (case side1 => repeat (first | exact (Kd.S_reads' HO5005.out).2.2 | (with_reducible refine Kd.C_alloc ?_ _) | (with_reducible refine Kd.C_drewN ?_ _) | (with_reducible refine Kd.C_drew ?_))); (case side2 => exact (Kd.S_reads' HO5005.out).2.1); (case side3 => repeat (first | exact (Kd.R_reads' HO5008.out).2.2 | (with_reducible refine Kd.C_alloc ?_ _) | (with_reducible refine Kd.C_drewN ?_ _) | (with_reducible refine Kd.C_drew ?_))); (case side4 => exact (Kd.R_reads' HO5008.out).2.1); (case side5 => repeat (first | exact (Kd.S_reads' HO5011.out).2.2 | (with_reducible refine Kd.C_alloc ?_ _) | (with_reducible refine Kd.C_drewN ?_ _) | (with_reducible refine Kd.C_drew ?_))); (case side6 => exact (Kd.S_reads' HO5011.out).2.1); rintro e w21 ⟨rfl, hb⟩; refine ⟨_, rfl, ?_⟩; have n0_ := Aside0.mk (Kd.S_below (by (with_reducible repeat (first | apply Kd.S_alloc | apply Kd.S_drewN | apply Kd.S_drew)); exact HO5005.out) hb); have n1_ := Aside0.mk (Kd.R_below (by (with_reducible repeat (first | apply Kd.R_alloc | apply Kd.R_drewN | apply Kd.R_drew)); exact HO5008.out) hb); have n2_ := Aside0.mk (Kd.S_below (by (with_reducible repeat (first | apply Kd.S_alloc | apply Kd.S_drewN | apply Kd.S_drew)); exact HO5011.out) hb); have n3_ := Aside0.mk (blk_below (g := gb5001) (o := .cells #[.slice A0_0 l0_0.length c0_0, .slice A0_1 l0_1.length c0_1, .slice A0_2 l0_2.length c0_2] 42 (0, 0)) (by (with_reducible repeat (first | refine blk_drewN ?_ _ | refine blk_drew ?_ | refine blk_alloc ?_ _)); exact BK5001.out) hb); have n4_ := Aside0.mk (below_step (by repeat (first | (with_reducible first | exact HB.out | apply below_alloc | apply pw_below_drewN | apply below_drew1 | refine below_set ?_ GE5001.out) | exact HB.out)) hb); clear HO5005; clear HO5008; clear HO5011; clear BK5001; clear HB; have HO5005 := n0_; have HO5008 := n1_; have HO5011 := n2_; have BK5001 := n3_; have HB := n4_; clear n0_ n1_ n2_ n3_ n4_; (try clear hb); (try clear hb2); (try clear hk); (try clear hi); have hcz22_0 : w21.cell? ⟨gb5001, 0, none⟩ = some (.slice A0_0 l0_0.length c0_0) := (blk_cell BK5001.out 0).trans rfl; have hcz22_1 : w21.cell? ⟨gb5001, 1, none⟩ = some (.slice A0_1 l0_1.length c0_1) := (blk_cell BK5001.out 1).trans rfl; have hcz22_2 : w21.cell? ⟨gb5001, 2, none⟩ = some (.slice A0_2 l0_2.length c0_2) := (blk_cell BK5001.out 2).trans rfl; have hfz22_0 := blk_frozen BK5001.out 0; have hfz22_1 := blk_frozen BK5001.out 1; have hfz22_2 := blk_frozen BK5001.out 2) | ((with_reducible refine gate_callee (f := 19) rfl ?_); refine goesL_ (some 24) rfl rfl Try.func19 (by kernel_rfl) rfl #[.agg #[.slice A0_0 l0_0.length c0_0, .slice A0_1 l0_1.length c0_1, .slice A0_2 l0_2.length c0_2]] rfl (by (try simp only [List.map_toArray, List.map_cons, List.map_nil]); first | done | rfl | (simp only [List.length_drop, List.length_take]; rfl)) ?_; (with_reducible refine (laws_toMonoid.calls k _ _ l0_0 _ _ l0_1 _ _ l0_2 t5014 t5017 t5020 _ ?side1 ?side2 ?side3 ?side4 ?side5 ?side6 A10.out).mono ?_); (case side1 => repeat (first | exact (Kd.C_below HR0_0.out HB.out) | (with_reducible refine Kd.C_alloc ?_ _) | (with_reducible refine Kd.C_drewN ?_ _) | (with_reducible refine Kd.C_drew ?_))); (case side2 => exact HC0_0.out); (case side3 => repeat (first | exact (Kd.C_below HR0_1.out HB.out) | (with_reducible refine Kd.C_alloc ?_ _) | (with_reducible refine Kd.C_drewN ?_ _) | (with_reducible refine Kd.C_drew ?_))); (case side4 => exact HC0_1.out); (case side5 => repeat (first | exact (Kd.C_below HR0_2.out HB.out) | (with_reducible refine Kd.C_alloc ?_ _) | (with_reducible refine Kd.C_drewN ?_ _) | (with_reducible refine Kd.C_drew ?_))); (case side6 => exact HC0_2.out); rintro e w23 ⟨v5015, v5018, v5021, rfl, ho0, ho1, ho2, hb⟩; refine ⟨_, rfl, ?_⟩; have n0_ := Aside0.mk (Kd.S_mono (Kd.S_told (Kd.S_told (Kd.S_told (Kd.S_old (by (with_reducible repeat (first | apply Kd.S_alloc | apply Kd.S_drewN | apply Kd.S_drew)); exact HO5005.out) hb) (Kd.S_base ho0)) (Kd.R_base ho1)) (Kd.S_base ho2)) (fun _ h_ => h_.1)); have n1_ := Aside0.mk (Kd.R_elder' (by (with_reducible repeat (first | apply Kd.R_alloc | apply Kd.R_drewN | apply Kd.R_drew)); exact HO5008.out) (Kd.R_base ho1) hb); have n2_ := Aside0.mk (Kd.S_mono (Kd.S_told (Kd.S_told (Kd.S_told (Kd.S_old (by (with_reducible repeat (first | apply Kd.S_alloc | apply Kd.S_drewN | apply Kd.S_drew)); exact HO5011.out) hb) (Kd.S_base ho0)) (Kd.R_base ho1)) (Kd.S_base ho2)) (fun _ h_ => h_.1)); have n3_ := Aside0.mk (Kd.S_lower (Kd.S_new' (Kd.S_new' (Kd.S_new' ho0 (Kd.S_lt (by (with_reducible repeat (first | apply Kd.S_alloc | apply Kd.S_drewN | apply Kd.S_drew)); exact HO5005.out))) (Kd.R_lt (by (with_reducible repeat (first | apply Kd.R_alloc | apply Kd.R_drewN | apply Kd.R_drew)); exact HO5008.out))) (Kd.S_lt (by (with_reducible repeat (first | apply Kd.S_alloc | apply Kd.S_drewN | apply Kd.S_drew)); exact HO5011.out))) (below_size (by repeat (first | (with_reducible first | exact HB.out | apply below_alloc | apply pw_below_drewN | apply below_drew1 | refine below_set ?_ GE5001.out) | exact HB.out)))); have n4_ := Aside0.mk (Kd.R_lower (Kd.R_new' ho1 (Kd.R_lt (by (with_reducible repeat (first | apply Kd.R_alloc | apply Kd.R_drewN | apply Kd.R_drew)); exact HO5008.out))) (below_size (by repeat (first | (with_reducible first | exact HB.out | apply below_alloc | apply pw_below_drewN | apply below_drew1 | refine below_set ?_ GE5001.out) | exact HB.out)))); have n5_ := Aside0.mk (Kd.S_lower (Kd.S_new' (Kd.S_new' (Kd.S_new' ho2 (Kd.S_lt (by (with_reducible repeat (first | apply Kd.S_alloc | apply Kd.S_drewN | apply Kd.S_drew)); exact HO5005.out))) (Kd.R_lt (by (with_reducible repeat (first | apply Kd.R_alloc | apply Kd.R_drewN | apply Kd.R_drew)); exact HO5008.out))) (Kd.S_lt (by (with_reducible repeat (first | apply Kd.S_alloc | apply Kd.S_drewN | apply Kd.S_drew)); exact HO5011.out))) (below_size (by repeat (first | (with_reducible first | exact HB.out | apply below_alloc | apply pw_below_drewN | apply below_drew1 | refine below_set ?_ GE5001.out) | exact HB.out)))); have n6_ := Aside0.mk (blk_below (g := gb5001) (o := .cells #[.slice A0_0 l0_0.length c0_0, .slice A0_1 l0_1.length c0_1, .slice A0_2 l0_2.length c0_2] 42 (0, 0)) (by (with_reducible repeat (first | refine blk_drewN ?_ _ | refine blk_drew ?_ | refine blk_alloc ?_ _)); exact BK5001.out) hb); have n7_ := Aside0.mk (below_step (by repeat (first | (with_reducible first | exact HB.out | apply below_alloc | apply pw_below_drewN | apply below_drew1 | refine below_set ?_ GE5001.out) | exact HB.out)) hb); clear HO5005; clear HO5008; clear HO5011; clear BK5001; clear HB; have HO5005 := n0_; have HO5008 := n1_; have HO5011 := n2_; have HO5016 := n3_; have HO5019 := n4_; have HO5022 := n5_; have BK5001 := n6_; have HB := n7_; clear n0_ n1_ n2_ n3_ n4_ n5_ n6_ n7_; (try clear hb); (try clear hb2); (try clear hk); (try clear hi); (try clear ho0); (try clear ho1); (try clear ho2)) | ((with_reducible refine gate_dst (N := 8) rfl ?_); refine box_event ?hg (N := 8) ?hd (cs := #[.slice none 0 0, .slice none 0 0, .slice none 0 0]) (t := 46) ?hr ?_; (case hd => rfl); (case hg => rfl); (case hr => first | (go_simp; done) | (go_simp; rfl)); intro gb5023 hg w24 hbox hb; have n0_ := Aside0.mk (Kd.S_below (by (with_reducible repeat (first | apply Kd.S_alloc | apply Kd.S_drewN | apply Kd.S_drew)); exact HO5005.out) hb); have n1_ := Aside0.mk (Kd.R_below (by (with_reducible repeat (first | apply Kd.R_alloc | apply Kd.R_drewN | apply Kd.R_drew)); exact HO5008.out) hb); have n2_ := Aside0.mk (Kd.S_below (by (with_reducible repeat (first | apply Kd.S_alloc | apply Kd.S_drewN | apply Kd.S_drew)); exact HO5011.out) hb); have n3_ := Aside0.mk (Kd.S_below (by (with_reducible repeat (first | apply Kd.S_alloc | apply Kd.S_drewN | apply Kd.S_drew)); exact HO5016.out) hb); have n4_ := Aside0.mk (Kd.R_below (by (with_reducible repeat (first | apply Kd.R_alloc | apply Kd.R_drewN | apply Kd.R_drew)); exact HO5019.out) hb); have n5_ := Aside0.mk (Kd.S_below (by (with_reducible repeat (first | apply Kd.S_alloc | apply Kd.S_drewN | apply Kd.S_drew)); exact HO5022.out) hb); have n6_ := Aside0.mk (blk_below (g := gb5001) (o := .cells #[.slice A0_0 l0_0.length c0_0, .slice A0_1 l0_1.length c0_1, .slice A0_2 l0_2.length c0_2] 42 (0, 0)) (by (with_reducible repeat (first | refine blk_drewN ?_ _ | refine blk_drew ?_ | refine blk_alloc ?_ _)); exact BK5001.out) hb); have n7_ := Aside0.mk (below_step (by repeat (first | (with_reducible first | exact HB.out | apply below_alloc | apply pw_below_drewN | apply below_drew1 | refine below_set ?_ GE5001.out) | exact HB.out)) hb); have n8_ := Aside0.mk (hbox); have n9_ := Aside0.mk ((by rw [hg]; exact (below_size (by repeat (first | (with_reducible first | exact HB.out | apply below_alloc | apply pw_below_drewN | apply below_drew1 | refine below_set ?_ GE5001.out) | exact HB.out))) : w.heap.size ≤ gb5023)); have n10_ := Aside0.mk ((by rw [hg]; exact (below_size (by repeat (first | (with_reducible first | exact HB.out | apply below_alloc | apply pw_below_drewN | apply below_drew1 | refine below_set ?_ GE5001.out) | exact HB.out))) : w.heap.size ≤ gb5023)); have n11_ := Aside0.mk ((by rw [hg]; exact Nat.ne_of_lt (blk_lt (g := gb5001) (o := .cells #[.slice A0_0 l0_0.length c0_0, .slice A0_1 l0_1.length c0_1, .slice A0_2 l0_2.length c0_2] 42 (0, 0)) (by (with_reducible repeat (first | refine blk_drewN ?_ _ | refine blk_drew ?_ | refine blk_alloc ?_ _)); exact BK5001.out)) : gb5001 ≠ gb5023)); have n12_ := Aside0.mk ((by rw [hg]; exact Nat.ne_of_gt (blk_lt (g := gb5001) (o := .cells #[.slice A0_0 l0_0.length c0_0, .slice A0_1 l0_1.length c0_1, .slice A0_2 l0_2.length c0_2] 42 (0, 0)) (by (with_reducible repeat (first | refine blk_drewN ?_ _ | refine blk_drew ?_ | refine blk_alloc ?_ _)); exact BK5001.out)) : gb5023 ≠ gb5001)); clear HO5005; clear HO5008; clear HO5011; clear HO5016; clear HO5019; clear HO5022; clear BK5001; clear HB; have HO5005 := n0_; have HO5008 := n1_; have HO5011 := n2_; have HO5016 := n3_; have HO5019 := n4_; have HO5022 := n5_; have BK5001 := n6_; have HB := n7_; have BK5023 := n8_; have GW5023 := n9_; have GE5023 := n10_; have NB5001_5023 := n11_; have NB5023_5001 := n12_; clear n0_ n1_ n2_ n3_ n4_ n5_ n6_ n7_ n8_ n9_ n10_ n11_ n12_; clear hb hbox hg; obtain ⟨Ao25, co25, eo25⟩ := Kd.S_slice HO5016.out; subst eo25; have hnb26 := NB5023_5001.out; have hnc26 := NB5001_5023.out; have hcz27_0 : w24.cell? ⟨gb5023, 0, none⟩ = some (.slice none 0 0) := (blk_cell BK5023.out 0).trans rfl; have hcz27_1 : w24.cell? ⟨gb5023, 1, none⟩ = some (.slice none 0 0) := (blk_cell BK5023.out 1).trans rfl; have hcz27_2 : w24.cell? ⟨gb5023, 2, none⟩ = some (.slice none 0 0) := (blk_cell BK5023.out 2).trans rfl; have hfz27_0 := blk_frozen BK5023.out 0; have hfz27_1 := blk_frozen BK5023.out 1; have hfz27_2 := blk_frozen BK5023.out 2; obtain ⟨Ao28, co28, eo28⟩ := Kd.R_slice HO5019.out; subst eo28; obtain ⟨Ao29, co29, eo29⟩ := Kd.S_slice HO5022.out; subst eo29) | ((with_reducible refine gate_callee (f := 20) rfl ?_); refine goesL_ (some 28) rfl rfl Try.func20 (by kernel_rfl) rfl #[.agg #[.slice Ao25 t5014.length co25, .slice Ao28 t5017.length co28, .slice Ao29 t5020.length co29], .int .i64 a1] rfl (by (try simp only [List.map_toArray, List.map_cons, List.map_nil]); first | done | rfl | (simp only [List.length_drop, List.length_take]; rfl)) ?_; (with_reducible refine (impl_WordOfMap.calls _ _ t5014 _ _ t5017 _ _ t5020 a1 t5024 t5025 _ ?side1 ?side2 ?side3 ?side4 ?side5 ?side6 A11.out).mono ?_); (case side1 => refine (Kd.S_reads' (e := 40) (base := w.heap.size) (ok := fun k_ => ((((some k_ ≠ (.slice Ao28 t5017.length co28 : Value).ownBlock ∧ some k_ ≠ (.slice Ao29 t5020.length co29 : Value).ownBlock) ∧ some k_ ≠ (.slice Ao18 t5003.length co18 : Value).ownBlock) ∧ some k_ ≠ (.slice Ao19 t5006.length co19 : Value).ownBlock) ∧ some k_ ≠ (.slice Ao20 t5009.length co20 : Value).ownBlock)) (n := t5014.length) (c := co25) ?_).2.2; exact (by (with_reducible repeat (first | apply Kd.S_alloc | apply Kd.S_drewN | apply Kd.S_drew)); exact (Kd.S_mono (Kd.S_far (p := ⟨gb5023, 2, none⟩) (Kd.S_far (p := ⟨gb5023, 1, none⟩) (Kd.S_far (p := ⟨gb5023, 0, none⟩) (Kd.S_types HO5016.out BK5023.out (by decide)) (fun _ hk => hk.2) (.slice Ao25 t5014.length co25)) (fun _ hk => hk.2) (.slice Ao28 t5017.length co28)) (fun _ hk => hk.2) (.slice Ao29 t5020.length co29)) (fun _ h_ => h_.1)))); (case side2 => exact (Kd.S_reads' HO5016.out).2.1); (case side3 => refine (Kd.R_reads' (e := 3) (base := w.heap.size) (ok := fun k_ => (True ∧ some k_ ≠ (.slice Ao19 t5006.length co19 : Value).ownBlock)) (n := t5017.length) (c := co28) ?_).2.2; exact (by (with_reducible repeat (first | apply Kd.R_alloc | apply Kd.R_drewN | apply Kd.R_drew)); exact (Kd.R_mono (Kd.R_far (p := ⟨gb5023, 2, none⟩) (Kd.R_far (p := ⟨gb5023, 1, none⟩) (Kd.R_far (p := ⟨gb5023, 0, none⟩) (Kd.R_types HO5019.out BK5023.out (by decide)) (fun _ hk => hk.2) (.slice Ao25 t5014.length co25)) (fun _ hk => hk.2) (.slice Ao28 t5017.length co28)) (fun _ hk => hk.2) (.slice Ao29 t5020.length co29)) (fun _ h_ => h_.1)))); (case side4 => exact (Kd.R_reads' HO5019.out).2.1); (case side5 => refine (Kd.S_reads' (e := 40) (base := w.heap.size) (ok := fun k_ => ((((some k_ ≠ (.slice Ao25 t5014.length co25 : Value).ownBlock ∧ some k_ ≠ (.slice Ao28 t5017.length co28 : Value).ownBlock) ∧ some k_ ≠ (.slice Ao18 t5003.length co18 : Value).ownBlock) ∧ some k_ ≠ (.slice Ao19 t5006.length co19 : Value).ownBlock) ∧ some k_ ≠ (.slice Ao20 t5009.length co20 : Value).ownBlock)) (n := t5020.length) (c := co29) ?_).2.2; exact (by (with_reducible repeat (first | apply Kd.S_alloc | apply Kd.S_drewN | apply Kd.S_drew)); exact (Kd.S_mono (Kd.S_far (p := ⟨gb5023, 2, none⟩) (Kd.S_far (p := ⟨gb5023, 1, none⟩) (Kd.S_far (p := ⟨gb5023, 0, none⟩) (Kd.S_types HO5022.out BK5023.out (by decide)) (fun _ hk => hk.2) (.slice Ao25 t5014.length co25)) (fun _ hk => hk.2) (.slice Ao28 t5017.length co28)) (fun _ hk => hk.2) (.slice Ao29 t5020.length co29)) (fun _ h_ => h_.1)))); (case side6 => exact (Kd.S_reads' HO5022.out).2.1); rintro e w30 ⟨rfl, hb⟩; refine ⟨_, rfl, ?_⟩; have n0_ := Aside0.mk (Kd.S_below (by (with_reducible repeat (first | apply Kd.S_alloc | apply Kd.S_drewN | apply Kd.S_drew)); exact (Kd.S_mono (Kd.S_far (p := ⟨gb5023, 2, none⟩) (Kd.S_far (p := ⟨gb5023, 1, none⟩) (Kd.S_far (p := ⟨gb5023, 0, none⟩) (Kd.S_types HO5005.out BK5023.out (by decide)) (fun _ hk => hk.2) (.slice Ao25 t5014.length co25)) (fun _ hk => hk.2) (.slice Ao28 t5017.length co28)) (fun _ hk => hk.2) (.slice Ao29 t5020.length co29)) (fun _ h_ => h_.1))) hb); have n1_ := Aside0.mk (Kd.R_below (by (with_reducible repeat (first | apply Kd.R_alloc | apply Kd.R_drewN | apply Kd.R_drew)); exact (Kd.R_mono (Kd.R_far (p := ⟨gb5023, 2, none⟩) (Kd.R_far (p := ⟨gb5023, 1, none⟩) (Kd.R_far (p := ⟨gb5023, 0, none⟩) (Kd.R_types HO5008.out BK5023.out (by decide)) (fun _ hk => hk.2) (.slice Ao25 t5014.length co25)) (fun _ hk => hk.2) (.slice Ao28 t5017.length co28)) (fun _ hk => hk.2) (.slice Ao29 t5020.length co29)) (fun _ h_ => h_.1))) hb); have n2_ := Aside0.mk (Kd.S_below (by (with_reducible repeat (first | apply Kd.S_alloc | apply Kd.S_drewN | apply Kd.S_drew)); exact (Kd.S_mono (Kd.S_far (p := ⟨gb5023, 2, none⟩) (Kd.S_far (p := ⟨gb5023, 1, none⟩) (Kd.S_far (p := ⟨gb5023, 0, none⟩) (Kd.S_types HO5011.out BK5023.out (by decide)) (fun _ hk => hk.2) (.slice Ao25 t5014.length co25)) (fun _ hk => hk.2) (.slice Ao28 t5017.length co28)) (fun _ hk => hk.2) (.slice Ao29 t5020.length co29)) (fun _ h_ => h_.1))) hb); have n3_ := Aside0.mk (Kd.S_below (by (with_reducible repeat (first | apply Kd.S_alloc | apply Kd.S_drewN | apply Kd.S_drew)); exact (Kd.S_mono (Kd.S_far (p := ⟨gb5023, 2, none⟩) (Kd.S_far (p := ⟨gb5023, 1, none⟩) (Kd.S_far (p := ⟨gb5023, 0, none⟩) (Kd.S_types HO5016.out BK5023.out (by decide)) (fun _ hk => hk.2) (.slice Ao25 t5014.length co25)) (fun _ hk => hk.2) (.slice Ao28 t5017.length co28)) (fun _ hk => hk.2) (.slice Ao29 t5020.length co29)) (fun _ h_ => h_.1))) hb); have n4_ := Aside0.mk (Kd.R_below (by (with_reducible repeat (first | apply Kd.R_alloc | apply Kd.R_drewN | apply Kd.R_drew)); exact (Kd.R_mono (Kd.R_far (p := ⟨gb5023, 2, none⟩) (Kd.R_far (p := ⟨gb5023, 1, none⟩) (Kd.R_far (p := ⟨gb5023, 0, none⟩) (Kd.R_types HO5019.out BK5023.out (by decide)) (fun _ hk => hk.2) (.slice Ao25 t5014.length co25)) (fun _ hk => hk.2) (.slice Ao28 t5017.length co28)) (fun _ hk => hk.2) (.slice Ao29 t5020.length co29)) (fun _ h_ => h_.1))) hb); have n5_ := Aside0.mk (Kd.S_below (by (with_reducible repeat (first | apply Kd.S_alloc | apply Kd.S_drewN | apply Kd.S_drew)); exact (Kd.S_mono (Kd.S_far (p := ⟨gb5023, 2, none⟩) (Kd.S_far (p := ⟨gb5023, 1, none⟩) (Kd.S_far (p := ⟨gb5023, 0, none⟩) (Kd.S_types HO5022.out BK5023.out (by decide)) (fun _ hk => hk.2) (.slice Ao25 t5014.length co25)) (fun _ hk => hk.2) (.slice Ao28 t5017.length co28)) (fun _ hk => hk.2) (.slice Ao29 t5020.length co29)) (fun _ h_ => h_.1))) hb); have n6_ := Aside0.mk (blk_below (g := gb5001) (o := .cells #[.slice A0_0 l0_0.length c0_0, .slice A0_1 l0_1.length c0_1, .slice A0_2 l0_2.length c0_2] 42 (0, 0)) (by (with_reducible repeat (first | refine blk_drewN ?_ _ | refine blk_drew ?_ | refine blk_alloc ?_ _)); refine blk_far ?_ NB5001_5023.out _; (with_reducible repeat (first | refine blk_drewN ?_ _ | refine blk_drew ?_ | refine blk_alloc ?_ _)); refine blk_far ?_ NB5001_5023.out _; (with_reducible repeat (first | refine blk_drewN ?_ _ | refine blk_drew ?_ | refine blk_alloc ?_ _)); refine blk_far ?_ NB5001_5023.out _; (with_reducible repeat (first | refine blk_drewN ?_ _ | refine blk_drew ?_ | refine blk_alloc ?_ _)); exact BK5001.out) hb); have n7_ := Aside0.mk (blk_below (g := gb5023) (o := .cells #[.slice Ao25 t5014.length co25, .slice Ao28 t5017.length co28, .slice Ao29 t5020.length co29] 46 (0, 0)) (by (with_reducible repeat (first | refine blk_drewN ?_ _ | refine blk_drew ?_ | refine blk_alloc ?_ _)); refine blk_put (cs := #[.slice Ao25 t5014.length co25, .slice Ao28 t5017.length co28, .slice none 0 0]) ?_ 2 _ rfl; (with_reducible repeat (first | refine blk_drewN ?_ _ | refine blk_drew ?_ | refine blk_alloc ?_ _)); refine blk_put (cs := #[.slice Ao25 t5014.length co25, .slice none 0 0, .slice none 0 0]) ?_ 1 _ rfl; (with_reducible repeat (first | refine blk_drewN ?_ _ | refine blk_drew ?_ | refine blk_alloc ?_ _)); refine blk_put (cs := #[.slice none 0 0, .slice none 0 0, .slice none 0 0]) ?_ 0 _ rfl; (with_reducible repeat (first | refine blk_drewN ?_ _ | refine blk_drew ?_ | refine blk_alloc ?_ _)); exact BK5023.out) hb); have n8_ := Aside0.mk (below_step (by repeat (first | (with_reducible first | exact HB.out | apply below_alloc | apply pw_below_drewN | apply below_drew1 | refine below_set ?_ GE5001.out | refine below_set ?_ GE5023.out) | exact HB.out)) hb); clear HO5005; clear HO5008; clear HO5011; clear HO5016; clear HO5019; clear HO5022; clear BK5001; clear BK5023; clear HB; have HO5005 := n0_; have HO5008 := n1_; have HO5011 := n2_; have HO5016 := n3_; have HO5019 := n4_; have HO5022 := n5_; have BK5001 := n6_; have BK5023 := n7_; have HB := n8_; clear n0_ n1_ n2_ n3_ n4_ n5_ n6_ n7_ n8_; (try clear hb); (try clear hb2); (try clear hk); (try clear hi)))
    (try simp only [Act.put, List.setIfInBounds_toArray, List.set_cons_zero, List.set_cons_succ])
    go_cut [38] (fun v38 wc => ∃ (kq : Nat) (x38_11 : Bool), v38 = .bool x38_11 ∧ Aside0 (laws_FnExactWordOfMap.j0 kq x38_11 l0_0 l0_1 l0_2 t5014 t5017 t5020 = some r) ∧ Aside0 (kq ≤ k) ∧ Aside0 (Kd.S (Kd.slice 3 (Kd.int .i64)) 40 wc w.heap.size (fun k_ => some k_ ≠ ((.slice Ao28 t5017.length co28) : Value).ownBlock ∧ some k_ ≠ ((.slice Ao29 t5020.length co29) : Value).ownBlock) (.slice Ao25 t5014.length co25) t5014) ∧ Aside0 (Kd.R (Kd.int .i64) 3 wc w.heap.size (fun _ => True) (.slice Ao28 t5017.length co28) t5017) ∧ Aside0 (Kd.S (Kd.slice 3 (Kd.int .i64)) 40 wc w.heap.size (fun k_ => some k_ ≠ ((.slice Ao25 t5014.length co25) : Value).ownBlock ∧ some k_ ≠ ((.slice Ao28 t5017.length co28) : Value).ownBlock) (.slice Ao29 t5020.length co29) t5020) ∧ Aside0 (wc.heap[gb5001]? = some (.cells #[(.slice A0_0 l0_0.length c0_0), (.slice A0_1 l0_1.length c0_1), (.slice A0_2 l0_2.length c0_2)] 42 (0, 0))) ∧ Aside0 (wc.heap[gb5023]? = some (.cells #[(.slice Ao25 t5014.length co25), (.slice Ao28 t5017.length co28), (.slice Ao29 t5020.length co29)] 46 (0, 0))) ∧ Aside0 (Below w.heap.size w wc))
    case first =>
      have H := HC12.out
      clear HC12
      by_cases c31 : t5024.toList = t5012.toList
      · rw [if_pos c31] at H
        have c31b0 : (t5024.toList == t5012.toList) = true := beq_iff_eq.mpr c31
        have c31b1 : (t5024.toList != t5012.toList) = false := bne_eq_false_iff_eq.mpr c31
        clear c31
        (first | rw [c31b0] | (simp only [i64_w, i32_w]; rw [c31b0]) | skip)
        have H' := Aside0.mk H
        clear H
        go_wp2
        go_meet
        case rel => exact ⟨_, ((t5025 != t5013)), (by first | rfl | (simp; done) | (simp [*]; done)), H', ⟨by first | omega | exact Nat.le_refl _⟩, ⟨by (with_reducible repeat (first | apply Kd.S_alloc | apply Kd.S_drewN | apply Kd.S_drew)); exact Kd.S_mono HO5016.out (fun _ hk => ⟨hk.1.1.1.1, hk.1.1.1.2⟩)⟩, ⟨by (with_reducible repeat (first | apply Kd.R_alloc | apply Kd.R_drewN | apply Kd.R_drew)); exact Kd.R_mono HO5019.out (fun _ hk => trivial)⟩, ⟨by (with_reducible repeat (first | apply Kd.S_alloc | apply Kd.S_drewN | apply Kd.S_drew)); exact Kd.S_mono HO5022.out (fun _ hk => ⟨hk.1.1.1.1, hk.1.1.1.2⟩)⟩, ⟨by (with_reducible repeat (first | refine blk_drewN ?_ _ | refine blk_drew ?_ | refine blk_alloc ?_ _)); exact BK5001.out⟩, ⟨by (with_reducible repeat (first | refine blk_drewN ?_ _ | refine blk_drew ?_ | refine blk_alloc ?_ _)); exact BK5023.out⟩, ⟨by repeat (first | (with_reducible first | exact HB.out | apply below_alloc | apply pw_below_drewN | apply below_drew1 | refine below_set ?_ GE5001.out | refine below_set ?_ GE5023.out) | exact HB.out)⟩⟩
      · rw [if_neg c31] at H
        have c31b0 : (t5024.toList == t5012.toList) = false := beq_eq_false_iff_ne.mpr c31
        have c31b1 : (t5024.toList != t5012.toList) = true := bne_iff_ne.mpr c31
        (first | rw [c31b0] | (simp only [i64_w, i32_w]; rw [c31b0]) | skip)
        have H' := Aside0.mk H
        clear H
        go_wp2
        go_meet
        case rel => exact ⟨_, (true), (by first | rfl | (simp; done) | (simp [*]; done)), H', ⟨by first | omega | exact Nat.le_refl _⟩, ⟨by (with_reducible repeat (first | apply Kd.S_alloc | apply Kd.S_drewN | apply Kd.S_drew)); exact Kd.S_mono HO5016.out (fun _ hk => ⟨hk.1.1.1.1, hk.1.1.1.2⟩)⟩, ⟨by (with_reducible repeat (first | apply Kd.R_alloc | apply Kd.R_drewN | apply Kd.R_drew)); exact Kd.R_mono HO5019.out (fun _ hk => trivial)⟩, ⟨by (with_reducible repeat (first | apply Kd.S_alloc | apply Kd.S_drewN | apply Kd.S_drew)); exact Kd.S_mono HO5022.out (fun _ hk => ⟨hk.1.1.1.1, hk.1.1.1.2⟩)⟩, ⟨by (with_reducible repeat (first | refine blk_drewN ?_ _ | refine blk_drew ?_ | refine blk_alloc ?_ _)); exact BK5001.out⟩, ⟨by (with_reducible repeat (first | refine blk_drewN ?_ _ | refine blk_drew ?_ | refine blk_alloc ?_ _)); exact BK5023.out⟩, ⟨by repeat (first | (with_reducible first | exact HB.out | apply below_alloc | apply pw_below_drewN | apply below_drew1 | refine below_set ?_ GE5001.out | refine below_set ?_ GE5023.out) | exact HB.out)⟩⟩
    case rest =>
      clear HC12
      try clear c1
      try clear c2
      try clear p2
      try clear c3
      try clear c4
      try clear c4b0
      try clear c5
      try clear c17
      try clear c18
      try clear c19
      try clear c20
      try clear c26
      try clear c31
      try clear c31b0
      try clear c31b1
      try clear hcz14_0
      try clear hcz14_1
      try clear hcz14_2
      try clear hcz16_0
      try clear hcz16_1
      try clear hcz16_2
      try clear hcz22_0
      try clear hcz22_1
      try clear hcz22_2
      try clear hcz27_0
      try clear hcz27_1
      try clear hcz27_2
      try clear hcz6_0
      try clear hcz6_1
      try clear hcz6_2
      try clear hfz14_0
      try clear hfz14_1
      try clear hfz14_2
      try clear hfz16_0
      try clear hfz16_1
      try clear hfz16_2
      try clear hfz22_0
      try clear hfz22_1
      try clear hfz22_2
      try clear hfz27_0
      try clear hfz27_1
      try clear hfz27_2
      try clear hfz6_0
      try clear hfz6_1
      try clear hfz6_2
      obtain ⟨kq, x38_11, rfl, HA, HJ11, HO_5024000, HO_5024001, HO_5024002, BK5001, BK5023, HB⟩ := hcut
      cases kq with
      | zero => exact absurd HA.out (by simp [laws_FnExactWordOfMap.j0])
      | succ kj11 =>
        have H := HA.out
        clear HA
        simp only [laws_FnExactWordOfMap.j0] at H
        by_cases c32 : x38_11 = true
        · subst c32
          have H1 : (some false) = some r := by rw [if_pos rfl] at H; exact H
          clear H
          have H := H1
          clear H1
          obtain rfl := Option.some.inj H
          go_wp2
          go_ret
          exact ⟨by first | rfl | (simp [errW_none, errW_some] <;> rfl) | (simp [*, errW_none, errW_some] <;> rfl), by repeat (first | (with_reducible first | exact HB.out | apply below_alloc | apply pw_below_drewN | apply below_drew1 | refine below_set ?_ GE5001.out | refine below_set ?_ GE5023.out) | exact HB.out)⟩
        · replace c32 := Bool.eq_false_iff.mpr c32
          subst c32
          have H1 : ((laws_toMonoid.f kj11 l0_0 l0_1 l0_2).bind fun bt5026 => ((laws_eqMonoid.f kj11 t5014 t5017 t5020 bt5026.1 bt5026.2.1 bt5026.2.2).bind fun t5035 => (if t5035 = true then (some true) else (some false)))) = some r := by rw [if_neg (show ¬ (false = true) by decide)] at H; exact H
          clear H
          have H := H1
          clear H1
          replace H := Option.bind_eq_some_iff.mp H
          obtain ⟨⟨t5026, t5029, t5032⟩, A330, H⟩ := H
          replace H : ((laws_eqMonoid.f kj11 t5014 t5017 t5020 t5026 t5029 t5032).bind fun t5035 => (if t5035 = true then (some true) else (some false))) = some r := H
          have A33 := Aside0.mk A330
          clear A330
          replace H := Option.bind_eq_some_iff.mp H
          obtain ⟨t5035, A340, H⟩ := H
          replace H : (if t5035 = true then (some true) else (some false)) = some r := H
          have A34 := Aside0.mk A340
          clear A340
          by_cases c35 : t5035 = true
          · subst c35
            have H1 : (some true) = some r := by rw [if_pos rfl] at H; exact H
            clear H
            have H := H1
            clear H1
            obtain rfl := Option.some.inj H
            try go_wp2
            have n0_ := Aside0.mk (Kd.S_drew HO_5024000.out)
            have n1_ := Aside0.mk (Kd.R_drew HO_5024001.out)
            have n2_ := Aside0.mk (Kd.S_drew HO_5024002.out)
            have n3_ := Aside0.mk (blk_drew BK5001.out)
            have n4_ := Aside0.mk (blk_drew BK5023.out)
            have n5_ := Aside0.mk (below_drew1 HB.out)
            clear HO_5024000
            clear HO_5024001
            clear HO_5024002
            clear BK5001
            clear BK5023
            clear HB
            have HO_5024000 := n0_
            have HO_5024001 := n1_
            have HO_5024002 := n2_
            have BK5001 := n3_
            have BK5023 := n4_
            have HB := n5_
            clear n0_ n1_ n2_ n3_ n4_ n5_
            refine start_ (n := 5) (S := fun w' => w'.cell? ⟨gb5023, 0, none⟩ = some (.slice Ao25 t5014.length co25) ∧ w'.cell? ⟨gb5023, 1, none⟩ = some (.slice Ao28 t5017.length co28) ∧ w'.cell? ⟨gb5023, 2, none⟩ = some (.slice Ao29 t5020.length co29) ∧ w'.cell? ⟨gb5001, 0, none⟩ = some (.slice A0_0 l0_0.length c0_0) ∧ w'.cell? ⟨gb5001, 1, none⟩ = some (.slice A0_1 l0_1.length c0_1) ∧ w'.cell? ⟨gb5001, 2, none⟩ = some (.slice A0_2 l0_2.length c0_2)) (ds := []) #[false, false, false, false, false] (by kernel_rfl) rfl rfl ⟨(blk_cell BK5023.out 0).trans rfl, (blk_cell BK5023.out 1).trans rfl, (blk_cell BK5023.out 2).trans rfl, (blk_cell BK5001.out 0).trans rfl, (blk_cell BK5001.out 1).trans rfl, (blk_cell BK5001.out 2).trans rfl⟩ (fun hHeld => ?_)
            generalize wc.drew = w36 at HO_5024000 HO_5024001 HO_5024002 BK5001 BK5023 HB hHeld ⊢
            refine take_ (i := 0) (N := some 39) (v := ?_) (a' := ?_) #[true, false, false, false, false] rfl rfl (by kernel_rfl) (fun _ _ _ h => h) (Or.inl ⟨by rfl, ?_⟩) hHeld ?_ ?_
            rotate_left
            · rintro w' ⟨s0, s1, s2, s3, s4, s5⟩
              go_simp
              first | with_reducible rfl | (rw [if_neg (by omega)]; done)
            rotate_left
            · simp only [Act.put, List.setIfInBounds_toArray, List.set_cons_zero, List.set_cons_succ, i64_w, i32_w]
              rfl
            refine take_ (i := 1) (N := some 40) (v := ?_) (a' := ?_) #[true, true, false, false, false] rfl rfl (by kernel_rfl) (fun _ _ _ h => h) (Or.inl ⟨by rfl, ?_⟩) hHeld ?_ ?_
            rotate_left
            · rintro w' ⟨s0, s1, s2, s3, s4, s5⟩
              go_simp
              first | with_reducible rfl | (rw [if_neg (by omega)]; done)
            rotate_left
            · simp only [Act.put, List.setIfInBounds_toArray, List.set_cons_zero, List.set_cons_succ, i64_w, i32_w]
              rfl
            refine one_ (i := 2) (N := some 41) #[true, true, true, false, false] rfl rfl (by kernel_rfl) (by decide) (fun K hK => ?_)
            refine goes_ Try.func19 (by kernel_rfl) rfl #[.agg #[.slice A0_0 l0_0.length c0_0, .slice A0_1 l0_1.length c0_1, .slice A0_2 l0_2.length c0_2]] (by rfl) rfl rfl (by (try simp only [List.map_toArray, List.map_cons, List.map_nil]); first | done | rfl | (simp only [List.length_drop, List.length_take]; rfl)) ?_
            with_reducible refine (laws_toMonoid.calls kj11 _ _ l0_0 _ _ l0_1 _ _ l0_2 t5026 t5029 t5032 _ ?side1 ?side2 ?side3 ?side4 ?side5 ?side6 A33.out).mono ?_
            (case side1 => repeat (first | exact (Kd.C_below HR0_0.out HB.out) | (with_reducible refine Kd.C_alloc ?_ _) | (with_reducible refine Kd.C_drewN ?_ _) | (with_reducible refine Kd.C_drew ?_)))
            (case side2 => exact HC0_0.out)
            (case side3 => repeat (first | exact (Kd.C_below HR0_1.out HB.out) | (with_reducible refine Kd.C_alloc ?_ _) | (with_reducible refine Kd.C_drewN ?_ _) | (with_reducible refine Kd.C_drew ?_)))
            (case side4 => exact HC0_1.out)
            (case side5 => repeat (first | exact (Kd.C_below HR0_2.out HB.out) | (with_reducible refine Kd.C_alloc ?_ _) | (with_reducible refine Kd.C_drewN ?_ _) | (with_reducible refine Kd.C_drew ?_)))
            (case side6 => exact HC0_2.out)
            rintro e w37 ⟨v5027, v5030, v5033, rfl, ho0, ho1, ho2, hb⟩
            refine ⟨_, rfl, ?_⟩
            have n0_ := Aside0.mk (Kd.S_mono (Kd.S_told (Kd.S_told (Kd.S_told (Kd.S_old (by (with_reducible repeat (first | apply Kd.S_alloc | apply Kd.S_drewN | apply Kd.S_drew)); exact HO_5024000.out) hb) (Kd.S_base ho0)) (Kd.R_base ho1)) (Kd.S_base ho2)) (fun _ h_ => h_.1))
            have n1_ := Aside0.mk (Kd.R_elder' (by (with_reducible repeat (first | apply Kd.R_alloc | apply Kd.R_drewN | apply Kd.R_drew)); exact HO_5024001.out) (Kd.R_base ho1) hb)
            have n2_ := Aside0.mk (Kd.S_mono (Kd.S_told (Kd.S_told (Kd.S_told (Kd.S_old (by (with_reducible repeat (first | apply Kd.S_alloc | apply Kd.S_drewN | apply Kd.S_drew)); exact HO_5024002.out) hb) (Kd.S_base ho0)) (Kd.R_base ho1)) (Kd.S_base ho2)) (fun _ h_ => h_.1))
            have n3_ := Aside0.mk (Kd.S_lower (Kd.S_new' (Kd.S_new' (Kd.S_new' ho0 (Kd.S_lt (by (with_reducible repeat (first | apply Kd.S_alloc | apply Kd.S_drewN | apply Kd.S_drew)); exact HO_5024000.out))) (Kd.R_lt (by (with_reducible repeat (first | apply Kd.R_alloc | apply Kd.R_drewN | apply Kd.R_drew)); exact HO_5024001.out))) (Kd.S_lt (by (with_reducible repeat (first | apply Kd.S_alloc | apply Kd.S_drewN | apply Kd.S_drew)); exact HO_5024002.out))) (below_size (by repeat (first | (with_reducible first | exact HB.out | apply below_alloc | apply pw_below_drewN | apply below_drew1 | refine below_set ?_ GE5001.out | refine below_set ?_ GE5023.out) | exact HB.out))))
            have n4_ := Aside0.mk (Kd.R_lower (Kd.R_new' ho1 (Kd.R_lt (by (with_reducible repeat (first | apply Kd.R_alloc | apply Kd.R_drewN | apply Kd.R_drew)); exact HO_5024001.out))) (below_size (by repeat (first | (with_reducible first | exact HB.out | apply below_alloc | apply pw_below_drewN | apply below_drew1 | refine below_set ?_ GE5001.out | refine below_set ?_ GE5023.out) | exact HB.out))))
            have n5_ := Aside0.mk (Kd.S_lower (Kd.S_new' (Kd.S_new' (Kd.S_new' ho2 (Kd.S_lt (by (with_reducible repeat (first | apply Kd.S_alloc | apply Kd.S_drewN | apply Kd.S_drew)); exact HO_5024000.out))) (Kd.R_lt (by (with_reducible repeat (first | apply Kd.R_alloc | apply Kd.R_drewN | apply Kd.R_drew)); exact HO_5024001.out))) (Kd.S_lt (by (with_reducible repeat (first | apply Kd.S_alloc | apply Kd.S_drewN | apply Kd.S_drew)); exact HO_5024002.out))) (below_size (by repeat (first | (with_reducible first | exact HB.out | apply below_alloc | apply pw_below_drewN | apply below_drew1 | refine below_set ?_ GE5001.out | refine below_set ?_ GE5023.out) | exact HB.out))))
            have n6_ := Aside0.mk (blk_below (g := gb5001) (o := .cells #[.slice A0_0 l0_0.length c0_0, .slice A0_1 l0_1.length c0_1, .slice A0_2 l0_2.length c0_2] 42 (0, 0)) (by (with_reducible repeat (first | refine blk_drewN ?_ _ | refine blk_drew ?_ | refine blk_alloc ?_ _)); exact BK5001.out) hb)
            have n7_ := Aside0.mk (blk_below (g := gb5023) (o := .cells #[.slice Ao25 t5014.length co25, .slice Ao28 t5017.length co28, .slice Ao29 t5020.length co29] 46 (0, 0)) (by (with_reducible repeat (first | refine blk_drewN ?_ _ | refine blk_drew ?_ | refine blk_alloc ?_ _)); exact BK5023.out) hb)
            have n8_ := Aside0.mk (below_step (by repeat (first | (with_reducible first | exact HB.out | apply below_alloc | apply pw_below_drewN | apply below_drew1 | refine below_set ?_ GE5001.out | refine below_set ?_ GE5023.out) | exact HB.out)) hb)
            clear HO_5024000
            clear HO_5024001
            clear HO_5024002
            clear BK5001
            clear BK5023
            clear HB
            have HO_5024000 := n0_
            have HO_5024001 := n1_
            have HO_5024002 := n2_
            have HO5028 := n3_
            have HO5031 := n4_
            have HO5034 := n5_
            have BK5001 := n6_
            have BK5023 := n7_
            have HB := n8_
            clear n0_ n1_ n2_ n3_ n4_ n5_ n6_ n7_ n8_
            (try clear hb)
            (try clear hb2)
            (try clear hk)
            (try clear hi)
            (try clear ho0)
            (try clear ho1)
            (try clear ho2)
            obtain ⟨Ao38, co38, eo38⟩ := Kd.S_slice HO5028.out
            (first | subst eo38 | (injection eo38 with f1_ f2_ f3_; have f4_ := f1_.symm; have f5_ := f3_.symm; clear f1_ f2_ f3_; subst f4_; subst f5_))
            obtain ⟨Ao39, co39, eo39⟩ := Kd.R_slice HO5031.out
            (first | subst eo39 | (injection eo39 with f1_ f2_ f3_; have f4_ := f1_.symm; have f5_ := f3_.symm; clear f1_ f2_ f3_; subst f4_; subst f5_))
            obtain ⟨Ao40, co40, eo40⟩ := Kd.S_slice HO5034.out
            (first | subst eo40 | (injection eo40 with f1_ f2_ f3_; have f4_ := f1_.symm; have f5_ := f3_.symm; clear f1_ f2_ f3_; subst f4_; subst f5_))
            refine hK.out _ _ ⟨(blk_cell BK5023.out 0).trans rfl, (blk_cell BK5023.out 1).trans rfl, (blk_cell BK5023.out 2).trans rfl, (blk_cell BK5001.out 0).trans rfl, (blk_cell BK5001.out 1).trans rfl, (blk_cell BK5001.out 2).trans rfl⟩ (fun hHeld => ?_)
            clear hK K
            refine norm_ (a' := ?_) ?_ ?_
            rotate_left
            · show Act.put _ (some 41) _ = _
              simp only [Act.put, List.setIfInBounds_toArray, List.set_cons_zero, List.set_cons_succ, i64_w, i32_w]
              rfl
            refine one_ (i := 3) (N := some 42) #[true, true, true, true, false] rfl rfl (by kernel_rfl) (by decide) (fun K hK => ?_)
            refine goes_ Try.func21 (by kernel_rfl) rfl #[.agg #[.slice Ao25 t5014.length co25, .slice Ao28 t5017.length co28, .slice Ao29 t5020.length co29], .agg #[.slice Ao38 t5026.length co38, .slice Ao39 t5029.length co39, .slice Ao40 t5032.length co40]] (by rfl) rfl rfl (by (try simp only [List.map_toArray, List.map_cons, List.map_nil]); first | done | rfl | (simp only [List.length_drop, List.length_take]; rfl)) ?_
            with_reducible refine (laws_eqMonoid.calls kj11 _ _ t5014 _ _ t5017 _ _ t5020 _ _ t5026 _ _ t5029 _ _ t5032 true _ ?side1 ?side2 ?side3 ?side4 ?side5 ?side6 ?side7 ?side8 ?side9 ?side10 ?side11 ?side12 A34.out).mono ?_
            (case side1 => repeat (first | exact (Kd.S_reads' HO_5024000.out).2.2 | (with_reducible refine Kd.C_alloc ?_ _) | (with_reducible refine Kd.C_drewN ?_ _) | (with_reducible refine Kd.C_drew ?_)))
            (case side2 => exact (Kd.S_reads' HO_5024000.out).2.1)
            (case side3 => repeat (first | exact (Kd.R_reads' HO_5024001.out).2.2 | (with_reducible refine Kd.C_alloc ?_ _) | (with_reducible refine Kd.C_drewN ?_ _) | (with_reducible refine Kd.C_drew ?_)))
            (case side4 => exact (Kd.R_reads' HO_5024001.out).2.1)
            (case side5 => repeat (first | exact (Kd.S_reads' HO_5024002.out).2.2 | (with_reducible refine Kd.C_alloc ?_ _) | (with_reducible refine Kd.C_drewN ?_ _) | (with_reducible refine Kd.C_drew ?_)))
            (case side6 => exact (Kd.S_reads' HO_5024002.out).2.1)
            (case side7 => repeat (first | exact (Kd.S_reads' HO5028.out).2.2 | (with_reducible refine Kd.C_alloc ?_ _) | (with_reducible refine Kd.C_drewN ?_ _) | (with_reducible refine Kd.C_drew ?_)))
            (case side8 => exact (Kd.S_reads' HO5028.out).2.1)
            (case side9 => repeat (first | exact (Kd.R_reads' HO5031.out).2.2 | (with_reducible refine Kd.C_alloc ?_ _) | (with_reducible refine Kd.C_drewN ?_ _) | (with_reducible refine Kd.C_drew ?_)))
            (case side10 => exact (Kd.R_reads' HO5031.out).2.1)
            (case side11 => repeat (first | exact (Kd.S_reads' HO5034.out).2.2 | (with_reducible refine Kd.C_alloc ?_ _) | (with_reducible refine Kd.C_drewN ?_ _) | (with_reducible refine Kd.C_drew ?_)))
            (case side12 => exact (Kd.S_reads' HO5034.out).2.1)
            rintro e w41 ⟨rfl, hb⟩
            refine ⟨_, rfl, ?_⟩
            have n0_ := Aside0.mk (Kd.S_below (by (with_reducible repeat (first | apply Kd.S_alloc | apply Kd.S_drewN | apply Kd.S_drew)); exact HO_5024000.out) hb)
            have n1_ := Aside0.mk (Kd.R_below (by (with_reducible repeat (first | apply Kd.R_alloc | apply Kd.R_drewN | apply Kd.R_drew)); exact HO_5024001.out) hb)
            have n2_ := Aside0.mk (Kd.S_below (by (with_reducible repeat (first | apply Kd.S_alloc | apply Kd.S_drewN | apply Kd.S_drew)); exact HO_5024002.out) hb)
            have n3_ := Aside0.mk (Kd.S_below (by (with_reducible repeat (first | apply Kd.S_alloc | apply Kd.S_drewN | apply Kd.S_drew)); exact HO5028.out) hb)
            have n4_ := Aside0.mk (Kd.R_below (by (with_reducible repeat (first | apply Kd.R_alloc | apply Kd.R_drewN | apply Kd.R_drew)); exact HO5031.out) hb)
            have n5_ := Aside0.mk (Kd.S_below (by (with_reducible repeat (first | apply Kd.S_alloc | apply Kd.S_drewN | apply Kd.S_drew)); exact HO5034.out) hb)
            have n6_ := Aside0.mk (blk_below (g := gb5001) (o := .cells #[.slice A0_0 l0_0.length c0_0, .slice A0_1 l0_1.length c0_1, .slice A0_2 l0_2.length c0_2] 42 (0, 0)) (by (with_reducible repeat (first | refine blk_drewN ?_ _ | refine blk_drew ?_ | refine blk_alloc ?_ _)); exact BK5001.out) hb)
            have n7_ := Aside0.mk (blk_below (g := gb5023) (o := .cells #[.slice Ao25 t5014.length co25, .slice Ao28 t5017.length co28, .slice Ao29 t5020.length co29] 46 (0, 0)) (by (with_reducible repeat (first | refine blk_drewN ?_ _ | refine blk_drew ?_ | refine blk_alloc ?_ _)); exact BK5023.out) hb)
            have n8_ := Aside0.mk (below_step (by repeat (first | (with_reducible first | exact HB.out | apply below_alloc | apply pw_below_drewN | apply below_drew1 | refine below_set ?_ GE5001.out | refine below_set ?_ GE5023.out) | exact HB.out)) hb)
            clear HO_5024000
            clear HO_5024001
            clear HO_5024002
            clear HO5028
            clear HO5031
            clear HO5034
            clear BK5001
            clear BK5023
            clear HB
            have HO_5024000 := n0_
            have HO_5024001 := n1_
            have HO_5024002 := n2_
            have HO5028 := n3_
            have HO5031 := n4_
            have HO5034 := n5_
            have BK5001 := n6_
            have BK5023 := n7_
            have HB := n8_
            clear n0_ n1_ n2_ n3_ n4_ n5_ n6_ n7_ n8_
            (try clear hb)
            (try clear hb2)
            (try clear hk)
            (try clear hi)
            refine hK.out _ _ ⟨(blk_cell BK5023.out 0).trans rfl, (blk_cell BK5023.out 1).trans rfl, (blk_cell BK5023.out 2).trans rfl, (blk_cell BK5001.out 0).trans rfl, (blk_cell BK5001.out 1).trans rfl, (blk_cell BK5001.out 2).trans rfl⟩ (fun hHeld => ?_)
            clear hK K
            refine norm_ (a' := ?_) ?_ ?_
            rotate_left
            · show Act.put _ (some 42) _ = _
              simp only [Act.put, List.setIfInBounds_toArray, List.set_cons_zero, List.set_cons_succ, i64_w, i32_w]
              rfl
            refine pure_ (i := 4) (N := some 43) (v := ?_) (a' := ?_) #[true, true, true, true, true] rfl rfl (by kernel_rfl) (fun _ _ _ h => h) (Or.inl ⟨by rfl, ?_⟩) ?_ ?_
            rotate_left
            · intro w'
              go_simp
              first | with_reducible rfl | (rw [if_neg (by omega)]; done)
            rotate_left
            · simp only [Act.put, List.setIfInBounds_toArray, List.set_cons_zero, List.set_cons_succ, i64_w, i32_w]
              rfl
            refine done_ (by kernel_rfl) ?_
            try go_wp2
            go_ret
            exact ⟨by first | rfl | (simp [errW_none, errW_some] <;> rfl) | (simp [*, errW_none, errW_some] <;> rfl), by repeat (first | (with_reducible first | exact HB.out | apply below_alloc | apply pw_below_drewN | apply below_drew1 | refine below_set ?_ GE5001.out | refine below_set ?_ GE5023.out) | exact HB.out)⟩
          · replace c35 := Bool.eq_false_iff.mpr c35
            subst c35
            have H1 : (some false) = some r := by rw [if_neg (show ¬ (false = true) by decide)] at H; exact H
            clear H
            have H := H1
            clear H1
            obtain rfl := Option.some.inj H
            try go_wp2
            have n0_ := Aside0.mk (Kd.S_drew HO_5024000.out)
            have n1_ := Aside0.mk (Kd.R_drew HO_5024001.out)
            have n2_ := Aside0.mk (Kd.S_drew HO_5024002.out)
            have n3_ := Aside0.mk (blk_drew BK5001.out)
            have n4_ := Aside0.mk (blk_drew BK5023.out)
            have n5_ := Aside0.mk (below_drew1 HB.out)
            clear HO_5024000
            clear HO_5024001
            clear HO_5024002
            clear BK5001
            clear BK5023
            clear HB
            have HO_5024000 := n0_
            have HO_5024001 := n1_
            have HO_5024002 := n2_
            have BK5001 := n3_
            have BK5023 := n4_
            have HB := n5_
            clear n0_ n1_ n2_ n3_ n4_ n5_
            refine start_ (n := 5) (S := fun w' => w'.cell? ⟨gb5023, 0, none⟩ = some (.slice Ao25 t5014.length co25) ∧ w'.cell? ⟨gb5023, 1, none⟩ = some (.slice Ao28 t5017.length co28) ∧ w'.cell? ⟨gb5023, 2, none⟩ = some (.slice Ao29 t5020.length co29) ∧ w'.cell? ⟨gb5001, 0, none⟩ = some (.slice A0_0 l0_0.length c0_0) ∧ w'.cell? ⟨gb5001, 1, none⟩ = some (.slice A0_1 l0_1.length c0_1) ∧ w'.cell? ⟨gb5001, 2, none⟩ = some (.slice A0_2 l0_2.length c0_2)) (ds := []) #[false, false, false, false, false] (by kernel_rfl) rfl rfl ⟨(blk_cell BK5023.out 0).trans rfl, (blk_cell BK5023.out 1).trans rfl, (blk_cell BK5023.out 2).trans rfl, (blk_cell BK5001.out 0).trans rfl, (blk_cell BK5001.out 1).trans rfl, (blk_cell BK5001.out 2).trans rfl⟩ (fun hHeld => ?_)
            generalize wc.drew = w42 at HO_5024000 HO_5024001 HO_5024002 BK5001 BK5023 HB hHeld ⊢
            refine take_ (i := 0) (N := some 39) (v := ?_) (a' := ?_) #[true, false, false, false, false] rfl rfl (by kernel_rfl) (fun _ _ _ h => h) (Or.inl ⟨by rfl, ?_⟩) hHeld ?_ ?_
            rotate_left
            · rintro w' ⟨s0, s1, s2, s3, s4, s5⟩
              go_simp
              first | with_reducible rfl | (rw [if_neg (by omega)]; done)
            rotate_left
            · simp only [Act.put, List.setIfInBounds_toArray, List.set_cons_zero, List.set_cons_succ, i64_w, i32_w]
              rfl
            refine take_ (i := 1) (N := some 40) (v := ?_) (a' := ?_) #[true, true, false, false, false] rfl rfl (by kernel_rfl) (fun _ _ _ h => h) (Or.inl ⟨by rfl, ?_⟩) hHeld ?_ ?_
            rotate_left
            · rintro w' ⟨s0, s1, s2, s3, s4, s5⟩
              go_simp
              first | with_reducible rfl | (rw [if_neg (by omega)]; done)
            rotate_left
            · simp only [Act.put, List.setIfInBounds_toArray, List.set_cons_zero, List.set_cons_succ, i64_w, i32_w]
              rfl
            refine one_ (i := 2) (N := some 41) #[true, true, true, false, false] rfl rfl (by kernel_rfl) (by decide) (fun K hK => ?_)
            refine goes_ Try.func19 (by kernel_rfl) rfl #[.agg #[.slice A0_0 l0_0.length c0_0, .slice A0_1 l0_1.length c0_1, .slice A0_2 l0_2.length c0_2]] (by rfl) rfl rfl (by (try simp only [List.map_toArray, List.map_cons, List.map_nil]); first | done | rfl | (simp only [List.length_drop, List.length_take]; rfl)) ?_
            with_reducible refine (laws_toMonoid.calls kj11 _ _ l0_0 _ _ l0_1 _ _ l0_2 t5026 t5029 t5032 _ ?side1 ?side2 ?side3 ?side4 ?side5 ?side6 A33.out).mono ?_
            (case side1 => repeat (first | exact (Kd.C_below HR0_0.out HB.out) | (with_reducible refine Kd.C_alloc ?_ _) | (with_reducible refine Kd.C_drewN ?_ _) | (with_reducible refine Kd.C_drew ?_)))
            (case side2 => exact HC0_0.out)
            (case side3 => repeat (first | exact (Kd.C_below HR0_1.out HB.out) | (with_reducible refine Kd.C_alloc ?_ _) | (with_reducible refine Kd.C_drewN ?_ _) | (with_reducible refine Kd.C_drew ?_)))
            (case side4 => exact HC0_1.out)
            (case side5 => repeat (first | exact (Kd.C_below HR0_2.out HB.out) | (with_reducible refine Kd.C_alloc ?_ _) | (with_reducible refine Kd.C_drewN ?_ _) | (with_reducible refine Kd.C_drew ?_)))
            (case side6 => exact HC0_2.out)
            rintro e w43 ⟨v5027, v5030, v5033, rfl, ho0, ho1, ho2, hb⟩
            refine ⟨_, rfl, ?_⟩
            have n0_ := Aside0.mk (Kd.S_mono (Kd.S_told (Kd.S_told (Kd.S_told (Kd.S_old (by (with_reducible repeat (first | apply Kd.S_alloc | apply Kd.S_drewN | apply Kd.S_drew)); exact HO_5024000.out) hb) (Kd.S_base ho0)) (Kd.R_base ho1)) (Kd.S_base ho2)) (fun _ h_ => h_.1))
            have n1_ := Aside0.mk (Kd.R_elder' (by (with_reducible repeat (first | apply Kd.R_alloc | apply Kd.R_drewN | apply Kd.R_drew)); exact HO_5024001.out) (Kd.R_base ho1) hb)
            have n2_ := Aside0.mk (Kd.S_mono (Kd.S_told (Kd.S_told (Kd.S_told (Kd.S_old (by (with_reducible repeat (first | apply Kd.S_alloc | apply Kd.S_drewN | apply Kd.S_drew)); exact HO_5024002.out) hb) (Kd.S_base ho0)) (Kd.R_base ho1)) (Kd.S_base ho2)) (fun _ h_ => h_.1))
            have n3_ := Aside0.mk (Kd.S_lower (Kd.S_new' (Kd.S_new' (Kd.S_new' ho0 (Kd.S_lt (by (with_reducible repeat (first | apply Kd.S_alloc | apply Kd.S_drewN | apply Kd.S_drew)); exact HO_5024000.out))) (Kd.R_lt (by (with_reducible repeat (first | apply Kd.R_alloc | apply Kd.R_drewN | apply Kd.R_drew)); exact HO_5024001.out))) (Kd.S_lt (by (with_reducible repeat (first | apply Kd.S_alloc | apply Kd.S_drewN | apply Kd.S_drew)); exact HO_5024002.out))) (below_size (by repeat (first | (with_reducible first | exact HB.out | apply below_alloc | apply pw_below_drewN | apply below_drew1 | refine below_set ?_ GE5001.out | refine below_set ?_ GE5023.out) | exact HB.out))))
            have n4_ := Aside0.mk (Kd.R_lower (Kd.R_new' ho1 (Kd.R_lt (by (with_reducible repeat (first | apply Kd.R_alloc | apply Kd.R_drewN | apply Kd.R_drew)); exact HO_5024001.out))) (below_size (by repeat (first | (with_reducible first | exact HB.out | apply below_alloc | apply pw_below_drewN | apply below_drew1 | refine below_set ?_ GE5001.out | refine below_set ?_ GE5023.out) | exact HB.out))))
            have n5_ := Aside0.mk (Kd.S_lower (Kd.S_new' (Kd.S_new' (Kd.S_new' ho2 (Kd.S_lt (by (with_reducible repeat (first | apply Kd.S_alloc | apply Kd.S_drewN | apply Kd.S_drew)); exact HO_5024000.out))) (Kd.R_lt (by (with_reducible repeat (first | apply Kd.R_alloc | apply Kd.R_drewN | apply Kd.R_drew)); exact HO_5024001.out))) (Kd.S_lt (by (with_reducible repeat (first | apply Kd.S_alloc | apply Kd.S_drewN | apply Kd.S_drew)); exact HO_5024002.out))) (below_size (by repeat (first | (with_reducible first | exact HB.out | apply below_alloc | apply pw_below_drewN | apply below_drew1 | refine below_set ?_ GE5001.out | refine below_set ?_ GE5023.out) | exact HB.out))))
            have n6_ := Aside0.mk (blk_below (g := gb5001) (o := .cells #[.slice A0_0 l0_0.length c0_0, .slice A0_1 l0_1.length c0_1, .slice A0_2 l0_2.length c0_2] 42 (0, 0)) (by (with_reducible repeat (first | refine blk_drewN ?_ _ | refine blk_drew ?_ | refine blk_alloc ?_ _)); exact BK5001.out) hb)
            have n7_ := Aside0.mk (blk_below (g := gb5023) (o := .cells #[.slice Ao25 t5014.length co25, .slice Ao28 t5017.length co28, .slice Ao29 t5020.length co29] 46 (0, 0)) (by (with_reducible repeat (first | refine blk_drewN ?_ _ | refine blk_drew ?_ | refine blk_alloc ?_ _)); exact BK5023.out) hb)
            have n8_ := Aside0.mk (below_step (by repeat (first | (with_reducible first | exact HB.out | apply below_alloc | apply pw_below_drewN | apply below_drew1 | refine below_set ?_ GE5001.out | refine below_set ?_ GE5023.out) | exact HB.out)) hb)
            clear HO_5024000
            clear HO_5024001
            clear HO_5024002
            clear BK5001
            clear BK5023
            clear HB
            have HO_5024000 := n0_
            have HO_5024001 := n1_
            have HO_5024002 := n2_
            have HO5028 := n3_
            have HO5031 := n4_
            have HO5034 := n5_
            have BK5001 := n6_
            have BK5023 := n7_
            have HB := n8_
            clear n0_ n1_ n2_ n3_ n4_ n5_ n6_ n7_ n8_
            (try clear hb)
            (try clear hb2)
            (try clear hk)
            (try clear hi)
            (try clear ho0)
            (try clear ho1)
            (try clear ho2)
            obtain ⟨Ao44, co44, eo44⟩ := Kd.S_slice HO5028.out
            (first | subst eo44 | (injection eo44 with f1_ f2_ f3_; have f4_ := f1_.symm; have f5_ := f3_.symm; clear f1_ f2_ f3_; subst f4_; subst f5_))
            obtain ⟨Ao45, co45, eo45⟩ := Kd.R_slice HO5031.out
            (first | subst eo45 | (injection eo45 with f1_ f2_ f3_; have f4_ := f1_.symm; have f5_ := f3_.symm; clear f1_ f2_ f3_; subst f4_; subst f5_))
            obtain ⟨Ao46, co46, eo46⟩ := Kd.S_slice HO5034.out
            (first | subst eo46 | (injection eo46 with f1_ f2_ f3_; have f4_ := f1_.symm; have f5_ := f3_.symm; clear f1_ f2_ f3_; subst f4_; subst f5_))
            refine hK.out _ _ ⟨(blk_cell BK5023.out 0).trans rfl, (blk_cell BK5023.out 1).trans rfl, (blk_cell BK5023.out 2).trans rfl, (blk_cell BK5001.out 0).trans rfl, (blk_cell BK5001.out 1).trans rfl, (blk_cell BK5001.out 2).trans rfl⟩ (fun hHeld => ?_)
            clear hK K
            refine norm_ (a' := ?_) ?_ ?_
            rotate_left
            · show Act.put _ (some 41) _ = _
              simp only [Act.put, List.setIfInBounds_toArray, List.set_cons_zero, List.set_cons_succ, i64_w, i32_w]
              rfl
            refine one_ (i := 3) (N := some 42) #[true, true, true, true, false] rfl rfl (by kernel_rfl) (by decide) (fun K hK => ?_)
            refine goes_ Try.func21 (by kernel_rfl) rfl #[.agg #[.slice Ao25 t5014.length co25, .slice Ao28 t5017.length co28, .slice Ao29 t5020.length co29], .agg #[.slice Ao44 t5026.length co44, .slice Ao45 t5029.length co45, .slice Ao46 t5032.length co46]] (by rfl) rfl rfl (by (try simp only [List.map_toArray, List.map_cons, List.map_nil]); first | done | rfl | (simp only [List.length_drop, List.length_take]; rfl)) ?_
            with_reducible refine (laws_eqMonoid.calls kj11 _ _ t5014 _ _ t5017 _ _ t5020 _ _ t5026 _ _ t5029 _ _ t5032 false _ ?side1 ?side2 ?side3 ?side4 ?side5 ?side6 ?side7 ?side8 ?side9 ?side10 ?side11 ?side12 A34.out).mono ?_
            (case side1 => repeat (first | exact (Kd.S_reads' HO_5024000.out).2.2 | (with_reducible refine Kd.C_alloc ?_ _) | (with_reducible refine Kd.C_drewN ?_ _) | (with_reducible refine Kd.C_drew ?_)))
            (case side2 => exact (Kd.S_reads' HO_5024000.out).2.1)
            (case side3 => repeat (first | exact (Kd.R_reads' HO_5024001.out).2.2 | (with_reducible refine Kd.C_alloc ?_ _) | (with_reducible refine Kd.C_drewN ?_ _) | (with_reducible refine Kd.C_drew ?_)))
            (case side4 => exact (Kd.R_reads' HO_5024001.out).2.1)
            (case side5 => repeat (first | exact (Kd.S_reads' HO_5024002.out).2.2 | (with_reducible refine Kd.C_alloc ?_ _) | (with_reducible refine Kd.C_drewN ?_ _) | (with_reducible refine Kd.C_drew ?_)))
            (case side6 => exact (Kd.S_reads' HO_5024002.out).2.1)
            (case side7 => repeat (first | exact (Kd.S_reads' HO5028.out).2.2 | (with_reducible refine Kd.C_alloc ?_ _) | (with_reducible refine Kd.C_drewN ?_ _) | (with_reducible refine Kd.C_drew ?_)))
            (case side8 => exact (Kd.S_reads' HO5028.out).2.1)
            (case side9 => repeat (first | exact (Kd.R_reads' HO5031.out).2.2 | (with_reducible refine Kd.C_alloc ?_ _) | (with_reducible refine Kd.C_drewN ?_ _) | (with_reducible refine Kd.C_drew ?_)))
            (case side10 => exact (Kd.R_reads' HO5031.out).2.1)
            (case side11 => repeat (first | exact (Kd.S_reads' HO5034.out).2.2 | (with_reducible refine Kd.C_alloc ?_ _) | (with_reducible refine Kd.C_drewN ?_ _) | (with_reducible refine Kd.C_drew ?_)))
            (case side12 => exact (Kd.S_reads' HO5034.out).2.1)
            rintro e w47 ⟨rfl, hb⟩
            refine ⟨_, rfl, ?_⟩
            have n0_ := Aside0.mk (Kd.S_below (by (with_reducible repeat (first | apply Kd.S_alloc | apply Kd.S_drewN | apply Kd.S_drew)); exact HO_5024000.out) hb)
            have n1_ := Aside0.mk (Kd.R_below (by (with_reducible repeat (first | apply Kd.R_alloc | apply Kd.R_drewN | apply Kd.R_drew)); exact HO_5024001.out) hb)
            have n2_ := Aside0.mk (Kd.S_below (by (with_reducible repeat (first | apply Kd.S_alloc | apply Kd.S_drewN | apply Kd.S_drew)); exact HO_5024002.out) hb)
            have n3_ := Aside0.mk (Kd.S_below (by (with_reducible repeat (first | apply Kd.S_alloc | apply Kd.S_drewN | apply Kd.S_drew)); exact HO5028.out) hb)
            have n4_ := Aside0.mk (Kd.R_below (by (with_reducible repeat (first | apply Kd.R_alloc | apply Kd.R_drewN | apply Kd.R_drew)); exact HO5031.out) hb)
            have n5_ := Aside0.mk (Kd.S_below (by (with_reducible repeat (first | apply Kd.S_alloc | apply Kd.S_drewN | apply Kd.S_drew)); exact HO5034.out) hb)
            have n6_ := Aside0.mk (blk_below (g := gb5001) (o := .cells #[.slice A0_0 l0_0.length c0_0, .slice A0_1 l0_1.length c0_1, .slice A0_2 l0_2.length c0_2] 42 (0, 0)) (by (with_reducible repeat (first | refine blk_drewN ?_ _ | refine blk_drew ?_ | refine blk_alloc ?_ _)); exact BK5001.out) hb)
            have n7_ := Aside0.mk (blk_below (g := gb5023) (o := .cells #[.slice Ao25 t5014.length co25, .slice Ao28 t5017.length co28, .slice Ao29 t5020.length co29] 46 (0, 0)) (by (with_reducible repeat (first | refine blk_drewN ?_ _ | refine blk_drew ?_ | refine blk_alloc ?_ _)); exact BK5023.out) hb)
            have n8_ := Aside0.mk (below_step (by repeat (first | (with_reducible first | exact HB.out | apply below_alloc | apply pw_below_drewN | apply below_drew1 | refine below_set ?_ GE5001.out | refine below_set ?_ GE5023.out) | exact HB.out)) hb)
            clear HO_5024000
            clear HO_5024001
            clear HO_5024002
            clear HO5028
            clear HO5031
            clear HO5034
            clear BK5001
            clear BK5023
            clear HB
            have HO_5024000 := n0_
            have HO_5024001 := n1_
            have HO_5024002 := n2_
            have HO5028 := n3_
            have HO5031 := n4_
            have HO5034 := n5_
            have BK5001 := n6_
            have BK5023 := n7_
            have HB := n8_
            clear n0_ n1_ n2_ n3_ n4_ n5_ n6_ n7_ n8_
            (try clear hb)
            (try clear hb2)
            (try clear hk)
            (try clear hi)
            refine hK.out _ _ ⟨(blk_cell BK5023.out 0).trans rfl, (blk_cell BK5023.out 1).trans rfl, (blk_cell BK5023.out 2).trans rfl, (blk_cell BK5001.out 0).trans rfl, (blk_cell BK5001.out 1).trans rfl, (blk_cell BK5001.out 2).trans rfl⟩ (fun hHeld => ?_)
            clear hK K
            refine norm_ (a' := ?_) ?_ ?_
            rotate_left
            · show Act.put _ (some 42) _ = _
              simp only [Act.put, List.setIfInBounds_toArray, List.set_cons_zero, List.set_cons_succ, i64_w, i32_w]
              rfl
            refine pure_ (i := 4) (N := some 43) (v := ?_) (a' := ?_) #[true, true, true, true, true] rfl rfl (by kernel_rfl) (fun _ _ _ h => h) (Or.inl ⟨by rfl, ?_⟩) ?_ ?_
            rotate_left
            · intro w'
              go_simp
              first | with_reducible rfl | (rw [if_neg (by omega)]; done)
            rotate_left
            · simp only [Act.put, List.setIfInBounds_toArray, List.set_cons_zero, List.set_cons_succ, i64_w, i32_w]
              rfl
            refine done_ (by kernel_rfl) ?_
            try go_wp2
            go_ret
            exact ⟨by first | rfl | (simp [errW_none, errW_some] <;> rfl) | (simp [*, errW_none, errW_some] <;> rfl), by repeat (first | (with_reducible first | exact HB.out | apply below_alloc | apply pw_below_drewN | apply below_drew1 | refine below_set ?_ GE5001.out | refine below_set ?_ GE5023.out) | exact HB.out)⟩


end Go.Proofs.Ytgllnohlocfeoaa.A

