/- FnTerms: what its proof needs, put together by this session's program wip/merge.py out of the texts that wip/xp.py printed and of this session's own. -/
import Derived.Test.YtpppopdmnejcfaaQFnTerms3
set_option linter.unusedVariables false
set_option linter.unusedSimpArgs false
set_option maxHeartbeats 8000000
set_option maxRecDepth 100000
namespace Go.Proofs.Ytpppopdmnejcfaa.A
open Go.RowKit Go.Proofs.Ytpppopdmnejcfaa.Ext Go.Proofs.YtpppopdmnejcfaaW.PrintWords Go.Proofs.YtpppopdmnejcfaaW.PrintLast Go.Proofs.YtpppopdmnejcfaaW.PrintMore
attribute [local go_sem] max2_int min2_int max_two min_two max_three min_three max_four min_four
attribute [local go_sem high] eqA84
mutual
def laws_FnTerms.j0 : Nat → List Int → ByteArray → ByteArray → Bool → ByteArray → ByteArray → ByteArray → Option (Bool)
 | 0, _, _, _, _, _, _, _ => none
 | k + 1, x0, x3, x5, x43, x7007000, x7007001, x7007002 => if x43 = true then (some false) else (laws_FnTerms.l0 k x0 x3 x5 0 x7007000 x7007001 x7007002)
def laws_FnTerms.l0 : Nat → List Int → ByteArray → ByteArray → Int → ByteArray → ByteArray → ByteArray → Option (Bool)
 | 0, _, _, _, _, _, _, _ => none
 | k + 1, x0, x3, x5, x6, x7007000, x7007001, x7007002 => if x6 < 3 then (if 0 ≤ x6 then ((impl_ValueOf.f x7007000 x7007001 x7007002 (bt (⟨#[88, 89, 90]⟩ : ByteArray) x6)).bind fun t7013 => ((impl_ReplaceVar.f x3 (bt (⟨#[88, 89, 90]⟩ : ByteArray) x6) t7013).bind fun t7014 => ((impl_CountByte.f k x3 (bt (⟨#[88, 89, 90]⟩ : ByteArray) x6)).bind fun t7015 => ((impl_VarsOf.f k x3).bind fun t7016 => ((impl_CountByte.f k t7016 (bt (⟨#[88, 89, 90]⟩ : ByteArray) x6)).bind fun t7017 => (if ((decide (t7015 > 0)) != (decide (t7017 > 0))) = true then (some false) else ((impl_ApplyValues.f t7014 x7007000 x7007001 x7007002).bind fun t7018 => (if t7018.toList = x5.toList then (laws_FnTerms.l0 k x0 x3 x5 (wrap64 (x6 + 1)) x7007000 x7007001 x7007002) else ((spec_IsValues.f k x7007000 x7007001 x7007002).bind fun t7019 => (if t7019 = true then (some false) else (laws_FnTerms.l0 k x0 x3 x5 (wrap64 (x6 + 1)) x7007000 x7007001 x7007002))))))))))) else (none)) else ((spec_DrawWithValue.f k x0).bind fun bt7020 => ((impl_WithValue.f bt7020.1 bt7020.2.1 bt7020.2.2.1 bt7020.2.2.2.1 bt7020.2.2.2.2).bind fun bt7026 => ((spec_DrawFormatValues.f k x0).bind fun bt7030 => ((spec_WithValue.f bt7020.1 bt7020.2.1 bt7020.2.2.1 bt7020.2.2.2.1 bt7020.2.2.2.2).bind fun bt7035 => (if (bt7026.1.toList == bt7035.1.toList && (bt7026.2.1.toList == bt7035.2.1.toList && (bt7026.2.2.toList == bt7035.2.2.toList))) = true then (if bt7020.2.2.2.1 = 97 then ((impl_FormatValues.f k bt7030.1 bt7030.2.1 bt7030.2.2.1 bt7030.2.2.2).bind fun t7038 => ((spec_FormatValues.f k bt7030.1 bt7030.2.1 bt7030.2.2.1 bt7030.2.2.2).bind fun t7039 => (some (t7038.toList == t7039.toList)))) else ((impl_ValueOf.f bt7026.1 bt7026.2.1 bt7026.2.2 bt7020.2.2.2.1).bind fun t7040 => (if t7040.toList = bt7020.2.2.2.2.toList then ((impl_FormatValues.f k bt7030.1 bt7030.2.1 bt7030.2.2.1 bt7030.2.2.2).bind fun t7041 => ((spec_FormatValues.f k bt7030.1 bt7030.2.1 bt7030.2.2.1 bt7030.2.2.2).bind fun t7042 => (some (t7041.toList == t7042.toList)))) else (some false)))) else (some false))))))
end
def laws_FnTerms.f (k : Nat) (l0 : List Int) : Option (Bool) := (laws_big.f l0).bind fun t7001 => (if t7001 = true then (some true) else ((spec_DrawApplyValues.f k l0).bind fun bt7002 => ((impl_ApplyValues.f bt7002.1 bt7002.2.1 bt7002.2.2.1 bt7002.2.2.2).bind fun t7007 => ((spec_ApplyValues.f k bt7002.1 bt7002.2.1 bt7002.2.2.1 bt7002.2.2.2).bind fun t7008 => (if t7007.toList = t7008.toList then ((impl_VarsOf.f k bt7002.1).bind fun t7009 => ((spec_VarsOf.f k bt7002.1).bind fun t7010 => (if t7009.toList = t7010.toList then ((impl_IsTerm.f k bt7002.1).bind fun t7011 => ((spec_IsTerm.f k bt7002.1).bind fun t7012 => (laws_FnTerms.j0 k l0 bt7002.1 t7007 (t7011 != t7012) bt7002.2.1 bt7002.2.2.1 bt7002.2.2.2))) else (laws_FnTerms.j0 k l0 bt7002.1 t7007 true bt7002.2.1 bt7002.2.2.1 bt7002.2.2.2)))) else (laws_FnTerms.j0 k l0 bt7002.1 t7007 true bt7002.2.1 bt7002.2.2.1 bt7002.2.2.2))))))
theorem laws_FnTerms.mono_l : ∀ k, (∀ y0 y1 y2 y3 y4 y5 y6, LeO (laws_FnTerms.j0 k y0 y1 y2 y3 y4 y5 y6) (laws_FnTerms.j0 (k + 1) y0 y1 y2 y3 y4 y5 y6)) ∧ (∀ y0 y1 y2 y3 y4 y5 y6, LeO (laws_FnTerms.l0 k y0 y1 y2 y3 y4 y5 y6) (laws_FnTerms.l0 (k + 1) y0 y1 y2 y3 y4 y5 y6))
 | 0 => ⟨fun _ _ _ _ _ _ _ r h => by simp [laws_FnTerms.j0] at h, fun _ _ _ _ _ _ _ r h => by simp [laws_FnTerms.l0] at h⟩
 | k + 1 => by
  obtain ⟨ih0, ih1⟩ := laws_FnTerms.mono_l k
  refine ⟨?_, ?_⟩
  ·intro y0 y1 y2 y3 y4 y5 y6
   unfold laws_FnTerms.j0
   repeat' first
   | (with_reducible exact ih0 _ _ _ _ _ _ _)
   | (with_reducible exact ih1 _ _ _ _ _ _ _)
   | (with_reducible exact impl_CountByte.mono _ _ _)
   | (with_reducible exact impl_FormatValues.mono _ _ _ _ _)
   | (with_reducible exact impl_IsTerm.mono _ _)
   | (with_reducible exact impl_VarsOf.mono _ _)
   | (with_reducible exact spec_ApplyValues.mono _ _ _ _ _)
   | (with_reducible exact spec_DrawApplyValues.mono _ _)
   | (with_reducible exact spec_DrawFormatValues.mono _ _)
   | (with_reducible exact spec_DrawWithValue.mono _ _)
   | (with_reducible exact spec_FormatValues.mono _ _ _ _ _)
   | (with_reducible exact spec_IsTerm.mono _ _)
   | (with_reducible exact spec_IsValues.mono _ _ _ _)
   | (with_reducible exact spec_VarsOf.mono _ _)
   | (with_reducible exact LeO.refl _)
   | (with_reducible exact LeO.none _)
   | (with_reducible refine LeO.ite ?_ ?_)
   | (with_reducible refine LeO.bind ?_ (fun _ => ?_))
  ·intro y0 y1 y2 y3 y4 y5 y6
   unfold laws_FnTerms.l0
   repeat' first
   | (with_reducible exact ih0 _ _ _ _ _ _ _)
   | (with_reducible exact ih1 _ _ _ _ _ _ _)
   | (with_reducible exact impl_CountByte.mono _ _ _)
   | (with_reducible exact impl_FormatValues.mono _ _ _ _ _)
   | (with_reducible exact impl_IsTerm.mono _ _)
   | (with_reducible exact impl_VarsOf.mono _ _)
   | (with_reducible exact spec_ApplyValues.mono _ _ _ _ _)
   | (with_reducible exact spec_DrawApplyValues.mono _ _)
   | (with_reducible exact spec_DrawFormatValues.mono _ _)
   | (with_reducible exact spec_DrawWithValue.mono _ _)
   | (with_reducible exact spec_FormatValues.mono _ _ _ _ _)
   | (with_reducible exact spec_IsTerm.mono _ _)
   | (with_reducible exact spec_IsValues.mono _ _ _ _)
   | (with_reducible exact spec_VarsOf.mono _ _)
   | (with_reducible exact LeO.refl _)
   | (with_reducible exact LeO.none _)
   | (with_reducible refine LeO.ite ?_ ?_)
   | (with_reducible refine LeO.bind ?_ (fun _ => ?_))
theorem laws_FnTerms.mono : ∀ a0 k, LeO (laws_FnTerms.f k a0) (laws_FnTerms.f (k + 1) a0) := by
 intro a0 k
 obtain ⟨ih0, ih1⟩ := laws_FnTerms.mono_l k
 unfold laws_FnTerms.f
 repeat' first
   | (with_reducible exact ih0 _ _ _ _ _ _ _)
   | (with_reducible exact ih1 _ _ _ _ _ _ _)
   | (with_reducible exact impl_CountByte.mono _ _ _)
   | (with_reducible exact impl_FormatValues.mono _ _ _ _ _)
   | (with_reducible exact impl_IsTerm.mono _ _)
   | (with_reducible exact impl_VarsOf.mono _ _)
   | (with_reducible exact spec_ApplyValues.mono _ _ _ _ _)
   | (with_reducible exact spec_DrawApplyValues.mono _ _)
   | (with_reducible exact spec_DrawFormatValues.mono _ _)
   | (with_reducible exact spec_DrawWithValue.mono _ _)
   | (with_reducible exact spec_FormatValues.mono _ _ _ _ _)
   | (with_reducible exact spec_IsTerm.mono _ _)
   | (with_reducible exact spec_IsValues.mono _ _ _ _)
   | (with_reducible exact spec_VarsOf.mono _ _)
   | (with_reducible exact LeO.refl _)
   | (with_reducible exact LeO.none _)
   | (with_reducible refine LeO.ite ?_ ?_)
   | (with_reducible refine LeO.bind ?_ (fun _ => ?_))
def laws_FnTerms.T17 : Bool × List (List Nat × List Nat) := (true, [([], []), ([], []), ([], []), ([], []), ([1, 2, 3], [1, 2, 3]), ([0, 4], [0, 4]), ([5, 4], [5]), ([6], [6]), ([7, 6], [6, 7]), ([8, 6, 6], [6, 8]), ([9], [9]), ([9], [9]), ([10, 11, 9, 9], [9, 10, 11]), ([9], [9]), ([12, 13, 9], [9, 12, 13]), ([9, 14, 6], [6, 9, 14]), ([6, 15], [6, 15]), ([16, 12], [16]), ([17], [17]), ([17], [17]), ([18, 19, 17, 17], [17, 18, 19]), ([17], [17]), ([17], [17]), ([21, 22, 20, 17], [17, 21, 22]), ([20, 23, 17], [17, 20, 23]), ([17, 24], [17, 24]), ([25, 23, 0, 1, 2, 3, 4, 5, 6, 7, 8, 9, 10, 11, 12, 13, 14, 15, 16, 17, 18, 19, 20, 21, 22, 23, 24, 25], [25])])
def laws_FnTerms.B17 : List Nat := [0, 0, 0, 0, 14, 31, 63, 127, 255, 511, 1023, 1023, 4095, 1023, 16383, 32767, 65535, 131071, 262143, 262143, 1048575, 262143, 262143, 8388607, 16777215, 33554431, 67108863]
theorem laws_FnTerms.tab17 : rtab .any (opsOf Try.f7 17) = laws_FnTerms.T17 := by kernel_rfl
theorem laws_FnTerms.bits17 : waitsOk laws_FnTerms.T17.2 laws_FnTerms.B17 = true := by kernel_rfl
theorem laws_FnTerms.calls (k : Nat) (A0 : Option Addr) (c0 : Nat) (l0 : List Int) (r : Bool) (w : World) (hr0 : Kd.C (Kd.int .u8) w A0 l0.length l0) (hc0 : l0.length ≤ c0) (h : laws_FnTerms.f k l0 = some r) :
  Calls Try.prog 7 #[.slice A0 l0.length c0] w fun e w' => e = .returned (.bool r) ∧ Below w.heap.size w w' := by
 have hu84 := Try.underlying84
 have HR0 := Aside0.mk hr0
 have HC0 := Aside0.mk hc0
 clear hr0 hc0
 have HB := Aside0.mk (Below.refl w.heap.size w)
 have H : ((laws_big.f l0).bind fun t7001 => (if t7001 = true then (some true) else ((spec_DrawApplyValues.f k l0).bind fun bt7002 => ((impl_ApplyValues.f bt7002.1 bt7002.2.1 bt7002.2.2.1 bt7002.2.2.2).bind fun t7007 => ((spec_ApplyValues.f k bt7002.1 bt7002.2.1 bt7002.2.2.1 bt7002.2.2.2).bind fun t7008 => (if t7007.toList = t7008.toList then ((impl_VarsOf.f k bt7002.1).bind fun t7009 => ((spec_VarsOf.f k bt7002.1).bind fun t7010 => (if t7009.toList = t7010.toList then ((impl_IsTerm.f k bt7002.1).bind fun t7011 => ((spec_IsTerm.f k bt7002.1).bind fun t7012 => (laws_FnTerms.j0 k l0 bt7002.1 t7007 (t7011 != t7012) bt7002.2.1 bt7002.2.2.1 bt7002.2.2.2))) else (laws_FnTerms.j0 k l0 bt7002.1 t7007 true bt7002.2.1 bt7002.2.2.1 bt7002.2.2.2)))) else (laws_FnTerms.j0 k l0 bt7002.1 t7007 true bt7002.2.1 bt7002.2.2.1 bt7002.2.2.2))))))) = some r := h
 clear h
 replace H := Option.bind_eq_some_iff.mp H
 obtain ⟨t7001, A20, H⟩ := H
 replace H : (if t7001 = true then (some true) else ((spec_DrawApplyValues.f k l0).bind fun bt7002 => ((impl_ApplyValues.f bt7002.1 bt7002.2.1 bt7002.2.2.1 bt7002.2.2.2).bind fun t7007 => ((spec_ApplyValues.f k bt7002.1 bt7002.2.1 bt7002.2.2.1 bt7002.2.2.2).bind fun t7008 => (if t7007.toList = t7008.toList then ((impl_VarsOf.f k bt7002.1).bind fun t7009 => ((spec_VarsOf.f k bt7002.1).bind fun t7010 => (if t7009.toList = t7010.toList then ((impl_IsTerm.f k bt7002.1).bind fun t7011 => ((spec_IsTerm.f k bt7002.1).bind fun t7012 => (laws_FnTerms.j0 k l0 bt7002.1 t7007 (t7011 != t7012) bt7002.2.1 bt7002.2.2.1 bt7002.2.2.2))) else (laws_FnTerms.j0 k l0 bt7002.1 t7007 true bt7002.2.1 bt7002.2.2.1 bt7002.2.2.2)))) else (laws_FnTerms.j0 k l0 bt7002.1 t7007 true bt7002.2.1 bt7002.2.2.1 bt7002.2.2.2)))))) = some r := H
 have A2 := Aside0.mk A20
 clear A20
 by_cases c3 : t7001 = true
 ·subst c3
  have H1 : (some true) = some r := by rw [if_pos rfl] at H; exact H
  clear H
  have H := H1
  clear H1
  obtain rfl := Option.some.inj H
  go_enter Try.func7, Try.ntmps7
  go_wp2_with (first | ((with_reducible refine gate_callee (f := 43) rfl ?_); refine goesL_ (some 16) rfl rfl Try.func43 (by kernel_rfl) rfl #[.slice A0 l0.length c0] rfl (by (try simp only [List.map_toArray, List.map_cons, List.map_nil]); first | done | rfl | (simp only [List.length_drop, List.length_take]; rfl)) ?_; (with_reducible refine (laws_big.calls _ _ l0 true _ ?side1 ?side2 A2.out).mono ?_); (case side1 => repeat (first | exact HR0.out | (with_reducible refine Kd.C_alloc ?_ _) | (with_reducible refine Kd.C_drewN ?_ _) | (with_reducible refine Kd.C_drew ?_))); (case side2 => exact HC0.out); rintro e w' ⟨rfl, ⟨nd, rfl⟩⟩; refine ⟨_, rfl, ?_⟩))
  go_ret
  exact ⟨by first | rfl | (simp [errW_none, errW_some] <;> rfl) | (simp [*, errW_none, errW_some] <;> rfl), by repeat (first | (with_reducible first | exact HB.out | apply below_alloc | apply pw_below_drewN | apply below_drew1) | exact HB.out)⟩
 ·replace c3 := Bool.eq_false_iff.mpr c3
  subst c3
  have H1 : ((spec_DrawApplyValues.f k l0).bind fun bt7002 => ((impl_ApplyValues.f bt7002.1 bt7002.2.1 bt7002.2.2.1 bt7002.2.2.2).bind fun t7007 => ((spec_ApplyValues.f k bt7002.1 bt7002.2.1 bt7002.2.2.1 bt7002.2.2.2).bind fun t7008 => (if t7007.toList = t7008.toList then ((impl_VarsOf.f k bt7002.1).bind fun t7009 => ((spec_VarsOf.f k bt7002.1).bind fun t7010 => (if t7009.toList = t7010.toList then ((impl_IsTerm.f k bt7002.1).bind fun t7011 => ((spec_IsTerm.f k bt7002.1).bind fun t7012 => (laws_FnTerms.j0 k l0 bt7002.1 t7007 (t7011 != t7012) bt7002.2.1 bt7002.2.2.1 bt7002.2.2.2))) else (laws_FnTerms.j0 k l0 bt7002.1 t7007 true bt7002.2.1 bt7002.2.2.1 bt7002.2.2.2)))) else (laws_FnTerms.j0 k l0 bt7002.1 t7007 true bt7002.2.1 bt7002.2.2.1 bt7002.2.2.2))))) = some r := by rw [if_neg (show ¬ (false = true) by decide)] at H; exact H
  clear H
  have H := H1
  clear H1
  replace H := Option.bind_eq_some_iff.mp H
  obtain ⟨⟨t7002, t7003, t7004, t7005⟩, A40, H⟩ := H
  replace H : ((impl_ApplyValues.f t7002 t7003 t7004 t7005).bind fun t7007 => ((spec_ApplyValues.f k t7002 t7003 t7004 t7005).bind fun t7008 => (if t7007.toList = t7008.toList then ((impl_VarsOf.f k t7002).bind fun t7009 => ((spec_VarsOf.f k t7002).bind fun t7010 => (if t7009.toList = t7010.toList then ((impl_IsTerm.f k t7002).bind fun t7011 => ((spec_IsTerm.f k t7002).bind fun t7012 => (laws_FnTerms.j0 k l0 t7002 t7007 (t7011 != t7012) t7003 t7004 t7005))) else (laws_FnTerms.j0 k l0 t7002 t7007 true t7003 t7004 t7005)))) else (laws_FnTerms.j0 k l0 t7002 t7007 true t7003 t7004 t7005)))) = some r := H
  have A4 := Aside0.mk A40
  clear A40
  replace H := Option.bind_eq_some_iff.mp H
  obtain ⟨t7007, A50, H⟩ := H
  replace H : ((spec_ApplyValues.f k t7002 t7003 t7004 t7005).bind fun t7008 => (if t7007.toList = t7008.toList then ((impl_VarsOf.f k t7002).bind fun t7009 => ((spec_VarsOf.f k t7002).bind fun t7010 => (if t7009.toList = t7010.toList then ((impl_IsTerm.f k t7002).bind fun t7011 => ((spec_IsTerm.f k t7002).bind fun t7012 => (laws_FnTerms.j0 k l0 t7002 t7007 (t7011 != t7012) t7003 t7004 t7005))) else (laws_FnTerms.j0 k l0 t7002 t7007 true t7003 t7004 t7005)))) else (laws_FnTerms.j0 k l0 t7002 t7007 true t7003 t7004 t7005))) = some r := H
  have A5 := Aside0.mk A50
  clear A50
  have HC6 := Aside0.mk H
  clear H
  go_enter Try.func7, Try.ntmps7
  go_upto_region 5 with (first | ((with_reducible refine gate_callee (f := 43) rfl ?_); refine goesL_ (some 16) rfl rfl Try.func43 (by kernel_rfl) rfl #[.slice A0 l0.length c0] rfl (by (try simp only [List.map_toArray, List.map_cons, List.map_nil]); first | done | rfl | (simp only [List.length_drop, List.length_take]; rfl)) ?_; (with_reducible refine (laws_big.calls _ _ l0 false _ ?side1 ?side2 A2.out).mono ?_); (case side1 => repeat (first | exact HR0.out | (with_reducible refine Kd.C_alloc ?_ _) | (with_reducible refine Kd.C_drewN ?_ _) | (with_reducible refine Kd.C_drew ?_))); (case side2 => exact HC0.out); rintro e w' ⟨rfl, ⟨nd, rfl⟩⟩; refine ⟨_, rfl, ?_⟩) | ((with_reducible refine gate_callee (f := 44) rfl ?_); refine goesL_ (some 19) rfl rfl Try.func44 (by kernel_rfl) rfl #[.slice A0 l0.length c0] rfl (by (try simp only [List.map_toArray, List.map_cons, List.map_nil]); first | done | rfl | (simp only [List.length_drop, List.length_take]; rfl)) ?_; (with_reducible refine (spec_DrawApplyValues.calls k _ _ l0 t7002 t7003 t7004 t7005 _ ?side1 ?side2 A4.out).mono ?_); (case side1 => repeat (first | exact HR0.out | (with_reducible refine Kd.C_alloc ?_ _) | (with_reducible refine Kd.C_drewN ?_ _) | (with_reducible refine Kd.C_drew ?_))); (case side2 => exact HC0.out); rintro e w7 ⟨rfl, hb⟩; refine ⟨_, rfl, ?_⟩; have n0_ := Aside0.mk (below_step (by repeat (first | (with_reducible first | exact HB.out | apply below_alloc | apply pw_below_drewN | apply below_drew1) | exact HB.out)) hb); clear HB; have HB := n0_; clear n0_; (try clear hb); (try clear hb2); (try clear hk); (try clear hi)) | ((with_reducible refine gate_dst (N := 4) rfl ?_); refine box_event ?hg (N := 4) ?hd (cs := #[.string (⟨#[]⟩ : ByteArray), .string (⟨#[]⟩ : ByteArray), .string (⟨#[]⟩ : ByteArray)]) (t := 84) ?hr ?_; (case hd => rfl); (case hg => rfl); (case hr => first | (go_simp; done) | (go_simp; rfl)); intro gb7006 hg w8 hbox hb; have n0_ := Aside0.mk (below_step (by repeat (first | (with_reducible first | exact HB.out | apply below_alloc | apply pw_below_drewN | apply below_drew1) | exact HB.out)) hb); have n1_ := Aside0.mk (hbox); have n2_ := Aside0.mk ((by rw [hg]; exact (below_size (by repeat (first | (with_reducible first | exact HB.out | apply below_alloc | apply pw_below_drewN | apply below_drew1) | exact HB.out))) : w.heap.size ≤ gb7006)); have n3_ := Aside0.mk ((by rw [hg]; exact (below_size (by repeat (first | (with_reducible first | exact HB.out | apply below_alloc | apply pw_below_drewN | apply below_drew1) | exact HB.out))) : w.heap.size ≤ gb7006)); clear HB; have HB := n0_; have BK7006 := n1_; have GW7006 := n2_; have GE7006 := n3_; clear n0_ n1_ n2_ n3_; clear hb hbox hg; have hcz9_0 : w8.cell? ⟨gb7006, 0, none⟩ = some (.string (⟨#[]⟩ : ByteArray)) := (blk_cell BK7006.out 0).trans rfl; have hcz9_1 : w8.cell? ⟨gb7006, 1, none⟩ = some (.string (⟨#[]⟩ : ByteArray)) := (blk_cell BK7006.out 1).trans rfl; have hcz9_2 : w8.cell? ⟨gb7006, 2, none⟩ = some (.string (⟨#[]⟩ : ByteArray)) := (blk_cell BK7006.out 2).trans rfl; have hfz9_0 := blk_frozen BK7006.out 0; have hfz9_1 := blk_frozen BK7006.out 1; have hfz9_2 := blk_frozen BK7006.out 2) | ((with_reducible refine gate_callee (f := 45) rfl ?_); refine goesL_ (some 24) rfl rfl Try.func45 (by kernel_rfl) rfl #[.string t7002, .agg #[.string t7003, .string t7004, .string t7005]] rfl (by (try simp only [List.map_toArray, List.map_cons, List.map_nil]); first | done | rfl | (simp only [List.length_drop, List.length_take]; rfl)) ?_; (with_reducible refine (impl_ApplyValues.calls t7002 t7003 t7004 t7005 t7007 _ A5.out).mono ?_); rintro e w10 ⟨rfl, hb⟩; refine ⟨_, rfl, ?_⟩; have n0_ := Aside0.mk (blk_below (g := gb7006) (o := .cells #[.string t7003, .string t7004, .string t7005] 84 (0, 0)) (by (with_reducible repeat (first | refine blk_drewN ?_ _ | refine blk_drew ?_ | refine blk_alloc ?_ _)); refine blk_put (cs := #[.string t7003, .string t7004, .string (⟨#[]⟩ : ByteArray)]) ?_ 2 _ rfl; (with_reducible repeat (first | refine blk_drewN ?_ _ | refine blk_drew ?_ | refine blk_alloc ?_ _)); refine blk_put (cs := #[.string t7003, .string (⟨#[]⟩ : ByteArray), .string (⟨#[]⟩ : ByteArray)]) ?_ 1 _ rfl; (with_reducible repeat (first | refine blk_drewN ?_ _ | refine blk_drew ?_ | refine blk_alloc ?_ _)); refine blk_put (cs := #[.string (⟨#[]⟩ : ByteArray), .string (⟨#[]⟩ : ByteArray), .string (⟨#[]⟩ : ByteArray)]) ?_ 0 _ rfl; (with_reducible repeat (first | refine blk_drewN ?_ _ | refine blk_drew ?_ | refine blk_alloc ?_ _)); exact BK7006.out) hb); have n1_ := Aside0.mk (below_step (by repeat (first | (with_reducible first | exact HB.out | apply below_alloc | apply pw_below_drewN | apply below_drew1 | refine below_set ?_ GE7006.out) | exact HB.out)) hb); clear BK7006; clear HB; have BK7006 := n0_; have HB := n1_; clear n0_ n1_; (try clear hb); (try clear hb2); (try clear hk); (try clear hi)))
  (try simp only [Act.put, List.setIfInBounds_toArray, List.set_cons_zero, List.set_cons_succ])
  go_cut [43] (fun v43 wc => ∃ (kq : Nat) (x43_5 : Bool), v43 = .bool x43_5 ∧ Aside0 (laws_FnTerms.j0 kq l0 t7002 t7007 x43_5 t7003 t7004 t7005 = some r) ∧ Aside0 (kq ≤ k) ∧ Aside0 (wc.heap[gb7006]? = some (.cells #[.string t7003, .string t7004, .string t7005] 84 (0, 0))) ∧ Aside0 (Below w.heap.size w wc))
  case first =>
   have H := HC6.out
   clear HC6
   replace H := Option.bind_eq_some_iff.mp H
   obtain ⟨t7008, A110, H⟩ := H
   replace H : (if t7007.toList = t7008.toList then ((impl_VarsOf.f k t7002).bind fun t7009 => ((spec_VarsOf.f k t7002).bind fun t7010 => (if t7009.toList = t7010.toList then ((impl_IsTerm.f k t7002).bind fun t7011 => ((spec_IsTerm.f k t7002).bind fun t7012 => (laws_FnTerms.j0 k l0 t7002 t7007 (t7011 != t7012) t7003 t7004 t7005))) else (laws_FnTerms.j0 k l0 t7002 t7007 true t7003 t7004 t7005)))) else (laws_FnTerms.j0 k l0 t7002 t7007 true t7003 t7004 t7005)) = some r := H
   have A11 := Aside0.mk A110
   clear A110
   by_cases c12 : t7007.toList = t7008.toList
   ·rw [if_pos c12] at H
    have c12b0 : (t7007.toList == t7008.toList) = true := beq_iff_eq.mpr c12
    have c12b1 : (t7007.toList != t7008.toList) = false := bne_eq_false_iff_eq.mpr c12
    clear c12
    (first | rw [c12b0] | (simp only [i64_w, i32_w]; rw [c12b0]) | skip)
    replace H := Option.bind_eq_some_iff.mp H
    obtain ⟨t7009, A130, H⟩ := H
    replace H : ((spec_VarsOf.f k t7002).bind fun t7010 => (if t7009.toList = t7010.toList then ((impl_IsTerm.f k t7002).bind fun t7011 => ((spec_IsTerm.f k t7002).bind fun t7012 => (laws_FnTerms.j0 k l0 t7002 t7007 (t7011 != t7012) t7003 t7004 t7005))) else (laws_FnTerms.j0 k l0 t7002 t7007 true t7003 t7004 t7005))) = some r := H
    have A13 := Aside0.mk A130
    clear A130
    replace H := Option.bind_eq_some_iff.mp H
    obtain ⟨t7010, A140, H⟩ := H
    replace H : (if t7009.toList = t7010.toList then ((impl_IsTerm.f k t7002).bind fun t7011 => ((spec_IsTerm.f k t7002).bind fun t7012 => (laws_FnTerms.j0 k l0 t7002 t7007 (t7011 != t7012) t7003 t7004 t7005))) else (laws_FnTerms.j0 k l0 t7002 t7007 true t7003 t7004 t7005)) = some r := H
    have A14 := Aside0.mk A140
    clear A140
    by_cases c15 : t7009.toList = t7010.toList
    ·rw [if_pos c15] at H
     have c15b0 : (t7009.toList == t7010.toList) = true := beq_iff_eq.mpr c15
     have c15b1 : (t7009.toList != t7010.toList) = false := bne_eq_false_iff_eq.mpr c15
     clear c15
     replace H := Option.bind_eq_some_iff.mp H
     obtain ⟨t7011, A160, H⟩ := H
     replace H : ((spec_IsTerm.f k t7002).bind fun t7012 => (laws_FnTerms.j0 k l0 t7002 t7007 (t7011 != t7012) t7003 t7004 t7005)) = some r := H
     have A16 := Aside0.mk A160
     clear A160
     replace H := Option.bind_eq_some_iff.mp H
     obtain ⟨t7012, A170, H⟩ := H
     replace H : (laws_FnTerms.j0 k l0 t7002 t7007 (t7011 != t7012) t7003 t7004 t7005) = some r := H
     have A17 := Aside0.mk A170
     clear A170
     have H' := Aside0.mk H
     clear H
     have hcz18_0 : w10.cell? ⟨gb7006, 0, none⟩ = some (.string t7003) := (blk_cell BK7006.out 0).trans rfl
     have hcz18_1 : w10.cell? ⟨gb7006, 1, none⟩ = some (.string t7004) := (blk_cell BK7006.out 1).trans rfl
     have hcz18_2 : w10.cell? ⟨gb7006, 2, none⟩ = some (.string t7005) := (blk_cell BK7006.out 2).trans rfl
     have hfz18_0 := blk_frozen BK7006.out 0
     have hfz18_1 := blk_frozen BK7006.out 1
     have hfz18_2 := blk_frozen BK7006.out 2
     go_wp2_with (first | ((with_reducible refine gate_callee (f := 46) rfl ?_); refine goesL_ (some 28) rfl rfl Try.func46 (by kernel_rfl) rfl #[.string t7002, .agg #[.string t7003, .string t7004, .string t7005]] rfl (by (try simp only [List.map_toArray, List.map_cons, List.map_nil]); first | done | rfl | (simp only [List.length_drop, List.length_take]; rfl)) ?_; (with_reducible refine (spec_ApplyValues.calls k t7002 t7003 t7004 t7005 t7008 _ A11.out).mono ?_); rintro e w19 ⟨rfl, hb⟩; refine ⟨_, rfl, ?_⟩; have n0_ := Aside0.mk (blk_below (g := gb7006) (o := .cells #[.string t7003, .string t7004, .string t7005] 84 (0, 0)) (by (with_reducible repeat (first | refine blk_drewN ?_ _ | refine blk_drew ?_ | refine blk_alloc ?_ _)); exact BK7006.out) hb); have n1_ := Aside0.mk (below_step (by repeat (first | (with_reducible first | exact HB.out | apply below_alloc | apply pw_below_drewN | apply below_drew1 | refine below_set ?_ GE7006.out) | exact HB.out)) hb); clear BK7006; clear HB; have BK7006 := n0_; have HB := n1_; clear n0_ n1_; (try clear hb); (try clear hb2); (try clear hk); (try clear hi)) | (go_at_call 47; (with_reducible refine (impl_VarsOf.calls k t7002 t7009 _ A13.out).mono ?_); rintro e w' ⟨rfl, ⟨nd, rfl⟩⟩) | (go_at_call 48; (with_reducible refine (spec_VarsOf.calls k t7002 t7010 _ A14.out).mono ?_); rintro e w' ⟨rfl, ⟨nd, rfl⟩⟩) | (go_at_call 49; (with_reducible refine (impl_IsTerm.calls k t7002 t7011 _ A16.out).mono ?_); rintro e w' ⟨rfl, ⟨nd, rfl⟩⟩) | (go_at_call 50; (with_reducible refine (spec_IsTerm.calls k t7002 t7012 _ A17.out).mono ?_); rintro e w' ⟨rfl, ⟨nd, rfl⟩⟩))
     go_meet
     case rel => exact ⟨_, ((t7011 != t7012)), (by first | rfl | (simp; done) | (simp [*]; done)), H', ⟨by first | omega | exact Nat.le_refl _⟩, ⟨by (with_reducible repeat (first | refine blk_drewN ?_ _ | refine blk_drew ?_ | refine blk_alloc ?_ _)); exact BK7006.out⟩, ⟨by repeat (first | (with_reducible first | exact HB.out | apply below_alloc | apply pw_below_drewN | apply below_drew1 | refine below_set ?_ GE7006.out) | exact HB.out)⟩⟩
    ·rw [if_neg c15] at H
     have c15b0 : (t7009.toList == t7010.toList) = false := beq_eq_false_iff_ne.mpr c15
     have c15b1 : (t7009.toList != t7010.toList) = true := bne_iff_ne.mpr c15
     have H' := Aside0.mk H
     clear H
     have hcz20_0 : w10.cell? ⟨gb7006, 0, none⟩ = some (.string t7003) := (blk_cell BK7006.out 0).trans rfl
     have hcz20_1 : w10.cell? ⟨gb7006, 1, none⟩ = some (.string t7004) := (blk_cell BK7006.out 1).trans rfl
     have hcz20_2 : w10.cell? ⟨gb7006, 2, none⟩ = some (.string t7005) := (blk_cell BK7006.out 2).trans rfl
     have hfz20_0 := blk_frozen BK7006.out 0
     have hfz20_1 := blk_frozen BK7006.out 1
     have hfz20_2 := blk_frozen BK7006.out 2
     go_wp2_with (first | ((with_reducible refine gate_callee (f := 46) rfl ?_); refine goesL_ (some 28) rfl rfl Try.func46 (by kernel_rfl) rfl #[.string t7002, .agg #[.string t7003, .string t7004, .string t7005]] rfl (by (try simp only [List.map_toArray, List.map_cons, List.map_nil]); first | done | rfl | (simp only [List.length_drop, List.length_take]; rfl)) ?_; (with_reducible refine (spec_ApplyValues.calls k t7002 t7003 t7004 t7005 t7008 _ A11.out).mono ?_); rintro e w21 ⟨rfl, hb⟩; refine ⟨_, rfl, ?_⟩; have n0_ := Aside0.mk (blk_below (g := gb7006) (o := .cells #[.string t7003, .string t7004, .string t7005] 84 (0, 0)) (by (with_reducible repeat (first | refine blk_drewN ?_ _ | refine blk_drew ?_ | refine blk_alloc ?_ _)); exact BK7006.out) hb); have n1_ := Aside0.mk (below_step (by repeat (first | (with_reducible first | exact HB.out | apply below_alloc | apply pw_below_drewN | apply below_drew1 | refine below_set ?_ GE7006.out) | exact HB.out)) hb); clear BK7006; clear HB; have BK7006 := n0_; have HB := n1_; clear n0_ n1_; (try clear hb); (try clear hb2); (try clear hk); (try clear hi)) | (go_at_call 47; (with_reducible refine (impl_VarsOf.calls k t7002 t7009 _ A13.out).mono ?_); rintro e w' ⟨rfl, ⟨nd, rfl⟩⟩) | (go_at_call 48; (with_reducible refine (spec_VarsOf.calls k t7002 t7010 _ A14.out).mono ?_); rintro e w' ⟨rfl, ⟨nd, rfl⟩⟩))
     go_meet
     case rel => exact ⟨_, (true), (by first | rfl | (simp; done) | (simp [*]; done)), H', ⟨by first | omega | exact Nat.le_refl _⟩, ⟨by (with_reducible repeat (first | refine blk_drewN ?_ _ | refine blk_drew ?_ | refine blk_alloc ?_ _)); exact BK7006.out⟩, ⟨by repeat (first | (with_reducible first | exact HB.out | apply below_alloc | apply pw_below_drewN | apply below_drew1 | refine below_set ?_ GE7006.out) | exact HB.out)⟩⟩
   ·rw [if_neg c12] at H
    have c12b0 : (t7007.toList == t7008.toList) = false := beq_eq_false_iff_ne.mpr c12
    have c12b1 : (t7007.toList != t7008.toList) = true := bne_iff_ne.mpr c12
    (first | rw [c12b0] | (simp only [i64_w, i32_w]; rw [c12b0]) | skip)
    have H' := Aside0.mk H
    clear H
    have hcz22_0 : w10.cell? ⟨gb7006, 0, none⟩ = some (.string t7003) := (blk_cell BK7006.out 0).trans rfl
    have hcz22_1 : w10.cell? ⟨gb7006, 1, none⟩ = some (.string t7004) := (blk_cell BK7006.out 1).trans rfl
    have hcz22_2 : w10.cell? ⟨gb7006, 2, none⟩ = some (.string t7005) := (blk_cell BK7006.out 2).trans rfl
    have hfz22_0 := blk_frozen BK7006.out 0
    have hfz22_1 := blk_frozen BK7006.out 1
    have hfz22_2 := blk_frozen BK7006.out 2
    go_wp2_with (first | ((with_reducible refine gate_callee (f := 46) rfl ?_); refine goesL_ (some 28) rfl rfl Try.func46 (by kernel_rfl) rfl #[.string t7002, .agg #[.string t7003, .string t7004, .string t7005]] rfl (by (try simp only [List.map_toArray, List.map_cons, List.map_nil]); first | done | rfl | (simp only [List.length_drop, List.length_take]; rfl)) ?_; (with_reducible refine (spec_ApplyValues.calls k t7002 t7003 t7004 t7005 t7008 _ A11.out).mono ?_); rintro e w23 ⟨rfl, hb⟩; refine ⟨_, rfl, ?_⟩; have n0_ := Aside0.mk (blk_below (g := gb7006) (o := .cells #[.string t7003, .string t7004, .string t7005] 84 (0, 0)) (by (with_reducible repeat (first | refine blk_drewN ?_ _ | refine blk_drew ?_ | refine blk_alloc ?_ _)); exact BK7006.out) hb); have n1_ := Aside0.mk (below_step (by repeat (first | (with_reducible first | exact HB.out | apply below_alloc | apply pw_below_drewN | apply below_drew1 | refine below_set ?_ GE7006.out) | exact HB.out)) hb); clear BK7006; clear HB; have BK7006 := n0_; have HB := n1_; clear n0_ n1_; (try clear hb); (try clear hb2); (try clear hk); (try clear hi)))
    go_meet
    case rel => exact ⟨_, (true), (by first | rfl | (simp; done) | (simp [*]; done)), H', ⟨by first | omega | exact Nat.le_refl _⟩, ⟨by (with_reducible repeat (first | refine blk_drewN ?_ _ | refine blk_drew ?_ | refine blk_alloc ?_ _)); exact BK7006.out⟩, ⟨by repeat (first | (with_reducible first | exact HB.out | apply below_alloc | apply pw_below_drewN | apply below_drew1 | refine below_set ?_ GE7006.out) | exact HB.out)⟩⟩
  case rest =>
   clear HC6
   try clear c1
   try clear p2
   try clear c3
   try clear c4
   try clear c7
   try clear c12
   try clear c12b0
   try clear c12b1
   try clear c15
   try clear c15b0
   try clear c15b1
   try clear hcz18_0
   try clear hcz18_1
   try clear hcz18_2
   try clear hcz20_0
   try clear hcz20_1
   try clear hcz20_2
   try clear hcz22_0
   try clear hcz22_1
   try clear hcz22_2
   try clear hcz9_0
   try clear hcz9_1
   try clear hcz9_2
   try clear hfz18_0
   try clear hfz18_1
   try clear hfz18_2
   try clear hfz20_0
   try clear hfz20_1
   try clear hfz20_2
   try clear hfz22_0
   try clear hfz22_1
   try clear hfz22_2
   try clear hfz9_0
   try clear hfz9_1
   try clear hfz9_2
   obtain ⟨kq, x43_5, rfl, HA, HJ5, BK7006, HB⟩ := hcut
   cases kq with
   | zero => exact absurd HA.out (by simp [laws_FnTerms.j0])
   | succ kj5 =>
    have H := HA.out
    clear HA
    simp only [laws_FnTerms.j0] at H
    by_cases c24 : x43_5 = true
    ·subst c24
     have H1 : (some false) = some r := by rw [if_pos rfl] at H; exact H
     clear H
     have H := H1
     clear H1
     obtain rfl := Option.some.inj H
     go_wp2
     go_ret
     exact ⟨by first | rfl | (simp [errW_none, errW_some] <;> rfl) | (simp [*, errW_none, errW_some] <;> rfl), by repeat (first | (with_reducible first | exact HB.out | apply below_alloc | apply pw_below_drewN | apply below_drew1 | refine below_set ?_ GE7006.out) | exact HB.out)⟩
    ·replace c24 := Bool.eq_false_iff.mpr c24
     subst c24
     have H1 : (laws_FnTerms.l0 kj5 l0 t7002 t7007 0 t7003 t7004 t7005) = some r := by rw [if_neg (show ¬ (false = true) by decide)] at H; exact H
     clear H
     have H := H1
     clear H1
     have H' := Aside0.mk H
     clear H
     go_wp2
     first | go_loopg [6] kj5 (fun kq v6 w' => ∃ (x6_2 : Int), v6 = .int .i64 x6_2 ∧ Aside0 (laws_FnTerms.l0 kq l0 t7002 t7007 x6_2 t7003 t7004 t7005 = some r) ∧ Aside0 (kq ≤ kj5) ∧ Aside0 (w'.heap[gb7006]? = some (.cells #[.string t7003, .string t7004, .string t7005] 84 (0, 0))) ∧ Aside0 (Below w.heap.size w w')) | (simp only [Act.put, List.setIfInBounds_toArray, List.set_cons_succ, List.set_cons_zero]; go_loopg [6] kj5 (fun kq v6 w' => ∃ (x6_2 : Int), v6 = .int .i64 x6_2 ∧ Aside0 (laws_FnTerms.l0 kq l0 t7002 t7007 x6_2 t7003 t7004 t7005 = some r) ∧ Aside0 (kq ≤ kj5) ∧ Aside0 (w'.heap[gb7006]? = some (.cells #[.string t7003, .string t7004, .string t7005] 84 (0, 0))) ∧ Aside0 (Below w.heap.size w w')))
     case atStart => exact ⟨(0), (by first | rfl | (simp; done) | (simp [*]; done)), H', ⟨Nat.le_refl _⟩, ⟨by (with_reducible repeat (first | refine blk_drewN ?_ _ | refine blk_drew ?_ | refine blk_alloc ?_ _)); exact BK7006.out⟩, ⟨by repeat (first | (with_reducible first | exact HB.out | apply below_alloc | apply pw_below_drewN | apply below_drew1 | refine below_set ?_ GE7006.out) | exact HB.out)⟩⟩
     case round =>
      clear H'
      try clear c1
      try clear c2
      try clear p2
      try clear c3
      try clear c4
      try clear c7
      try clear c12
      try clear c12b0
      try clear c12b1
      try clear c15
      try clear c15b0
      try clear c15b1
      try clear c24
      try clear hcz18_0
      try clear hcz18_1
      try clear hcz18_2
      try clear hcz20_0
      try clear hcz20_1
      try clear hcz20_2
      try clear hcz22_0
      try clear hcz22_1
      try clear hcz22_2
      try clear hcz9_0
      try clear hcz9_1
      try clear hcz9_2
      try clear hfz18_0
      try clear hfz18_1
      try clear hfz18_2
      try clear hfz20_0
      try clear hfz20_1
      try clear hfz20_2
      try clear hfz22_0
      try clear hfz22_1
      try clear hfz22_2
      try clear hfz9_0
      try clear hfz9_1
      try clear hfz9_2
      try clear p2
      obtain ⟨x6_2, rfl, HA, HK2, BK7006, HB⟩ := hrel
      cases gk with
      | zero => exact absurd HA.out (by simp [laws_FnTerms.l0])
      | succ k2 =>
       have H := HA.out
       clear HA
       simp only [laws_FnTerms.l0] at H
       by_cases c25 : x6_2 < 3
       ·rw [if_pos c25] at H
        have c25b0 : decide (x6_2 < 3) = true := decide_eq_true c25
        clear c25
        by_cases c26 : 0 ≤ x6_2
        ·rw [if_pos c26] at H
         have c26b0 : decide (0 ≤ x6_2) = true := decide_eq_true c26
         clear c26
         replace H := Option.bind_eq_some_iff.mp H
         obtain ⟨t7013, A280, H⟩ := H
         replace H : ((impl_ReplaceVar.f t7002 (bt (⟨#[88, 89, 90]⟩ : ByteArray) x6_2) t7013).bind fun t7014 => ((impl_CountByte.f k2 t7002 (bt (⟨#[88, 89, 90]⟩ : ByteArray) x6_2)).bind fun t7015 => ((impl_VarsOf.f k2 t7002).bind fun t7016 => ((impl_CountByte.f k2 t7016 (bt (⟨#[88, 89, 90]⟩ : ByteArray) x6_2)).bind fun t7017 => (if ((decide (t7015 > 0)) != (decide (t7017 > 0))) = true then (some false) else ((impl_ApplyValues.f t7014 t7003 t7004 t7005).bind fun t7018 => (if t7018.toList = t7007.toList then (laws_FnTerms.l0 k2 l0 t7002 t7007 (wrap64 (x6_2 + 1)) t7003 t7004 t7005) else ((spec_IsValues.f k2 t7003 t7004 t7005).bind fun t7019 => (if t7019 = true then (some false) else (laws_FnTerms.l0 k2 l0 t7002 t7007 (wrap64 (x6_2 + 1)) t7003 t7004 t7005)))))))))) = some r := H
         have A28 := Aside0.mk A280
         clear A280
         replace H := Option.bind_eq_some_iff.mp H
         obtain ⟨t7014, A290, H⟩ := H
         replace H : ((impl_CountByte.f k2 t7002 (bt (⟨#[88, 89, 90]⟩ : ByteArray) x6_2)).bind fun t7015 => ((impl_VarsOf.f k2 t7002).bind fun t7016 => ((impl_CountByte.f k2 t7016 (bt (⟨#[88, 89, 90]⟩ : ByteArray) x6_2)).bind fun t7017 => (if ((decide (t7015 > 0)) != (decide (t7017 > 0))) = true then (some false) else ((impl_ApplyValues.f t7014 t7003 t7004 t7005).bind fun t7018 => (if t7018.toList = t7007.toList then (laws_FnTerms.l0 k2 l0 t7002 t7007 (wrap64 (x6_2 + 1)) t7003 t7004 t7005) else ((spec_IsValues.f k2 t7003 t7004 t7005).bind fun t7019 => (if t7019 = true then (some false) else (laws_FnTerms.l0 k2 l0 t7002 t7007 (wrap64 (x6_2 + 1)) t7003 t7004 t7005))))))))) = some r := H
         have A29 := Aside0.mk A290
         clear A290
         replace H := Option.bind_eq_some_iff.mp H
         obtain ⟨t7015, A300, H⟩ := H
         replace H : ((impl_VarsOf.f k2 t7002).bind fun t7016 => ((impl_CountByte.f k2 t7016 (bt (⟨#[88, 89, 90]⟩ : ByteArray) x6_2)).bind fun t7017 => (if ((decide (t7015 > 0)) != (decide (t7017 > 0))) = true then (some false) else ((impl_ApplyValues.f t7014 t7003 t7004 t7005).bind fun t7018 => (if t7018.toList = t7007.toList then (laws_FnTerms.l0 k2 l0 t7002 t7007 (wrap64 (x6_2 + 1)) t7003 t7004 t7005) else ((spec_IsValues.f k2 t7003 t7004 t7005).bind fun t7019 => (if t7019 = true then (some false) else (laws_FnTerms.l0 k2 l0 t7002 t7007 (wrap64 (x6_2 + 1)) t7003 t7004 t7005)))))))) = some r := H
         have A30 := Aside0.mk A300
         clear A300
         replace H := Option.bind_eq_some_iff.mp H
         obtain ⟨t7016, A310, H⟩ := H
         replace H : ((impl_CountByte.f k2 t7016 (bt (⟨#[88, 89, 90]⟩ : ByteArray) x6_2)).bind fun t7017 => (if ((decide (t7015 > 0)) != (decide (t7017 > 0))) = true then (some false) else ((impl_ApplyValues.f t7014 t7003 t7004 t7005).bind fun t7018 => (if t7018.toList = t7007.toList then (laws_FnTerms.l0 k2 l0 t7002 t7007 (wrap64 (x6_2 + 1)) t7003 t7004 t7005) else ((spec_IsValues.f k2 t7003 t7004 t7005).bind fun t7019 => (if t7019 = true then (some false) else (laws_FnTerms.l0 k2 l0 t7002 t7007 (wrap64 (x6_2 + 1)) t7003 t7004 t7005))))))) = some r := H
         have A31 := Aside0.mk A310
         clear A310
         replace H := Option.bind_eq_some_iff.mp H
         obtain ⟨t7017, A320, H⟩ := H
         replace H : (if ((decide (t7015 > 0)) != (decide (t7017 > 0))) = true then (some false) else ((impl_ApplyValues.f t7014 t7003 t7004 t7005).bind fun t7018 => (if t7018.toList = t7007.toList then (laws_FnTerms.l0 k2 l0 t7002 t7007 (wrap64 (x6_2 + 1)) t7003 t7004 t7005) else ((spec_IsValues.f k2 t7003 t7004 t7005).bind fun t7019 => (if t7019 = true then (some false) else (laws_FnTerms.l0 k2 l0 t7002 t7007 (wrap64 (x6_2 + 1)) t7003 t7004 t7005)))))) = some r := H
         have A32 := Aside0.mk A320
         clear A320
         by_cases c33 : ((decide (t7015 > 0)) != (decide (t7017 > 0))) = true
         ·rw [if_pos c33] at H
          have c33b0 : ((decide (t7015 > 0)) != (decide (t7017 > 0))) = true := c33
          (try (have c33b1 : decide ((decide (t7015 > 0)) = (decide (t7017 > 0))) = false := by simpa using c33))
          (try (have c33b2 : ((decide (t7015 > 0)) == (decide (t7017 > 0))) = false := by simpa using c33))
          (try (have c33b3 : ¬ ((decide (t7015 > 0)) = (decide (t7017 > 0))) := by simpa using c33))
          clear c33
          obtain rfl := Option.some.inj H
          have p27 : 0 ≤ (x6_2 : Int) := of_decide_eq_true (by first | (with_reducible assumption) | assumption)
          have q27 : x6_2 < (3 : Int) := of_decide_eq_true (by first | (with_reducible assumption) | assumption)
          have hx27 := bt_at (⟨#[88, 89, 90]⟩ : ByteArray) x6_2
          replace p27 := eq_true p27
          replace q27 := eq_true q27
          have hcz34_0 : wr.cell? ⟨gb7006, 0, none⟩ = some (.string t7003) := (blk_cell BK7006.out 0).trans rfl
          have hcz34_1 : wr.cell? ⟨gb7006, 1, none⟩ = some (.string t7004) := (blk_cell BK7006.out 1).trans rfl
          have hcz34_2 : wr.cell? ⟨gb7006, 2, none⟩ = some (.string t7005) := (blk_cell BK7006.out 2).trans rfl
          have hfz34_0 := blk_frozen BK7006.out 0
          have hfz34_1 := blk_frozen BK7006.out 1
          have hfz34_2 := blk_frozen BK7006.out 2
          go_wp2_with (first | ((with_reducible refine gate_callee (f := 52) rfl ?_); refine goesL_ (some 54) rfl rfl Try.func52 (by kernel_rfl) rfl #[.agg #[.string t7003, .string t7004, .string t7005], .int .u8 (bt (⟨#[88, 89, 90]⟩ : ByteArray) x6_2)] rfl (by (try simp only [List.map_toArray, List.map_cons, List.map_nil]); first | done | rfl | (simp only [List.length_drop, List.length_take]; rfl)) ?_; (with_reducible refine (impl_ValueOf.calls t7003 t7004 t7005 (bt (⟨#[88, 89, 90]⟩ : ByteArray) x6_2) t7013 _ A28.out).mono ?_); rintro e w35 ⟨rfl, hb⟩; refine ⟨_, rfl, ?_⟩; have n0_ := Aside0.mk (blk_below (g := gb7006) (o := .cells #[.string t7003, .string t7004, .string t7005] 84 (0, 0)) (by (with_reducible repeat (first | refine blk_drewN ?_ _ | refine blk_drew ?_ | refine blk_alloc ?_ _)); exact BK7006.out) hb); have n1_ := Aside0.mk (below_step (by repeat (first | (with_reducible first | exact HB.out | apply below_alloc | apply pw_below_drewN | apply below_drew1 | refine below_set ?_ GE7006.out) | exact HB.out)) hb); clear BK7006; clear HB; have BK7006 := n0_; have HB := n1_; clear n0_ n1_; (try clear hb); (try clear hb2); (try clear hk); (try clear hi)) | ((with_reducible refine gate_callee (f := 51) rfl ?_); refine goesL_ (some 55) rfl rfl Try.func51 (by kernel_rfl) rfl #[.string t7002, .int .u8 (bt (⟨#[88, 89, 90]⟩ : ByteArray) x6_2), .string t7013] rfl (by (try simp only [List.map_toArray, List.map_cons, List.map_nil]); first | done | rfl | (simp only [List.length_drop, List.length_take]; rfl)) ?_; (with_reducible refine (impl_ReplaceVar.calls t7002 (bt (⟨#[88, 89, 90]⟩ : ByteArray) x6_2) t7013 t7014 _ A29.out).mono ?_); rintro e w36 ⟨rfl, hb⟩; refine ⟨_, rfl, ?_⟩; have n0_ := Aside0.mk (blk_below (g := gb7006) (o := .cells #[.string t7003, .string t7004, .string t7005] 84 (0, 0)) (by (with_reducible repeat (first | refine blk_drewN ?_ _ | refine blk_drew ?_ | refine blk_alloc ?_ _)); exact BK7006.out) hb); have n1_ := Aside0.mk (below_step (by repeat (first | (with_reducible first | exact HB.out | apply below_alloc | apply pw_below_drewN | apply below_drew1 | refine below_set ?_ GE7006.out) | exact HB.out)) hb); clear BK7006; clear HB; have BK7006 := n0_; have HB := n1_; clear n0_ n1_; (try clear hb); (try clear hb2); (try clear hk); (try clear hi)) | ((with_reducible refine gate_callee (f := 53) rfl ?_); refine goesL_ (some 58) rfl rfl Try.func53 (by kernel_rfl) rfl #[.string t7002, .int .u8 (bt (⟨#[88, 89, 90]⟩ : ByteArray) x6_2)] rfl (by (try simp only [List.map_toArray, List.map_cons, List.map_nil]); first | done | rfl | (simp only [List.length_drop, List.length_take]; rfl)) ?_; (with_reducible refine (impl_CountByte.calls k2 t7002 (bt (⟨#[88, 89, 90]⟩ : ByteArray) x6_2) t7015 _ A30.out).mono ?_); rintro e w' ⟨rfl, ⟨nd, rfl⟩⟩; refine ⟨_, rfl, ?_⟩) | ((with_reducible refine gate_callee (f := 47) rfl ?_); refine goesL_ (some 61) rfl rfl Try.func47 (by kernel_rfl) rfl #[.string t7002] rfl (by (try simp only [List.map_toArray, List.map_cons, List.map_nil]); first | done | rfl | (simp only [List.length_drop, List.length_take]; rfl)) ?_; (with_reducible refine (impl_VarsOf.calls k2 t7002 t7016 _ A31.out).mono ?_); rintro e w' ⟨rfl, ⟨nd, rfl⟩⟩; refine ⟨_, rfl, ?_⟩) | ((with_reducible refine gate_callee (f := 53) rfl ?_); refine goesL_ (some 63) rfl rfl Try.func53 (by kernel_rfl) rfl #[.string t7016, .int .u8 (bt (⟨#[88, 89, 90]⟩ : ByteArray) x6_2)] rfl (by (try simp only [List.map_toArray, List.map_cons, List.map_nil]); first | done | rfl | (simp only [List.length_drop, List.length_take]; rfl)) ?_; (with_reducible refine (impl_CountByte.calls k2 t7016 (bt (⟨#[88, 89, 90]⟩ : ByteArray) x6_2) t7017 _ A32.out).mono ?_); rintro e w' ⟨rfl, ⟨nd, rfl⟩⟩; refine ⟨_, rfl, ?_⟩))
          go_ret
          exact ⟨by first | rfl | (simp [errW_none, errW_some] <;> rfl) | (simp [*, errW_none, errW_some] <;> rfl), by repeat (first | (with_reducible first | exact HB.out | apply below_alloc | apply pw_below_drewN | apply below_drew1 | refine below_set ?_ GE7006.out) | exact HB.out)⟩
         ·rw [if_neg c33] at H
          have c33b0 : ((decide (t7015 > 0)) != (decide (t7017 > 0))) = false := by simpa using c33
          (try (have c33b1 : decide ((decide (t7015 > 0)) = (decide (t7017 > 0))) = true := by simpa using c33))
          (try (have c33b2 : ((decide (t7015 > 0)) == (decide (t7017 > 0))) = true := by simpa using c33))
          clear c33
          replace H := Option.bind_eq_some_iff.mp H
          obtain ⟨t7018, A370, H⟩ := H
          replace H : (if t7018.toList = t7007.toList then (laws_FnTerms.l0 k2 l0 t7002 t7007 (wrap64 (x6_2 + 1)) t7003 t7004 t7005) else ((spec_IsValues.f k2 t7003 t7004 t7005).bind fun t7019 => (if t7019 = true then (some false) else (laws_FnTerms.l0 k2 l0 t7002 t7007 (wrap64 (x6_2 + 1)) t7003 t7004 t7005)))) = some r := H
          have A37 := Aside0.mk A370
          clear A370
          by_cases c38 : t7018.toList = t7007.toList
          ·rw [if_pos c38] at H
           have c38b0 : (t7018.toList == t7007.toList) = true := beq_iff_eq.mpr c38
           have c38b1 : (t7018.toList != t7007.toList) = false := bne_eq_false_iff_eq.mpr c38
           clear c38
           have H' := Aside0.mk H
           clear H
           have p27 : 0 ≤ (x6_2 : Int) := of_decide_eq_true (by first | (with_reducible assumption) | assumption)
           have q27 : x6_2 < (3 : Int) := of_decide_eq_true (by first | (with_reducible assumption) | assumption)
           have hx27 := bt_at (⟨#[88, 89, 90]⟩ : ByteArray) x6_2
           replace p27 := eq_true p27
           replace q27 := eq_true q27
           have hcz39_0 : wr.cell? ⟨gb7006, 0, none⟩ = some (.string t7003) := (blk_cell BK7006.out 0).trans rfl
           have hcz39_1 : wr.cell? ⟨gb7006, 1, none⟩ = some (.string t7004) := (blk_cell BK7006.out 1).trans rfl
           have hcz39_2 : wr.cell? ⟨gb7006, 2, none⟩ = some (.string t7005) := (blk_cell BK7006.out 2).trans rfl
           have hfz39_0 := blk_frozen BK7006.out 0
           have hfz39_1 := blk_frozen BK7006.out 1
           have hfz39_2 := blk_frozen BK7006.out 2
           go_wp2_with (first | ((with_reducible refine gate_callee (f := 52) rfl ?_); refine goesL_ (some 54) rfl rfl Try.func52 (by kernel_rfl) rfl #[.agg #[.string t7003, .string t7004, .string t7005], .int .u8 (bt (⟨#[88, 89, 90]⟩ : ByteArray) x6_2)] rfl (by (try simp only [List.map_toArray, List.map_cons, List.map_nil]); first | done | rfl | (simp only [List.length_drop, List.length_take]; rfl)) ?_; (with_reducible refine (impl_ValueOf.calls t7003 t7004 t7005 (bt (⟨#[88, 89, 90]⟩ : ByteArray) x6_2) t7013 _ A28.out).mono ?_); rintro e w40 ⟨rfl, hb⟩; refine ⟨_, rfl, ?_⟩; have n0_ := Aside0.mk (blk_below (g := gb7006) (o := .cells #[.string t7003, .string t7004, .string t7005] 84 (0, 0)) (by (with_reducible repeat (first | refine blk_drewN ?_ _ | refine blk_drew ?_ | refine blk_alloc ?_ _)); exact BK7006.out) hb); have n1_ := Aside0.mk (below_step (by repeat (first | (with_reducible first | exact HB.out | apply below_alloc | apply pw_below_drewN | apply below_drew1 | refine below_set ?_ GE7006.out) | exact HB.out)) hb); clear BK7006; clear HB; have BK7006 := n0_; have HB := n1_; clear n0_ n1_; (try clear hb); (try clear hb2); (try clear hk); (try clear hi)) | ((with_reducible refine gate_callee (f := 51) rfl ?_); refine goesL_ (some 55) rfl rfl Try.func51 (by kernel_rfl) rfl #[.string t7002, .int .u8 (bt (⟨#[88, 89, 90]⟩ : ByteArray) x6_2), .string t7013] rfl (by (try simp only [List.map_toArray, List.map_cons, List.map_nil]); first | done | rfl | (simp only [List.length_drop, List.length_take]; rfl)) ?_; (with_reducible refine (impl_ReplaceVar.calls t7002 (bt (⟨#[88, 89, 90]⟩ : ByteArray) x6_2) t7013 t7014 _ A29.out).mono ?_); rintro e w41 ⟨rfl, hb⟩; refine ⟨_, rfl, ?_⟩; have n0_ := Aside0.mk (blk_below (g := gb7006) (o := .cells #[.string t7003, .string t7004, .string t7005] 84 (0, 0)) (by (with_reducible repeat (first | refine blk_drewN ?_ _ | refine blk_drew ?_ | refine blk_alloc ?_ _)); exact BK7006.out) hb); have n1_ := Aside0.mk (below_step (by repeat (first | (with_reducible first | exact HB.out | apply below_alloc | apply pw_below_drewN | apply below_drew1 | refine below_set ?_ GE7006.out) | exact HB.out)) hb); clear BK7006; clear HB; have BK7006 := n0_; have HB := n1_; clear n0_ n1_; (try clear hb); (try clear hb2); (try clear hk); (try clear hi)) | ((with_reducible refine gate_callee (f := 53) rfl ?_); refine goesL_ (some 58) rfl rfl Try.func53 (by kernel_rfl) rfl #[.string t7002, .int .u8 (bt (⟨#[88, 89, 90]⟩ : ByteArray) x6_2)] rfl (by (try simp only [List.map_toArray, List.map_cons, List.map_nil]); first | done | rfl | (simp only [List.length_drop, List.length_take]; rfl)) ?_; (with_reducible refine (impl_CountByte.calls k2 t7002 (bt (⟨#[88, 89, 90]⟩ : ByteArray) x6_2) t7015 _ A30.out).mono ?_); rintro e w' ⟨rfl, ⟨nd, rfl⟩⟩; refine ⟨_, rfl, ?_⟩) | ((with_reducible refine gate_callee (f := 47) rfl ?_); refine goesL_ (some 61) rfl rfl Try.func47 (by kernel_rfl) rfl #[.string t7002] rfl (by (try simp only [List.map_toArray, List.map_cons, List.map_nil]); first | done | rfl | (simp only [List.length_drop, List.length_take]; rfl)) ?_; (with_reducible refine (impl_VarsOf.calls k2 t7002 t7016 _ A31.out).mono ?_); rintro e w' ⟨rfl, ⟨nd, rfl⟩⟩; refine ⟨_, rfl, ?_⟩) | ((with_reducible refine gate_callee (f := 53) rfl ?_); refine goesL_ (some 63) rfl rfl Try.func53 (by kernel_rfl) rfl #[.string t7016, .int .u8 (bt (⟨#[88, 89, 90]⟩ : ByteArray) x6_2)] rfl (by (try simp only [List.map_toArray, List.map_cons, List.map_nil]); first | done | rfl | (simp only [List.length_drop, List.length_take]; rfl)) ?_; (with_reducible refine (impl_CountByte.calls k2 t7016 (bt (⟨#[88, 89, 90]⟩ : ByteArray) x6_2) t7017 _ A32.out).mono ?_); rintro e w' ⟨rfl, ⟨nd, rfl⟩⟩; refine ⟨_, rfl, ?_⟩; have hcz42_0 : w41.cell? ⟨gb7006, 0, none⟩ = some (.string t7003) := (blk_cell BK7006.out 0).trans rfl; have hcz42_1 : w41.cell? ⟨gb7006, 1, none⟩ = some (.string t7004) := (blk_cell BK7006.out 1).trans rfl; have hcz42_2 : w41.cell? ⟨gb7006, 2, none⟩ = some (.string t7005) := (blk_cell BK7006.out 2).trans rfl; have hfz42_0 := blk_frozen BK7006.out 0; have hfz42_1 := blk_frozen BK7006.out 1; have hfz42_2 := blk_frozen BK7006.out 2) | (go_at_call 45; (with_reducible refine (impl_ApplyValues.calls t7014 t7003 t7004 t7005 t7018 _ A37.out).mono ?_); rintro e w43 ⟨rfl, hb⟩; have n0_ := Aside0.mk (blk_below (g := gb7006) (o := .cells #[.string t7003, .string t7004, .string t7005] 84 (0, 0)) (by (with_reducible repeat (first | refine blk_drewN ?_ _ | refine blk_drew ?_ | refine blk_alloc ?_ _)); exact BK7006.out) hb); have n1_ := Aside0.mk (below_step (by repeat (first | (with_reducible first | exact HB.out | apply below_alloc | apply pw_below_drewN | apply below_drew1 | refine below_set ?_ GE7006.out) | exact HB.out)) hb); clear BK7006; clear HB; have BK7006 := n0_; have HB := n1_; clear n0_ n1_; (try clear hb); (try clear hb2); (try clear hk); (try clear hi)))
           go_roundg k2
           case measure => have := HJ5.out; have := HK2.out; omega
           case rel => exact ⟨(wrap64 (x6_2 + 1)), (by first | rfl | (simp; done) | (simp [*]; done)), H', ⟨by have := HJ5.out; have := HK2.out; omega⟩, ⟨by (with_reducible repeat (first | refine blk_drewN ?_ _ | refine blk_drew ?_ | refine blk_alloc ?_ _)); exact BK7006.out⟩, ⟨by repeat (first | (with_reducible first | exact HB.out | apply below_alloc | apply pw_below_drewN | apply below_drew1 | refine below_set ?_ GE7006.out) | exact HB.out)⟩⟩
          ·rw [if_neg c38] at H
           have c38b0 : (t7018.toList == t7007.toList) = false := beq_eq_false_iff_ne.mpr c38
           have c38b1 : (t7018.toList != t7007.toList) = true := bne_iff_ne.mpr c38
           replace H := Option.bind_eq_some_iff.mp H
           obtain ⟨t7019, A440, H⟩ := H
           replace H : (if t7019 = true then (some false) else (laws_FnTerms.l0 k2 l0 t7002 t7007 (wrap64 (x6_2 + 1)) t7003 t7004 t7005)) = some r := H
           have A44 := Aside0.mk A440
           clear A440
           by_cases c45 : t7019 = true
           ·subst c45
            have H1 : (some false) = some r := by rw [if_pos rfl] at H; exact H
            clear H
            have H := H1
            clear H1
            obtain rfl := Option.some.inj H
            have p27 : 0 ≤ (x6_2 : Int) := of_decide_eq_true (by first | (with_reducible assumption) | assumption)
            have q27 : x6_2 < (3 : Int) := of_decide_eq_true (by first | (with_reducible assumption) | assumption)
            have hx27 := bt_at (⟨#[88, 89, 90]⟩ : ByteArray) x6_2
            replace p27 := eq_true p27
            replace q27 := eq_true q27
            have hcz46_0 : wr.cell? ⟨gb7006, 0, none⟩ = some (.string t7003) := (blk_cell BK7006.out 0).trans rfl
            have hcz46_1 : wr.cell? ⟨gb7006, 1, none⟩ = some (.string t7004) := (blk_cell BK7006.out 1).trans rfl
            have hcz46_2 : wr.cell? ⟨gb7006, 2, none⟩ = some (.string t7005) := (blk_cell BK7006.out 2).trans rfl
            have hfz46_0 := blk_frozen BK7006.out 0
            have hfz46_1 := blk_frozen BK7006.out 1
            have hfz46_2 := blk_frozen BK7006.out 2
            go_wp2_with (first | ((with_reducible refine gate_callee (f := 52) rfl ?_); refine goesL_ (some 54) rfl rfl Try.func52 (by kernel_rfl) rfl #[.agg #[.string t7003, .string t7004, .string t7005], .int .u8 (bt (⟨#[88, 89, 90]⟩ : ByteArray) x6_2)] rfl (by (try simp only [List.map_toArray, List.map_cons, List.map_nil]); first | done | rfl | (simp only [List.length_drop, List.length_take]; rfl)) ?_; (with_reducible refine (impl_ValueOf.calls t7003 t7004 t7005 (bt (⟨#[88, 89, 90]⟩ : ByteArray) x6_2) t7013 _ A28.out).mono ?_); rintro e w47 ⟨rfl, hb⟩; refine ⟨_, rfl, ?_⟩; have n0_ := Aside0.mk (blk_below (g := gb7006) (o := .cells #[.string t7003, .string t7004, .string t7005] 84 (0, 0)) (by (with_reducible repeat (first | refine blk_drewN ?_ _ | refine blk_drew ?_ | refine blk_alloc ?_ _)); exact BK7006.out) hb); have n1_ := Aside0.mk (below_step (by repeat (first | (with_reducible first | exact HB.out | apply below_alloc | apply pw_below_drewN | apply below_drew1 | refine below_set ?_ GE7006.out) | exact HB.out)) hb); clear BK7006; clear HB; have BK7006 := n0_; have HB := n1_; clear n0_ n1_; (try clear hb); (try clear hb2); (try clear hk); (try clear hi)) | ((with_reducible refine gate_callee (f := 51) rfl ?_); refine goesL_ (some 55) rfl rfl Try.func51 (by kernel_rfl) rfl #[.string t7002, .int .u8 (bt (⟨#[88, 89, 90]⟩ : ByteArray) x6_2), .string t7013] rfl (by (try simp only [List.map_toArray, List.map_cons, List.map_nil]); first | done | rfl | (simp only [List.length_drop, List.length_take]; rfl)) ?_; (with_reducible refine (impl_ReplaceVar.calls t7002 (bt (⟨#[88, 89, 90]⟩ : ByteArray) x6_2) t7013 t7014 _ A29.out).mono ?_); rintro e w48 ⟨rfl, hb⟩; refine ⟨_, rfl, ?_⟩; have n0_ := Aside0.mk (blk_below (g := gb7006) (o := .cells #[.string t7003, .string t7004, .string t7005] 84 (0, 0)) (by (with_reducible repeat (first | refine blk_drewN ?_ _ | refine blk_drew ?_ | refine blk_alloc ?_ _)); exact BK7006.out) hb); have n1_ := Aside0.mk (below_step (by repeat (first | (with_reducible first | exact HB.out | apply below_alloc | apply pw_below_drewN | apply below_drew1 | refine below_set ?_ GE7006.out) | exact HB.out)) hb); clear BK7006; clear HB; have BK7006 := n0_; have HB := n1_; clear n0_ n1_; (try clear hb); (try clear hb2); (try clear hk); (try clear hi)) | ((with_reducible refine gate_callee (f := 53) rfl ?_); refine goesL_ (some 58) rfl rfl Try.func53 (by kernel_rfl) rfl #[.string t7002, .int .u8 (bt (⟨#[88, 89, 90]⟩ : ByteArray) x6_2)] rfl (by (try simp only [List.map_toArray, List.map_cons, List.map_nil]); first | done | rfl | (simp only [List.length_drop, List.length_take]; rfl)) ?_; (with_reducible refine (impl_CountByte.calls k2 t7002 (bt (⟨#[88, 89, 90]⟩ : ByteArray) x6_2) t7015 _ A30.out).mono ?_); rintro e w' ⟨rfl, ⟨nd, rfl⟩⟩; refine ⟨_, rfl, ?_⟩) | ((with_reducible refine gate_callee (f := 47) rfl ?_); refine goesL_ (some 61) rfl rfl Try.func47 (by kernel_rfl) rfl #[.string t7002] rfl (by (try simp only [List.map_toArray, List.map_cons, List.map_nil]); first | done | rfl | (simp only [List.length_drop, List.length_take]; rfl)) ?_; (with_reducible refine (impl_VarsOf.calls k2 t7002 t7016 _ A31.out).mono ?_); rintro e w' ⟨rfl, ⟨nd, rfl⟩⟩; refine ⟨_, rfl, ?_⟩) | ((with_reducible refine gate_callee (f := 53) rfl ?_); refine goesL_ (some 63) rfl rfl Try.func53 (by kernel_rfl) rfl #[.string t7016, .int .u8 (bt (⟨#[88, 89, 90]⟩ : ByteArray) x6_2)] rfl (by (try simp only [List.map_toArray, List.map_cons, List.map_nil]); first | done | rfl | (simp only [List.length_drop, List.length_take]; rfl)) ?_; (with_reducible refine (impl_CountByte.calls k2 t7016 (bt (⟨#[88, 89, 90]⟩ : ByteArray) x6_2) t7017 _ A32.out).mono ?_); rintro e w' ⟨rfl, ⟨nd, rfl⟩⟩; refine ⟨_, rfl, ?_⟩; have hcz49_0 : w48.cell? ⟨gb7006, 0, none⟩ = some (.string t7003) := (blk_cell BK7006.out 0).trans rfl; have hcz49_1 : w48.cell? ⟨gb7006, 1, none⟩ = some (.string t7004) := (blk_cell BK7006.out 1).trans rfl; have hcz49_2 : w48.cell? ⟨gb7006, 2, none⟩ = some (.string t7005) := (blk_cell BK7006.out 2).trans rfl; have hfz49_0 := blk_frozen BK7006.out 0; have hfz49_1 := blk_frozen BK7006.out 1; have hfz49_2 := blk_frozen BK7006.out 2) | (go_at_call 45; (with_reducible refine (impl_ApplyValues.calls t7014 t7003 t7004 t7005 t7018 _ A37.out).mono ?_); rintro e w50 ⟨rfl, hb⟩; have n0_ := Aside0.mk (blk_below (g := gb7006) (o := .cells #[.string t7003, .string t7004, .string t7005] 84 (0, 0)) (by (with_reducible repeat (first | refine blk_drewN ?_ _ | refine blk_drew ?_ | refine blk_alloc ?_ _)); exact BK7006.out) hb); have n1_ := Aside0.mk (below_step (by repeat (first | (with_reducible first | exact HB.out | apply below_alloc | apply pw_below_drewN | apply below_drew1 | refine below_set ?_ GE7006.out) | exact HB.out)) hb); clear BK7006; clear HB; have BK7006 := n0_; have HB := n1_; clear n0_ n1_; (try clear hb); (try clear hb2); (try clear hk); (try clear hi); have hcz51_0 : w50.cell? ⟨gb7006, 0, none⟩ = some (.string t7003) := (blk_cell BK7006.out 0).trans rfl; have hcz51_1 : w50.cell? ⟨gb7006, 1, none⟩ = some (.string t7004) := (blk_cell BK7006.out 1).trans rfl; have hcz51_2 : w50.cell? ⟨gb7006, 2, none⟩ = some (.string t7005) := (blk_cell BK7006.out 2).trans rfl; have hfz51_0 := blk_frozen BK7006.out 0; have hfz51_1 := blk_frozen BK7006.out 1; have hfz51_2 := blk_frozen BK7006.out 2) | (go_at_call 54; (with_reducible refine (spec_IsValues.calls k2 t7003 t7004 t7005 true _ A44.out).mono ?_); rintro e w52 ⟨rfl, hb⟩; have n0_ := Aside0.mk (blk_below (g := gb7006) (o := .cells #[.string t7003, .string t7004, .string t7005] 84 (0, 0)) (by (with_reducible repeat (first | refine blk_drewN ?_ _ | refine blk_drew ?_ | refine blk_alloc ?_ _)); exact BK7006.out) hb); have n1_ := Aside0.mk (below_step (by repeat (first | (with_reducible first | exact HB.out | apply below_alloc | apply pw_below_drewN | apply below_drew1 | refine below_set ?_ GE7006.out) | exact HB.out)) hb); clear BK7006; clear HB; have BK7006 := n0_; have HB := n1_; clear n0_ n1_; (try clear hb); (try clear hb2); (try clear hk); (try clear hi)))
            go_ret
            exact ⟨by first | rfl | (simp [errW_none, errW_some] <;> rfl) | (simp [*, errW_none, errW_some] <;> rfl), by repeat (first | (with_reducible first | exact HB.out | apply below_alloc | apply pw_below_drewN | apply below_drew1 | refine below_set ?_ GE7006.out) | exact HB.out)⟩
           ·replace c45 := Bool.eq_false_iff.mpr c45
            subst c45
            have H1 : (laws_FnTerms.l0 k2 l0 t7002 t7007 (wrap64 (x6_2 + 1)) t7003 t7004 t7005) = some r := by rw [if_neg (show ¬ (false = true) by decide)] at H; exact H
            clear H
            have H := H1
            clear H1
            have H' := Aside0.mk H
            clear H
            have p27 : 0 ≤ (x6_2 : Int) := of_decide_eq_true (by first | (with_reducible assumption) | assumption)
            have q27 : x6_2 < (3 : Int) := of_decide_eq_true (by first | (with_reducible assumption) | assumption)
            have hx27 := bt_at (⟨#[88, 89, 90]⟩ : ByteArray) x6_2
            replace p27 := eq_true p27
            replace q27 := eq_true q27
            have hcz53_0 : wr.cell? ⟨gb7006, 0, none⟩ = some (.string t7003) := (blk_cell BK7006.out 0).trans rfl
            have hcz53_1 : wr.cell? ⟨gb7006, 1, none⟩ = some (.string t7004) := (blk_cell BK7006.out 1).trans rfl
            have hcz53_2 : wr.cell? ⟨gb7006, 2, none⟩ = some (.string t7005) := (blk_cell BK7006.out 2).trans rfl
            have hfz53_0 := blk_frozen BK7006.out 0
            have hfz53_1 := blk_frozen BK7006.out 1
            have hfz53_2 := blk_frozen BK7006.out 2
            go_wp2_with (first | ((with_reducible refine gate_callee (f := 52) rfl ?_); refine goesL_ (some 54) rfl rfl Try.func52 (by kernel_rfl) rfl #[.agg #[.string t7003, .string t7004, .string t7005], .int .u8 (bt (⟨#[88, 89, 90]⟩ : ByteArray) x6_2)] rfl (by (try simp only [List.map_toArray, List.map_cons, List.map_nil]); first | done | rfl | (simp only [List.length_drop, List.length_take]; rfl)) ?_; (with_reducible refine (impl_ValueOf.calls t7003 t7004 t7005 (bt (⟨#[88, 89, 90]⟩ : ByteArray) x6_2) t7013 _ A28.out).mono ?_); rintro e w54 ⟨rfl, hb⟩; refine ⟨_, rfl, ?_⟩; have n0_ := Aside0.mk (blk_below (g := gb7006) (o := .cells #[.string t7003, .string t7004, .string t7005] 84 (0, 0)) (by (with_reducible repeat (first | refine blk_drewN ?_ _ | refine blk_drew ?_ | refine blk_alloc ?_ _)); exact BK7006.out) hb); have n1_ := Aside0.mk (below_step (by repeat (first | (with_reducible first | exact HB.out | apply below_alloc | apply pw_below_drewN | apply below_drew1 | refine below_set ?_ GE7006.out) | exact HB.out)) hb); clear BK7006; clear HB; have BK7006 := n0_; have HB := n1_; clear n0_ n1_; (try clear hb); (try clear hb2); (try clear hk); (try clear hi)) | ((with_reducible refine gate_callee (f := 51) rfl ?_); refine goesL_ (some 55) rfl rfl Try.func51 (by kernel_rfl) rfl #[.string t7002, .int .u8 (bt (⟨#[88, 89, 90]⟩ : ByteArray) x6_2), .string t7013] rfl (by (try simp only [List.map_toArray, List.map_cons, List.map_nil]); first | done | rfl | (simp only [List.length_drop, List.length_take]; rfl)) ?_; (with_reducible refine (impl_ReplaceVar.calls t7002 (bt (⟨#[88, 89, 90]⟩ : ByteArray) x6_2) t7013 t7014 _ A29.out).mono ?_); rintro e w55 ⟨rfl, hb⟩; refine ⟨_, rfl, ?_⟩; have n0_ := Aside0.mk (blk_below (g := gb7006) (o := .cells #[.string t7003, .string t7004, .string t7005] 84 (0, 0)) (by (with_reducible repeat (first | refine blk_drewN ?_ _ | refine blk_drew ?_ | refine blk_alloc ?_ _)); exact BK7006.out) hb); have n1_ := Aside0.mk (below_step (by repeat (first | (with_reducible first | exact HB.out | apply below_alloc | apply pw_below_drewN | apply below_drew1 | refine below_set ?_ GE7006.out) | exact HB.out)) hb); clear BK7006; clear HB; have BK7006 := n0_; have HB := n1_; clear n0_ n1_; (try clear hb); (try clear hb2); (try clear hk); (try clear hi)) | ((with_reducible refine gate_callee (f := 53) rfl ?_); refine goesL_ (some 58) rfl rfl Try.func53 (by kernel_rfl) rfl #[.string t7002, .int .u8 (bt (⟨#[88, 89, 90]⟩ : ByteArray) x6_2)] rfl (by (try simp only [List.map_toArray, List.map_cons, List.map_nil]); first | done | rfl | (simp only [List.length_drop, List.length_take]; rfl)) ?_; (with_reducible refine (impl_CountByte.calls k2 t7002 (bt (⟨#[88, 89, 90]⟩ : ByteArray) x6_2) t7015 _ A30.out).mono ?_); rintro e w' ⟨rfl, ⟨nd, rfl⟩⟩; refine ⟨_, rfl, ?_⟩) | ((with_reducible refine gate_callee (f := 47) rfl ?_); refine goesL_ (some 61) rfl rfl Try.func47 (by kernel_rfl) rfl #[.string t7002] rfl (by (try simp only [List.map_toArray, List.map_cons, List.map_nil]); first | done | rfl | (simp only [List.length_drop, List.length_take]; rfl)) ?_; (with_reducible refine (impl_VarsOf.calls k2 t7002 t7016 _ A31.out).mono ?_); rintro e w' ⟨rfl, ⟨nd, rfl⟩⟩; refine ⟨_, rfl, ?_⟩) | ((with_reducible refine gate_callee (f := 53) rfl ?_); refine goesL_ (some 63) rfl rfl Try.func53 (by kernel_rfl) rfl #[.string t7016, .int .u8 (bt (⟨#[88, 89, 90]⟩ : ByteArray) x6_2)] rfl (by (try simp only [List.map_toArray, List.map_cons, List.map_nil]); first | done | rfl | (simp only [List.length_drop, List.length_take]; rfl)) ?_; (with_reducible refine (impl_CountByte.calls k2 t7016 (bt (⟨#[88, 89, 90]⟩ : ByteArray) x6_2) t7017 _ A32.out).mono ?_); rintro e w' ⟨rfl, ⟨nd, rfl⟩⟩; refine ⟨_, rfl, ?_⟩; have hcz56_0 : w55.cell? ⟨gb7006, 0, none⟩ = some (.string t7003) := (blk_cell BK7006.out 0).trans rfl; have hcz56_1 : w55.cell? ⟨gb7006, 1, none⟩ = some (.string t7004) := (blk_cell BK7006.out 1).trans rfl; have hcz56_2 : w55.cell? ⟨gb7006, 2, none⟩ = some (.string t7005) := (blk_cell BK7006.out 2).trans rfl; have hfz56_0 := blk_frozen BK7006.out 0; have hfz56_1 := blk_frozen BK7006.out 1; have hfz56_2 := blk_frozen BK7006.out 2) | (go_at_call 45; (with_reducible refine (impl_ApplyValues.calls t7014 t7003 t7004 t7005 t7018 _ A37.out).mono ?_); rintro e w57 ⟨rfl, hb⟩; have n0_ := Aside0.mk (blk_below (g := gb7006) (o := .cells #[.string t7003, .string t7004, .string t7005] 84 (0, 0)) (by (with_reducible repeat (first | refine blk_drewN ?_ _ | refine blk_drew ?_ | refine blk_alloc ?_ _)); exact BK7006.out) hb); have n1_ := Aside0.mk (below_step (by repeat (first | (with_reducible first | exact HB.out | apply below_alloc | apply pw_below_drewN | apply below_drew1 | refine below_set ?_ GE7006.out) | exact HB.out)) hb); clear BK7006; clear HB; have BK7006 := n0_; have HB := n1_; clear n0_ n1_; (try clear hb); (try clear hb2); (try clear hk); (try clear hi); have hcz58_0 : w57.cell? ⟨gb7006, 0, none⟩ = some (.string t7003) := (blk_cell BK7006.out 0).trans rfl; have hcz58_1 : w57.cell? ⟨gb7006, 1, none⟩ = some (.string t7004) := (blk_cell BK7006.out 1).trans rfl; have hcz58_2 : w57.cell? ⟨gb7006, 2, none⟩ = some (.string t7005) := (blk_cell BK7006.out 2).trans rfl; have hfz58_0 := blk_frozen BK7006.out 0; have hfz58_1 := blk_frozen BK7006.out 1; have hfz58_2 := blk_frozen BK7006.out 2) | (go_at_call 54; (with_reducible refine (spec_IsValues.calls k2 t7003 t7004 t7005 false _ A44.out).mono ?_); rintro e w59 ⟨rfl, hb⟩; have n0_ := Aside0.mk (blk_below (g := gb7006) (o := .cells #[.string t7003, .string t7004, .string t7005] 84 (0, 0)) (by (with_reducible repeat (first | refine blk_drewN ?_ _ | refine blk_drew ?_ | refine blk_alloc ?_ _)); exact BK7006.out) hb); have n1_ := Aside0.mk (below_step (by repeat (first | (with_reducible first | exact HB.out | apply below_alloc | apply pw_below_drewN | apply below_drew1 | refine below_set ?_ GE7006.out) | exact HB.out)) hb); clear BK7006; clear HB; have BK7006 := n0_; have HB := n1_; clear n0_ n1_; (try clear hb); (try clear hb2); (try clear hk); (try clear hi)))
            go_roundg k2
            case measure => have := HJ5.out; have := HK2.out; omega
            case rel => exact ⟨(wrap64 (x6_2 + 1)), (by first | rfl | (simp; done) | (simp [*]; done)), H', ⟨by have := HJ5.out; have := HK2.out; omega⟩, ⟨by (with_reducible repeat (first | refine blk_drewN ?_ _ | refine blk_drew ?_ | refine blk_alloc ?_ _)); exact BK7006.out⟩, ⟨by repeat (first | (with_reducible first | exact HB.out | apply below_alloc | apply pw_below_drewN | apply below_drew1 | refine below_set ?_ GE7006.out) | exact HB.out)⟩⟩
        ·rw [if_neg c26] at H
         exact absurd H (by simp)
       ·rw [if_neg c25] at H
        have c25b0 : decide (x6_2 < 3) = false := decide_eq_false c25
        clear c25
        replace H := Option.bind_eq_some_iff.mp H
        obtain ⟨⟨t7020, t7021, t7022, t7023, t7024⟩, A600, H⟩ := H
        replace H : ((impl_WithValue.f t7020 t7021 t7022 t7023 t7024).bind fun bt7026 => ((spec_DrawFormatValues.f k2 l0).bind fun bt7030 => ((spec_WithValue.f t7020 t7021 t7022 t7023 t7024).bind fun bt7035 => (if (bt7026.1.toList == bt7035.1.toList && (bt7026.2.1.toList == bt7035.2.1.toList && (bt7026.2.2.toList == bt7035.2.2.toList))) = true then (if t7023 = 97 then ((impl_FormatValues.f k2 bt7030.1 bt7030.2.1 bt7030.2.2.1 bt7030.2.2.2).bind fun t7038 => ((spec_FormatValues.f k2 bt7030.1 bt7030.2.1 bt7030.2.2.1 bt7030.2.2.2).bind fun t7039 => (some (t7038.toList == t7039.toList)))) else ((impl_ValueOf.f bt7026.1 bt7026.2.1 bt7026.2.2 t7023).bind fun t7040 => (if t7040.toList = t7024.toList then ((impl_FormatValues.f k2 bt7030.1 bt7030.2.1 bt7030.2.2.1 bt7030.2.2.2).bind fun t7041 => ((spec_FormatValues.f k2 bt7030.1 bt7030.2.1 bt7030.2.2.1 bt7030.2.2.2).bind fun t7042 => (some (t7041.toList == t7042.toList)))) else (some false)))) else (some false))))) = some r := H
        have A60 := Aside0.mk A600
        clear A600
        replace H := Option.bind_eq_some_iff.mp H
        obtain ⟨⟨t7026, t7027, t7028⟩, A610, H⟩ := H
        replace H : ((spec_DrawFormatValues.f k2 l0).bind fun bt7030 => ((spec_WithValue.f t7020 t7021 t7022 t7023 t7024).bind fun bt7035 => (if (t7026.toList == bt7035.1.toList && (t7027.toList == bt7035.2.1.toList && (t7028.toList == bt7035.2.2.toList))) = true then (if t7023 = 97 then ((impl_FormatValues.f k2 bt7030.1 bt7030.2.1 bt7030.2.2.1 bt7030.2.2.2).bind fun t7038 => ((spec_FormatValues.f k2 bt7030.1 bt7030.2.1 bt7030.2.2.1 bt7030.2.2.2).bind fun t7039 => (some (t7038.toList == t7039.toList)))) else ((impl_ValueOf.f t7026 t7027 t7028 t7023).bind fun t7040 => (if t7040.toList = t7024.toList then ((impl_FormatValues.f k2 bt7030.1 bt7030.2.1 bt7030.2.2.1 bt7030.2.2.2).bind fun t7041 => ((spec_FormatValues.f k2 bt7030.1 bt7030.2.1 bt7030.2.2.1 bt7030.2.2.2).bind fun t7042 => (some (t7041.toList == t7042.toList)))) else (some false)))) else (some false)))) = some r := H
        have A61 := Aside0.mk A610
        clear A610
        replace H := Option.bind_eq_some_iff.mp H
        obtain ⟨⟨t7030, t7031, t7032, t7033⟩, A620, H⟩ := H
        replace H : ((spec_WithValue.f t7020 t7021 t7022 t7023 t7024).bind fun bt7035 => (if (t7026.toList == bt7035.1.toList && (t7027.toList == bt7035.2.1.toList && (t7028.toList == bt7035.2.2.toList))) = true then (if t7023 = 97 then ((impl_FormatValues.f k2 t7030 t7031 t7032 t7033).bind fun t7038 => ((spec_FormatValues.f k2 t7030 t7031 t7032 t7033).bind fun t7039 => (some (t7038.toList == t7039.toList)))) else ((impl_ValueOf.f t7026 t7027 t7028 t7023).bind fun t7040 => (if t7040.toList = t7024.toList then ((impl_FormatValues.f k2 t7030 t7031 t7032 t7033).bind fun t7041 => ((spec_FormatValues.f k2 t7030 t7031 t7032 t7033).bind fun t7042 => (some (t7041.toList == t7042.toList)))) else (some false)))) else (some false))) = some r := H
        have A62 := Aside0.mk A620
        clear A620
        replace H := Option.bind_eq_some_iff.mp H
        obtain ⟨⟨t7035, t7036, t7037⟩, A630, H⟩ := H
        replace H : (if (t7026.toList == t7035.toList && (t7027.toList == t7036.toList && (t7028.toList == t7037.toList))) = true then (if t7023 = 97 then ((impl_FormatValues.f k2 t7030 t7031 t7032 t7033).bind fun t7038 => ((spec_FormatValues.f k2 t7030 t7031 t7032 t7033).bind fun t7039 => (some (t7038.toList == t7039.toList)))) else ((impl_ValueOf.f t7026 t7027 t7028 t7023).bind fun t7040 => (if t7040.toList = t7024.toList then ((impl_FormatValues.f k2 t7030 t7031 t7032 t7033).bind fun t7041 => ((spec_FormatValues.f k2 t7030 t7031 t7032 t7033).bind fun t7042 => (some (t7041.toList == t7042.toList)))) else (some false)))) else (some false)) = some r := H
        have A63 := Aside0.mk A630
        clear A630
        by_cases c64 : (t7026.toList == t7035.toList && (t7027.toList == t7036.toList && (t7028.toList == t7037.toList))) = true
        ·rw [if_pos c64] at H
         have c64b0 : (t7026.toList == t7035.toList && (t7027.toList == t7036.toList && (t7028.toList == t7037.toList))) = true := c64
         (try (have c64b1 : decide (t7026.toList = t7035.toList && (t7027.toList == t7036.toList && (t7028.toList == t7037.toList))) = true := by simpa using c64))
         (try (have c64b2 : (t7026.toList == t7035.toList && (t7027.toList == t7036.toList && (t7028.toList == t7037.toList))) = true := by simpa using c64))
         clear c64
         by_cases c65 : t7023 = 97
         ·rw [if_pos c65] at H
          have c65b0 : (t7023 == 97) = true := beq_iff_eq.mpr c65
          have c65b1 : (t7023 != 97) = false := bne_eq_false_iff_eq.mpr c65
          clear c65
          replace H := Option.bind_eq_some_iff.mp H
          obtain ⟨t7038, A660, H⟩ := H
          replace H : ((spec_FormatValues.f k2 t7030 t7031 t7032 t7033).bind fun t7039 => (some (t7038.toList == t7039.toList))) = some r := H
          have A66 := Aside0.mk A660
          clear A660
          replace H := Option.bind_eq_some_iff.mp H
          obtain ⟨t7039, A670, H⟩ := H
          replace H : (some (t7038.toList == t7039.toList)) = some r := H
          have A67 := Aside0.mk A670
          clear A670
          obtain rfl := Option.some.inj H
          try go_wp2_with (first | ((with_reducible refine gate_callee (f := 55) rfl ?_); refine goesL_ (some 79) rfl rfl Try.func55 (by kernel_rfl) rfl #[.slice A0 l0.length c0] rfl (by (try simp only [List.map_toArray, List.map_cons, List.map_nil]); first | done | rfl | (simp only [List.length_drop, List.length_take]; rfl)) ?_; (with_reducible refine (spec_DrawWithValue.calls k2 _ _ l0 t7020 t7021 t7022 t7023 t7024 _ ?side1 ?side2 A60.out).mono ?_); (case side1 => repeat (first | exact (Kd.C_below HR0.out HB.out) | (with_reducible refine Kd.C_alloc ?_ _) | (with_reducible refine Kd.C_drewN ?_ _) | (with_reducible refine Kd.C_drew ?_))); (case side2 => exact HC0.out); rintro e w68 ⟨rfl, hb⟩; refine ⟨_, rfl, ?_⟩; have n0_ := Aside0.mk (blk_below (g := gb7006) (o := .cells #[.string t7003, .string t7004, .string t7005] 84 (0, 0)) (by (with_reducible repeat (first | refine blk_drewN ?_ _ | refine blk_drew ?_ | refine blk_alloc ?_ _)); exact BK7006.out) hb); have n1_ := Aside0.mk (below_step (by repeat (first | (with_reducible first | exact HB.out | apply below_alloc | apply pw_below_drewN | apply below_drew1 | refine below_set ?_ GE7006.out) | exact HB.out)) hb); clear BK7006; clear HB; have BK7006 := n0_; have HB := n1_; clear n0_ n1_; (try clear hb); (try clear hb2); (try clear hk); (try clear hi)) | ((with_reducible refine gate_dst (N := 9) rfl ?_); refine box_event ?hg (N := 9) ?hd (cs := #[.string (⟨#[]⟩ : ByteArray), .string (⟨#[]⟩ : ByteArray), .string (⟨#[]⟩ : ByteArray)]) (t := 84) ?hr ?_; (case hd => rfl); (case hg => rfl); (case hr => first | (go_simp; done) | (go_simp; rfl)); intro gb7025 hg w69 hbox hb; have n0_ := Aside0.mk (blk_below (g := gb7006) (o := .cells #[.string t7003, .string t7004, .string t7005] 84 (0, 0)) (by (with_reducible repeat (first | refine blk_drewN ?_ _ | refine blk_drew ?_ | refine blk_alloc ?_ _)); exact BK7006.out) hb); have n1_ := Aside0.mk (below_step (by repeat (first | (with_reducible first | exact HB.out | apply below_alloc | apply pw_below_drewN | apply below_drew1 | refine below_set ?_ GE7006.out) | exact HB.out)) hb); have n2_ := Aside0.mk (hbox); have n3_ := Aside0.mk ((by rw [hg]; exact (below_size (by repeat (first | (with_reducible first | exact HB.out | apply below_alloc | apply pw_below_drewN | apply below_drew1 | refine below_set ?_ GE7006.out) | exact HB.out))) : w.heap.size ≤ gb7025)); have n4_ := Aside0.mk ((by rw [hg]; exact (below_size (by repeat (first | (with_reducible first | exact HB.out | apply below_alloc | apply pw_below_drewN | apply below_drew1 | refine below_set ?_ GE7006.out) | exact HB.out))) : w.heap.size ≤ gb7025)); have n5_ := Aside0.mk ((by rw [hg]; exact Nat.ne_of_lt (blk_lt (g := gb7006) (o := .cells #[.string t7003, .string t7004, .string t7005] 84 (0, 0)) (by (with_reducible repeat (first | refine blk_drewN ?_ _ | refine blk_drew ?_ | refine blk_alloc ?_ _)); exact BK7006.out)) : gb7006 ≠ gb7025)); have n6_ := Aside0.mk ((by rw [hg]; exact Nat.ne_of_gt (blk_lt (g := gb7006) (o := .cells #[.string t7003, .string t7004, .string t7005] 84 (0, 0)) (by (with_reducible repeat (first | refine blk_drewN ?_ _ | refine blk_drew ?_ | refine blk_alloc ?_ _)); exact BK7006.out)) : gb7025 ≠ gb7006)); clear BK7006; clear HB; have BK7006 := n0_; have HB := n1_; have BK7025 := n2_; have GW7025 := n3_; have GE7025 := n4_; have NB7006_7025 := n5_; have NB7025_7006 := n6_; clear n0_ n1_ n2_ n3_ n4_ n5_ n6_; clear hb hbox hg; have hnb70 := NB7025_7006.out; have hnc70 := NB7006_7025.out; have hcz71_0 : w69.cell? ⟨gb7025, 0, none⟩ = some (.string (⟨#[]⟩ : ByteArray)) := (blk_cell BK7025.out 0).trans rfl; have hcz71_1 : w69.cell? ⟨gb7025, 1, none⟩ = some (.string (⟨#[]⟩ : ByteArray)) := (blk_cell BK7025.out 1).trans rfl; have hcz71_2 : w69.cell? ⟨gb7025, 2, none⟩ = some (.string (⟨#[]⟩ : ByteArray)) := (blk_cell BK7025.out 2).trans rfl; have hfz71_0 := blk_frozen BK7025.out 0; have hfz71_1 := blk_frozen BK7025.out 1; have hfz71_2 := blk_frozen BK7025.out 2) | ((with_reducible refine gate_callee (f := 56) rfl ?_); refine goesL_ (some 86) rfl rfl Try.func56 (by kernel_rfl) rfl #[.agg #[.string t7020, .string t7021, .string t7022], .int .u8 t7023, .string t7024] rfl (by (try simp only [List.map_toArray, List.map_cons, List.map_nil]); first | done | rfl | (simp only [List.length_drop, List.length_take]; rfl)) ?_; (with_reducible refine (impl_WithValue.calls t7020 t7021 t7022 t7023 t7024 t7026 t7027 t7028 _ A61.out).mono ?_); rintro e w72 ⟨rfl, hb⟩; refine ⟨_, rfl, ?_⟩; have n0_ := Aside0.mk (blk_below (g := gb7006) (o := .cells #[.string t7003, .string t7004, .string t7005] 84 (0, 0)) (by (with_reducible repeat (first | refine blk_drewN ?_ _ | refine blk_drew ?_ | refine blk_alloc ?_ _)); refine blk_far ?_ NB7006_7025.out _; (with_reducible repeat (first | refine blk_drewN ?_ _ | refine blk_drew ?_ | refine blk_alloc ?_ _)); refine blk_far ?_ NB7006_7025.out _; (with_reducible repeat (first | refine blk_drewN ?_ _ | refine blk_drew ?_ | refine blk_alloc ?_ _)); refine blk_far ?_ NB7006_7025.out _; (with_reducible repeat (first | refine blk_drewN ?_ _ | refine blk_drew ?_ | refine blk_alloc ?_ _)); exact BK7006.out) hb); have n1_ := Aside0.mk (blk_below (g := gb7025) (o := .cells #[.string t7020, .string t7021, .string t7022] 84 (0, 0)) (by (with_reducible repeat (first | refine blk_drewN ?_ _ | refine blk_drew ?_ | refine blk_alloc ?_ _)); refine blk_put (cs := #[.string t7020, .string t7021, .string (⟨#[]⟩ : ByteArray)]) ?_ 2 _ rfl; (with_reducible repeat (first | refine blk_drewN ?_ _ | refine blk_drew ?_ | refine blk_alloc ?_ _)); refine blk_put (cs := #[.string t7020, .string (⟨#[]⟩ : ByteArray), .string (⟨#[]⟩ : ByteArray)]) ?_ 1 _ rfl; (with_reducible repeat (first | refine blk_drewN ?_ _ | refine blk_drew ?_ | refine blk_alloc ?_ _)); refine blk_put (cs := #[.string (⟨#[]⟩ : ByteArray), .string (⟨#[]⟩ : ByteArray), .string (⟨#[]⟩ : ByteArray)]) ?_ 0 _ rfl; (with_reducible repeat (first | refine blk_drewN ?_ _ | refine blk_drew ?_ | refine blk_alloc ?_ _)); exact BK7025.out) hb); have n2_ := Aside0.mk (below_step (by repeat (first | (with_reducible first | exact HB.out | apply below_alloc | apply pw_below_drewN | apply below_drew1 | refine below_set ?_ GE7006.out | refine below_set ?_ GE7025.out) | exact HB.out)) hb); clear BK7006; clear BK7025; clear HB; have BK7006 := n0_; have BK7025 := n1_; have HB := n2_; clear n0_ n1_ n2_; (try clear hb); (try clear hb2); (try clear hk); (try clear hi)) | ((with_reducible refine gate_dst (N := 12) rfl ?_); refine box_event ?hg (N := 12) ?hd (cs := #[.string (⟨#[]⟩ : ByteArray), .string (⟨#[]⟩ : ByteArray), .string (⟨#[]⟩ : ByteArray)]) (t := 84) ?hr ?_; (case hd => rfl); (case hg => rfl); (case hr => first | (go_simp; done) | (go_simp; rfl)); intro gb7029 hg w73 hbox hb; have n0_ := Aside0.mk (blk_below (g := gb7006) (o := .cells #[.string t7003, .string t7004, .string t7005] 84 (0, 0)) (by (with_reducible repeat (first | refine blk_drewN ?_ _ | refine blk_drew ?_ | refine blk_alloc ?_ _)); exact BK7006.out) hb); have n1_ := Aside0.mk (blk_below (g := gb7025) (o := .cells #[.string t7020, .string t7021, .string t7022] 84 (0, 0)) (by (with_reducible repeat (first | refine blk_drewN ?_ _ | refine blk_drew ?_ | refine blk_alloc ?_ _)); exact BK7025.out) hb); have n2_ := Aside0.mk (below_step (by repeat (first | (with_reducible first | exact HB.out | apply below_alloc | apply pw_below_drewN | apply below_drew1 | refine below_set ?_ GE7006.out | refine below_set ?_ GE7025.out) | exact HB.out)) hb); have n3_ := Aside0.mk (hbox); have n4_ := Aside0.mk ((by rw [hg]; exact (below_size (by repeat (first | (with_reducible first | exact HB.out | apply below_alloc | apply pw_below_drewN | apply below_drew1 | refine below_set ?_ GE7006.out | refine below_set ?_ GE7025.out) | exact HB.out))) : w.heap.size ≤ gb7029)); have n5_ := Aside0.mk ((by rw [hg]; exact (below_size (by repeat (first | (with_reducible first | exact HB.out | apply below_alloc | apply pw_below_drewN | apply below_drew1 | refine below_set ?_ GE7006.out | refine below_set ?_ GE7025.out) | exact HB.out))) : w.heap.size ≤ gb7029)); have n6_ := Aside0.mk ((by rw [hg]; exact Nat.ne_of_lt (blk_lt (g := gb7006) (o := .cells #[.string t7003, .string t7004, .string t7005] 84 (0, 0)) (by (with_reducible repeat (first | refine blk_drewN ?_ _ | refine blk_drew ?_ | refine blk_alloc ?_ _)); exact BK7006.out)) : gb7006 ≠ gb7029)); have n7_ := Aside0.mk ((by rw [hg]; exact Nat.ne_of_gt (blk_lt (g := gb7006) (o := .cells #[.string t7003, .string t7004, .string t7005] 84 (0, 0)) (by (with_reducible repeat (first | refine blk_drewN ?_ _ | refine blk_drew ?_ | refine blk_alloc ?_ _)); exact BK7006.out)) : gb7029 ≠ gb7006)); have n8_ := Aside0.mk ((by rw [hg]; exact Nat.ne_of_lt (blk_lt (g := gb7025) (o := .cells #[.string t7020, .string t7021, .string t7022] 84 (0, 0)) (by (with_reducible repeat (first | refine blk_drewN ?_ _ | refine blk_drew ?_ | refine blk_alloc ?_ _)); exact BK7025.out)) : gb7025 ≠ gb7029)); have n9_ := Aside0.mk ((by rw [hg]; exact Nat.ne_of_gt (blk_lt (g := gb7025) (o := .cells #[.string t7020, .string t7021, .string t7022] 84 (0, 0)) (by (with_reducible repeat (first | refine blk_drewN ?_ _ | refine blk_drew ?_ | refine blk_alloc ?_ _)); exact BK7025.out)) : gb7029 ≠ gb7025)); clear BK7006; clear BK7025; clear HB; have BK7006 := n0_; have BK7025 := n1_; have HB := n2_; have BK7029 := n3_; have GW7029 := n4_; have GE7029 := n5_; have NB7006_7029 := n6_; have NB7029_7006 := n7_; have NB7025_7029 := n8_; have NB7029_7025 := n9_; clear n0_ n1_ n2_ n3_ n4_ n5_ n6_ n7_ n8_ n9_; clear hb hbox hg; have hnb74 := NB7029_7006.out; have hnc74 := NB7006_7029.out; have hnb75 := NB7029_7025.out; have hnc75 := NB7025_7029.out; have hcz76_0 : w73.cell? ⟨gb7029, 0, none⟩ = some (.string (⟨#[]⟩ : ByteArray)) := (blk_cell BK7029.out 0).trans rfl; have hcz76_1 : w73.cell? ⟨gb7029, 1, none⟩ = some (.string (⟨#[]⟩ : ByteArray)) := (blk_cell BK7029.out 1).trans rfl; have hcz76_2 : w73.cell? ⟨gb7029, 2, none⟩ = some (.string (⟨#[]⟩ : ByteArray)) := (blk_cell BK7029.out 2).trans rfl; have hfz76_0 := blk_frozen BK7029.out 0; have hfz76_1 := blk_frozen BK7029.out 1; have hfz76_2 := blk_frozen BK7029.out 2) | ((with_reducible refine gate_callee (f := 57) rfl ?_); refine goesL_ (some 89) rfl rfl Try.func57 (by kernel_rfl) rfl #[.slice A0 l0.length c0] rfl (by (try simp only [List.map_toArray, List.map_cons, List.map_nil]); first | done | rfl | (simp only [List.length_drop, List.length_take]; rfl)) ?_; (with_reducible refine (spec_DrawFormatValues.calls k2 _ _ l0 t7030 t7031 t7032 t7033 _ ?side1 ?side2 A62.out).mono ?_); (case side1 => exact Kd.C_below HR0.out (by repeat (first | (with_reducible first | exact HB.out | apply below_alloc | apply pw_below_drewN | apply below_drew1 | refine below_set ?_ GE7006.out | refine below_set ?_ GE7025.out | refine below_set ?_ GE7029.out) | exact HB.out))); (case side2 => exact HC0.out); rintro e w77 ⟨rfl, hb⟩; refine ⟨_, rfl, ?_⟩; have n0_ := Aside0.mk (blk_below (g := gb7006) (o := .cells #[.string t7003, .string t7004, .string t7005] 84 (0, 0)) (by (with_reducible repeat (first | refine blk_drewN ?_ _ | refine blk_drew ?_ | refine blk_alloc ?_ _)); refine blk_far ?_ NB7006_7029.out _; (with_reducible repeat (first | refine blk_drewN ?_ _ | refine blk_drew ?_ | refine blk_alloc ?_ _)); refine blk_far ?_ NB7006_7029.out _; (with_reducible repeat (first | refine blk_drewN ?_ _ | refine blk_drew ?_ | refine blk_alloc ?_ _)); refine blk_far ?_ NB7006_7029.out _; (with_reducible repeat (first | refine blk_drewN ?_ _ | refine blk_drew ?_ | refine blk_alloc ?_ _)); exact BK7006.out) hb); have n1_ := Aside0.mk (blk_below (g := gb7025) (o := .cells #[.string t7020, .string t7021, .string t7022] 84 (0, 0)) (by (with_reducible repeat (first | refine blk_drewN ?_ _ | refine blk_drew ?_ | refine blk_alloc ?_ _)); refine blk_far ?_ NB7025_7029.out _; (with_reducible repeat (first | refine blk_drewN ?_ _ | refine blk_drew ?_ | refine blk_alloc ?_ _)); refine blk_far ?_ NB7025_7029.out _; (with_reducible repeat (first | refine blk_drewN ?_ _ | refine blk_drew ?_ | refine blk_alloc ?_ _)); refine blk_far ?_ NB7025_7029.out _; (with_reducible repeat (first | refine blk_drewN ?_ _ | refine blk_drew ?_ | refine blk_alloc ?_ _)); exact BK7025.out) hb); have n2_ := Aside0.mk (blk_below (g := gb7029) (o := .cells #[.string t7026, .string t7027, .string t7028] 84 (0, 0)) (by (with_reducible repeat (first | refine blk_drewN ?_ _ | refine blk_drew ?_ | refine blk_alloc ?_ _)); refine blk_put (cs := #[.string t7026, .string t7027, .string (⟨#[]⟩ : ByteArray)]) ?_ 2 _ rfl; (with_reducible repeat (first | refine blk_drewN ?_ _ | refine blk_drew ?_ | refine blk_alloc ?_ _)); refine blk_put (cs := #[.string t7026, .string (⟨#[]⟩ : ByteArray), .string (⟨#[]⟩ : ByteArray)]) ?_ 1 _ rfl; (with_reducible repeat (first | refine blk_drewN ?_ _ | refine blk_drew ?_ | refine blk_alloc ?_ _)); refine blk_put (cs := #[.string (⟨#[]⟩ : ByteArray), .string (⟨#[]⟩ : ByteArray), .string (⟨#[]⟩ : ByteArray)]) ?_ 0 _ rfl; (with_reducible repeat (first | refine blk_drewN ?_ _ | refine blk_drew ?_ | refine blk_alloc ?_ _)); exact BK7029.out) hb); have n3_ := Aside0.mk (below_step (by repeat (first | (with_reducible first | exact HB.out | apply below_alloc | apply pw_below_drewN | apply below_drew1 | refine below_set ?_ GE7006.out | refine below_set ?_ GE7025.out | refine below_set ?_ GE7029.out) | exact HB.out)) hb); clear BK7006; clear BK7025; clear BK7029; clear HB; have BK7006 := n0_; have BK7025 := n1_; have BK7029 := n2_; have HB := n3_; clear n0_ n1_ n2_ n3_; (try clear hb); (try clear hb2); (try clear hk); (try clear hi)) | ((with_reducible refine gate_dst (N := 13) rfl ?_); refine box_event ?hg (N := 13) ?hd (cs := #[.string (⟨#[]⟩ : ByteArray), .string (⟨#[]⟩ : ByteArray), .string (⟨#[]⟩ : ByteArray)]) (t := 84) ?hr ?_; (case hd => rfl); (case hg => rfl); (case hr => first | (go_simp; done) | (go_simp; rfl)); intro gb7034 hg w78 hbox hb; have n0_ := Aside0.mk (blk_below (g := gb7006) (o := .cells #[.string t7003, .string t7004, .string t7005] 84 (0, 0)) (by (with_reducible repeat (first | refine blk_drewN ?_ _ | refine blk_drew ?_ | refine blk_alloc ?_ _)); exact BK7006.out) hb); have n1_ := Aside0.mk (blk_below (g := gb7025) (o := .cells #[.string t7020, .string t7021, .string t7022] 84 (0, 0)) (by (with_reducible repeat (first | refine blk_drewN ?_ _ | refine blk_drew ?_ | refine blk_alloc ?_ _)); exact BK7025.out) hb); have n2_ := Aside0.mk (blk_below (g := gb7029) (o := .cells #[.string t7026, .string t7027, .string t7028] 84 (0, 0)) (by (with_reducible repeat (first | refine blk_drewN ?_ _ | refine blk_drew ?_ | refine blk_alloc ?_ _)); exact BK7029.out) hb); have n3_ := Aside0.mk (below_step (by repeat (first | (with_reducible first | exact HB.out | apply below_alloc | apply pw_below_drewN | apply below_drew1 | refine below_set ?_ GE7006.out | refine below_set ?_ GE7025.out | refine below_set ?_ GE7029.out) | exact HB.out)) hb); have n4_ := Aside0.mk (hbox); have n5_ := Aside0.mk ((by rw [hg]; exact (below_size (by repeat (first | (with_reducible first | exact HB.out | apply below_alloc | apply pw_below_drewN | apply below_drew1 | refine below_set ?_ GE7006.out | refine below_set ?_ GE7025.out | refine below_set ?_ GE7029.out) | exact HB.out))) : w.heap.size ≤ gb7034)); have n6_ := Aside0.mk ((by rw [hg]; exact (below_size (by repeat (first | (with_reducible first | exact HB.out | apply below_alloc | apply pw_below_drewN | apply below_drew1 | refine below_set ?_ GE7006.out | refine below_set ?_ GE7025.out | refine below_set ?_ GE7029.out) | exact HB.out))) : w.heap.size ≤ gb7034)); have n7_ := Aside0.mk ((by rw [hg]; exact Nat.ne_of_lt (blk_lt (g := gb7006) (o := .cells #[.string t7003, .string t7004, .string t7005] 84 (0, 0)) (by (with_reducible repeat (first | refine blk_drewN ?_ _ | refine blk_drew ?_ | refine blk_alloc ?_ _)); exact BK7006.out)) : gb7006 ≠ gb7034)); have n8_ := Aside0.mk ((by rw [hg]; exact Nat.ne_of_gt (blk_lt (g := gb7006) (o := .cells #[.string t7003, .string t7004, .string t7005] 84 (0, 0)) (by (with_reducible repeat (first | refine blk_drewN ?_ _ | refine blk_drew ?_ | refine blk_alloc ?_ _)); exact BK7006.out)) : gb7034 ≠ gb7006)); have n9_ := Aside0.mk ((by rw [hg]; exact Nat.ne_of_lt (blk_lt (g := gb7025) (o := .cells #[.string t7020, .string t7021, .string t7022] 84 (0, 0)) (by (with_reducible repeat (first | refine blk_drewN ?_ _ | refine blk_drew ?_ | refine blk_alloc ?_ _)); exact BK7025.out)) : gb7025 ≠ gb7034)); have n10_ := Aside0.mk ((by rw [hg]; exact Nat.ne_of_gt (blk_lt (g := gb7025) (o := .cells #[.string t7020, .string t7021, .string t7022] 84 (0, 0)) (by (with_reducible repeat (first | refine blk_drewN ?_ _ | refine blk_drew ?_ | refine blk_alloc ?_ _)); exact BK7025.out)) : gb7034 ≠ gb7025)); have n11_ := Aside0.mk ((by rw [hg]; exact Nat.ne_of_lt (blk_lt (g := gb7029) (o := .cells #[.string t7026, .string t7027, .string t7028] 84 (0, 0)) (by (with_reducible repeat (first | refine blk_drewN ?_ _ | refine blk_drew ?_ | refine blk_alloc ?_ _)); exact BK7029.out)) : gb7029 ≠ gb7034)); have n12_ := Aside0.mk ((by rw [hg]; exact Nat.ne_of_gt (blk_lt (g := gb7029) (o := .cells #[.string t7026, .string t7027, .string t7028] 84 (0, 0)) (by (with_reducible repeat (first | refine blk_drewN ?_ _ | refine blk_drew ?_ | refine blk_alloc ?_ _)); exact BK7029.out)) : gb7034 ≠ gb7029)); clear BK7006; clear BK7025; clear BK7029; clear HB; have BK7006 := n0_; have BK7025 := n1_; have BK7029 := n2_; have HB := n3_; have BK7034 := n4_; have GW7034 := n5_; have GE7034 := n6_; have NB7006_7034 := n7_; have NB7034_7006 := n8_; have NB7025_7034 := n9_; have NB7034_7025 := n10_; have NB7029_7034 := n11_; have NB7034_7029 := n12_; clear n0_ n1_ n2_ n3_ n4_ n5_ n6_ n7_ n8_ n9_ n10_ n11_ n12_; clear hb hbox hg; have hnb79 := NB7034_7006.out; have hnc79 := NB7006_7034.out; have hnb80 := NB7034_7025.out; have hnc80 := NB7025_7034.out; have hnb81 := NB7034_7029.out; have hnc81 := NB7029_7034.out; have hcz82_0 : w78.cell? ⟨gb7034, 0, none⟩ = some (.string (⟨#[]⟩ : ByteArray)) := (blk_cell BK7034.out 0).trans rfl; have hcz82_1 : w78.cell? ⟨gb7034, 1, none⟩ = some (.string (⟨#[]⟩ : ByteArray)) := (blk_cell BK7034.out 1).trans rfl; have hcz82_2 : w78.cell? ⟨gb7034, 2, none⟩ = some (.string (⟨#[]⟩ : ByteArray)) := (blk_cell BK7034.out 2).trans rfl; have hfz82_0 := blk_frozen BK7034.out 0; have hfz82_1 := blk_frozen BK7034.out 1; have hfz82_2 := blk_frozen BK7034.out 2))
          have n0_ : Aside0 ((((w78.setCell ⟨gb7034, 0, none⟩ (.string t7030)).setCell ⟨gb7034, 1, none⟩ (.string t7031)).setCell ⟨gb7034, 2, none⟩ (.string t7032)).heap[gb7006]? = some (.cells #[.string t7003, .string t7004, .string t7005] 84 (0, 0))) := ⟨by (with_reducible repeat (first | refine blk_drewN ?_ _ | refine blk_drew ?_ | refine blk_alloc ?_ _)); refine blk_far ?_ NB7006_7034.out _; (with_reducible repeat (first | refine blk_drewN ?_ _ | refine blk_drew ?_ | refine blk_alloc ?_ _)); refine blk_far ?_ NB7006_7034.out _; (with_reducible repeat (first | refine blk_drewN ?_ _ | refine blk_drew ?_ | refine blk_alloc ?_ _)); refine blk_far ?_ NB7006_7034.out _; (with_reducible repeat (first | refine blk_drewN ?_ _ | refine blk_drew ?_ | refine blk_alloc ?_ _)); exact BK7006.out⟩
          have n1_ : Aside0 ((((w78.setCell ⟨gb7034, 0, none⟩ (.string t7030)).setCell ⟨gb7034, 1, none⟩ (.string t7031)).setCell ⟨gb7034, 2, none⟩ (.string t7032)).heap[gb7025]? = some (.cells #[.string t7020, .string t7021, .string t7022] 84 (0, 0))) := ⟨by (with_reducible repeat (first | refine blk_drewN ?_ _ | refine blk_drew ?_ | refine blk_alloc ?_ _)); refine blk_far ?_ NB7025_7034.out _; (with_reducible repeat (first | refine blk_drewN ?_ _ | refine blk_drew ?_ | refine blk_alloc ?_ _)); refine blk_far ?_ NB7025_7034.out _; (with_reducible repeat (first | refine blk_drewN ?_ _ | refine blk_drew ?_ | refine blk_alloc ?_ _)); refine blk_far ?_ NB7025_7034.out _; (with_reducible repeat (first | refine blk_drewN ?_ _ | refine blk_drew ?_ | refine blk_alloc ?_ _)); exact BK7025.out⟩
          have n2_ : Aside0 ((((w78.setCell ⟨gb7034, 0, none⟩ (.string t7030)).setCell ⟨gb7034, 1, none⟩ (.string t7031)).setCell ⟨gb7034, 2, none⟩ (.string t7032)).heap[gb7029]? = some (.cells #[.string t7026, .string t7027, .string t7028] 84 (0, 0))) := ⟨by (with_reducible repeat (first | refine blk_drewN ?_ _ | refine blk_drew ?_ | refine blk_alloc ?_ _)); refine blk_far ?_ NB7029_7034.out _; (with_reducible repeat (first | refine blk_drewN ?_ _ | refine blk_drew ?_ | refine blk_alloc ?_ _)); refine blk_far ?_ NB7029_7034.out _; (with_reducible repeat (first | refine blk_drewN ?_ _ | refine blk_drew ?_ | refine blk_alloc ?_ _)); refine blk_far ?_ NB7029_7034.out _; (with_reducible repeat (first | refine blk_drewN ?_ _ | refine blk_drew ?_ | refine blk_alloc ?_ _)); exact BK7029.out⟩
          have n3_ : Aside0 ((((w78.setCell ⟨gb7034, 0, none⟩ (.string t7030)).setCell ⟨gb7034, 1, none⟩ (.string t7031)).setCell ⟨gb7034, 2, none⟩ (.string t7032)).heap[gb7034]? = some (.cells #[.string t7030, .string t7031, .string t7032] 84 (0, 0))) := ⟨by (with_reducible repeat (first | refine blk_drewN ?_ _ | refine blk_drew ?_ | refine blk_alloc ?_ _)); refine blk_put (cs := #[.string t7030, .string t7031, .string (⟨#[]⟩ : ByteArray)]) ?_ 2 _ rfl; (with_reducible repeat (first | refine blk_drewN ?_ _ | refine blk_drew ?_ | refine blk_alloc ?_ _)); refine blk_put (cs := #[.string t7030, .string (⟨#[]⟩ : ByteArray), .string (⟨#[]⟩ : ByteArray)]) ?_ 1 _ rfl; (with_reducible repeat (first | refine blk_drewN ?_ _ | refine blk_drew ?_ | refine blk_alloc ?_ _)); refine blk_put (cs := #[.string (⟨#[]⟩ : ByteArray), .string (⟨#[]⟩ : ByteArray), .string (⟨#[]⟩ : ByteArray)]) ?_ 0 _ rfl; (with_reducible repeat (first | refine blk_drewN ?_ _ | refine blk_drew ?_ | refine blk_alloc ?_ _)); exact BK7034.out⟩
          have n4_ : Aside0 (Below w.heap.size w (((w78.setCell ⟨gb7034, 0, none⟩ (.string t7030)).setCell ⟨gb7034, 1, none⟩ (.string t7031)).setCell ⟨gb7034, 2, none⟩ (.string t7032))) := ⟨by repeat (first | (with_reducible first | exact HB.out | apply below_alloc | apply pw_below_drewN | apply below_drew1 | refine below_set ?_ GE7006.out | refine below_set ?_ GE7025.out | refine below_set ?_ GE7029.out | refine below_set ?_ GE7034.out) | exact HB.out)⟩
          (try clear BK7006)
          (try clear BK7025)
          (try clear BK7029)
          (try clear BK7034)
          (try clear HB)
          generalize (((w78.setCell ⟨gb7034, 0, none⟩ (.string t7030)).setCell ⟨gb7034, 1, none⟩ (.string t7031)).setCell ⟨gb7034, 2, none⟩ (.string t7032)) = w83 at n0_ n1_ n2_ n3_ n4_ ⊢
          have BK7006 := n0_
          have BK7025 := n1_
          have BK7029 := n2_
          have BK7034 := n3_
          have HB := n4_
          clear n0_ n1_ n2_ n3_ n4_
          have n0_ := Aside0.mk (blk_drew BK7006.out)
          have n1_ := Aside0.mk (blk_drew BK7025.out)
          have n2_ := Aside0.mk (blk_drew BK7029.out)
          have n3_ := Aside0.mk (blk_drew BK7034.out)
          have n4_ := Aside0.mk (below_drew1 HB.out)
          clear BK7006
          clear BK7025
          clear BK7029
          clear BK7034
          clear HB
          have BK7006 := n0_
          have BK7025 := n1_
          have BK7029 := n2_
          have BK7034 := n3_
          have HB := n4_
          clear n0_ n1_ n2_ n3_ n4_
          refine start_ (n := 27) (S := fun w' => w'.cell? ⟨gb7029, 0, none⟩ = some (.string t7026) ∧ w'.cell? ⟨gb7029, 1, none⟩ = some (.string t7027) ∧ w'.cell? ⟨gb7029, 2, none⟩ = some (.string t7028) ∧ w'.cell? ⟨gb7025, 0, none⟩ = some (.string t7020) ∧ w'.cell? ⟨gb7025, 1, none⟩ = some (.string t7021) ∧ w'.cell? ⟨gb7025, 2, none⟩ = some (.string t7022) ∧ w'.cell? ⟨gb7034, 0, none⟩ = some (.string t7030) ∧ w'.cell? ⟨gb7034, 1, none⟩ = some (.string t7031) ∧ w'.cell? ⟨gb7034, 2, none⟩ = some (.string t7032)) (ds := []) #[false, false, false, false, false, false, false, false, false, false, false, false, false, false, false, false, false, false, false, false, false, false, false, false, false, false, false] (by kernel_rfl) rfl rfl ⟨(blk_cell BK7029.out 0).trans rfl, (blk_cell BK7029.out 1).trans rfl, (blk_cell BK7029.out 2).trans rfl, (blk_cell BK7025.out 0).trans rfl, (blk_cell BK7025.out 1).trans rfl, (blk_cell BK7025.out 2).trans rfl, (blk_cell BK7034.out 0).trans rfl, (blk_cell BK7034.out 1).trans rfl, (blk_cell BK7034.out 2).trans rfl⟩ (fun hHeld => ?_); refine with_tabW laws_FnTerms.tab17 laws_FnTerms.bits17 (fun HT_ HW_ => ?_)
          generalize w83.drew = w84 at BK7006 BK7025 BK7029 BK7034 HB hHeld ⊢
          refine pure_ (i := 2) (N := some 94) (v := ?_) (a' := ?_) #[false, false, true, false, false, false, false, false, false, false, false, false, false, false, false, false, false, false, false, false, false, false, false, false, false, false, false] rfl rfl (any_of HT_.out (by kernel_rfl)) (fun _ _ _ h => h) (Or.inl ⟨by rfl, ?_⟩) ?_ ?_
          rotate_left
          ·intro w'
           go_simp
           first | with_reducible rfl | (rw [if_neg (by omega)]; done) | (rw [if_neg (by (try simp only [decide_eq_true_eq, decide_eq_false_iff_not, eq_iff_iff, iff_true, iff_false] at *); (try simp only [ByteArray.size_extract, ByteArray.size_append, show (⟨#[97, 98, 99]⟩ : ByteArray).size = 3 from rfl, show (⟨#[88, 89, 90]⟩ : ByteArray).size = 3 from rfl, show (⟨#[61]⟩ : ByteArray).size = 1 from rfl] at *); omega)]; done)
          rotate_left
          ·simp only [Act.put, List.setIfInBounds_toArray, List.set_cons_zero, List.set_cons_succ, i64_w, i32_w]
           rfl
          refine pure_ (i := 3) (N := some 95) (v := ?_) (a' := ?_) #[false, false, true, true, false, false, false, false, false, false, false, false, false, false, false, false, false, false, false, false, false, false, false, false, false, false, false] rfl rfl (any_of HT_.out (by kernel_rfl)) (fun _ _ _ h => h) (Or.inl ⟨by rfl, ?_⟩) ?_ ?_
          rotate_left
          ·intro w'
           go_simp
           first | with_reducible rfl | (rw [if_neg (by omega)]; done) | (rw [if_neg (by (try simp only [decide_eq_true_eq, decide_eq_false_iff_not, eq_iff_iff, iff_true, iff_false] at *); (try simp only [ByteArray.size_extract, ByteArray.size_append, show (⟨#[97, 98, 99]⟩ : ByteArray).size = 3 from rfl, show (⟨#[88, 89, 90]⟩ : ByteArray).size = 3 from rfl, show (⟨#[61]⟩ : ByteArray).size = 1 from rfl] at *); omega)]; done)
          rotate_left
          ·simp only [Act.put, List.setIfInBounds_toArray, List.set_cons_zero, List.set_cons_succ, i64_w, i32_w]
           rfl
          refine take_ (i := 0) (N := some 92) (v := ?_) (a' := ?_) #[true, false, true, true, false, false, false, false, false, false, false, false, false, false, false, false, false, false, false, false, false, false, false, false, false, false, false] rfl rfl (take_ofW HT_.out HW_.out (by kernel_rfl)) (fun _ _ _ h => h) (Or.inl ⟨by rfl, ?_⟩) hHeld ?_ ?_
          rotate_left
          ·rintro w' ⟨s0, s1, s2, s3, s4, s5, s6, s7, s8⟩
           go_simp
           first | with_reducible rfl | (rw [if_neg (by omega)]; done) | (rw [if_neg (by (try simp only [decide_eq_true_eq, decide_eq_false_iff_not, eq_iff_iff, iff_true, iff_false] at *); (try simp only [ByteArray.size_extract, ByteArray.size_append, show (⟨#[97, 98, 99]⟩ : ByteArray).size = 3 from rfl, show (⟨#[88, 89, 90]⟩ : ByteArray).size = 3 from rfl, show (⟨#[61]⟩ : ByteArray).size = 1 from rfl] at *); omega)]; done)
          rotate_left
          ·simp only [Act.put, List.setIfInBounds_toArray, List.set_cons_zero, List.set_cons_succ, i64_w, i32_w]
           rfl
          refine take_ (i := 1) (N := some 93) (v := ?_) (a' := ?_) #[true, true, true, true, false, false, false, false, false, false, false, false, false, false, false, false, false, false, false, false, false, false, false, false, false, false, false] rfl rfl (take_ofW HT_.out HW_.out (by kernel_rfl)) (fun _ _ _ h => h) (Or.inl ⟨by rfl, ?_⟩) hHeld ?_ ?_
          rotate_left
          ·rintro w' ⟨s0, s1, s2, s3, s4, s5, s6, s7, s8⟩
           go_simp
           first | with_reducible rfl | (rw [if_neg (by omega)]; done) | (rw [if_neg (by (try simp only [decide_eq_true_eq, decide_eq_false_iff_not, eq_iff_iff, iff_true, iff_false] at *); (try simp only [ByteArray.size_extract, ByteArray.size_append, show (⟨#[97, 98, 99]⟩ : ByteArray).size = 3 from rfl, show (⟨#[88, 89, 90]⟩ : ByteArray).size = 3 from rfl, show (⟨#[61]⟩ : ByteArray).size = 1 from rfl] at *); omega)]; done)
          rotate_left
          ·simp only [Act.put, List.setIfInBounds_toArray, List.set_cons_zero, List.set_cons_succ, i64_w, i32_w]
           rfl
          refine one_ (i := 4) (N := some 96) #[true, true, true, true, true, false, false, false, false, false, false, false, false, false, false, false, false, false, false, false, false, false, false, false, false, false, false] rfl rfl (one_of HT_.out (by kernel_rfl)) (by decide) (fun K hK => ?_)
          refine goes_ Try.func58 (by kernel_rfl) rfl #[.agg #[.string t7020, .string t7021, .string t7022], .int .u8 t7023, .string t7024] (by rfl) rfl rfl (by (try simp only [List.map_toArray, List.map_cons, List.map_nil]); first | done | rfl | (simp only [List.length_drop, List.length_take]; rfl)) ?_
          with_reducible refine (spec_WithValue.calls t7020 t7021 t7022 t7023 t7024 t7035 t7036 t7037 _ A63.out).mono ?_
          rintro e w85 ⟨rfl, hb⟩
          refine ⟨_, rfl, ?_⟩
          have n0_ := Aside0.mk (blk_below (g := gb7006) (o := .cells #[.string t7003, .string t7004, .string t7005] 84 (0, 0)) (by (with_reducible repeat (first | refine blk_drewN ?_ _ | refine blk_drew ?_ | refine blk_alloc ?_ _)); exact BK7006.out) hb)
          have n1_ := Aside0.mk (blk_below (g := gb7025) (o := .cells #[.string t7020, .string t7021, .string t7022] 84 (0, 0)) (by (with_reducible repeat (first | refine blk_drewN ?_ _ | refine blk_drew ?_ | refine blk_alloc ?_ _)); exact BK7025.out) hb)
          have n2_ := Aside0.mk (blk_below (g := gb7029) (o := .cells #[.string t7026, .string t7027, .string t7028] 84 (0, 0)) (by (with_reducible repeat (first | refine blk_drewN ?_ _ | refine blk_drew ?_ | refine blk_alloc ?_ _)); exact BK7029.out) hb)
          have n3_ := Aside0.mk (blk_below (g := gb7034) (o := .cells #[.string t7030, .string t7031, .string t7032] 84 (0, 0)) (by (with_reducible repeat (first | refine blk_drewN ?_ _ | refine blk_drew ?_ | refine blk_alloc ?_ _)); exact BK7034.out) hb)
          have n4_ := Aside0.mk (below_step (by repeat (first | (with_reducible first | exact HB.out | apply below_alloc | apply pw_below_drewN | apply below_drew1 | refine below_set ?_ GE7006.out | refine below_set ?_ GE7025.out | refine below_set ?_ GE7029.out | refine below_set ?_ GE7034.out) | exact HB.out)) hb)
          clear BK7006
          clear BK7025
          clear BK7029
          clear BK7034
          clear HB
          have BK7006 := n0_
          have BK7025 := n1_
          have BK7029 := n2_
          have BK7034 := n3_
          have HB := n4_
          clear n0_ n1_ n2_ n3_ n4_
          (try clear hb)
          (try clear hb2)
          (try clear hk)
          (try clear hi)
          refine hK.out _ _ ⟨(blk_cell BK7029.out 0).trans rfl, (blk_cell BK7029.out 1).trans rfl, (blk_cell BK7029.out 2).trans rfl, (blk_cell BK7025.out 0).trans rfl, (blk_cell BK7025.out 1).trans rfl, (blk_cell BK7025.out 2).trans rfl, (blk_cell BK7034.out 0).trans rfl, (blk_cell BK7034.out 1).trans rfl, (blk_cell BK7034.out 2).trans rfl⟩ (fun hHeld => ?_)
          clear hK K
          refine norm_ (a' := ?_) ?_ ?_
          rotate_left
          ·show Act.put _ (some 96) _ = _
           simp only [Act.put, List.setIfInBounds_toArray, List.set_cons_zero, List.set_cons_succ, i64_w, i32_w]
           rfl
          refine pure_ (i := 5) (N := some 97) (v := ?_) (a' := ?_) #[true, true, true, true, true, true, false, false, false, false, false, false, false, false, false, false, false, false, false, false, false, false, false, false, false, false, false] rfl rfl (any_of HT_.out (by kernel_rfl)) (fun _ _ _ h => h) (Or.inl ⟨by rfl, ?_⟩) ?_ ?_
          rotate_left
          ·intro w'
           go_simp
           first | with_reducible rfl | (rw [if_neg (by omega)]; done) | (rw [if_neg (by (try simp only [decide_eq_true_eq, decide_eq_false_iff_not, eq_iff_iff, iff_true, iff_false] at *); (try simp only [ByteArray.size_extract, ByteArray.size_append, show (⟨#[97, 98, 99]⟩ : ByteArray).size = 3 from rfl, show (⟨#[88, 89, 90]⟩ : ByteArray).size = 3 from rfl, show (⟨#[61]⟩ : ByteArray).size = 1 from rfl] at *); omega)]; done)
          rotate_left
          ·simp only [Act.put, List.setIfInBounds_toArray, List.set_cons_zero, List.set_cons_succ, i64_w, i32_w]
           rfl
          refine pure_ (i := 6) (N := some 98) (v := ?_) (a' := ?_) #[true, true, true, true, true, true, true, false, false, false, false, false, false, false, false, false, false, false, false, false, false, false, false, false, false, false, false] rfl rfl (any_of HT_.out (by kernel_rfl)) (fun _ _ _ h => h) (Or.inl ⟨by rfl, ?_⟩) ?_ ?_
          rotate_left
          ·intro w'
           go_simp
           first | with_reducible rfl | (rw [if_neg (by omega)]; done) | (rw [if_neg (by (try simp only [decide_eq_true_eq, decide_eq_false_iff_not, eq_iff_iff, iff_true, iff_false] at *); (try simp only [ByteArray.size_extract, ByteArray.size_append, show (⟨#[97, 98, 99]⟩ : ByteArray).size = 3 from rfl, show (⟨#[88, 89, 90]⟩ : ByteArray).size = 3 from rfl, show (⟨#[61]⟩ : ByteArray).size = 1 from rfl] at *); omega)]; done)
          rotate_left
          ·simp only [Act.put, List.setIfInBounds_toArray, List.set_cons_zero, List.set_cons_succ, i64_w, i32_w]
           rfl
          refine pure_ (i := 7) (N := some 99) (v := ?_) (a' := ?_) #[true, true, true, true, true, true, true, true, false, false, false, false, false, false, false, false, false, false, false, false, false, false, false, false, false, false, false] rfl rfl (any_of HT_.out (by kernel_rfl)) (fun _ _ _ h => h) (Or.inl ⟨by rfl, ?_⟩) ?_ ?_
          rotate_left
          ·intro w'
           go_simp
           first | with_reducible rfl | (rw [if_neg (by omega)]; done) | (rw [if_neg (by (try simp only [decide_eq_true_eq, decide_eq_false_iff_not, eq_iff_iff, iff_true, iff_false] at *); (try simp only [ByteArray.size_extract, ByteArray.size_append, show (⟨#[97, 98, 99]⟩ : ByteArray).size = 3 from rfl, show (⟨#[88, 89, 90]⟩ : ByteArray).size = 3 from rfl, show (⟨#[61]⟩ : ByteArray).size = 1 from rfl] at *); omega)]; done)
          rotate_left
          ·simp only [Act.put, List.setIfInBounds_toArray, List.set_cons_zero, List.set_cons_succ, i64_w, i32_w]
           rfl
          refine pure_ (i := 8) (N := some 100) (v := ?_) (a' := ?_) #[true, true, true, true, true, true, true, true, true, false, false, false, false, false, false, false, false, false, false, false, false, false, false, false, false, false, false] rfl rfl (any_of HT_.out (by kernel_rfl)) (fun _ _ _ h => h) (Or.inl ⟨by rfl, ?_⟩) ?_ ?_
          rotate_left
          ·intro w'
           go_simp
           first | with_reducible rfl | (rw [if_neg (by omega)]; done) | (rw [if_neg (by (try simp only [decide_eq_true_eq, decide_eq_false_iff_not, eq_iff_iff, iff_true, iff_false] at *); (try simp only [ByteArray.size_extract, ByteArray.size_append, show (⟨#[97, 98, 99]⟩ : ByteArray).size = 3 from rfl, show (⟨#[88, 89, 90]⟩ : ByteArray).size = 3 from rfl, show (⟨#[61]⟩ : ByteArray).size = 1 from rfl] at *); omega)]; done)
          rotate_left
          ·simp only [Act.put, List.setIfInBounds_toArray, List.set_cons_zero, List.set_cons_succ, i64_w, i32_w]
           rfl
          refine pure_ (i := 9) (N := some 101) (v := ?_) (a' := ?_) #[true, true, true, true, true, true, true, true, true, true, false, false, false, false, false, false, false, false, false, false, false, false, false, false, false, false, false] rfl rfl (any_of HT_.out (by kernel_rfl)) (fun _ _ _ h => h) (Or.inl ⟨by rfl, ?_⟩) ?_ ?_
          rotate_left
          ·intro w'
           go_simp
           first | with_reducible rfl | (rw [if_neg (by omega)]; done) | (rw [if_neg (by (try simp only [decide_eq_true_eq, decide_eq_false_iff_not, eq_iff_iff, iff_true, iff_false] at *); (try simp only [ByteArray.size_extract, ByteArray.size_append, show (⟨#[97, 98, 99]⟩ : ByteArray).size = 3 from rfl, show (⟨#[88, 89, 90]⟩ : ByteArray).size = 3 from rfl, show (⟨#[61]⟩ : ByteArray).size = 1 from rfl] at *); omega)]; done)
          rotate_left
          ·simp only [Act.put, List.setIfInBounds_toArray, List.set_cons_zero, List.set_cons_succ, i64_w, i32_w]
           rfl
          refine pure_ (i := 10) (N := some 102) (v := undef) (a' := ?_) #[true, true, true, true, true, true, true, true, true, true, true, false, false, false, false, false, false, false, false, false, false, false, false, false, false, false, false] rfl rfl (any_of HT_.out (by kernel_rfl)) (fun _ _ _ h => h) (Or.inr ⟨by rfl, rfl⟩) ?_ ?_
          rotate_left
          ·simp only [Act.put, List.setIfInBounds_toArray, List.set_cons_zero, List.set_cons_succ, i64_w, i32_w]
           rfl
          refine pure_ (i := 11) (N := some 103) (v := undef) (a' := ?_) #[true, true, true, true, true, true, true, true, true, true, true, true, false, false, false, false, false, false, false, false, false, false, false, false, false, false, false] rfl rfl (any_of HT_.out (by kernel_rfl)) (fun _ _ _ h => h) (Or.inr ⟨by rfl, rfl⟩) ?_ ?_
          rotate_left
          ·simp only [Act.put, List.setIfInBounds_toArray, List.set_cons_zero, List.set_cons_succ, i64_w, i32_w]
           rfl
          refine pure_ (i := 12) (N := some 104) (v := undef) (a' := ?_) #[true, true, true, true, true, true, true, true, true, true, true, true, true, false, false, false, false, false, false, false, false, false, false, false, false, false, false] rfl rfl (any_of HT_.out (by kernel_rfl)) (fun _ _ _ h => h) (Or.inr ⟨by rfl, rfl⟩) ?_ ?_
          rotate_left
          ·simp only [Act.put, List.setIfInBounds_toArray, List.set_cons_zero, List.set_cons_succ, i64_w, i32_w]
           rfl
          refine pure_ (i := 13) (N := some 105) (v := undef) (a' := ?_) #[true, true, true, true, true, true, true, true, true, true, true, true, true, true, false, false, false, false, false, false, false, false, false, false, false, false, false] rfl rfl (any_of HT_.out (by kernel_rfl)) (fun _ _ _ h => h) (Or.inr ⟨by rfl, rfl⟩) ?_ ?_
          rotate_left
          ·simp only [Act.put, List.setIfInBounds_toArray, List.set_cons_zero, List.set_cons_succ, i64_w, i32_w]
           rfl
          refine pure_ (i := 14) (N := some 106) (v := undef) (a' := ?_) #[true, true, true, true, true, true, true, true, true, true, true, true, true, true, true, false, false, false, false, false, false, false, false, false, false, false, false] rfl rfl (any_of HT_.out (by kernel_rfl)) (fun _ _ _ h => h) (Or.inr ⟨by rfl, rfl⟩) ?_ ?_
          rotate_left
          ·simp only [Act.put, List.setIfInBounds_toArray, List.set_cons_zero, List.set_cons_succ, i64_w, i32_w]
           rfl
          refine pure_ (i := 15) (N := some 107) (v := ?_) (a' := ?_) #[true, true, true, true, true, true, true, true, true, true, true, true, true, true, true, true, false, false, false, false, false, false, false, false, false, false, false] rfl rfl (any_of HT_.out (by kernel_rfl)) (fun _ _ _ h => h) (Or.inl ⟨by rfl, ?_⟩) ?_ ?_
          rotate_left
          ·intro w'
           go_simp
           first | with_reducible rfl | (rw [if_neg (by omega)]; done) | (rw [if_neg (by (try simp only [decide_eq_true_eq, decide_eq_false_iff_not, eq_iff_iff, iff_true, iff_false] at *); (try simp only [ByteArray.size_extract, ByteArray.size_append, show (⟨#[97, 98, 99]⟩ : ByteArray).size = 3 from rfl, show (⟨#[88, 89, 90]⟩ : ByteArray).size = 3 from rfl, show (⟨#[61]⟩ : ByteArray).size = 1 from rfl] at *); omega)]; done)
          rotate_left
          ·simp only [Act.put, List.setIfInBounds_toArray, List.set_cons_zero, List.set_cons_succ, i64_w, i32_w]
           rfl
          refine pure_ (i := 16) (N := some 108) (v := ?_) (a' := ?_) #[true, true, true, true, true, true, true, true, true, true, true, true, true, true, true, true, true, false, false, false, false, false, false, false, false, false, false] rfl rfl (any_of HT_.out (by kernel_rfl)) (fun _ _ _ h => h) (Or.inl ⟨by rfl, ?_⟩) ?_ ?_
          rotate_left
          ·intro w'
           go_simp
           first | with_reducible rfl | (rw [if_neg (by omega)]; done) | (rw [if_neg (by (try simp only [decide_eq_true_eq, decide_eq_false_iff_not, eq_iff_iff, iff_true, iff_false] at *); (try simp only [ByteArray.size_extract, ByteArray.size_append, show (⟨#[97, 98, 99]⟩ : ByteArray).size = 3 from rfl, show (⟨#[88, 89, 90]⟩ : ByteArray).size = 3 from rfl, show (⟨#[61]⟩ : ByteArray).size = 1 from rfl] at *); omega)]; done)
          rotate_left
          ·simp only [Act.put, List.setIfInBounds_toArray, List.set_cons_zero, List.set_cons_succ, i64_w, i32_w]
           rfl
          refine pure_ (i := 17) (N := some 109) (v := ?_) (a' := ?_) #[true, true, true, true, true, true, true, true, true, true, true, true, true, true, true, true, true, true, false, false, false, false, false, false, false, false, false] rfl rfl (any_of HT_.out (by kernel_rfl)) (fun _ _ _ h => h) (Or.inl ⟨by rfl, ?_⟩) ?_ ?_
          rotate_left
          ·intro w'
           go_simp
           first | with_reducible rfl | (rw [if_neg (by omega)]; done) | (rw [if_neg (by (try simp only [decide_eq_true_eq, decide_eq_false_iff_not, eq_iff_iff, iff_true, iff_false] at *); (try simp only [ByteArray.size_extract, ByteArray.size_append, show (⟨#[97, 98, 99]⟩ : ByteArray).size = 3 from rfl, show (⟨#[88, 89, 90]⟩ : ByteArray).size = 3 from rfl, show (⟨#[61]⟩ : ByteArray).size = 1 from rfl] at *); omega)]; done)
          rotate_left
          ·simp only [Act.put, List.setIfInBounds_toArray, List.set_cons_zero, List.set_cons_succ, i64_w, i32_w]
           rfl
          refine pure_ (i := 19) (N := some 111) (v := ?_) (a' := ?_) #[true, true, true, true, true, true, true, true, true, true, true, true, true, true, true, true, true, true, false, true, false, false, false, false, false, false, false] rfl rfl (any_of HT_.out (by kernel_rfl)) (fun _ _ _ h => h) (Or.inl ⟨by rfl, ?_⟩) ?_ ?_
          rotate_left
          ·intro w'
           go_simp
           first | with_reducible rfl | (rw [if_neg (by omega)]; done) | (rw [if_neg (by (try simp only [decide_eq_true_eq, decide_eq_false_iff_not, eq_iff_iff, iff_true, iff_false] at *); (try simp only [ByteArray.size_extract, ByteArray.size_append, show (⟨#[97, 98, 99]⟩ : ByteArray).size = 3 from rfl, show (⟨#[88, 89, 90]⟩ : ByteArray).size = 3 from rfl, show (⟨#[61]⟩ : ByteArray).size = 1 from rfl] at *); omega)]; done)
          rotate_left
          ·simp only [Act.put, List.setIfInBounds_toArray, List.set_cons_zero, List.set_cons_succ, i64_w, i32_w]
           rfl
          refine pure_ (i := 22) (N := some 114) (v := ?_) (a' := ?_) #[true, true, true, true, true, true, true, true, true, true, true, true, true, true, true, true, true, true, false, true, false, false, true, false, false, false, false] rfl rfl (any_of HT_.out (by kernel_rfl)) (fun _ _ _ h => h) (Or.inl ⟨by rfl, ?_⟩) ?_ ?_
          rotate_left
          ·intro w'
           go_simp
           first | with_reducible rfl | (rw [if_neg (by omega)]; done) | (rw [if_neg (by (try simp only [decide_eq_true_eq, decide_eq_false_iff_not, eq_iff_iff, iff_true, iff_false] at *); (try simp only [ByteArray.size_extract, ByteArray.size_append, show (⟨#[97, 98, 99]⟩ : ByteArray).size = 3 from rfl, show (⟨#[88, 89, 90]⟩ : ByteArray).size = 3 from rfl, show (⟨#[61]⟩ : ByteArray).size = 1 from rfl] at *); omega)]; done)
          rotate_left
          ·simp only [Act.put, List.setIfInBounds_toArray, List.set_cons_zero, List.set_cons_succ, i64_w, i32_w]
           rfl
          refine take_ (i := 18) (N := some 110) (v := ?_) (a' := ?_) #[true, true, true, true, true, true, true, true, true, true, true, true, true, true, true, true, true, true, true, true, false, false, true, false, false, false, false] rfl rfl (take_ofW HT_.out HW_.out (by kernel_rfl)) (fun _ _ _ h => h) (Or.inl ⟨by rfl, ?_⟩) hHeld ?_ ?_
          rotate_left
          ·rintro w' ⟨s0, s1, s2, s3, s4, s5, s6, s7, s8⟩
           go_simp
           first | with_reducible rfl | (rw [if_neg (by omega)]; done) | (rw [if_neg (by (try simp only [decide_eq_true_eq, decide_eq_false_iff_not, eq_iff_iff, iff_true, iff_false] at *); (try simp only [ByteArray.size_extract, ByteArray.size_append, show (⟨#[97, 98, 99]⟩ : ByteArray).size = 3 from rfl, show (⟨#[88, 89, 90]⟩ : ByteArray).size = 3 from rfl, show (⟨#[61]⟩ : ByteArray).size = 1 from rfl] at *); omega)]; done)
          rotate_left
          ·simp only [Act.put, List.setIfInBounds_toArray, List.set_cons_zero, List.set_cons_succ, i64_w, i32_w]
           rfl
          refine take_ (i := 21) (N := some 113) (v := ?_) (a' := ?_) #[true, true, true, true, true, true, true, true, true, true, true, true, true, true, true, true, true, true, true, true, false, true, true, false, false, false, false] rfl rfl (take_ofW HT_.out HW_.out (by kernel_rfl)) (fun _ _ _ h => h) (Or.inl ⟨by rfl, ?_⟩) hHeld ?_ ?_
          rotate_left
          ·rintro w' ⟨s0, s1, s2, s3, s4, s5, s6, s7, s8⟩
           go_simp
           first | with_reducible rfl | (rw [if_neg (by omega)]; done) | (rw [if_neg (by (try simp only [decide_eq_true_eq, decide_eq_false_iff_not, eq_iff_iff, iff_true, iff_false] at *); (try simp only [ByteArray.size_extract, ByteArray.size_append, show (⟨#[97, 98, 99]⟩ : ByteArray).size = 3 from rfl, show (⟨#[88, 89, 90]⟩ : ByteArray).size = 3 from rfl, show (⟨#[61]⟩ : ByteArray).size = 1 from rfl] at *); omega)]; done)
          rotate_left
          ·simp only [Act.put, List.setIfInBounds_toArray, List.set_cons_zero, List.set_cons_succ, i64_w, i32_w]
           rfl
          refine one_ (i := 20) (N := some 112) #[true, true, true, true, true, true, true, true, true, true, true, true, true, true, true, true, true, true, true, true, true, true, true, false, false, false, false] rfl rfl (one_of HT_.out (by kernel_rfl)) (by decide) (fun K hK => ?_)
          refine goes_ Try.func59 (by kernel_rfl) rfl #[.agg #[.string t7030, .string t7031, .string t7032], .string t7033] (by rfl) rfl rfl (by (try simp only [List.map_toArray, List.map_cons, List.map_nil]); first | done | rfl | (simp only [List.length_drop, List.length_take]; rfl)) ?_
          with_reducible refine (impl_FormatValues.calls k2 t7030 t7031 t7032 t7033 t7038 _ A66.out).mono ?_
          rintro e w86 ⟨rfl, hb⟩
          refine ⟨_, rfl, ?_⟩
          have n0_ := Aside0.mk (blk_below (g := gb7006) (o := .cells #[.string t7003, .string t7004, .string t7005] 84 (0, 0)) (by (with_reducible repeat (first | refine blk_drewN ?_ _ | refine blk_drew ?_ | refine blk_alloc ?_ _)); exact BK7006.out) hb)
          have n1_ := Aside0.mk (blk_below (g := gb7025) (o := .cells #[.string t7020, .string t7021, .string t7022] 84 (0, 0)) (by (with_reducible repeat (first | refine blk_drewN ?_ _ | refine blk_drew ?_ | refine blk_alloc ?_ _)); exact BK7025.out) hb)
          have n2_ := Aside0.mk (blk_below (g := gb7029) (o := .cells #[.string t7026, .string t7027, .string t7028] 84 (0, 0)) (by (with_reducible repeat (first | refine blk_drewN ?_ _ | refine blk_drew ?_ | refine blk_alloc ?_ _)); exact BK7029.out) hb)
          have n3_ := Aside0.mk (blk_below (g := gb7034) (o := .cells #[.string t7030, .string t7031, .string t7032] 84 (0, 0)) (by (with_reducible repeat (first | refine blk_drewN ?_ _ | refine blk_drew ?_ | refine blk_alloc ?_ _)); exact BK7034.out) hb)
          have n4_ := Aside0.mk (below_step (by repeat (first | (with_reducible first | exact HB.out | apply below_alloc | apply pw_below_drewN | apply below_drew1 | refine below_set ?_ GE7006.out | refine below_set ?_ GE7025.out | refine below_set ?_ GE7029.out | refine below_set ?_ GE7034.out) | exact HB.out)) hb)
          clear BK7006
          clear BK7025
          clear BK7029
          clear BK7034
          clear HB
          have BK7006 := n0_
          have BK7025 := n1_
          have BK7029 := n2_
          have BK7034 := n3_
          have HB := n4_
          clear n0_ n1_ n2_ n3_ n4_
          (try clear hb)
          (try clear hb2)
          (try clear hk)
          (try clear hi)
          refine hK.out _ _ ⟨(blk_cell BK7029.out 0).trans rfl, (blk_cell BK7029.out 1).trans rfl, (blk_cell BK7029.out 2).trans rfl, (blk_cell BK7025.out 0).trans rfl, (blk_cell BK7025.out 1).trans rfl, (blk_cell BK7025.out 2).trans rfl, (blk_cell BK7034.out 0).trans rfl, (blk_cell BK7034.out 1).trans rfl, (blk_cell BK7034.out 2).trans rfl⟩ (fun hHeld => ?_)
          clear hK K
          refine norm_ (a' := ?_) ?_ ?_
          rotate_left
          ·show Act.put _ (some 112) _ = _
           simp only [Act.put, List.setIfInBounds_toArray, List.set_cons_zero, List.set_cons_succ, i64_w, i32_w]
           rfl
          refine one_ (i := 23) (N := some 115) #[true, true, true, true, true, true, true, true, true, true, true, true, true, true, true, true, true, true, true, true, true, true, true, true, false, false, false] rfl rfl (one_of HT_.out (by kernel_rfl)) (by decide) (fun K hK => ?_)
          refine goes_ Try.func60 (by kernel_rfl) rfl #[.agg #[.string t7030, .string t7031, .string t7032], .string t7033] (by rfl) rfl rfl (by (try simp only [List.map_toArray, List.map_cons, List.map_nil]); first | done | rfl | (simp only [List.length_drop, List.length_take]; rfl)) ?_
          with_reducible refine (spec_FormatValues.calls k2 t7030 t7031 t7032 t7033 t7039 _ A67.out).mono ?_
          rintro e w87 ⟨rfl, hb⟩
          refine ⟨_, rfl, ?_⟩
          have n0_ := Aside0.mk (blk_below (g := gb7006) (o := .cells #[.string t7003, .string t7004, .string t7005] 84 (0, 0)) (by (with_reducible repeat (first | refine blk_drewN ?_ _ | refine blk_drew ?_ | refine blk_alloc ?_ _)); exact BK7006.out) hb)
          have n1_ := Aside0.mk (blk_below (g := gb7025) (o := .cells #[.string t7020, .string t7021, .string t7022] 84 (0, 0)) (by (with_reducible repeat (first | refine blk_drewN ?_ _ | refine blk_drew ?_ | refine blk_alloc ?_ _)); exact BK7025.out) hb)
          have n2_ := Aside0.mk (blk_below (g := gb7029) (o := .cells #[.string t7026, .string t7027, .string t7028] 84 (0, 0)) (by (with_reducible repeat (first | refine blk_drewN ?_ _ | refine blk_drew ?_ | refine blk_alloc ?_ _)); exact BK7029.out) hb)
          have n3_ := Aside0.mk (blk_below (g := gb7034) (o := .cells #[.string t7030, .string t7031, .string t7032] 84 (0, 0)) (by (with_reducible repeat (first | refine blk_drewN ?_ _ | refine blk_drew ?_ | refine blk_alloc ?_ _)); exact BK7034.out) hb)
          have n4_ := Aside0.mk (below_step (by repeat (first | (with_reducible first | exact HB.out | apply below_alloc | apply pw_below_drewN | apply below_drew1 | refine below_set ?_ GE7006.out | refine below_set ?_ GE7025.out | refine below_set ?_ GE7029.out | refine below_set ?_ GE7034.out) | exact HB.out)) hb)
          clear BK7006
          clear BK7025
          clear BK7029
          clear BK7034
          clear HB
          have BK7006 := n0_
          have BK7025 := n1_
          have BK7029 := n2_
          have BK7034 := n3_
          have HB := n4_
          clear n0_ n1_ n2_ n3_ n4_
          (try clear hb)
          (try clear hb2)
          (try clear hk)
          (try clear hi)
          refine hK.out _ _ ⟨(blk_cell BK7029.out 0).trans rfl, (blk_cell BK7029.out 1).trans rfl, (blk_cell BK7029.out 2).trans rfl, (blk_cell BK7025.out 0).trans rfl, (blk_cell BK7025.out 1).trans rfl, (blk_cell BK7025.out 2).trans rfl, (blk_cell BK7034.out 0).trans rfl, (blk_cell BK7034.out 1).trans rfl, (blk_cell BK7034.out 2).trans rfl⟩ (fun hHeld => ?_)
          clear hK K
          refine norm_ (a' := ?_) ?_ ?_
          rotate_left
          ·show Act.put _ (some 115) _ = _
           simp only [Act.put, List.setIfInBounds_toArray, List.set_cons_zero, List.set_cons_succ, i64_w, i32_w]
           rfl
          refine pure_ (i := 24) (N := some 116) (v := ?_) (a' := ?_) #[true, true, true, true, true, true, true, true, true, true, true, true, true, true, true, true, true, true, true, true, true, true, true, true, true, false, false] rfl rfl (any_of HT_.out (by kernel_rfl)) (fun _ _ _ h => h) (Or.inl ⟨by rfl, ?_⟩) ?_ ?_
          rotate_left
          ·intro w'
           go_simp
           first | with_reducible rfl | (rw [if_neg (by omega)]; done) | (rw [if_neg (by (try simp only [decide_eq_true_eq, decide_eq_false_iff_not, eq_iff_iff, iff_true, iff_false] at *); (try simp only [ByteArray.size_extract, ByteArray.size_append, show (⟨#[97, 98, 99]⟩ : ByteArray).size = 3 from rfl, show (⟨#[88, 89, 90]⟩ : ByteArray).size = 3 from rfl, show (⟨#[61]⟩ : ByteArray).size = 1 from rfl] at *); omega)]; done)
          rotate_left
          ·simp only [Act.put, List.setIfInBounds_toArray, List.set_cons_zero, List.set_cons_succ, i64_w, i32_w]
           rfl
          refine pure_ (i := 25) (N := some 117) (v := ?_) (a' := ?_) #[true, true, true, true, true, true, true, true, true, true, true, true, true, true, true, true, true, true, true, true, true, true, true, true, true, true, false] rfl rfl (any_of HT_.out (by kernel_rfl)) (fun _ _ _ h => h) (Or.inl ⟨by rfl, ?_⟩) ?_ ?_
          rotate_left
          ·intro w'
           go_simp
           first | with_reducible rfl | (rw [if_neg (by omega)]; done) | (rw [if_neg (by (try simp only [decide_eq_true_eq, decide_eq_false_iff_not, eq_iff_iff, iff_true, iff_false] at *); (try simp only [ByteArray.size_extract, ByteArray.size_append, show (⟨#[97, 98, 99]⟩ : ByteArray).size = 3 from rfl, show (⟨#[88, 89, 90]⟩ : ByteArray).size = 3 from rfl, show (⟨#[61]⟩ : ByteArray).size = 1 from rfl] at *); omega)]; done)
          rotate_left
          ·simp only [Act.put, List.setIfInBounds_toArray, List.set_cons_zero, List.set_cons_succ, i64_w, i32_w]
           rfl
          refine pure_ (i := 26) (N := some 2) (v := ?_) (a' := ?_) #[true, true, true, true, true, true, true, true, true, true, true, true, true, true, true, true, true, true, true, true, true, true, true, true, true, true, true] rfl rfl (any_of HT_.out (by kernel_rfl)) (fun _ _ _ h => h) (Or.inl ⟨by rfl, ?_⟩) ?_ ?_
          rotate_left
          ·intro w'
           go_simp
           first | with_reducible rfl | (rw [if_neg (by omega)]; done) | (rw [if_neg (by (try simp only [decide_eq_true_eq, decide_eq_false_iff_not, eq_iff_iff, iff_true, iff_false] at *); (try simp only [ByteArray.size_extract, ByteArray.size_append, show (⟨#[97, 98, 99]⟩ : ByteArray).size = 3 from rfl, show (⟨#[88, 89, 90]⟩ : ByteArray).size = 3 from rfl, show (⟨#[61]⟩ : ByteArray).size = 1 from rfl] at *); omega)]; done)
          rotate_left
          ·simp only [Act.put, List.setIfInBounds_toArray, List.set_cons_zero, List.set_cons_succ, i64_w, i32_w]
           rfl
          refine done_ (done_of HT_.out (by kernel_rfl)) ?_
          try go_wp2
          go_ret
          exact ⟨by first | rfl | (simp [errW_none, errW_some] <;> rfl) | (simp [*, errW_none, errW_some] <;> rfl), by repeat (first | (with_reducible first | exact HB.out | apply below_alloc | apply pw_below_drewN | apply below_drew1 | refine below_set ?_ GE7006.out | refine below_set ?_ GE7025.out | refine below_set ?_ GE7029.out | refine below_set ?_ GE7034.out) | exact HB.out)⟩
         ·rw [if_neg c65] at H
          have c65b0 : (t7023 == 97) = false := beq_eq_false_iff_ne.mpr c65
          have c65b1 : (t7023 != 97) = true := bne_iff_ne.mpr c65
          replace H := Option.bind_eq_some_iff.mp H
          obtain ⟨t7040, A880, H⟩ := H
          replace H : (if t7040.toList = t7024.toList then ((impl_FormatValues.f k2 t7030 t7031 t7032 t7033).bind fun t7041 => ((spec_FormatValues.f k2 t7030 t7031 t7032 t7033).bind fun t7042 => (some (t7041.toList == t7042.toList)))) else (some false)) = some r := H
          have A88 := Aside0.mk A880
          clear A880
          by_cases c89 : t7040.toList = t7024.toList
          ·rw [if_pos c89] at H
           have c89b0 : (t7040.toList == t7024.toList) = true := beq_iff_eq.mpr c89
           have c89b1 : (t7040.toList != t7024.toList) = false := bne_eq_false_iff_eq.mpr c89
           clear c89
           replace H := Option.bind_eq_some_iff.mp H
           obtain ⟨t7041, A900, H⟩ := H
           replace H : ((spec_FormatValues.f k2 t7030 t7031 t7032 t7033).bind fun t7042 => (some (t7041.toList == t7042.toList))) = some r := H
           have A90 := Aside0.mk A900
           clear A900
           replace H := Option.bind_eq_some_iff.mp H
           obtain ⟨t7042, A910, H⟩ := H
           replace H : (some (t7041.toList == t7042.toList)) = some r := H
           have A91 := Aside0.mk A910
           clear A910
           obtain rfl := Option.some.inj H
           try go_wp2_with (first | ((with_reducible refine gate_callee (f := 55) rfl ?_); refine goesL_ (some 79) rfl rfl Try.func55 (by kernel_rfl) rfl #[.slice A0 l0.length c0] rfl (by (try simp only [List.map_toArray, List.map_cons, List.map_nil]); first | done | rfl | (simp only [List.length_drop, List.length_take]; rfl)) ?_; (with_reducible refine (spec_DrawWithValue.calls k2 _ _ l0 t7020 t7021 t7022 t7023 t7024 _ ?side1 ?side2 A60.out).mono ?_); (case side1 => repeat (first | exact (Kd.C_below HR0.out HB.out) | (with_reducible refine Kd.C_alloc ?_ _) | (with_reducible refine Kd.C_drewN ?_ _) | (with_reducible refine Kd.C_drew ?_))); (case side2 => exact HC0.out); rintro e w92 ⟨rfl, hb⟩; refine ⟨_, rfl, ?_⟩; have n0_ := Aside0.mk (blk_below (g := gb7006) (o := .cells #[.string t7003, .string t7004, .string t7005] 84 (0, 0)) (by (with_reducible repeat (first | refine blk_drewN ?_ _ | refine blk_drew ?_ | refine blk_alloc ?_ _)); exact BK7006.out) hb); have n1_ := Aside0.mk (below_step (by repeat (first | (with_reducible first | exact HB.out | apply below_alloc | apply pw_below_drewN | apply below_drew1 | refine below_set ?_ GE7006.out) | exact HB.out)) hb); clear BK7006; clear HB; have BK7006 := n0_; have HB := n1_; clear n0_ n1_; (try clear hb); (try clear hb2); (try clear hk); (try clear hi)) | ((with_reducible refine gate_dst (N := 9) rfl ?_); refine box_event ?hg (N := 9) ?hd (cs := #[.string (⟨#[]⟩ : ByteArray), .string (⟨#[]⟩ : ByteArray), .string (⟨#[]⟩ : ByteArray)]) (t := 84) ?hr ?_; (case hd => rfl); (case hg => rfl); (case hr => first | (go_simp; done) | (go_simp; rfl)); intro gb7025 hg w93 hbox hb; have n0_ := Aside0.mk (blk_below (g := gb7006) (o := .cells #[.string t7003, .string t7004, .string t7005] 84 (0, 0)) (by (with_reducible repeat (first | refine blk_drewN ?_ _ | refine blk_drew ?_ | refine blk_alloc ?_ _)); exact BK7006.out) hb); have n1_ := Aside0.mk (below_step (by repeat (first | (with_reducible first | exact HB.out | apply below_alloc | apply pw_below_drewN | apply below_drew1 | refine below_set ?_ GE7006.out) | exact HB.out)) hb); have n2_ := Aside0.mk (hbox); have n3_ := Aside0.mk ((by rw [hg]; exact (below_size (by repeat (first | (with_reducible first | exact HB.out | apply below_alloc | apply pw_below_drewN | apply below_drew1 | refine below_set ?_ GE7006.out) | exact HB.out))) : w.heap.size ≤ gb7025)); have n4_ := Aside0.mk ((by rw [hg]; exact (below_size (by repeat (first | (with_reducible first | exact HB.out | apply below_alloc | apply pw_below_drewN | apply below_drew1 | refine below_set ?_ GE7006.out) | exact HB.out))) : w.heap.size ≤ gb7025)); have n5_ := Aside0.mk ((by rw [hg]; exact Nat.ne_of_lt (blk_lt (g := gb7006) (o := .cells #[.string t7003, .string t7004, .string t7005] 84 (0, 0)) (by (with_reducible repeat (first | refine blk_drewN ?_ _ | refine blk_drew ?_ | refine blk_alloc ?_ _)); exact BK7006.out)) : gb7006 ≠ gb7025)); have n6_ := Aside0.mk ((by rw [hg]; exact Nat.ne_of_gt (blk_lt (g := gb7006) (o := .cells #[.string t7003, .string t7004, .string t7005] 84 (0, 0)) (by (with_reducible repeat (first | refine blk_drewN ?_ _ | refine blk_drew ?_ | refine blk_alloc ?_ _)); exact BK7006.out)) : gb7025 ≠ gb7006)); clear BK7006; clear HB; have BK7006 := n0_; have HB := n1_; have BK7025 := n2_; have GW7025 := n3_; have GE7025 := n4_; have NB7006_7025 := n5_; have NB7025_7006 := n6_; clear n0_ n1_ n2_ n3_ n4_ n5_ n6_; clear hb hbox hg; have hnb94 := NB7025_7006.out; have hnc94 := NB7006_7025.out; have hcz95_0 : w93.cell? ⟨gb7025, 0, none⟩ = some (.string (⟨#[]⟩ : ByteArray)) := (blk_cell BK7025.out 0).trans rfl; have hcz95_1 : w93.cell? ⟨gb7025, 1, none⟩ = some (.string (⟨#[]⟩ : ByteArray)) := (blk_cell BK7025.out 1).trans rfl; have hcz95_2 : w93.cell? ⟨gb7025, 2, none⟩ = some (.string (⟨#[]⟩ : ByteArray)) := (blk_cell BK7025.out 2).trans rfl; have hfz95_0 := blk_frozen BK7025.out 0; have hfz95_1 := blk_frozen BK7025.out 1; have hfz95_2 := blk_frozen BK7025.out 2) | ((with_reducible refine gate_callee (f := 56) rfl ?_); refine goesL_ (some 86) rfl rfl Try.func56 (by kernel_rfl) rfl #[.agg #[.string t7020, .string t7021, .string t7022], .int .u8 t7023, .string t7024] rfl (by (try simp only [List.map_toArray, List.map_cons, List.map_nil]); first | done | rfl | (simp only [List.length_drop, List.length_take]; rfl)) ?_; (with_reducible refine (impl_WithValue.calls t7020 t7021 t7022 t7023 t7024 t7026 t7027 t7028 _ A61.out).mono ?_); rintro e w96 ⟨rfl, hb⟩; refine ⟨_, rfl, ?_⟩; have n0_ := Aside0.mk (blk_below (g := gb7006) (o := .cells #[.string t7003, .string t7004, .string t7005] 84 (0, 0)) (by (with_reducible repeat (first | refine blk_drewN ?_ _ | refine blk_drew ?_ | refine blk_alloc ?_ _)); refine blk_far ?_ NB7006_7025.out _; (with_reducible repeat (first | refine blk_drewN ?_ _ | refine blk_drew ?_ | refine blk_alloc ?_ _)); refine blk_far ?_ NB7006_7025.out _; (with_reducible repeat (first | refine blk_drewN ?_ _ | refine blk_drew ?_ | refine blk_alloc ?_ _)); refine blk_far ?_ NB7006_7025.out _; (with_reducible repeat (first | refine blk_drewN ?_ _ | refine blk_drew ?_ | refine blk_alloc ?_ _)); exact BK7006.out) hb); have n1_ := Aside0.mk (blk_below (g := gb7025) (o := .cells #[.string t7020, .string t7021, .string t7022] 84 (0, 0)) (by (with_reducible repeat (first | refine blk_drewN ?_ _ | refine blk_drew ?_ | refine blk_alloc ?_ _)); refine blk_put (cs := #[.string t7020, .string t7021, .string (⟨#[]⟩ : ByteArray)]) ?_ 2 _ rfl; (with_reducible repeat (first | refine blk_drewN ?_ _ | refine blk_drew ?_ | refine blk_alloc ?_ _)); refine blk_put (cs := #[.string t7020, .string (⟨#[]⟩ : ByteArray), .string (⟨#[]⟩ : ByteArray)]) ?_ 1 _ rfl; (with_reducible repeat (first | refine blk_drewN ?_ _ | refine blk_drew ?_ | refine blk_alloc ?_ _)); refine blk_put (cs := #[.string (⟨#[]⟩ : ByteArray), .string (⟨#[]⟩ : ByteArray), .string (⟨#[]⟩ : ByteArray)]) ?_ 0 _ rfl; (with_reducible repeat (first | refine blk_drewN ?_ _ | refine blk_drew ?_ | refine blk_alloc ?_ _)); exact BK7025.out) hb); have n2_ := Aside0.mk (below_step (by repeat (first | (with_reducible first | exact HB.out | apply below_alloc | apply pw_below_drewN | apply below_drew1 | refine below_set ?_ GE7006.out | refine below_set ?_ GE7025.out) | exact HB.out)) hb); clear BK7006; clear BK7025; clear HB; have BK7006 := n0_; have BK7025 := n1_; have HB := n2_; clear n0_ n1_ n2_; (try clear hb); (try clear hb2); (try clear hk); (try clear hi)) | ((with_reducible refine gate_dst (N := 12) rfl ?_); refine box_event ?hg (N := 12) ?hd (cs := #[.string (⟨#[]⟩ : ByteArray), .string (⟨#[]⟩ : ByteArray), .string (⟨#[]⟩ : ByteArray)]) (t := 84) ?hr ?_; (case hd => rfl); (case hg => rfl); (case hr => first | (go_simp; done) | (go_simp; rfl)); intro gb7029 hg w97 hbox hb; have n0_ := Aside0.mk (blk_below (g := gb7006) (o := .cells #[.string t7003, .string t7004, .string t7005] 84 (0, 0)) (by (with_reducible repeat (first | refine blk_drewN ?_ _ | refine blk_drew ?_ | refine blk_alloc ?_ _)); exact BK7006.out) hb); have n1_ := Aside0.mk (blk_below (g := gb7025) (o := .cells #[.string t7020, .string t7021, .string t7022] 84 (0, 0)) (by (with_reducible repeat (first | refine blk_drewN ?_ _ | refine blk_drew ?_ | refine blk_alloc ?_ _)); exact BK7025.out) hb); have n2_ := Aside0.mk (below_step (by repeat (first | (with_reducible first | exact HB.out | apply below_alloc | apply pw_below_drewN | apply below_drew1 | refine below_set ?_ GE7006.out | refine below_set ?_ GE7025.out) | exact HB.out)) hb); have n3_ := Aside0.mk (hbox); have n4_ := Aside0.mk ((by rw [hg]; exact (below_size (by repeat (first | (with_reducible first | exact HB.out | apply below_alloc | apply pw_below_drewN | apply below_drew1 | refine below_set ?_ GE7006.out | refine below_set ?_ GE7025.out) | exact HB.out))) : w.heap.size ≤ gb7029)); have n5_ := Aside0.mk ((by rw [hg]; exact (below_size (by repeat (first | (with_reducible first | exact HB.out | apply below_alloc | apply pw_below_drewN | apply below_drew1 | refine below_set ?_ GE7006.out | refine below_set ?_ GE7025.out) | exact HB.out))) : w.heap.size ≤ gb7029)); have n6_ := Aside0.mk ((by rw [hg]; exact Nat.ne_of_lt (blk_lt (g := gb7006) (o := .cells #[.string t7003, .string t7004, .string t7005] 84 (0, 0)) (by (with_reducible repeat (first | refine blk_drewN ?_ _ | refine blk_drew ?_ | refine blk_alloc ?_ _)); exact BK7006.out)) : gb7006 ≠ gb7029)); have n7_ := Aside0.mk ((by rw [hg]; exact Nat.ne_of_gt (blk_lt (g := gb7006) (o := .cells #[.string t7003, .string t7004, .string t7005] 84 (0, 0)) (by (with_reducible repeat (first | refine blk_drewN ?_ _ | refine blk_drew ?_ | refine blk_alloc ?_ _)); exact BK7006.out)) : gb7029 ≠ gb7006)); have n8_ := Aside0.mk ((by rw [hg]; exact Nat.ne_of_lt (blk_lt (g := gb7025) (o := .cells #[.string t7020, .string t7021, .string t7022] 84 (0, 0)) (by (with_reducible repeat (first | refine blk_drewN ?_ _ | refine blk_drew ?_ | refine blk_alloc ?_ _)); exact BK7025.out)) : gb7025 ≠ gb7029)); have n9_ := Aside0.mk ((by rw [hg]; exact Nat.ne_of_gt (blk_lt (g := gb7025) (o := .cells #[.string t7020, .string t7021, .string t7022] 84 (0, 0)) (by (with_reducible repeat (first | refine blk_drewN ?_ _ | refine blk_drew ?_ | refine blk_alloc ?_ _)); exact BK7025.out)) : gb7029 ≠ gb7025)); clear BK7006; clear BK7025; clear HB; have BK7006 := n0_; have BK7025 := n1_; have HB := n2_; have BK7029 := n3_; have GW7029 := n4_; have GE7029 := n5_; have NB7006_7029 := n6_; have NB7029_7006 := n7_; have NB7025_7029 := n8_; have NB7029_7025 := n9_; clear n0_ n1_ n2_ n3_ n4_ n5_ n6_ n7_ n8_ n9_; clear hb hbox hg; have hnb98 := NB7029_7006.out; have hnc98 := NB7006_7029.out; have hnb99 := NB7029_7025.out; have hnc99 := NB7025_7029.out; have hcz100_0 : w97.cell? ⟨gb7029, 0, none⟩ = some (.string (⟨#[]⟩ : ByteArray)) := (blk_cell BK7029.out 0).trans rfl; have hcz100_1 : w97.cell? ⟨gb7029, 1, none⟩ = some (.string (⟨#[]⟩ : ByteArray)) := (blk_cell BK7029.out 1).trans rfl; have hcz100_2 : w97.cell? ⟨gb7029, 2, none⟩ = some (.string (⟨#[]⟩ : ByteArray)) := (blk_cell BK7029.out 2).trans rfl; have hfz100_0 := blk_frozen BK7029.out 0; have hfz100_1 := blk_frozen BK7029.out 1; have hfz100_2 := blk_frozen BK7029.out 2) | ((with_reducible refine gate_callee (f := 57) rfl ?_); refine goesL_ (some 89) rfl rfl Try.func57 (by kernel_rfl) rfl #[.slice A0 l0.length c0] rfl (by (try simp only [List.map_toArray, List.map_cons, List.map_nil]); first | done | rfl | (simp only [List.length_drop, List.length_take]; rfl)) ?_; (with_reducible refine (spec_DrawFormatValues.calls k2 _ _ l0 t7030 t7031 t7032 t7033 _ ?side1 ?side2 A62.out).mono ?_); (case side1 => exact Kd.C_below HR0.out (by repeat (first | (with_reducible first | exact HB.out | apply below_alloc | apply pw_below_drewN | apply below_drew1 | refine below_set ?_ GE7006.out | refine below_set ?_ GE7025.out | refine below_set ?_ GE7029.out) | exact HB.out))); (case side2 => exact HC0.out); rintro e w101 ⟨rfl, hb⟩; refine ⟨_, rfl, ?_⟩; have n0_ := Aside0.mk (blk_below (g := gb7006) (o := .cells #[.string t7003, .string t7004, .string t7005] 84 (0, 0)) (by (with_reducible repeat (first | refine blk_drewN ?_ _ | refine blk_drew ?_ | refine blk_alloc ?_ _)); refine blk_far ?_ NB7006_7029.out _; (with_reducible repeat (first | refine blk_drewN ?_ _ | refine blk_drew ?_ | refine blk_alloc ?_ _)); refine blk_far ?_ NB7006_7029.out _; (with_reducible repeat (first | refine blk_drewN ?_ _ | refine blk_drew ?_ | refine blk_alloc ?_ _)); refine blk_far ?_ NB7006_7029.out _; (with_reducible repeat (first | refine blk_drewN ?_ _ | refine blk_drew ?_ | refine blk_alloc ?_ _)); exact BK7006.out) hb); have n1_ := Aside0.mk (blk_below (g := gb7025) (o := .cells #[.string t7020, .string t7021, .string t7022] 84 (0, 0)) (by (with_reducible repeat (first | refine blk_drewN ?_ _ | refine blk_drew ?_ | refine blk_alloc ?_ _)); refine blk_far ?_ NB7025_7029.out _; (with_reducible repeat (first | refine blk_drewN ?_ _ | refine blk_drew ?_ | refine blk_alloc ?_ _)); refine blk_far ?_ NB7025_7029.out _; (with_reducible repeat (first | refine blk_drewN ?_ _ | refine blk_drew ?_ | refine blk_alloc ?_ _)); refine blk_far ?_ NB7025_7029.out _; (with_reducible repeat (first | refine blk_drewN ?_ _ | refine blk_drew ?_ | refine blk_alloc ?_ _)); exact BK7025.out) hb); have n2_ := Aside0.mk (blk_below (g := gb7029) (o := .cells #[.string t7026, .string t7027, .string t7028] 84 (0, 0)) (by (with_reducible repeat (first | refine blk_drewN ?_ _ | refine blk_drew ?_ | refine blk_alloc ?_ _)); refine blk_put (cs := #[.string t7026, .string t7027, .string (⟨#[]⟩ : ByteArray)]) ?_ 2 _ rfl; (with_reducible repeat (first | refine blk_drewN ?_ _ | refine blk_drew ?_ | refine blk_alloc ?_ _)); refine blk_put (cs := #[.string t7026, .string (⟨#[]⟩ : ByteArray), .string (⟨#[]⟩ : ByteArray)]) ?_ 1 _ rfl; (with_reducible repeat (first | refine blk_drewN ?_ _ | refine blk_drew ?_ | refine blk_alloc ?_ _)); refine blk_put (cs := #[.string (⟨#[]⟩ : ByteArray), .string (⟨#[]⟩ : ByteArray), .string (⟨#[]⟩ : ByteArray)]) ?_ 0 _ rfl; (with_reducible repeat (first | refine blk_drewN ?_ _ | refine blk_drew ?_ | refine blk_alloc ?_ _)); exact BK7029.out) hb); have n3_ := Aside0.mk (below_step (by repeat (first | (with_reducible first | exact HB.out | apply below_alloc | apply pw_below_drewN | apply below_drew1 | refine below_set ?_ GE7006.out | refine below_set ?_ GE7025.out | refine below_set ?_ GE7029.out) | exact HB.out)) hb); clear BK7006; clear BK7025; clear BK7029; clear HB; have BK7006 := n0_; have BK7025 := n1_; have BK7029 := n2_; have HB := n3_; clear n0_ n1_ n2_ n3_; (try clear hb); (try clear hb2); (try clear hk); (try clear hi)) | ((with_reducible refine gate_dst (N := 13) rfl ?_); refine box_event ?hg (N := 13) ?hd (cs := #[.string (⟨#[]⟩ : ByteArray), .string (⟨#[]⟩ : ByteArray), .string (⟨#[]⟩ : ByteArray)]) (t := 84) ?hr ?_; (case hd => rfl); (case hg => rfl); (case hr => first | (go_simp; done) | (go_simp; rfl)); intro gb7034 hg w102 hbox hb; have n0_ := Aside0.mk (blk_below (g := gb7006) (o := .cells #[.string t7003, .string t7004, .string t7005] 84 (0, 0)) (by (with_reducible repeat (first | refine blk_drewN ?_ _ | refine blk_drew ?_ | refine blk_alloc ?_ _)); exact BK7006.out) hb); have n1_ := Aside0.mk (blk_below (g := gb7025) (o := .cells #[.string t7020, .string t7021, .string t7022] 84 (0, 0)) (by (with_reducible repeat (first | refine blk_drewN ?_ _ | refine blk_drew ?_ | refine blk_alloc ?_ _)); exact BK7025.out) hb); have n2_ := Aside0.mk (blk_below (g := gb7029) (o := .cells #[.string t7026, .string t7027, .string t7028] 84 (0, 0)) (by (with_reducible repeat (first | refine blk_drewN ?_ _ | refine blk_drew ?_ | refine blk_alloc ?_ _)); exact BK7029.out) hb); have n3_ := Aside0.mk (below_step (by repeat (first | (with_reducible first | exact HB.out | apply below_alloc | apply pw_below_drewN | apply below_drew1 | refine below_set ?_ GE7006.out | refine below_set ?_ GE7025.out | refine below_set ?_ GE7029.out) | exact HB.out)) hb); have n4_ := Aside0.mk (hbox); have n5_ := Aside0.mk ((by rw [hg]; exact (below_size (by repeat (first | (with_reducible first | exact HB.out | apply below_alloc | apply pw_below_drewN | apply below_drew1 | refine below_set ?_ GE7006.out | refine below_set ?_ GE7025.out | refine below_set ?_ GE7029.out) | exact HB.out))) : w.heap.size ≤ gb7034)); have n6_ := Aside0.mk ((by rw [hg]; exact (below_size (by repeat (first | (with_reducible first | exact HB.out | apply below_alloc | apply pw_below_drewN | apply below_drew1 | refine below_set ?_ GE7006.out | refine below_set ?_ GE7025.out | refine below_set ?_ GE7029.out) | exact HB.out))) : w.heap.size ≤ gb7034)); have n7_ := Aside0.mk ((by rw [hg]; exact Nat.ne_of_lt (blk_lt (g := gb7006) (o := .cells #[.string t7003, .string t7004, .string t7005] 84 (0, 0)) (by (with_reducible repeat (first | refine blk_drewN ?_ _ | refine blk_drew ?_ | refine blk_alloc ?_ _)); exact BK7006.out)) : gb7006 ≠ gb7034)); have n8_ := Aside0.mk ((by rw [hg]; exact Nat.ne_of_gt (blk_lt (g := gb7006) (o := .cells #[.string t7003, .string t7004, .string t7005] 84 (0, 0)) (by (with_reducible repeat (first | refine blk_drewN ?_ _ | refine blk_drew ?_ | refine blk_alloc ?_ _)); exact BK7006.out)) : gb7034 ≠ gb7006)); have n9_ := Aside0.mk ((by rw [hg]; exact Nat.ne_of_lt (blk_lt (g := gb7025) (o := .cells #[.string t7020, .string t7021, .string t7022] 84 (0, 0)) (by (with_reducible repeat (first | refine blk_drewN ?_ _ | refine blk_drew ?_ | refine blk_alloc ?_ _)); exact BK7025.out)) : gb7025 ≠ gb7034)); have n10_ := Aside0.mk ((by rw [hg]; exact Nat.ne_of_gt (blk_lt (g := gb7025) (o := .cells #[.string t7020, .string t7021, .string t7022] 84 (0, 0)) (by (with_reducible repeat (first | refine blk_drewN ?_ _ | refine blk_drew ?_ | refine blk_alloc ?_ _)); exact BK7025.out)) : gb7034 ≠ gb7025)); have n11_ := Aside0.mk ((by rw [hg]; exact Nat.ne_of_lt (blk_lt (g := gb7029) (o := .cells #[.string t7026, .string t7027, .string t7028] 84 (0, 0)) (by (with_reducible repeat (first | refine blk_drewN ?_ _ | refine blk_drew ?_ | refine blk_alloc ?_ _)); exact BK7029.out)) : gb7029 ≠ gb7034)); have n12_ := Aside0.mk ((by rw [hg]; exact Nat.ne_of_gt (blk_lt (g := gb7029) (o := .cells #[.string t7026, .string t7027, .string t7028] 84 (0, 0)) (by (with_reducible repeat (first | refine blk_drewN ?_ _ | refine blk_drew ?_ | refine blk_alloc ?_ _)); exact BK7029.out)) : gb7034 ≠ gb7029)); clear BK7006; clear BK7025; clear BK7029; clear HB; have BK7006 := n0_; have BK7025 := n1_; have BK7029 := n2_; have HB := n3_; have BK7034 := n4_; have GW7034 := n5_; have GE7034 := n6_; have NB7006_7034 := n7_; have NB7034_7006 := n8_; have NB7025_7034 := n9_; have NB7034_7025 := n10_; have NB7029_7034 := n11_; have NB7034_7029 := n12_; clear n0_ n1_ n2_ n3_ n4_ n5_ n6_ n7_ n8_ n9_ n10_ n11_ n12_; clear hb hbox hg; have hnb103 := NB7034_7006.out; have hnc103 := NB7006_7034.out; have hnb104 := NB7034_7025.out; have hnc104 := NB7025_7034.out; have hnb105 := NB7034_7029.out; have hnc105 := NB7029_7034.out; have hcz106_0 : w102.cell? ⟨gb7034, 0, none⟩ = some (.string (⟨#[]⟩ : ByteArray)) := (blk_cell BK7034.out 0).trans rfl; have hcz106_1 : w102.cell? ⟨gb7034, 1, none⟩ = some (.string (⟨#[]⟩ : ByteArray)) := (blk_cell BK7034.out 1).trans rfl; have hcz106_2 : w102.cell? ⟨gb7034, 2, none⟩ = some (.string (⟨#[]⟩ : ByteArray)) := (blk_cell BK7034.out 2).trans rfl; have hfz106_0 := blk_frozen BK7034.out 0; have hfz106_1 := blk_frozen BK7034.out 1; have hfz106_2 := blk_frozen BK7034.out 2))
           have n0_ : Aside0 ((((w102.setCell ⟨gb7034, 0, none⟩ (.string t7030)).setCell ⟨gb7034, 1, none⟩ (.string t7031)).setCell ⟨gb7034, 2, none⟩ (.string t7032)).heap[gb7006]? = some (.cells #[.string t7003, .string t7004, .string t7005] 84 (0, 0))) := ⟨by (with_reducible repeat (first | refine blk_drewN ?_ _ | refine blk_drew ?_ | refine blk_alloc ?_ _)); refine blk_far ?_ NB7006_7034.out _; (with_reducible repeat (first | refine blk_drewN ?_ _ | refine blk_drew ?_ | refine blk_alloc ?_ _)); refine blk_far ?_ NB7006_7034.out _; (with_reducible repeat (first | refine blk_drewN ?_ _ | refine blk_drew ?_ | refine blk_alloc ?_ _)); refine blk_far ?_ NB7006_7034.out _; (with_reducible repeat (first | refine blk_drewN ?_ _ | refine blk_drew ?_ | refine blk_alloc ?_ _)); exact BK7006.out⟩
           have n1_ : Aside0 ((((w102.setCell ⟨gb7034, 0, none⟩ (.string t7030)).setCell ⟨gb7034, 1, none⟩ (.string t7031)).setCell ⟨gb7034, 2, none⟩ (.string t7032)).heap[gb7025]? = some (.cells #[.string t7020, .string t7021, .string t7022] 84 (0, 0))) := ⟨by (with_reducible repeat (first | refine blk_drewN ?_ _ | refine blk_drew ?_ | refine blk_alloc ?_ _)); refine blk_far ?_ NB7025_7034.out _; (with_reducible repeat (first | refine blk_drewN ?_ _ | refine blk_drew ?_ | refine blk_alloc ?_ _)); refine blk_far ?_ NB7025_7034.out _; (with_reducible repeat (first | refine blk_drewN ?_ _ | refine blk_drew ?_ | refine blk_alloc ?_ _)); refine blk_far ?_ NB7025_7034.out _; (with_reducible repeat (first | refine blk_drewN ?_ _ | refine blk_drew ?_ | refine blk_alloc ?_ _)); exact BK7025.out⟩
           have n2_ : Aside0 ((((w102.setCell ⟨gb7034, 0, none⟩ (.string t7030)).setCell ⟨gb7034, 1, none⟩ (.string t7031)).setCell ⟨gb7034, 2, none⟩ (.string t7032)).heap[gb7029]? = some (.cells #[.string t7026, .string t7027, .string t7028] 84 (0, 0))) := ⟨by (with_reducible repeat (first | refine blk_drewN ?_ _ | refine blk_drew ?_ | refine blk_alloc ?_ _)); refine blk_far ?_ NB7029_7034.out _; (with_reducible repeat (first | refine blk_drewN ?_ _ | refine blk_drew ?_ | refine blk_alloc ?_ _)); refine blk_far ?_ NB7029_7034.out _; (with_reducible repeat (first | refine blk_drewN ?_ _ | refine blk_drew ?_ | refine blk_alloc ?_ _)); refine blk_far ?_ NB7029_7034.out _; (with_reducible repeat (first | refine blk_drewN ?_ _ | refine blk_drew ?_ | refine blk_alloc ?_ _)); exact BK7029.out⟩
           have n3_ : Aside0 ((((w102.setCell ⟨gb7034, 0, none⟩ (.string t7030)).setCell ⟨gb7034, 1, none⟩ (.string t7031)).setCell ⟨gb7034, 2, none⟩ (.string t7032)).heap[gb7034]? = some (.cells #[.string t7030, .string t7031, .string t7032] 84 (0, 0))) := ⟨by (with_reducible repeat (first | refine blk_drewN ?_ _ | refine blk_drew ?_ | refine blk_alloc ?_ _)); refine blk_put (cs := #[.string t7030, .string t7031, .string (⟨#[]⟩ : ByteArray)]) ?_ 2 _ rfl; (with_reducible repeat (first | refine blk_drewN ?_ _ | refine blk_drew ?_ | refine blk_alloc ?_ _)); refine blk_put (cs := #[.string t7030, .string (⟨#[]⟩ : ByteArray), .string (⟨#[]⟩ : ByteArray)]) ?_ 1 _ rfl; (with_reducible repeat (first | refine blk_drewN ?_ _ | refine blk_drew ?_ | refine blk_alloc ?_ _)); refine blk_put (cs := #[.string (⟨#[]⟩ : ByteArray), .string (⟨#[]⟩ : ByteArray), .string (⟨#[]⟩ : ByteArray)]) ?_ 0 _ rfl; (with_reducible repeat (first | refine blk_drewN ?_ _ | refine blk_drew ?_ | refine blk_alloc ?_ _)); exact BK7034.out⟩
           have n4_ : Aside0 (Below w.heap.size w (((w102.setCell ⟨gb7034, 0, none⟩ (.string t7030)).setCell ⟨gb7034, 1, none⟩ (.string t7031)).setCell ⟨gb7034, 2, none⟩ (.string t7032))) := ⟨by repeat (first | (with_reducible first | exact HB.out | apply below_alloc | apply pw_below_drewN | apply below_drew1 | refine below_set ?_ GE7006.out | refine below_set ?_ GE7025.out | refine below_set ?_ GE7029.out | refine below_set ?_ GE7034.out) | exact HB.out)⟩
           (try clear BK7006)
           (try clear BK7025)
           (try clear BK7029)
           (try clear BK7034)
           (try clear HB)
           generalize (((w102.setCell ⟨gb7034, 0, none⟩ (.string t7030)).setCell ⟨gb7034, 1, none⟩ (.string t7031)).setCell ⟨gb7034, 2, none⟩ (.string t7032)) = w107 at n0_ n1_ n2_ n3_ n4_ ⊢
           have BK7006 := n0_
           have BK7025 := n1_
           have BK7029 := n2_
           have BK7034 := n3_
           have HB := n4_
           clear n0_ n1_ n2_ n3_ n4_
           have n0_ := Aside0.mk (blk_drew BK7006.out)
           have n1_ := Aside0.mk (blk_drew BK7025.out)
           have n2_ := Aside0.mk (blk_drew BK7029.out)
           have n3_ := Aside0.mk (blk_drew BK7034.out)
           have n4_ := Aside0.mk (below_drew1 HB.out)
           clear BK7006
           clear BK7025
           clear BK7029
           clear BK7034
           clear HB
           have BK7006 := n0_
           have BK7025 := n1_
           have BK7029 := n2_
           have BK7034 := n3_
           have HB := n4_
           clear n0_ n1_ n2_ n3_ n4_
           refine start_ (n := 27) (S := fun w' => w'.cell? ⟨gb7029, 0, none⟩ = some (.string t7026) ∧ w'.cell? ⟨gb7029, 1, none⟩ = some (.string t7027) ∧ w'.cell? ⟨gb7029, 2, none⟩ = some (.string t7028) ∧ w'.cell? ⟨gb7025, 0, none⟩ = some (.string t7020) ∧ w'.cell? ⟨gb7025, 1, none⟩ = some (.string t7021) ∧ w'.cell? ⟨gb7025, 2, none⟩ = some (.string t7022) ∧ w'.cell? ⟨gb7034, 0, none⟩ = some (.string t7030) ∧ w'.cell? ⟨gb7034, 1, none⟩ = some (.string t7031) ∧ w'.cell? ⟨gb7034, 2, none⟩ = some (.string t7032)) (ds := []) #[false, false, false, false, false, false, false, false, false, false, false, false, false, false, false, false, false, false, false, false, false, false, false, false, false, false, false] (by kernel_rfl) rfl rfl ⟨(blk_cell BK7029.out 0).trans rfl, (blk_cell BK7029.out 1).trans rfl, (blk_cell BK7029.out 2).trans rfl, (blk_cell BK7025.out 0).trans rfl, (blk_cell BK7025.out 1).trans rfl, (blk_cell BK7025.out 2).trans rfl, (blk_cell BK7034.out 0).trans rfl, (blk_cell BK7034.out 1).trans rfl, (blk_cell BK7034.out 2).trans rfl⟩ (fun hHeld => ?_); refine with_tabW laws_FnTerms.tab17 laws_FnTerms.bits17 (fun HT_ HW_ => ?_)
           generalize w107.drew = w108 at BK7006 BK7025 BK7029 BK7034 HB hHeld ⊢
           refine pure_ (i := 2) (N := some 94) (v := ?_) (a' := ?_) #[false, false, true, false, false, false, false, false, false, false, false, false, false, false, false, false, false, false, false, false, false, false, false, false, false, false, false] rfl rfl (any_of HT_.out (by kernel_rfl)) (fun _ _ _ h => h) (Or.inl ⟨by rfl, ?_⟩) ?_ ?_
           rotate_left
           ·intro w'
            go_simp
            first | with_reducible rfl | (rw [if_neg (by omega)]; done) | (rw [if_neg (by (try simp only [decide_eq_true_eq, decide_eq_false_iff_not, eq_iff_iff, iff_true, iff_false] at *); (try simp only [ByteArray.size_extract, ByteArray.size_append, show (⟨#[97, 98, 99]⟩ : ByteArray).size = 3 from rfl, show (⟨#[88, 89, 90]⟩ : ByteArray).size = 3 from rfl, show (⟨#[61]⟩ : ByteArray).size = 1 from rfl] at *); omega)]; done)
           rotate_left
           ·simp only [Act.put, List.setIfInBounds_toArray, List.set_cons_zero, List.set_cons_succ, i64_w, i32_w]
            rfl
           refine pure_ (i := 3) (N := some 95) (v := ?_) (a' := ?_) #[false, false, true, true, false, false, false, false, false, false, false, false, false, false, false, false, false, false, false, false, false, false, false, false, false, false, false] rfl rfl (any_of HT_.out (by kernel_rfl)) (fun _ _ _ h => h) (Or.inl ⟨by rfl, ?_⟩) ?_ ?_
           rotate_left
           ·intro w'
            go_simp
            first | with_reducible rfl | (rw [if_neg (by omega)]; done) | (rw [if_neg (by (try simp only [decide_eq_true_eq, decide_eq_false_iff_not, eq_iff_iff, iff_true, iff_false] at *); (try simp only [ByteArray.size_extract, ByteArray.size_append, show (⟨#[97, 98, 99]⟩ : ByteArray).size = 3 from rfl, show (⟨#[88, 89, 90]⟩ : ByteArray).size = 3 from rfl, show (⟨#[61]⟩ : ByteArray).size = 1 from rfl] at *); omega)]; done)
           rotate_left
           ·simp only [Act.put, List.setIfInBounds_toArray, List.set_cons_zero, List.set_cons_succ, i64_w, i32_w]
            rfl
           refine take_ (i := 0) (N := some 92) (v := ?_) (a' := ?_) #[true, false, true, true, false, false, false, false, false, false, false, false, false, false, false, false, false, false, false, false, false, false, false, false, false, false, false] rfl rfl (take_ofW HT_.out HW_.out (by kernel_rfl)) (fun _ _ _ h => h) (Or.inl ⟨by rfl, ?_⟩) hHeld ?_ ?_
           rotate_left
           ·rintro w' ⟨s0, s1, s2, s3, s4, s5, s6, s7, s8⟩
            go_simp
            first | with_reducible rfl | (rw [if_neg (by omega)]; done) | (rw [if_neg (by (try simp only [decide_eq_true_eq, decide_eq_false_iff_not, eq_iff_iff, iff_true, iff_false] at *); (try simp only [ByteArray.size_extract, ByteArray.size_append, show (⟨#[97, 98, 99]⟩ : ByteArray).size = 3 from rfl, show (⟨#[88, 89, 90]⟩ : ByteArray).size = 3 from rfl, show (⟨#[61]⟩ : ByteArray).size = 1 from rfl] at *); omega)]; done)
           rotate_left
           ·simp only [Act.put, List.setIfInBounds_toArray, List.set_cons_zero, List.set_cons_succ, i64_w, i32_w]
            rfl
           refine take_ (i := 1) (N := some 93) (v := ?_) (a' := ?_) #[true, true, true, true, false, false, false, false, false, false, false, false, false, false, false, false, false, false, false, false, false, false, false, false, false, false, false] rfl rfl (take_ofW HT_.out HW_.out (by kernel_rfl)) (fun _ _ _ h => h) (Or.inl ⟨by rfl, ?_⟩) hHeld ?_ ?_
           rotate_left
           ·rintro w' ⟨s0, s1, s2, s3, s4, s5, s6, s7, s8⟩
            go_simp
            first | with_reducible rfl | (rw [if_neg (by omega)]; done) | (rw [if_neg (by (try simp only [decide_eq_true_eq, decide_eq_false_iff_not, eq_iff_iff, iff_true, iff_false] at *); (try simp only [ByteArray.size_extract, ByteArray.size_append, show (⟨#[97, 98, 99]⟩ : ByteArray).size = 3 from rfl, show (⟨#[88, 89, 90]⟩ : ByteArray).size = 3 from rfl, show (⟨#[61]⟩ : ByteArray).size = 1 from rfl] at *); omega)]; done)
           rotate_left
           ·simp only [Act.put, List.setIfInBounds_toArray, List.set_cons_zero, List.set_cons_succ, i64_w, i32_w]
            rfl
           refine one_ (i := 4) (N := some 96) #[true, true, true, true, true, false, false, false, false, false, false, false, false, false, false, false, false, false, false, false, false, false, false, false, false, false, false] rfl rfl (one_of HT_.out (by kernel_rfl)) (by decide) (fun K hK => ?_)
           refine goes_ Try.func58 (by kernel_rfl) rfl #[.agg #[.string t7020, .string t7021, .string t7022], .int .u8 t7023, .string t7024] (by rfl) rfl rfl (by (try simp only [List.map_toArray, List.map_cons, List.map_nil]); first | done | rfl | (simp only [List.length_drop, List.length_take]; rfl)) ?_
           with_reducible refine (spec_WithValue.calls t7020 t7021 t7022 t7023 t7024 t7035 t7036 t7037 _ A63.out).mono ?_
           rintro e w109 ⟨rfl, hb⟩
           refine ⟨_, rfl, ?_⟩
           have n0_ := Aside0.mk (blk_below (g := gb7006) (o := .cells #[.string t7003, .string t7004, .string t7005] 84 (0, 0)) (by (with_reducible repeat (first | refine blk_drewN ?_ _ | refine blk_drew ?_ | refine blk_alloc ?_ _)); exact BK7006.out) hb)
           have n1_ := Aside0.mk (blk_below (g := gb7025) (o := .cells #[.string t7020, .string t7021, .string t7022] 84 (0, 0)) (by (with_reducible repeat (first | refine blk_drewN ?_ _ | refine blk_drew ?_ | refine blk_alloc ?_ _)); exact BK7025.out) hb)
           have n2_ := Aside0.mk (blk_below (g := gb7029) (o := .cells #[.string t7026, .string t7027, .string t7028] 84 (0, 0)) (by (with_reducible repeat (first | refine blk_drewN ?_ _ | refine blk_drew ?_ | refine blk_alloc ?_ _)); exact BK7029.out) hb)
           have n3_ := Aside0.mk (blk_below (g := gb7034) (o := .cells #[.string t7030, .string t7031, .string t7032] 84 (0, 0)) (by (with_reducible repeat (first | refine blk_drewN ?_ _ | refine blk_drew ?_ | refine blk_alloc ?_ _)); exact BK7034.out) hb)
           have n4_ := Aside0.mk (below_step (by repeat (first | (with_reducible first | exact HB.out | apply below_alloc | apply pw_below_drewN | apply below_drew1 | refine below_set ?_ GE7006.out | refine below_set ?_ GE7025.out | refine below_set ?_ GE7029.out | refine below_set ?_ GE7034.out) | exact HB.out)) hb)
           clear BK7006
           clear BK7025
           clear BK7029
           clear BK7034
           clear HB
           have BK7006 := n0_
           have BK7025 := n1_
           have BK7029 := n2_
           have BK7034 := n3_
           have HB := n4_
           clear n0_ n1_ n2_ n3_ n4_
           (try clear hb)
           (try clear hb2)
           (try clear hk)
           (try clear hi)
           refine hK.out _ _ ⟨(blk_cell BK7029.out 0).trans rfl, (blk_cell BK7029.out 1).trans rfl, (blk_cell BK7029.out 2).trans rfl, (blk_cell BK7025.out 0).trans rfl, (blk_cell BK7025.out 1).trans rfl, (blk_cell BK7025.out 2).trans rfl, (blk_cell BK7034.out 0).trans rfl, (blk_cell BK7034.out 1).trans rfl, (blk_cell BK7034.out 2).trans rfl⟩ (fun hHeld => ?_)
           clear hK K
           refine norm_ (a' := ?_) ?_ ?_
           rotate_left
           ·show Act.put _ (some 96) _ = _
            simp only [Act.put, List.setIfInBounds_toArray, List.set_cons_zero, List.set_cons_succ, i64_w, i32_w]
            rfl
           refine pure_ (i := 5) (N := some 97) (v := ?_) (a' := ?_) #[true, true, true, true, true, true, false, false, false, false, false, false, false, false, false, false, false, false, false, false, false, false, false, false, false, false, false] rfl rfl (any_of HT_.out (by kernel_rfl)) (fun _ _ _ h => h) (Or.inl ⟨by rfl, ?_⟩) ?_ ?_
           rotate_left
           ·intro w'
            go_simp
            first | with_reducible rfl | (rw [if_neg (by omega)]; done) | (rw [if_neg (by (try simp only [decide_eq_true_eq, decide_eq_false_iff_not, eq_iff_iff, iff_true, iff_false] at *); (try simp only [ByteArray.size_extract, ByteArray.size_append, show (⟨#[97, 98, 99]⟩ : ByteArray).size = 3 from rfl, show (⟨#[88, 89, 90]⟩ : ByteArray).size = 3 from rfl, show (⟨#[61]⟩ : ByteArray).size = 1 from rfl] at *); omega)]; done)
           rotate_left
           ·simp only [Act.put, List.setIfInBounds_toArray, List.set_cons_zero, List.set_cons_succ, i64_w, i32_w]
            rfl
           refine pure_ (i := 6) (N := some 98) (v := ?_) (a' := ?_) #[true, true, true, true, true, true, true, false, false, false, false, false, false, false, false, false, false, false, false, false, false, false, false, false, false, false, false] rfl rfl (any_of HT_.out (by kernel_rfl)) (fun _ _ _ h => h) (Or.inl ⟨by rfl, ?_⟩) ?_ ?_
           rotate_left
           ·intro w'
            go_simp
            first | with_reducible rfl | (rw [if_neg (by omega)]; done) | (rw [if_neg (by (try simp only [decide_eq_true_eq, decide_eq_false_iff_not, eq_iff_iff, iff_true, iff_false] at *); (try simp only [ByteArray.size_extract, ByteArray.size_append, show (⟨#[97, 98, 99]⟩ : ByteArray).size = 3 from rfl, show (⟨#[88, 89, 90]⟩ : ByteArray).size = 3 from rfl, show (⟨#[61]⟩ : ByteArray).size = 1 from rfl] at *); omega)]; done)
           rotate_left
           ·simp only [Act.put, List.setIfInBounds_toArray, List.set_cons_zero, List.set_cons_succ, i64_w, i32_w]
            rfl
           refine pure_ (i := 7) (N := some 99) (v := ?_) (a' := ?_) #[true, true, true, true, true, true, true, true, false, false, false, false, false, false, false, false, false, false, false, false, false, false, false, false, false, false, false] rfl rfl (any_of HT_.out (by kernel_rfl)) (fun _ _ _ h => h) (Or.inl ⟨by rfl, ?_⟩) ?_ ?_
           rotate_left
           ·intro w'
            go_simp
            first | with_reducible rfl | (rw [if_neg (by omega)]; done) | (rw [if_neg (by (try simp only [decide_eq_true_eq, decide_eq_false_iff_not, eq_iff_iff, iff_true, iff_false] at *); (try simp only [ByteArray.size_extract, ByteArray.size_append, show (⟨#[97, 98, 99]⟩ : ByteArray).size = 3 from rfl, show (⟨#[88, 89, 90]⟩ : ByteArray).size = 3 from rfl, show (⟨#[61]⟩ : ByteArray).size = 1 from rfl] at *); omega)]; done)
           rotate_left
           ·simp only [Act.put, List.setIfInBounds_toArray, List.set_cons_zero, List.set_cons_succ, i64_w, i32_w]
            rfl
           refine pure_ (i := 8) (N := some 100) (v := ?_) (a' := ?_) #[true, true, true, true, true, true, true, true, true, false, false, false, false, false, false, false, false, false, false, false, false, false, false, false, false, false, false] rfl rfl (any_of HT_.out (by kernel_rfl)) (fun _ _ _ h => h) (Or.inl ⟨by rfl, ?_⟩) ?_ ?_
           rotate_left
           ·intro w'
            go_simp
            first | with_reducible rfl | (rw [if_neg (by omega)]; done) | (rw [if_neg (by (try simp only [decide_eq_true_eq, decide_eq_false_iff_not, eq_iff_iff, iff_true, iff_false] at *); (try simp only [ByteArray.size_extract, ByteArray.size_append, show (⟨#[97, 98, 99]⟩ : ByteArray).size = 3 from rfl, show (⟨#[88, 89, 90]⟩ : ByteArray).size = 3 from rfl, show (⟨#[61]⟩ : ByteArray).size = 1 from rfl] at *); omega)]; done)
           rotate_left
           ·simp only [Act.put, List.setIfInBounds_toArray, List.set_cons_zero, List.set_cons_succ, i64_w, i32_w]
            rfl
           refine pure_ (i := 9) (N := some 101) (v := ?_) (a' := ?_) #[true, true, true, true, true, true, true, true, true, true, false, false, false, false, false, false, false, false, false, false, false, false, false, false, false, false, false] rfl rfl (any_of HT_.out (by kernel_rfl)) (fun _ _ _ h => h) (Or.inl ⟨by rfl, ?_⟩) ?_ ?_
           rotate_left
           ·intro w'
            go_simp
            first | with_reducible rfl | (rw [if_neg (by omega)]; done) | (rw [if_neg (by (try simp only [decide_eq_true_eq, decide_eq_false_iff_not, eq_iff_iff, iff_true, iff_false] at *); (try simp only [ByteArray.size_extract, ByteArray.size_append, show (⟨#[97, 98, 99]⟩ : ByteArray).size = 3 from rfl, show (⟨#[88, 89, 90]⟩ : ByteArray).size = 3 from rfl, show (⟨#[61]⟩ : ByteArray).size = 1 from rfl] at *); omega)]; done)
           rotate_left
           ·simp only [Act.put, List.setIfInBounds_toArray, List.set_cons_zero, List.set_cons_succ, i64_w, i32_w]
            rfl
           refine pure_ (i := 11) (N := some 103) (v := ?_) (a' := ?_) #[true, true, true, true, true, true, true, true, true, true, false, true, false, false, false, false, false, false, false, false, false, false, false, false, false, false, false] rfl rfl (any_of HT_.out (by kernel_rfl)) (fun _ _ _ h => h) (Or.inl ⟨by rfl, ?_⟩) ?_ ?_
           rotate_left
           ·intro w'
            go_simp
            first | with_reducible rfl | (rw [if_neg (by omega)]; done) | (rw [if_neg (by (try simp only [decide_eq_true_eq, decide_eq_false_iff_not, eq_iff_iff, iff_true, iff_false] at *); (try simp only [ByteArray.size_extract, ByteArray.size_append, show (⟨#[97, 98, 99]⟩ : ByteArray).size = 3 from rfl, show (⟨#[88, 89, 90]⟩ : ByteArray).size = 3 from rfl, show (⟨#[61]⟩ : ByteArray).size = 1 from rfl] at *); omega)]; done)
           rotate_left
           ·simp only [Act.put, List.setIfInBounds_toArray, List.set_cons_zero, List.set_cons_succ, i64_w, i32_w]
            rfl
           refine pure_ (i := 13) (N := some 105) (v := ?_) (a' := ?_) #[true, true, true, true, true, true, true, true, true, true, false, true, false, true, false, false, false, false, false, false, false, false, false, false, false, false, false] rfl rfl (any_of HT_.out (by kernel_rfl)) (fun _ _ _ h => h) (Or.inl ⟨by rfl, ?_⟩) ?_ ?_
           rotate_left
           ·intro w'
            go_simp
            first | with_reducible rfl | (rw [if_neg (by omega)]; done) | (rw [if_neg (by (try simp only [decide_eq_true_eq, decide_eq_false_iff_not, eq_iff_iff, iff_true, iff_false] at *); (try simp only [ByteArray.size_extract, ByteArray.size_append, show (⟨#[97, 98, 99]⟩ : ByteArray).size = 3 from rfl, show (⟨#[88, 89, 90]⟩ : ByteArray).size = 3 from rfl, show (⟨#[61]⟩ : ByteArray).size = 1 from rfl] at *); omega)]; done)
           rotate_left
           ·simp only [Act.put, List.setIfInBounds_toArray, List.set_cons_zero, List.set_cons_succ, i64_w, i32_w]
            rfl
           refine take_ (i := 10) (N := some 102) (v := ?_) (a' := ?_) #[true, true, true, true, true, true, true, true, true, true, true, true, false, true, false, false, false, false, false, false, false, false, false, false, false, false, false] rfl rfl (take_ofW HT_.out HW_.out (by kernel_rfl)) (fun _ _ _ h => h) (Or.inl ⟨by rfl, ?_⟩) hHeld ?_ ?_
           rotate_left
           ·rintro w' ⟨s0, s1, s2, s3, s4, s5, s6, s7, s8⟩
            go_simp
            first | with_reducible rfl | (rw [if_neg (by omega)]; done) | (rw [if_neg (by (try simp only [decide_eq_true_eq, decide_eq_false_iff_not, eq_iff_iff, iff_true, iff_false] at *); (try simp only [ByteArray.size_extract, ByteArray.size_append, show (⟨#[97, 98, 99]⟩ : ByteArray).size = 3 from rfl, show (⟨#[88, 89, 90]⟩ : ByteArray).size = 3 from rfl, show (⟨#[61]⟩ : ByteArray).size = 1 from rfl] at *); omega)]; done)
           rotate_left
           ·simp only [Act.put, List.setIfInBounds_toArray, List.set_cons_zero, List.set_cons_succ, i64_w, i32_w]
            rfl
           refine one_ (i := 12) (N := some 104) #[true, true, true, true, true, true, true, true, true, true, true, true, true, true, false, false, false, false, false, false, false, false, false, false, false, false, false] rfl rfl (one_of HT_.out (by kernel_rfl)) (by decide) (fun K hK => ?_)
           refine goes_ Try.func52 (by kernel_rfl) rfl #[.agg #[.string t7026, .string t7027, .string t7028], .int .u8 t7023] (by rfl) rfl rfl (by (try simp only [List.map_toArray, List.map_cons, List.map_nil]); first | done | rfl | (simp only [List.length_drop, List.length_take]; rfl)) ?_
           with_reducible refine (impl_ValueOf.calls t7026 t7027 t7028 t7023 t7040 _ A88.out).mono ?_
           rintro e w110 ⟨rfl, hb⟩
           refine ⟨_, rfl, ?_⟩
           have n0_ := Aside0.mk (blk_below (g := gb7006) (o := .cells #[.string t7003, .string t7004, .string t7005] 84 (0, 0)) (by (with_reducible repeat (first | refine blk_drewN ?_ _ | refine blk_drew ?_ | refine blk_alloc ?_ _)); exact BK7006.out) hb)
           have n1_ := Aside0.mk (blk_below (g := gb7025) (o := .cells #[.string t7020, .string t7021, .string t7022] 84 (0, 0)) (by (with_reducible repeat (first | refine blk_drewN ?_ _ | refine blk_drew ?_ | refine blk_alloc ?_ _)); exact BK7025.out) hb)
           have n2_ := Aside0.mk (blk_below (g := gb7029) (o := .cells #[.string t7026, .string t7027, .string t7028] 84 (0, 0)) (by (with_reducible repeat (first | refine blk_drewN ?_ _ | refine blk_drew ?_ | refine blk_alloc ?_ _)); exact BK7029.out) hb)
           have n3_ := Aside0.mk (blk_below (g := gb7034) (o := .cells #[.string t7030, .string t7031, .string t7032] 84 (0, 0)) (by (with_reducible repeat (first | refine blk_drewN ?_ _ | refine blk_drew ?_ | refine blk_alloc ?_ _)); exact BK7034.out) hb)
           have n4_ := Aside0.mk (below_step (by repeat (first | (with_reducible first | exact HB.out | apply below_alloc | apply pw_below_drewN | apply below_drew1 | refine below_set ?_ GE7006.out | refine below_set ?_ GE7025.out | refine below_set ?_ GE7029.out | refine below_set ?_ GE7034.out) | exact HB.out)) hb)
           clear BK7006
           clear BK7025
           clear BK7029
           clear BK7034
           clear HB
           have BK7006 := n0_
           have BK7025 := n1_
           have BK7029 := n2_
           have BK7034 := n3_
           have HB := n4_
           clear n0_ n1_ n2_ n3_ n4_
           (try clear hb)
           (try clear hb2)
           (try clear hk)
           (try clear hi)
           refine hK.out _ _ ⟨(blk_cell BK7029.out 0).trans rfl, (blk_cell BK7029.out 1).trans rfl, (blk_cell BK7029.out 2).trans rfl, (blk_cell BK7025.out 0).trans rfl, (blk_cell BK7025.out 1).trans rfl, (blk_cell BK7025.out 2).trans rfl, (blk_cell BK7034.out 0).trans rfl, (blk_cell BK7034.out 1).trans rfl, (blk_cell BK7034.out 2).trans rfl⟩ (fun hHeld => ?_)
           clear hK K
           refine norm_ (a' := ?_) ?_ ?_
           rotate_left
           ·show Act.put _ (some 104) _ = _
            simp only [Act.put, List.setIfInBounds_toArray, List.set_cons_zero, List.set_cons_succ, i64_w, i32_w]
            rfl
           refine pure_ (i := 14) (N := some 106) (v := ?_) (a' := ?_) #[true, true, true, true, true, true, true, true, true, true, true, true, true, true, true, false, false, false, false, false, false, false, false, false, false, false, false] rfl rfl (any_of HT_.out (by kernel_rfl)) (fun _ _ _ h => h) (Or.inl ⟨by rfl, ?_⟩) ?_ ?_
           rotate_left
           ·intro w'
            go_simp
            first | with_reducible rfl | (rw [if_neg (by omega)]; done) | (rw [if_neg (by (try simp only [decide_eq_true_eq, decide_eq_false_iff_not, eq_iff_iff, iff_true, iff_false] at *); (try simp only [ByteArray.size_extract, ByteArray.size_append, show (⟨#[97, 98, 99]⟩ : ByteArray).size = 3 from rfl, show (⟨#[88, 89, 90]⟩ : ByteArray).size = 3 from rfl, show (⟨#[61]⟩ : ByteArray).size = 1 from rfl] at *); omega)]; done)
           rotate_left
           ·simp only [Act.put, List.setIfInBounds_toArray, List.set_cons_zero, List.set_cons_succ, i64_w, i32_w]
            rfl
           refine pure_ (i := 15) (N := some 107) (v := ?_) (a' := ?_) #[true, true, true, true, true, true, true, true, true, true, true, true, true, true, true, true, false, false, false, false, false, false, false, false, false, false, false] rfl rfl (any_of HT_.out (by kernel_rfl)) (fun _ _ _ h => h) (Or.inl ⟨by rfl, ?_⟩) ?_ ?_
           rotate_left
           ·intro w'
            go_simp
            first | with_reducible rfl | (rw [if_neg (by omega)]; done) | (rw [if_neg (by (try simp only [decide_eq_true_eq, decide_eq_false_iff_not, eq_iff_iff, iff_true, iff_false] at *); (try simp only [ByteArray.size_extract, ByteArray.size_append, show (⟨#[97, 98, 99]⟩ : ByteArray).size = 3 from rfl, show (⟨#[88, 89, 90]⟩ : ByteArray).size = 3 from rfl, show (⟨#[61]⟩ : ByteArray).size = 1 from rfl] at *); omega)]; done)
           rotate_left
           ·simp only [Act.put, List.setIfInBounds_toArray, List.set_cons_zero, List.set_cons_succ, i64_w, i32_w]
            rfl
           refine pure_ (i := 16) (N := some 108) (v := ?_) (a' := ?_) #[true, true, true, true, true, true, true, true, true, true, true, true, true, true, true, true, true, false, false, false, false, false, false, false, false, false, false] rfl rfl (any_of HT_.out (by kernel_rfl)) (fun _ _ _ h => h) (Or.inl ⟨by rfl, ?_⟩) ?_ ?_
           rotate_left
           ·intro w'
            go_simp
            first | with_reducible rfl | (rw [if_neg (by omega)]; done) | (rw [if_neg (by (try simp only [decide_eq_true_eq, decide_eq_false_iff_not, eq_iff_iff, iff_true, iff_false] at *); (try simp only [ByteArray.size_extract, ByteArray.size_append, show (⟨#[97, 98, 99]⟩ : ByteArray).size = 3 from rfl, show (⟨#[88, 89, 90]⟩ : ByteArray).size = 3 from rfl, show (⟨#[61]⟩ : ByteArray).size = 1 from rfl] at *); omega)]; done)
           rotate_left
           ·simp only [Act.put, List.setIfInBounds_toArray, List.set_cons_zero, List.set_cons_succ, i64_w, i32_w]
            rfl
           refine pure_ (i := 17) (N := some 109) (v := ?_) (a' := ?_) #[true, true, true, true, true, true, true, true, true, true, true, true, true, true, true, true, true, true, false, false, false, false, false, false, false, false, false] rfl rfl (any_of HT_.out (by kernel_rfl)) (fun _ _ _ h => h) (Or.inl ⟨by rfl, ?_⟩) ?_ ?_
           rotate_left
           ·intro w'
            go_simp
            first | with_reducible rfl | (rw [if_neg (by omega)]; done) | (rw [if_neg (by (try simp only [decide_eq_true_eq, decide_eq_false_iff_not, eq_iff_iff, iff_true, iff_false] at *); (try simp only [ByteArray.size_extract, ByteArray.size_append, show (⟨#[97, 98, 99]⟩ : ByteArray).size = 3 from rfl, show (⟨#[88, 89, 90]⟩ : ByteArray).size = 3 from rfl, show (⟨#[61]⟩ : ByteArray).size = 1 from rfl] at *); omega)]; done)
           rotate_left
           ·simp only [Act.put, List.setIfInBounds_toArray, List.set_cons_zero, List.set_cons_succ, i64_w, i32_w]
            rfl
           refine pure_ (i := 19) (N := some 111) (v := ?_) (a' := ?_) #[true, true, true, true, true, true, true, true, true, true, true, true, true, true, true, true, true, true, false, true, false, false, false, false, false, false, false] rfl rfl (any_of HT_.out (by kernel_rfl)) (fun _ _ _ h => h) (Or.inl ⟨by rfl, ?_⟩) ?_ ?_
           rotate_left
           ·intro w'
            go_simp
            first | with_reducible rfl | (rw [if_neg (by omega)]; done) | (rw [if_neg (by (try simp only [decide_eq_true_eq, decide_eq_false_iff_not, eq_iff_iff, iff_true, iff_false] at *); (try simp only [ByteArray.size_extract, ByteArray.size_append, show (⟨#[97, 98, 99]⟩ : ByteArray).size = 3 from rfl, show (⟨#[88, 89, 90]⟩ : ByteArray).size = 3 from rfl, show (⟨#[61]⟩ : ByteArray).size = 1 from rfl] at *); omega)]; done)
           rotate_left
           ·simp only [Act.put, List.setIfInBounds_toArray, List.set_cons_zero, List.set_cons_succ, i64_w, i32_w]
            rfl
           refine pure_ (i := 22) (N := some 114) (v := ?_) (a' := ?_) #[true, true, true, true, true, true, true, true, true, true, true, true, true, true, true, true, true, true, false, true, false, false, true, false, false, false, false] rfl rfl (any_of HT_.out (by kernel_rfl)) (fun _ _ _ h => h) (Or.inl ⟨by rfl, ?_⟩) ?_ ?_
           rotate_left
           ·intro w'
            go_simp
            first | with_reducible rfl | (rw [if_neg (by omega)]; done) | (rw [if_neg (by (try simp only [decide_eq_true_eq, decide_eq_false_iff_not, eq_iff_iff, iff_true, iff_false] at *); (try simp only [ByteArray.size_extract, ByteArray.size_append, show (⟨#[97, 98, 99]⟩ : ByteArray).size = 3 from rfl, show (⟨#[88, 89, 90]⟩ : ByteArray).size = 3 from rfl, show (⟨#[61]⟩ : ByteArray).size = 1 from rfl] at *); omega)]; done)
           rotate_left
           ·simp only [Act.put, List.setIfInBounds_toArray, List.set_cons_zero, List.set_cons_succ, i64_w, i32_w]
            rfl
           refine take_ (i := 18) (N := some 110) (v := ?_) (a' := ?_) #[true, true, true, true, true, true, true, true, true, true, true, true, true, true, true, true, true, true, true, true, false, false, true, false, false, false, false] rfl rfl (take_ofW HT_.out HW_.out (by kernel_rfl)) (fun _ _ _ h => h) (Or.inl ⟨by rfl, ?_⟩) hHeld ?_ ?_
           rotate_left
           ·rintro w' ⟨s0, s1, s2, s3, s4, s5, s6, s7, s8⟩
            go_simp
            first | with_reducible rfl | (rw [if_neg (by omega)]; done) | (rw [if_neg (by (try simp only [decide_eq_true_eq, decide_eq_false_iff_not, eq_iff_iff, iff_true, iff_false] at *); (try simp only [ByteArray.size_extract, ByteArray.size_append, show (⟨#[97, 98, 99]⟩ : ByteArray).size = 3 from rfl, show (⟨#[88, 89, 90]⟩ : ByteArray).size = 3 from rfl, show (⟨#[61]⟩ : ByteArray).size = 1 from rfl] at *); omega)]; done)
           rotate_left
           ·simp only [Act.put, List.setIfInBounds_toArray, List.set_cons_zero, List.set_cons_succ, i64_w, i32_w]
            rfl
           refine take_ (i := 21) (N := some 113) (v := ?_) (a' := ?_) #[true, true, true, true, true, true, true, true, true, true, true, true, true, true, true, true, true, true, true, true, false, true, true, false, false, false, false] rfl rfl (take_ofW HT_.out HW_.out (by kernel_rfl)) (fun _ _ _ h => h) (Or.inl ⟨by rfl, ?_⟩) hHeld ?_ ?_
           rotate_left
           ·rintro w' ⟨s0, s1, s2, s3, s4, s5, s6, s7, s8⟩
            go_simp
            first | with_reducible rfl | (rw [if_neg (by omega)]; done) | (rw [if_neg (by (try simp only [decide_eq_true_eq, decide_eq_false_iff_not, eq_iff_iff, iff_true, iff_false] at *); (try simp only [ByteArray.size_extract, ByteArray.size_append, show (⟨#[97, 98, 99]⟩ : ByteArray).size = 3 from rfl, show (⟨#[88, 89, 90]⟩ : ByteArray).size = 3 from rfl, show (⟨#[61]⟩ : ByteArray).size = 1 from rfl] at *); omega)]; done)
           rotate_left
           ·simp only [Act.put, List.setIfInBounds_toArray, List.set_cons_zero, List.set_cons_succ, i64_w, i32_w]
            rfl
           refine one_ (i := 20) (N := some 112) #[true, true, true, true, true, true, true, true, true, true, true, true, true, true, true, true, true, true, true, true, true, true, true, false, false, false, false] rfl rfl (one_of HT_.out (by kernel_rfl)) (by decide) (fun K hK => ?_)
           refine goes_ Try.func59 (by kernel_rfl) rfl #[.agg #[.string t7030, .string t7031, .string t7032], .string t7033] (by rfl) rfl rfl (by (try simp only [List.map_toArray, List.map_cons, List.map_nil]); first | done | rfl | (simp only [List.length_drop, List.length_take]; rfl)) ?_
           with_reducible refine (impl_FormatValues.calls k2 t7030 t7031 t7032 t7033 t7041 _ A90.out).mono ?_
           rintro e w111 ⟨rfl, hb⟩
           refine ⟨_, rfl, ?_⟩
           have n0_ := Aside0.mk (blk_below (g := gb7006) (o := .cells #[.string t7003, .string t7004, .string t7005] 84 (0, 0)) (by (with_reducible repeat (first | refine blk_drewN ?_ _ | refine blk_drew ?_ | refine blk_alloc ?_ _)); exact BK7006.out) hb)
           have n1_ := Aside0.mk (blk_below (g := gb7025) (o := .cells #[.string t7020, .string t7021, .string t7022] 84 (0, 0)) (by (with_reducible repeat (first | refine blk_drewN ?_ _ | refine blk_drew ?_ | refine blk_alloc ?_ _)); exact BK7025.out) hb)
           have n2_ := Aside0.mk (blk_below (g := gb7029) (o := .cells #[.string t7026, .string t7027, .string t7028] 84 (0, 0)) (by (with_reducible repeat (first | refine blk_drewN ?_ _ | refine blk_drew ?_ | refine blk_alloc ?_ _)); exact BK7029.out) hb)
           have n3_ := Aside0.mk (blk_below (g := gb7034) (o := .cells #[.string t7030, .string t7031, .string t7032] 84 (0, 0)) (by (with_reducible repeat (first | refine blk_drewN ?_ _ | refine blk_drew ?_ | refine blk_alloc ?_ _)); exact BK7034.out) hb)
           have n4_ := Aside0.mk (below_step (by repeat (first | (with_reducible first | exact HB.out | apply below_alloc | apply pw_below_drewN | apply below_drew1 | refine below_set ?_ GE7006.out | refine below_set ?_ GE7025.out | refine below_set ?_ GE7029.out | refine below_set ?_ GE7034.out) | exact HB.out)) hb)
           clear BK7006
           clear BK7025
           clear BK7029
           clear BK7034
           clear HB
           have BK7006 := n0_
           have BK7025 := n1_
           have BK7029 := n2_
           have BK7034 := n3_
           have HB := n4_
           clear n0_ n1_ n2_ n3_ n4_
           (try clear hb)
           (try clear hb2)
           (try clear hk)
           (try clear hi)
           refine hK.out _ _ ⟨(blk_cell BK7029.out 0).trans rfl, (blk_cell BK7029.out 1).trans rfl, (blk_cell BK7029.out 2).trans rfl, (blk_cell BK7025.out 0).trans rfl, (blk_cell BK7025.out 1).trans rfl, (blk_cell BK7025.out 2).trans rfl, (blk_cell BK7034.out 0).trans rfl, (blk_cell BK7034.out 1).trans rfl, (blk_cell BK7034.out 2).trans rfl⟩ (fun hHeld => ?_)
           clear hK K
           refine norm_ (a' := ?_) ?_ ?_
           rotate_left
           ·show Act.put _ (some 112) _ = _
            simp only [Act.put, List.setIfInBounds_toArray, List.set_cons_zero, List.set_cons_succ, i64_w, i32_w]
            rfl
           refine one_ (i := 23) (N := some 115) #[true, true, true, true, true, true, true, true, true, true, true, true, true, true, true, true, true, true, true, true, true, true, true, true, false, false, false] rfl rfl (one_of HT_.out (by kernel_rfl)) (by decide) (fun K hK => ?_)
           refine goes_ Try.func60 (by kernel_rfl) rfl #[.agg #[.string t7030, .string t7031, .string t7032], .string t7033] (by rfl) rfl rfl (by (try simp only [List.map_toArray, List.map_cons, List.map_nil]); first | done | rfl | (simp only [List.length_drop, List.length_take]; rfl)) ?_
           with_reducible refine (spec_FormatValues.calls k2 t7030 t7031 t7032 t7033 t7042 _ A91.out).mono ?_
           rintro e w112 ⟨rfl, hb⟩
           refine ⟨_, rfl, ?_⟩
           have n0_ := Aside0.mk (blk_below (g := gb7006) (o := .cells #[.string t7003, .string t7004, .string t7005] 84 (0, 0)) (by (with_reducible repeat (first | refine blk_drewN ?_ _ | refine blk_drew ?_ | refine blk_alloc ?_ _)); exact BK7006.out) hb)
           have n1_ := Aside0.mk (blk_below (g := gb7025) (o := .cells #[.string t7020, .string t7021, .string t7022] 84 (0, 0)) (by (with_reducible repeat (first | refine blk_drewN ?_ _ | refine blk_drew ?_ | refine blk_alloc ?_ _)); exact BK7025.out) hb)
           have n2_ := Aside0.mk (blk_below (g := gb7029) (o := .cells #[.string t7026, .string t7027, .string t7028] 84 (0, 0)) (by (with_reducible repeat (first | refine blk_drewN ?_ _ | refine blk_drew ?_ | refine blk_alloc ?_ _)); exact BK7029.out) hb)
           have n3_ := Aside0.mk (blk_below (g := gb7034) (o := .cells #[.string t7030, .string t7031, .string t7032] 84 (0, 0)) (by (with_reducible repeat (first | refine blk_drewN ?_ _ | refine blk_drew ?_ | refine blk_alloc ?_ _)); exact BK7034.out) hb)
           have n4_ := Aside0.mk (below_step (by repeat (first | (with_reducible first | exact HB.out | apply below_alloc | apply pw_below_drewN | apply below_drew1 | refine below_set ?_ GE7006.out | refine below_set ?_ GE7025.out | refine below_set ?_ GE7029.out | refine below_set ?_ GE7034.out) | exact HB.out)) hb)
           clear BK7006
           clear BK7025
           clear BK7029
           clear BK7034
           clear HB
           have BK7006 := n0_
           have BK7025 := n1_
           have BK7029 := n2_
           have BK7034 := n3_
           have HB := n4_
           clear n0_ n1_ n2_ n3_ n4_
           (try clear hb)
           (try clear hb2)
           (try clear hk)
           (try clear hi)
           refine hK.out _ _ ⟨(blk_cell BK7029.out 0).trans rfl, (blk_cell BK7029.out 1).trans rfl, (blk_cell BK7029.out 2).trans rfl, (blk_cell BK7025.out 0).trans rfl, (blk_cell BK7025.out 1).trans rfl, (blk_cell BK7025.out 2).trans rfl, (blk_cell BK7034.out 0).trans rfl, (blk_cell BK7034.out 1).trans rfl, (blk_cell BK7034.out 2).trans rfl⟩ (fun hHeld => ?_)
           clear hK K
           refine norm_ (a' := ?_) ?_ ?_
           rotate_left
           ·show Act.put _ (some 115) _ = _
            simp only [Act.put, List.setIfInBounds_toArray, List.set_cons_zero, List.set_cons_succ, i64_w, i32_w]
            rfl
           refine pure_ (i := 24) (N := some 116) (v := ?_) (a' := ?_) #[true, true, true, true, true, true, true, true, true, true, true, true, true, true, true, true, true, true, true, true, true, true, true, true, true, false, false] rfl rfl (any_of HT_.out (by kernel_rfl)) (fun _ _ _ h => h) (Or.inl ⟨by rfl, ?_⟩) ?_ ?_
           rotate_left
           ·intro w'
            go_simp
            first | with_reducible rfl | (rw [if_neg (by omega)]; done) | (rw [if_neg (by (try simp only [decide_eq_true_eq, decide_eq_false_iff_not, eq_iff_iff, iff_true, iff_false] at *); (try simp only [ByteArray.size_extract, ByteArray.size_append, show (⟨#[97, 98, 99]⟩ : ByteArray).size = 3 from rfl, show (⟨#[88, 89, 90]⟩ : ByteArray).size = 3 from rfl, show (⟨#[61]⟩ : ByteArray).size = 1 from rfl] at *); omega)]; done)
           rotate_left
           ·simp only [Act.put, List.setIfInBounds_toArray, List.set_cons_zero, List.set_cons_succ, i64_w, i32_w]
            rfl
           refine pure_ (i := 25) (N := some 117) (v := ?_) (a' := ?_) #[true, true, true, true, true, true, true, true, true, true, true, true, true, true, true, true, true, true, true, true, true, true, true, true, true, true, false] rfl rfl (any_of HT_.out (by kernel_rfl)) (fun _ _ _ h => h) (Or.inl ⟨by rfl, ?_⟩) ?_ ?_
           rotate_left
           ·intro w'
            go_simp
            first | with_reducible rfl | (rw [if_neg (by omega)]; done) | (rw [if_neg (by (try simp only [decide_eq_true_eq, decide_eq_false_iff_not, eq_iff_iff, iff_true, iff_false] at *); (try simp only [ByteArray.size_extract, ByteArray.size_append, show (⟨#[97, 98, 99]⟩ : ByteArray).size = 3 from rfl, show (⟨#[88, 89, 90]⟩ : ByteArray).size = 3 from rfl, show (⟨#[61]⟩ : ByteArray).size = 1 from rfl] at *); omega)]; done)
           rotate_left
           ·simp only [Act.put, List.setIfInBounds_toArray, List.set_cons_zero, List.set_cons_succ, i64_w, i32_w]
            rfl
           refine pure_ (i := 26) (N := some 2) (v := ?_) (a' := ?_) #[true, true, true, true, true, true, true, true, true, true, true, true, true, true, true, true, true, true, true, true, true, true, true, true, true, true, true] rfl rfl (any_of HT_.out (by kernel_rfl)) (fun _ _ _ h => h) (Or.inl ⟨by rfl, ?_⟩) ?_ ?_
           rotate_left
           ·intro w'
            go_simp
            first | with_reducible rfl | (rw [if_neg (by omega)]; done) | (rw [if_neg (by (try simp only [decide_eq_true_eq, decide_eq_false_iff_not, eq_iff_iff, iff_true, iff_false] at *); (try simp only [ByteArray.size_extract, ByteArray.size_append, show (⟨#[97, 98, 99]⟩ : ByteArray).size = 3 from rfl, show (⟨#[88, 89, 90]⟩ : ByteArray).size = 3 from rfl, show (⟨#[61]⟩ : ByteArray).size = 1 from rfl] at *); omega)]; done)
           rotate_left
           ·simp only [Act.put, List.setIfInBounds_toArray, List.set_cons_zero, List.set_cons_succ, i64_w, i32_w]
            rfl
           refine done_ (done_of HT_.out (by kernel_rfl)) ?_
           try go_wp2
           go_ret
           exact ⟨by first | rfl | (simp [errW_none, errW_some] <;> rfl) | (simp [*, errW_none, errW_some] <;> rfl), by repeat (first | (with_reducible first | exact HB.out | apply below_alloc | apply pw_below_drewN | apply below_drew1 | refine below_set ?_ GE7006.out | refine below_set ?_ GE7025.out | refine below_set ?_ GE7029.out | refine below_set ?_ GE7034.out) | exact HB.out)⟩
          ·rw [if_neg c89] at H
           have c89b0 : (t7040.toList == t7024.toList) = false := beq_eq_false_iff_ne.mpr c89
           have c89b1 : (t7040.toList != t7024.toList) = true := bne_iff_ne.mpr c89
           obtain rfl := Option.some.inj H
           try go_wp2_with (first | ((with_reducible refine gate_callee (f := 55) rfl ?_); refine goesL_ (some 79) rfl rfl Try.func55 (by kernel_rfl) rfl #[.slice A0 l0.length c0] rfl (by (try simp only [List.map_toArray, List.map_cons, List.map_nil]); first | done | rfl | (simp only [List.length_drop, List.length_take]; rfl)) ?_; (with_reducible refine (spec_DrawWithValue.calls k2 _ _ l0 t7020 t7021 t7022 t7023 t7024 _ ?side1 ?side2 A60.out).mono ?_); (case side1 => repeat (first | exact (Kd.C_below HR0.out HB.out) | (with_reducible refine Kd.C_alloc ?_ _) | (with_reducible refine Kd.C_drewN ?_ _) | (with_reducible refine Kd.C_drew ?_))); (case side2 => exact HC0.out); rintro e w113 ⟨rfl, hb⟩; refine ⟨_, rfl, ?_⟩; have n0_ := Aside0.mk (blk_below (g := gb7006) (o := .cells #[.string t7003, .string t7004, .string t7005] 84 (0, 0)) (by (with_reducible repeat (first | refine blk_drewN ?_ _ | refine blk_drew ?_ | refine blk_alloc ?_ _)); exact BK7006.out) hb); have n1_ := Aside0.mk (below_step (by repeat (first | (with_reducible first | exact HB.out | apply below_alloc | apply pw_below_drewN | apply below_drew1 | refine below_set ?_ GE7006.out) | exact HB.out)) hb); clear BK7006; clear HB; have BK7006 := n0_; have HB := n1_; clear n0_ n1_; (try clear hb); (try clear hb2); (try clear hk); (try clear hi)) | ((with_reducible refine gate_dst (N := 9) rfl ?_); refine box_event ?hg (N := 9) ?hd (cs := #[.string (⟨#[]⟩ : ByteArray), .string (⟨#[]⟩ : ByteArray), .string (⟨#[]⟩ : ByteArray)]) (t := 84) ?hr ?_; (case hd => rfl); (case hg => rfl); (case hr => first | (go_simp; done) | (go_simp; rfl)); intro gb7025 hg w114 hbox hb; have n0_ := Aside0.mk (blk_below (g := gb7006) (o := .cells #[.string t7003, .string t7004, .string t7005] 84 (0, 0)) (by (with_reducible repeat (first | refine blk_drewN ?_ _ | refine blk_drew ?_ | refine blk_alloc ?_ _)); exact BK7006.out) hb); have n1_ := Aside0.mk (below_step (by repeat (first | (with_reducible first | exact HB.out | apply below_alloc | apply pw_below_drewN | apply below_drew1 | refine below_set ?_ GE7006.out) | exact HB.out)) hb); have n2_ := Aside0.mk (hbox); have n3_ := Aside0.mk ((by rw [hg]; exact (below_size (by repeat (first | (with_reducible first | exact HB.out | apply below_alloc | apply pw_below_drewN | apply below_drew1 | refine below_set ?_ GE7006.out) | exact HB.out))) : w.heap.size ≤ gb7025)); have n4_ := Aside0.mk ((by rw [hg]; exact (below_size (by repeat (first | (with_reducible first | exact HB.out | apply below_alloc | apply pw_below_drewN | apply below_drew1 | refine below_set ?_ GE7006.out) | exact HB.out))) : w.heap.size ≤ gb7025)); have n5_ := Aside0.mk ((by rw [hg]; exact Nat.ne_of_lt (blk_lt (g := gb7006) (o := .cells #[.string t7003, .string t7004, .string t7005] 84 (0, 0)) (by (with_reducible repeat (first | refine blk_drewN ?_ _ | refine blk_drew ?_ | refine blk_alloc ?_ _)); exact BK7006.out)) : gb7006 ≠ gb7025)); have n6_ := Aside0.mk ((by rw [hg]; exact Nat.ne_of_gt (blk_lt (g := gb7006) (o := .cells #[.string t7003, .string t7004, .string t7005] 84 (0, 0)) (by (with_reducible repeat (first | refine blk_drewN ?_ _ | refine blk_drew ?_ | refine blk_alloc ?_ _)); exact BK7006.out)) : gb7025 ≠ gb7006)); clear BK7006; clear HB; have BK7006 := n0_; have HB := n1_; have BK7025 := n2_; have GW7025 := n3_; have GE7025 := n4_; have NB7006_7025 := n5_; have NB7025_7006 := n6_; clear n0_ n1_ n2_ n3_ n4_ n5_ n6_; clear hb hbox hg; have hnb115 := NB7025_7006.out; have hnc115 := NB7006_7025.out; have hcz116_0 : w114.cell? ⟨gb7025, 0, none⟩ = some (.string (⟨#[]⟩ : ByteArray)) := (blk_cell BK7025.out 0).trans rfl; have hcz116_1 : w114.cell? ⟨gb7025, 1, none⟩ = some (.string (⟨#[]⟩ : ByteArray)) := (blk_cell BK7025.out 1).trans rfl; have hcz116_2 : w114.cell? ⟨gb7025, 2, none⟩ = some (.string (⟨#[]⟩ : ByteArray)) := (blk_cell BK7025.out 2).trans rfl; have hfz116_0 := blk_frozen BK7025.out 0; have hfz116_1 := blk_frozen BK7025.out 1; have hfz116_2 := blk_frozen BK7025.out 2) | ((with_reducible refine gate_callee (f := 56) rfl ?_); refine goesL_ (some 86) rfl rfl Try.func56 (by kernel_rfl) rfl #[.agg #[.string t7020, .string t7021, .string t7022], .int .u8 t7023, .string t7024] rfl (by (try simp only [List.map_toArray, List.map_cons, List.map_nil]); first | done | rfl | (simp only [List.length_drop, List.length_take]; rfl)) ?_; (with_reducible refine (impl_WithValue.calls t7020 t7021 t7022 t7023 t7024 t7026 t7027 t7028 _ A61.out).mono ?_); rintro e w117 ⟨rfl, hb⟩; refine ⟨_, rfl, ?_⟩; have n0_ := Aside0.mk (blk_below (g := gb7006) (o := .cells #[.string t7003, .string t7004, .string t7005] 84 (0, 0)) (by (with_reducible repeat (first | refine blk_drewN ?_ _ | refine blk_drew ?_ | refine blk_alloc ?_ _)); refine blk_far ?_ NB7006_7025.out _; (with_reducible repeat (first | refine blk_drewN ?_ _ | refine blk_drew ?_ | refine blk_alloc ?_ _)); refine blk_far ?_ NB7006_7025.out _; (with_reducible repeat (first | refine blk_drewN ?_ _ | refine blk_drew ?_ | refine blk_alloc ?_ _)); refine blk_far ?_ NB7006_7025.out _; (with_reducible repeat (first | refine blk_drewN ?_ _ | refine blk_drew ?_ | refine blk_alloc ?_ _)); exact BK7006.out) hb); have n1_ := Aside0.mk (blk_below (g := gb7025) (o := .cells #[.string t7020, .string t7021, .string t7022] 84 (0, 0)) (by (with_reducible repeat (first | refine blk_drewN ?_ _ | refine blk_drew ?_ | refine blk_alloc ?_ _)); refine blk_put (cs := #[.string t7020, .string t7021, .string (⟨#[]⟩ : ByteArray)]) ?_ 2 _ rfl; (with_reducible repeat (first | refine blk_drewN ?_ _ | refine blk_drew ?_ | refine blk_alloc ?_ _)); refine blk_put (cs := #[.string t7020, .string (⟨#[]⟩ : ByteArray), .string (⟨#[]⟩ : ByteArray)]) ?_ 1 _ rfl; (with_reducible repeat (first | refine blk_drewN ?_ _ | refine blk_drew ?_ | refine blk_alloc ?_ _)); refine blk_put (cs := #[.string (⟨#[]⟩ : ByteArray), .string (⟨#[]⟩ : ByteArray), .string (⟨#[]⟩ : ByteArray)]) ?_ 0 _ rfl; (with_reducible repeat (first | refine blk_drewN ?_ _ | refine blk_drew ?_ | refine blk_alloc ?_ _)); exact BK7025.out) hb); have n2_ := Aside0.mk (below_step (by repeat (first | (with_reducible first | exact HB.out | apply below_alloc | apply pw_below_drewN | apply below_drew1 | refine below_set ?_ GE7006.out | refine below_set ?_ GE7025.out) | exact HB.out)) hb); clear BK7006; clear BK7025; clear HB; have BK7006 := n0_; have BK7025 := n1_; have HB := n2_; clear n0_ n1_ n2_; (try clear hb); (try clear hb2); (try clear hk); (try clear hi)) | ((with_reducible refine gate_dst (N := 12) rfl ?_); refine box_event ?hg (N := 12) ?hd (cs := #[.string (⟨#[]⟩ : ByteArray), .string (⟨#[]⟩ : ByteArray), .string (⟨#[]⟩ : ByteArray)]) (t := 84) ?hr ?_; (case hd => rfl); (case hg => rfl); (case hr => first | (go_simp; done) | (go_simp; rfl)); intro gb7029 hg w118 hbox hb; have n0_ := Aside0.mk (blk_below (g := gb7006) (o := .cells #[.string t7003, .string t7004, .string t7005] 84 (0, 0)) (by (with_reducible repeat (first | refine blk_drewN ?_ _ | refine blk_drew ?_ | refine blk_alloc ?_ _)); exact BK7006.out) hb); have n1_ := Aside0.mk (blk_below (g := gb7025) (o := .cells #[.string t7020, .string t7021, .string t7022] 84 (0, 0)) (by (with_reducible repeat (first | refine blk_drewN ?_ _ | refine blk_drew ?_ | refine blk_alloc ?_ _)); exact BK7025.out) hb); have n2_ := Aside0.mk (below_step (by repeat (first | (with_reducible first | exact HB.out | apply below_alloc | apply pw_below_drewN | apply below_drew1 | refine below_set ?_ GE7006.out | refine below_set ?_ GE7025.out) | exact HB.out)) hb); have n3_ := Aside0.mk (hbox); have n4_ := Aside0.mk ((by rw [hg]; exact (below_size (by repeat (first | (with_reducible first | exact HB.out | apply below_alloc | apply pw_below_drewN | apply below_drew1 | refine below_set ?_ GE7006.out | refine below_set ?_ GE7025.out) | exact HB.out))) : w.heap.size ≤ gb7029)); have n5_ := Aside0.mk ((by rw [hg]; exact (below_size (by repeat (first | (with_reducible first | exact HB.out | apply below_alloc | apply pw_below_drewN | apply below_drew1 | refine below_set ?_ GE7006.out | refine below_set ?_ GE7025.out) | exact HB.out))) : w.heap.size ≤ gb7029)); have n6_ := Aside0.mk ((by rw [hg]; exact Nat.ne_of_lt (blk_lt (g := gb7006) (o := .cells #[.string t7003, .string t7004, .string t7005] 84 (0, 0)) (by (with_reducible repeat (first | refine blk_drewN ?_ _ | refine blk_drew ?_ | refine blk_alloc ?_ _)); exact BK7006.out)) : gb7006 ≠ gb7029)); have n7_ := Aside0.mk ((by rw [hg]; exact Nat.ne_of_gt (blk_lt (g := gb7006) (o := .cells #[.string t7003, .string t7004, .string t7005] 84 (0, 0)) (by (with_reducible repeat (first | refine blk_drewN ?_ _ | refine blk_drew ?_ | refine blk_alloc ?_ _)); exact BK7006.out)) : gb7029 ≠ gb7006)); have n8_ := Aside0.mk ((by rw [hg]; exact Nat.ne_of_lt (blk_lt (g := gb7025) (o := .cells #[.string t7020, .string t7021, .string t7022] 84 (0, 0)) (by (with_reducible repeat (first | refine blk_drewN ?_ _ | refine blk_drew ?_ | refine blk_alloc ?_ _)); exact BK7025.out)) : gb7025 ≠ gb7029)); have n9_ := Aside0.mk ((by rw [hg]; exact Nat.ne_of_gt (blk_lt (g := gb7025) (o := .cells #[.string t7020, .string t7021, .string t7022] 84 (0, 0)) (by (with_reducible repeat (first | refine blk_drewN ?_ _ | refine blk_drew ?_ | refine blk_alloc ?_ _)); exact BK7025.out)) : gb7029 ≠ gb7025)); clear BK7006; clear BK7025; clear HB; have BK7006 := n0_; have BK7025 := n1_; have HB := n2_; have BK7029 := n3_; have GW7029 := n4_; have GE7029 := n5_; have NB7006_7029 := n6_; have NB7029_7006 := n7_; have NB7025_7029 := n8_; have NB7029_7025 := n9_; clear n0_ n1_ n2_ n3_ n4_ n5_ n6_ n7_ n8_ n9_; clear hb hbox hg; have hnb119 := NB7029_7006.out; have hnc119 := NB7006_7029.out; have hnb120 := NB7029_7025.out; have hnc120 := NB7025_7029.out; have hcz121_0 : w118.cell? ⟨gb7029, 0, none⟩ = some (.string (⟨#[]⟩ : ByteArray)) := (blk_cell BK7029.out 0).trans rfl; have hcz121_1 : w118.cell? ⟨gb7029, 1, none⟩ = some (.string (⟨#[]⟩ : ByteArray)) := (blk_cell BK7029.out 1).trans rfl; have hcz121_2 : w118.cell? ⟨gb7029, 2, none⟩ = some (.string (⟨#[]⟩ : ByteArray)) := (blk_cell BK7029.out 2).trans rfl; have hfz121_0 := blk_frozen BK7029.out 0; have hfz121_1 := blk_frozen BK7029.out 1; have hfz121_2 := blk_frozen BK7029.out 2) | ((with_reducible refine gate_callee (f := 57) rfl ?_); refine goesL_ (some 89) rfl rfl Try.func57 (by kernel_rfl) rfl #[.slice A0 l0.length c0] rfl (by (try simp only [List.map_toArray, List.map_cons, List.map_nil]); first | done | rfl | (simp only [List.length_drop, List.length_take]; rfl)) ?_; (with_reducible refine (spec_DrawFormatValues.calls k2 _ _ l0 t7030 t7031 t7032 t7033 _ ?side1 ?side2 A62.out).mono ?_); (case side1 => exact Kd.C_below HR0.out (by repeat (first | (with_reducible first | exact HB.out | apply below_alloc | apply pw_below_drewN | apply below_drew1 | refine below_set ?_ GE7006.out | refine below_set ?_ GE7025.out | refine below_set ?_ GE7029.out) | exact HB.out))); (case side2 => exact HC0.out); rintro e w122 ⟨rfl, hb⟩; refine ⟨_, rfl, ?_⟩; have n0_ := Aside0.mk (blk_below (g := gb7006) (o := .cells #[.string t7003, .string t7004, .string t7005] 84 (0, 0)) (by (with_reducible repeat (first | refine blk_drewN ?_ _ | refine blk_drew ?_ | refine blk_alloc ?_ _)); refine blk_far ?_ NB7006_7029.out _; (with_reducible repeat (first | refine blk_drewN ?_ _ | refine blk_drew ?_ | refine blk_alloc ?_ _)); refine blk_far ?_ NB7006_7029.out _; (with_reducible repeat (first | refine blk_drewN ?_ _ | refine blk_drew ?_ | refine blk_alloc ?_ _)); refine blk_far ?_ NB7006_7029.out _; (with_reducible repeat (first | refine blk_drewN ?_ _ | refine blk_drew ?_ | refine blk_alloc ?_ _)); exact BK7006.out) hb); have n1_ := Aside0.mk (blk_below (g := gb7025) (o := .cells #[.string t7020, .string t7021, .string t7022] 84 (0, 0)) (by (with_reducible repeat (first | refine blk_drewN ?_ _ | refine blk_drew ?_ | refine blk_alloc ?_ _)); refine blk_far ?_ NB7025_7029.out _; (with_reducible repeat (first | refine blk_drewN ?_ _ | refine blk_drew ?_ | refine blk_alloc ?_ _)); refine blk_far ?_ NB7025_7029.out _; (with_reducible repeat (first | refine blk_drewN ?_ _ | refine blk_drew ?_ | refine blk_alloc ?_ _)); refine blk_far ?_ NB7025_7029.out _; (with_reducible repeat (first | refine blk_drewN ?_ _ | refine blk_drew ?_ | refine blk_alloc ?_ _)); exact BK7025.out) hb); have n2_ := Aside0.mk (blk_below (g := gb7029) (o := .cells #[.string t7026, .string t7027, .string t7028] 84 (0, 0)) (by (with_reducible repeat (first | refine blk_drewN ?_ _ | refine blk_drew ?_ | refine blk_alloc ?_ _)); refine blk_put (cs := #[.string t7026, .string t7027, .string (⟨#[]⟩ : ByteArray)]) ?_ 2 _ rfl; (with_reducible repeat (first | refine blk_drewN ?_ _ | refine blk_drew ?_ | refine blk_alloc ?_ _)); refine blk_put (cs := #[.string t7026, .string (⟨#[]⟩ : ByteArray), .string (⟨#[]⟩ : ByteArray)]) ?_ 1 _ rfl; (with_reducible repeat (first | refine blk_drewN ?_ _ | refine blk_drew ?_ | refine blk_alloc ?_ _)); refine blk_put (cs := #[.string (⟨#[]⟩ : ByteArray), .string (⟨#[]⟩ : ByteArray), .string (⟨#[]⟩ : ByteArray)]) ?_ 0 _ rfl; (with_reducible repeat (first | refine blk_drewN ?_ _ | refine blk_drew ?_ | refine blk_alloc ?_ _)); exact BK7029.out) hb); have n3_ := Aside0.mk (below_step (by repeat (first | (with_reducible first | exact HB.out | apply below_alloc | apply pw_below_drewN | apply below_drew1 | refine below_set ?_ GE7006.out | refine below_set ?_ GE7025.out | refine below_set ?_ GE7029.out) | exact HB.out)) hb); clear BK7006; clear BK7025; clear BK7029; clear HB; have BK7006 := n0_; have BK7025 := n1_; have BK7029 := n2_; have HB := n3_; clear n0_ n1_ n2_ n3_; (try clear hb); (try clear hb2); (try clear hk); (try clear hi)) | ((with_reducible refine gate_dst (N := 13) rfl ?_); refine box_event ?hg (N := 13) ?hd (cs := #[.string (⟨#[]⟩ : ByteArray), .string (⟨#[]⟩ : ByteArray), .string (⟨#[]⟩ : ByteArray)]) (t := 84) ?hr ?_; (case hd => rfl); (case hg => rfl); (case hr => first | (go_simp; done) | (go_simp; rfl)); intro gb7034 hg w123 hbox hb; have n0_ := Aside0.mk (blk_below (g := gb7006) (o := .cells #[.string t7003, .string t7004, .string t7005] 84 (0, 0)) (by (with_reducible repeat (first | refine blk_drewN ?_ _ | refine blk_drew ?_ | refine blk_alloc ?_ _)); exact BK7006.out) hb); have n1_ := Aside0.mk (blk_below (g := gb7025) (o := .cells #[.string t7020, .string t7021, .string t7022] 84 (0, 0)) (by (with_reducible repeat (first | refine blk_drewN ?_ _ | refine blk_drew ?_ | refine blk_alloc ?_ _)); exact BK7025.out) hb); have n2_ := Aside0.mk (blk_below (g := gb7029) (o := .cells #[.string t7026, .string t7027, .string t7028] 84 (0, 0)) (by (with_reducible repeat (first | refine blk_drewN ?_ _ | refine blk_drew ?_ | refine blk_alloc ?_ _)); exact BK7029.out) hb); have n3_ := Aside0.mk (below_step (by repeat (first | (with_reducible first | exact HB.out | apply below_alloc | apply pw_below_drewN | apply below_drew1 | refine below_set ?_ GE7006.out | refine below_set ?_ GE7025.out | refine below_set ?_ GE7029.out) | exact HB.out)) hb); have n4_ := Aside0.mk (hbox); have n5_ := Aside0.mk ((by rw [hg]; exact (below_size (by repeat (first | (with_reducible first | exact HB.out | apply below_alloc | apply pw_below_drewN | apply below_drew1 | refine below_set ?_ GE7006.out | refine below_set ?_ GE7025.out | refine below_set ?_ GE7029.out) | exact HB.out))) : w.heap.size ≤ gb7034)); have n6_ := Aside0.mk ((by rw [hg]; exact (below_size (by repeat (first | (with_reducible first | exact HB.out | apply below_alloc | apply pw_below_drewN | apply below_drew1 | refine below_set ?_ GE7006.out | refine below_set ?_ GE7025.out | refine below_set ?_ GE7029.out) | exact HB.out))) : w.heap.size ≤ gb7034)); have n7_ := Aside0.mk ((by rw [hg]; exact Nat.ne_of_lt (blk_lt (g := gb7006) (o := .cells #[.string t7003, .string t7004, .string t7005] 84 (0, 0)) (by (with_reducible repeat (first | refine blk_drewN ?_ _ | refine blk_drew ?_ | refine blk_alloc ?_ _)); exact BK7006.out)) : gb7006 ≠ gb7034)); have n8_ := Aside0.mk ((by rw [hg]; exact Nat.ne_of_gt (blk_lt (g := gb7006) (o := .cells #[.string t7003, .string t7004, .string t7005] 84 (0, 0)) (by (with_reducible repeat (first | refine blk_drewN ?_ _ | refine blk_drew ?_ | refine blk_alloc ?_ _)); exact BK7006.out)) : gb7034 ≠ gb7006)); have n9_ := Aside0.mk ((by rw [hg]; exact Nat.ne_of_lt (blk_lt (g := gb7025) (o := .cells #[.string t7020, .string t7021, .string t7022] 84 (0, 0)) (by (with_reducible repeat (first | refine blk_drewN ?_ _ | refine blk_drew ?_ | refine blk_alloc ?_ _)); exact BK7025.out)) : gb7025 ≠ gb7034)); have n10_ := Aside0.mk ((by rw [hg]; exact Nat.ne_of_gt (blk_lt (g := gb7025) (o := .cells #[.string t7020, .string t7021, .string t7022] 84 (0, 0)) (by (with_reducible repeat (first | refine blk_drewN ?_ _ | refine blk_drew ?_ | refine blk_alloc ?_ _)); exact BK7025.out)) : gb7034 ≠ gb7025)); have n11_ := Aside0.mk ((by rw [hg]; exact Nat.ne_of_lt (blk_lt (g := gb7029) (o := .cells #[.string t7026, .string t7027, .string t7028] 84 (0, 0)) (by (with_reducible repeat (first | refine blk_drewN ?_ _ | refine blk_drew ?_ | refine blk_alloc ?_ _)); exact BK7029.out)) : gb7029 ≠ gb7034)); have n12_ := Aside0.mk ((by rw [hg]; exact Nat.ne_of_gt (blk_lt (g := gb7029) (o := .cells #[.string t7026, .string t7027, .string t7028] 84 (0, 0)) (by (with_reducible repeat (first | refine blk_drewN ?_ _ | refine blk_drew ?_ | refine blk_alloc ?_ _)); exact BK7029.out)) : gb7034 ≠ gb7029)); clear BK7006; clear BK7025; clear BK7029; clear HB; have BK7006 := n0_; have BK7025 := n1_; have BK7029 := n2_; have HB := n3_; have BK7034 := n4_; have GW7034 := n5_; have GE7034 := n6_; have NB7006_7034 := n7_; have NB7034_7006 := n8_; have NB7025_7034 := n9_; have NB7034_7025 := n10_; have NB7029_7034 := n11_; have NB7034_7029 := n12_; clear n0_ n1_ n2_ n3_ n4_ n5_ n6_ n7_ n8_ n9_ n10_ n11_ n12_; clear hb hbox hg; have hnb124 := NB7034_7006.out; have hnc124 := NB7006_7034.out; have hnb125 := NB7034_7025.out; have hnc125 := NB7025_7034.out; have hnb126 := NB7034_7029.out; have hnc126 := NB7029_7034.out; have hcz127_0 : w123.cell? ⟨gb7034, 0, none⟩ = some (.string (⟨#[]⟩ : ByteArray)) := (blk_cell BK7034.out 0).trans rfl; have hcz127_1 : w123.cell? ⟨gb7034, 1, none⟩ = some (.string (⟨#[]⟩ : ByteArray)) := (blk_cell BK7034.out 1).trans rfl; have hcz127_2 : w123.cell? ⟨gb7034, 2, none⟩ = some (.string (⟨#[]⟩ : ByteArray)) := (blk_cell BK7034.out 2).trans rfl; have hfz127_0 := blk_frozen BK7034.out 0; have hfz127_1 := blk_frozen BK7034.out 1; have hfz127_2 := blk_frozen BK7034.out 2))
           have n0_ : Aside0 ((((w123.setCell ⟨gb7034, 0, none⟩ (.string t7030)).setCell ⟨gb7034, 1, none⟩ (.string t7031)).setCell ⟨gb7034, 2, none⟩ (.string t7032)).heap[gb7006]? = some (.cells #[.string t7003, .string t7004, .string t7005] 84 (0, 0))) := ⟨by (with_reducible repeat (first | refine blk_drewN ?_ _ | refine blk_drew ?_ | refine blk_alloc ?_ _)); refine blk_far ?_ NB7006_7034.out _; (with_reducible repeat (first | refine blk_drewN ?_ _ | refine blk_drew ?_ | refine blk_alloc ?_ _)); refine blk_far ?_ NB7006_7034.out _; (with_reducible repeat (first | refine blk_drewN ?_ _ | refine blk_drew ?_ | refine blk_alloc ?_ _)); refine blk_far ?_ NB7006_7034.out _; (with_reducible repeat (first | refine blk_drewN ?_ _ | refine blk_drew ?_ | refine blk_alloc ?_ _)); exact BK7006.out⟩
           have n1_ : Aside0 ((((w123.setCell ⟨gb7034, 0, none⟩ (.string t7030)).setCell ⟨gb7034, 1, none⟩ (.string t7031)).setCell ⟨gb7034, 2, none⟩ (.string t7032)).heap[gb7025]? = some (.cells #[.string t7020, .string t7021, .string t7022] 84 (0, 0))) := ⟨by (with_reducible repeat (first | refine blk_drewN ?_ _ | refine blk_drew ?_ | refine blk_alloc ?_ _)); refine blk_far ?_ NB7025_7034.out _; (with_reducible repeat (first | refine blk_drewN ?_ _ | refine blk_drew ?_ | refine blk_alloc ?_ _)); refine blk_far ?_ NB7025_7034.out _; (with_reducible repeat (first | refine blk_drewN ?_ _ | refine blk_drew ?_ | refine blk_alloc ?_ _)); refine blk_far ?_ NB7025_7034.out _; (with_reducible repeat (first | refine blk_drewN ?_ _ | refine blk_drew ?_ | refine blk_alloc ?_ _)); exact BK7025.out⟩
           have n2_ : Aside0 ((((w123.setCell ⟨gb7034, 0, none⟩ (.string t7030)).setCell ⟨gb7034, 1, none⟩ (.string t7031)).setCell ⟨gb7034, 2, none⟩ (.string t7032)).heap[gb7029]? = some (.cells #[.string t7026, .string t7027, .string t7028] 84 (0, 0))) := ⟨by (with_reducible repeat (first | refine blk_drewN ?_ _ | refine blk_drew ?_ | refine blk_alloc ?_ _)); refine blk_far ?_ NB7029_7034.out _; (with_reducible repeat (first | refine blk_drewN ?_ _ | refine blk_drew ?_ | refine blk_alloc ?_ _)); refine blk_far ?_ NB7029_7034.out _; (with_reducible repeat (first | refine blk_drewN ?_ _ | refine blk_drew ?_ | refine blk_alloc ?_ _)); refine blk_far ?_ NB7029_7034.out _; (with_reducible repeat (first | refine blk_drewN ?_ _ | refine blk_drew ?_ | refine blk_alloc ?_ _)); exact BK7029.out⟩
           have n3_ : Aside0 ((((w123.setCell ⟨gb7034, 0, none⟩ (.string t7030)).setCell ⟨gb7034, 1, none⟩ (.string t7031)).setCell ⟨gb7034, 2, none⟩ (.string t7032)).heap[gb7034]? = some (.cells #[.string t7030, .string t7031, .string t7032] 84 (0, 0))) := ⟨by (with_reducible repeat (first | refine blk_drewN ?_ _ | refine blk_drew ?_ | refine blk_alloc ?_ _)); refine blk_put (cs := #[.string t7030, .string t7031, .string (⟨#[]⟩ : ByteArray)]) ?_ 2 _ rfl; (with_reducible repeat (first | refine blk_drewN ?_ _ | refine blk_drew ?_ | refine blk_alloc ?_ _)); refine blk_put (cs := #[.string t7030, .string (⟨#[]⟩ : ByteArray), .string (⟨#[]⟩ : ByteArray)]) ?_ 1 _ rfl; (with_reducible repeat (first | refine blk_drewN ?_ _ | refine blk_drew ?_ | refine blk_alloc ?_ _)); refine blk_put (cs := #[.string (⟨#[]⟩ : ByteArray), .string (⟨#[]⟩ : ByteArray), .string (⟨#[]⟩ : ByteArray)]) ?_ 0 _ rfl; (with_reducible repeat (first | refine blk_drewN ?_ _ | refine blk_drew ?_ | refine blk_alloc ?_ _)); exact BK7034.out⟩
           have n4_ : Aside0 (Below w.heap.size w (((w123.setCell ⟨gb7034, 0, none⟩ (.string t7030)).setCell ⟨gb7034, 1, none⟩ (.string t7031)).setCell ⟨gb7034, 2, none⟩ (.string t7032))) := ⟨by repeat (first | (with_reducible first | exact HB.out | apply below_alloc | apply pw_below_drewN | apply below_drew1 | refine below_set ?_ GE7006.out | refine below_set ?_ GE7025.out | refine below_set ?_ GE7029.out | refine below_set ?_ GE7034.out) | exact HB.out)⟩
           (try clear BK7006)
           (try clear BK7025)
           (try clear BK7029)
           (try clear BK7034)
           (try clear HB)
           generalize (((w123.setCell ⟨gb7034, 0, none⟩ (.string t7030)).setCell ⟨gb7034, 1, none⟩ (.string t7031)).setCell ⟨gb7034, 2, none⟩ (.string t7032)) = w128 at n0_ n1_ n2_ n3_ n4_ ⊢
           have BK7006 := n0_
           have BK7025 := n1_
           have BK7029 := n2_
           have BK7034 := n3_
           have HB := n4_
           clear n0_ n1_ n2_ n3_ n4_
           have n0_ := Aside0.mk (blk_drew BK7006.out)
           have n1_ := Aside0.mk (blk_drew BK7025.out)
           have n2_ := Aside0.mk (blk_drew BK7029.out)
           have n3_ := Aside0.mk (blk_drew BK7034.out)
           have n4_ := Aside0.mk (below_drew1 HB.out)
           clear BK7006
           clear BK7025
           clear BK7029
           clear BK7034
           clear HB
           have BK7006 := n0_
           have BK7025 := n1_
           have BK7029 := n2_
           have BK7034 := n3_
           have HB := n4_
           clear n0_ n1_ n2_ n3_ n4_
           refine start_ (n := 27) (S := fun w' => w'.cell? ⟨gb7029, 0, none⟩ = some (.string t7026) ∧ w'.cell? ⟨gb7029, 1, none⟩ = some (.string t7027) ∧ w'.cell? ⟨gb7029, 2, none⟩ = some (.string t7028) ∧ w'.cell? ⟨gb7025, 0, none⟩ = some (.string t7020) ∧ w'.cell? ⟨gb7025, 1, none⟩ = some (.string t7021) ∧ w'.cell? ⟨gb7025, 2, none⟩ = some (.string t7022)) (ds := []) #[false, false, false, false, false, false, false, false, false, false, false, false, false, false, false, false, false, false, false, false, false, false, false, false, false, false, false] (by kernel_rfl) rfl rfl ⟨(blk_cell BK7029.out 0).trans rfl, (blk_cell BK7029.out 1).trans rfl, (blk_cell BK7029.out 2).trans rfl, (blk_cell BK7025.out 0).trans rfl, (blk_cell BK7025.out 1).trans rfl, (blk_cell BK7025.out 2).trans rfl⟩ (fun hHeld => ?_); refine with_tabW laws_FnTerms.tab17 laws_FnTerms.bits17 (fun HT_ HW_ => ?_)
           generalize w128.drew = w129 at BK7006 BK7025 BK7029 BK7034 HB hHeld ⊢
           refine pure_ (i := 2) (N := some 94) (v := ?_) (a' := ?_) #[false, false, true, false, false, false, false, false, false, false, false, false, false, false, false, false, false, false, false, false, false, false, false, false, false, false, false] rfl rfl (any_of HT_.out (by kernel_rfl)) (fun _ _ _ h => h) (Or.inl ⟨by rfl, ?_⟩) ?_ ?_
           rotate_left
           ·intro w'
            go_simp
            first | with_reducible rfl | (rw [if_neg (by omega)]; done) | (rw [if_neg (by (try simp only [decide_eq_true_eq, decide_eq_false_iff_not, eq_iff_iff, iff_true, iff_false] at *); (try simp only [ByteArray.size_extract, ByteArray.size_append, show (⟨#[97, 98, 99]⟩ : ByteArray).size = 3 from rfl, show (⟨#[88, 89, 90]⟩ : ByteArray).size = 3 from rfl, show (⟨#[61]⟩ : ByteArray).size = 1 from rfl] at *); omega)]; done)
           rotate_left
           ·simp only [Act.put, List.setIfInBounds_toArray, List.set_cons_zero, List.set_cons_succ, i64_w, i32_w]
            rfl
           refine pure_ (i := 3) (N := some 95) (v := ?_) (a' := ?_) #[false, false, true, true, false, false, false, false, false, false, false, false, false, false, false, false, false, false, false, false, false, false, false, false, false, false, false] rfl rfl (any_of HT_.out (by kernel_rfl)) (fun _ _ _ h => h) (Or.inl ⟨by rfl, ?_⟩) ?_ ?_
           rotate_left
           ·intro w'
            go_simp
            first | with_reducible rfl | (rw [if_neg (by omega)]; done) | (rw [if_neg (by (try simp only [decide_eq_true_eq, decide_eq_false_iff_not, eq_iff_iff, iff_true, iff_false] at *); (try simp only [ByteArray.size_extract, ByteArray.size_append, show (⟨#[97, 98, 99]⟩ : ByteArray).size = 3 from rfl, show (⟨#[88, 89, 90]⟩ : ByteArray).size = 3 from rfl, show (⟨#[61]⟩ : ByteArray).size = 1 from rfl] at *); omega)]; done)
           rotate_left
           ·simp only [Act.put, List.setIfInBounds_toArray, List.set_cons_zero, List.set_cons_succ, i64_w, i32_w]
            rfl
           refine take_ (i := 0) (N := some 92) (v := ?_) (a' := ?_) #[true, false, true, true, false, false, false, false, false, false, false, false, false, false, false, false, false, false, false, false, false, false, false, false, false, false, false] rfl rfl (take_ofW HT_.out HW_.out (by kernel_rfl)) (fun _ _ _ h => h) (Or.inl ⟨by rfl, ?_⟩) hHeld ?_ ?_
           rotate_left
           ·rintro w' ⟨s0, s1, s2, s3, s4, s5⟩
            go_simp
            first | with_reducible rfl | (rw [if_neg (by omega)]; done) | (rw [if_neg (by (try simp only [decide_eq_true_eq, decide_eq_false_iff_not, eq_iff_iff, iff_true, iff_false] at *); (try simp only [ByteArray.size_extract, ByteArray.size_append, show (⟨#[97, 98, 99]⟩ : ByteArray).size = 3 from rfl, show (⟨#[88, 89, 90]⟩ : ByteArray).size = 3 from rfl, show (⟨#[61]⟩ : ByteArray).size = 1 from rfl] at *); omega)]; done)
           rotate_left
           ·simp only [Act.put, List.setIfInBounds_toArray, List.set_cons_zero, List.set_cons_succ, i64_w, i32_w]
            rfl
           refine take_ (i := 1) (N := some 93) (v := ?_) (a' := ?_) #[true, true, true, true, false, false, false, false, false, false, false, false, false, false, false, false, false, false, false, false, false, false, false, false, false, false, false] rfl rfl (take_ofW HT_.out HW_.out (by kernel_rfl)) (fun _ _ _ h => h) (Or.inl ⟨by rfl, ?_⟩) hHeld ?_ ?_
           rotate_left
           ·rintro w' ⟨s0, s1, s2, s3, s4, s5⟩
            go_simp
            first | with_reducible rfl | (rw [if_neg (by omega)]; done) | (rw [if_neg (by (try simp only [decide_eq_true_eq, decide_eq_false_iff_not, eq_iff_iff, iff_true, iff_false] at *); (try simp only [ByteArray.size_extract, ByteArray.size_append, show (⟨#[97, 98, 99]⟩ : ByteArray).size = 3 from rfl, show (⟨#[88, 89, 90]⟩ : ByteArray).size = 3 from rfl, show (⟨#[61]⟩ : ByteArray).size = 1 from rfl] at *); omega)]; done)
           rotate_left
           ·simp only [Act.put, List.setIfInBounds_toArray, List.set_cons_zero, List.set_cons_succ, i64_w, i32_w]
            rfl
           refine one_ (i := 4) (N := some 96) #[true, true, true, true, true, false, false, false, false, false, false, false, false, false, false, false, false, false, false, false, false, false, false, false, false, false, false] rfl rfl (one_of HT_.out (by kernel_rfl)) (by decide) (fun K hK => ?_)
           refine goes_ Try.func58 (by kernel_rfl) rfl #[.agg #[.string t7020, .string t7021, .string t7022], .int .u8 t7023, .string t7024] (by rfl) rfl rfl (by (try simp only [List.map_toArray, List.map_cons, List.map_nil]); first | done | rfl | (simp only [List.length_drop, List.length_take]; rfl)) ?_
           with_reducible refine (spec_WithValue.calls t7020 t7021 t7022 t7023 t7024 t7035 t7036 t7037 _ A63.out).mono ?_
           rintro e w130 ⟨rfl, hb⟩
           refine ⟨_, rfl, ?_⟩
           have n0_ := Aside0.mk (blk_below (g := gb7006) (o := .cells #[.string t7003, .string t7004, .string t7005] 84 (0, 0)) (by (with_reducible repeat (first | refine blk_drewN ?_ _ | refine blk_drew ?_ | refine blk_alloc ?_ _)); exact BK7006.out) hb)
           have n1_ := Aside0.mk (blk_below (g := gb7025) (o := .cells #[.string t7020, .string t7021, .string t7022] 84 (0, 0)) (by (with_reducible repeat (first | refine blk_drewN ?_ _ | refine blk_drew ?_ | refine blk_alloc ?_ _)); exact BK7025.out) hb)
           have n2_ := Aside0.mk (blk_below (g := gb7029) (o := .cells #[.string t7026, .string t7027, .string t7028] 84 (0, 0)) (by (with_reducible repeat (first | refine blk_drewN ?_ _ | refine blk_drew ?_ | refine blk_alloc ?_ _)); exact BK7029.out) hb)
           have n3_ := Aside0.mk (blk_below (g := gb7034) (o := .cells #[.string t7030, .string t7031, .string t7032] 84 (0, 0)) (by (with_reducible repeat (first | refine blk_drewN ?_ _ | refine blk_drew ?_ | refine blk_alloc ?_ _)); exact BK7034.out) hb)
           have n4_ := Aside0.mk (below_step (by repeat (first | (with_reducible first | exact HB.out | apply below_alloc | apply pw_below_drewN | apply below_drew1 | refine below_set ?_ GE7006.out | refine below_set ?_ GE7025.out | refine below_set ?_ GE7029.out | refine below_set ?_ GE7034.out) | exact HB.out)) hb)
           clear BK7006
           clear BK7025
           clear BK7029
           clear BK7034
           clear HB
           have BK7006 := n0_
           have BK7025 := n1_
           have BK7029 := n2_
           have BK7034 := n3_
           have HB := n4_
           clear n0_ n1_ n2_ n3_ n4_
           (try clear hb)
           (try clear hb2)
           (try clear hk)
           (try clear hi)
           refine hK.out _ _ ⟨(blk_cell BK7029.out 0).trans rfl, (blk_cell BK7029.out 1).trans rfl, (blk_cell BK7029.out 2).trans rfl, (blk_cell BK7025.out 0).trans rfl, (blk_cell BK7025.out 1).trans rfl, (blk_cell BK7025.out 2).trans rfl⟩ (fun hHeld => ?_)
           clear hK K
           refine norm_ (a' := ?_) ?_ ?_
           rotate_left
           ·show Act.put _ (some 96) _ = _
            simp only [Act.put, List.setIfInBounds_toArray, List.set_cons_zero, List.set_cons_succ, i64_w, i32_w]
            rfl
           refine pure_ (i := 5) (N := some 97) (v := ?_) (a' := ?_) #[true, true, true, true, true, true, false, false, false, false, false, false, false, false, false, false, false, false, false, false, false, false, false, false, false, false, false] rfl rfl (any_of HT_.out (by kernel_rfl)) (fun _ _ _ h => h) (Or.inl ⟨by rfl, ?_⟩) ?_ ?_
           rotate_left
           ·intro w'
            go_simp
            first | with_reducible rfl | (rw [if_neg (by omega)]; done) | (rw [if_neg (by (try simp only [decide_eq_true_eq, decide_eq_false_iff_not, eq_iff_iff, iff_true, iff_false] at *); (try simp only [ByteArray.size_extract, ByteArray.size_append, show (⟨#[97, 98, 99]⟩ : ByteArray).size = 3 from rfl, show (⟨#[88, 89, 90]⟩ : ByteArray).size = 3 from rfl, show (⟨#[61]⟩ : ByteArray).size = 1 from rfl] at *); omega)]; done)
           rotate_left
           ·simp only [Act.put, List.setIfInBounds_toArray, List.set_cons_zero, List.set_cons_succ, i64_w, i32_w]
            rfl
           refine pure_ (i := 6) (N := some 98) (v := ?_) (a' := ?_) #[true, true, true, true, true, true, true, false, false, false, false, false, false, false, false, false, false, false, false, false, false, false, false, false, false, false, false] rfl rfl (any_of HT_.out (by kernel_rfl)) (fun _ _ _ h => h) (Or.inl ⟨by rfl, ?_⟩) ?_ ?_
           rotate_left
           ·intro w'
            go_simp
            first | with_reducible rfl | (rw [if_neg (by omega)]; done) | (rw [if_neg (by (try simp only [decide_eq_true_eq, decide_eq_false_iff_not, eq_iff_iff, iff_true, iff_false] at *); (try simp only [ByteArray.size_extract, ByteArray.size_append, show (⟨#[97, 98, 99]⟩ : ByteArray).size = 3 from rfl, show (⟨#[88, 89, 90]⟩ : ByteArray).size = 3 from rfl, show (⟨#[61]⟩ : ByteArray).size = 1 from rfl] at *); omega)]; done)
           rotate_left
           ·simp only [Act.put, List.setIfInBounds_toArray, List.set_cons_zero, List.set_cons_succ, i64_w, i32_w]
            rfl
           refine pure_ (i := 7) (N := some 99) (v := ?_) (a' := ?_) #[true, true, true, true, true, true, true, true, false, false, false, false, false, false, false, false, false, false, false, false, false, false, false, false, false, false, false] rfl rfl (any_of HT_.out (by kernel_rfl)) (fun _ _ _ h => h) (Or.inl ⟨by rfl, ?_⟩) ?_ ?_
           rotate_left
           ·intro w'
            go_simp
            first | with_reducible rfl | (rw [if_neg (by omega)]; done) | (rw [if_neg (by (try simp only [decide_eq_true_eq, decide_eq_false_iff_not, eq_iff_iff, iff_true, iff_false] at *); (try simp only [ByteArray.size_extract, ByteArray.size_append, show (⟨#[97, 98, 99]⟩ : ByteArray).size = 3 from rfl, show (⟨#[88, 89, 90]⟩ : ByteArray).size = 3 from rfl, show (⟨#[61]⟩ : ByteArray).size = 1 from rfl] at *); omega)]; done)
           rotate_left
           ·simp only [Act.put, List.setIfInBounds_toArray, List.set_cons_zero, List.set_cons_succ, i64_w, i32_w]
            rfl
           refine pure_ (i := 8) (N := some 100) (v := ?_) (a' := ?_) #[true, true, true, true, true, true, true, true, true, false, false, false, false, false, false, false, false, false, false, false, false, false, false, false, false, false, false] rfl rfl (any_of HT_.out (by kernel_rfl)) (fun _ _ _ h => h) (Or.inl ⟨by rfl, ?_⟩) ?_ ?_
           rotate_left
           ·intro w'
            go_simp
            first | with_reducible rfl | (rw [if_neg (by omega)]; done) | (rw [if_neg (by (try simp only [decide_eq_true_eq, decide_eq_false_iff_not, eq_iff_iff, iff_true, iff_false] at *); (try simp only [ByteArray.size_extract, ByteArray.size_append, show (⟨#[97, 98, 99]⟩ : ByteArray).size = 3 from rfl, show (⟨#[88, 89, 90]⟩ : ByteArray).size = 3 from rfl, show (⟨#[61]⟩ : ByteArray).size = 1 from rfl] at *); omega)]; done)
           rotate_left
           ·simp only [Act.put, List.setIfInBounds_toArray, List.set_cons_zero, List.set_cons_succ, i64_w, i32_w]
            rfl
           refine pure_ (i := 9) (N := some 101) (v := ?_) (a' := ?_) #[true, true, true, true, true, true, true, true, true, true, false, false, false, false, false, false, false, false, false, false, false, false, false, false, false, false, false] rfl rfl (any_of HT_.out (by kernel_rfl)) (fun _ _ _ h => h) (Or.inl ⟨by rfl, ?_⟩) ?_ ?_
           rotate_left
           ·intro w'
            go_simp
            first | with_reducible rfl | (rw [if_neg (by omega)]; done) | (rw [if_neg (by (try simp only [decide_eq_true_eq, decide_eq_false_iff_not, eq_iff_iff, iff_true, iff_false] at *); (try simp only [ByteArray.size_extract, ByteArray.size_append, show (⟨#[97, 98, 99]⟩ : ByteArray).size = 3 from rfl, show (⟨#[88, 89, 90]⟩ : ByteArray).size = 3 from rfl, show (⟨#[61]⟩ : ByteArray).size = 1 from rfl] at *); omega)]; done)
           rotate_left
           ·simp only [Act.put, List.setIfInBounds_toArray, List.set_cons_zero, List.set_cons_succ, i64_w, i32_w]
            rfl
           refine pure_ (i := 11) (N := some 103) (v := ?_) (a' := ?_) #[true, true, true, true, true, true, true, true, true, true, false, true, false, false, false, false, false, false, false, false, false, false, false, false, false, false, false] rfl rfl (any_of HT_.out (by kernel_rfl)) (fun _ _ _ h => h) (Or.inl ⟨by rfl, ?_⟩) ?_ ?_
           rotate_left
           ·intro w'
            go_simp
            first | with_reducible rfl | (rw [if_neg (by omega)]; done) | (rw [if_neg (by (try simp only [decide_eq_true_eq, decide_eq_false_iff_not, eq_iff_iff, iff_true, iff_false] at *); (try simp only [ByteArray.size_extract, ByteArray.size_append, show (⟨#[97, 98, 99]⟩ : ByteArray).size = 3 from rfl, show (⟨#[88, 89, 90]⟩ : ByteArray).size = 3 from rfl, show (⟨#[61]⟩ : ByteArray).size = 1 from rfl] at *); omega)]; done)
           rotate_left
           ·simp only [Act.put, List.setIfInBounds_toArray, List.set_cons_zero, List.set_cons_succ, i64_w, i32_w]
            rfl
           refine pure_ (i := 13) (N := some 105) (v := ?_) (a' := ?_) #[true, true, true, true, true, true, true, true, true, true, false, true, false, true, false, false, false, false, false, false, false, false, false, false, false, false, false] rfl rfl (any_of HT_.out (by kernel_rfl)) (fun _ _ _ h => h) (Or.inl ⟨by rfl, ?_⟩) ?_ ?_
           rotate_left
           ·intro w'
            go_simp
            first | with_reducible rfl | (rw [if_neg (by omega)]; done) | (rw [if_neg (by (try simp only [decide_eq_true_eq, decide_eq_false_iff_not, eq_iff_iff, iff_true, iff_false] at *); (try simp only [ByteArray.size_extract, ByteArray.size_append, show (⟨#[97, 98, 99]⟩ : ByteArray).size = 3 from rfl, show (⟨#[88, 89, 90]⟩ : ByteArray).size = 3 from rfl, show (⟨#[61]⟩ : ByteArray).size = 1 from rfl] at *); omega)]; done)
           rotate_left
           ·simp only [Act.put, List.setIfInBounds_toArray, List.set_cons_zero, List.set_cons_succ, i64_w, i32_w]
            rfl
           refine take_ (i := 10) (N := some 102) (v := ?_) (a' := ?_) #[true, true, true, true, true, true, true, true, true, true, true, true, false, true, false, false, false, false, false, false, false, false, false, false, false, false, false] rfl rfl (take_ofW HT_.out HW_.out (by kernel_rfl)) (fun _ _ _ h => h) (Or.inl ⟨by rfl, ?_⟩) hHeld ?_ ?_
           rotate_left
           ·rintro w' ⟨s0, s1, s2, s3, s4, s5⟩
            go_simp
            first | with_reducible rfl | (rw [if_neg (by omega)]; done) | (rw [if_neg (by (try simp only [decide_eq_true_eq, decide_eq_false_iff_not, eq_iff_iff, iff_true, iff_false] at *); (try simp only [ByteArray.size_extract, ByteArray.size_append, show (⟨#[97, 98, 99]⟩ : ByteArray).size = 3 from rfl, show (⟨#[88, 89, 90]⟩ : ByteArray).size = 3 from rfl, show (⟨#[61]⟩ : ByteArray).size = 1 from rfl] at *); omega)]; done)
           rotate_left
           ·simp only [Act.put, List.setIfInBounds_toArray, List.set_cons_zero, List.set_cons_succ, i64_w, i32_w]
            rfl
           refine one_ (i := 12) (N := some 104) #[true, true, true, true, true, true, true, true, true, true, true, true, true, true, false, false, false, false, false, false, false, false, false, false, false, false, false] rfl rfl (one_of HT_.out (by kernel_rfl)) (by decide) (fun K hK => ?_)
           refine goes_ Try.func52 (by kernel_rfl) rfl #[.agg #[.string t7026, .string t7027, .string t7028], .int .u8 t7023] (by rfl) rfl rfl (by (try simp only [List.map_toArray, List.map_cons, List.map_nil]); first | done | rfl | (simp only [List.length_drop, List.length_take]; rfl)) ?_
           with_reducible refine (impl_ValueOf.calls t7026 t7027 t7028 t7023 t7040 _ A88.out).mono ?_
           rintro e w131 ⟨rfl, hb⟩
           refine ⟨_, rfl, ?_⟩
           have n0_ := Aside0.mk (blk_below (g := gb7006) (o := .cells #[.string t7003, .string t7004, .string t7005] 84 (0, 0)) (by (with_reducible repeat (first | refine blk_drewN ?_ _ | refine blk_drew ?_ | refine blk_alloc ?_ _)); exact BK7006.out) hb)
           have n1_ := Aside0.mk (blk_below (g := gb7025) (o := .cells #[.string t7020, .string t7021, .string t7022] 84 (0, 0)) (by (with_reducible repeat (first | refine blk_drewN ?_ _ | refine blk_drew ?_ | refine blk_alloc ?_ _)); exact BK7025.out) hb)
           have n2_ := Aside0.mk (blk_below (g := gb7029) (o := .cells #[.string t7026, .string t7027, .string t7028] 84 (0, 0)) (by (with_reducible repeat (first | refine blk_drewN ?_ _ | refine blk_drew ?_ | refine blk_alloc ?_ _)); exact BK7029.out) hb)
           have n3_ := Aside0.mk (blk_below (g := gb7034) (o := .cells #[.string t7030, .string t7031, .string t7032] 84 (0, 0)) (by (with_reducible repeat (first | refine blk_drewN ?_ _ | refine blk_drew ?_ | refine blk_alloc ?_ _)); exact BK7034.out) hb)
           have n4_ := Aside0.mk (below_step (by repeat (first | (with_reducible first | exact HB.out | apply below_alloc | apply pw_below_drewN | apply below_drew1 | refine below_set ?_ GE7006.out | refine below_set ?_ GE7025.out | refine below_set ?_ GE7029.out | refine below_set ?_ GE7034.out) | exact HB.out)) hb)
           clear BK7006
           clear BK7025
           clear BK7029
           clear BK7034
           clear HB
           have BK7006 := n0_
           have BK7025 := n1_
           have BK7029 := n2_
           have BK7034 := n3_
           have HB := n4_
           clear n0_ n1_ n2_ n3_ n4_
           (try clear hb)
           (try clear hb2)
           (try clear hk)
           (try clear hi)
           refine hK.out _ _ ⟨(blk_cell BK7029.out 0).trans rfl, (blk_cell BK7029.out 1).trans rfl, (blk_cell BK7029.out 2).trans rfl, (blk_cell BK7025.out 0).trans rfl, (blk_cell BK7025.out 1).trans rfl, (blk_cell BK7025.out 2).trans rfl⟩ (fun hHeld => ?_)
           clear hK K
           refine norm_ (a' := ?_) ?_ ?_
           rotate_left
           ·show Act.put _ (some 104) _ = _
            simp only [Act.put, List.setIfInBounds_toArray, List.set_cons_zero, List.set_cons_succ, i64_w, i32_w]
            rfl
           refine pure_ (i := 14) (N := some 106) (v := ?_) (a' := ?_) #[true, true, true, true, true, true, true, true, true, true, true, true, true, true, true, false, false, false, false, false, false, false, false, false, false, false, false] rfl rfl (any_of HT_.out (by kernel_rfl)) (fun _ _ _ h => h) (Or.inl ⟨by rfl, ?_⟩) ?_ ?_
           rotate_left
           ·intro w'
            go_simp
            first | with_reducible rfl | (rw [if_neg (by omega)]; done) | (rw [if_neg (by (try simp only [decide_eq_true_eq, decide_eq_false_iff_not, eq_iff_iff, iff_true, iff_false] at *); (try simp only [ByteArray.size_extract, ByteArray.size_append, show (⟨#[97, 98, 99]⟩ : ByteArray).size = 3 from rfl, show (⟨#[88, 89, 90]⟩ : ByteArray).size = 3 from rfl, show (⟨#[61]⟩ : ByteArray).size = 1 from rfl] at *); omega)]; done)
           rotate_left
           ·simp only [Act.put, List.setIfInBounds_toArray, List.set_cons_zero, List.set_cons_succ, i64_w, i32_w]
            rfl
           refine pure_ (i := 15) (N := some 107) (v := ?_) (a' := ?_) #[true, true, true, true, true, true, true, true, true, true, true, true, true, true, true, true, false, false, false, false, false, false, false, false, false, false, false] rfl rfl (any_of HT_.out (by kernel_rfl)) (fun _ _ _ h => h) (Or.inl ⟨by rfl, ?_⟩) ?_ ?_
           rotate_left
           ·intro w'
            go_simp
            first | with_reducible rfl | (rw [if_neg (by omega)]; done) | (rw [if_neg (by (try simp only [decide_eq_true_eq, decide_eq_false_iff_not, eq_iff_iff, iff_true, iff_false] at *); (try simp only [ByteArray.size_extract, ByteArray.size_append, show (⟨#[97, 98, 99]⟩ : ByteArray).size = 3 from rfl, show (⟨#[88, 89, 90]⟩ : ByteArray).size = 3 from rfl, show (⟨#[61]⟩ : ByteArray).size = 1 from rfl] at *); omega)]; done)
           rotate_left
           ·simp only [Act.put, List.setIfInBounds_toArray, List.set_cons_zero, List.set_cons_succ, i64_w, i32_w]
            rfl
           refine pure_ (i := 16) (N := some 108) (v := ?_) (a' := ?_) #[true, true, true, true, true, true, true, true, true, true, true, true, true, true, true, true, true, false, false, false, false, false, false, false, false, false, false] rfl rfl (any_of HT_.out (by kernel_rfl)) (fun _ _ _ h => h) (Or.inl ⟨by rfl, ?_⟩) ?_ ?_
           rotate_left
           ·intro w'
            go_simp
            first | with_reducible rfl | (rw [if_neg (by omega)]; done) | (rw [if_neg (by (try simp only [decide_eq_true_eq, decide_eq_false_iff_not, eq_iff_iff, iff_true, iff_false] at *); (try simp only [ByteArray.size_extract, ByteArray.size_append, show (⟨#[97, 98, 99]⟩ : ByteArray).size = 3 from rfl, show (⟨#[88, 89, 90]⟩ : ByteArray).size = 3 from rfl, show (⟨#[61]⟩ : ByteArray).size = 1 from rfl] at *); omega)]; done)
           rotate_left
           ·simp only [Act.put, List.setIfInBounds_toArray, List.set_cons_zero, List.set_cons_succ, i64_w, i32_w]
            rfl
           refine pure_ (i := 17) (N := some 109) (v := ?_) (a' := ?_) #[true, true, true, true, true, true, true, true, true, true, true, true, true, true, true, true, true, true, false, false, false, false, false, false, false, false, false] rfl rfl (any_of HT_.out (by kernel_rfl)) (fun _ _ _ h => h) (Or.inl ⟨by rfl, ?_⟩) ?_ ?_
           rotate_left
           ·intro w'
            go_simp
            first | with_reducible rfl | (rw [if_neg (by omega)]; done) | (rw [if_neg (by (try simp only [decide_eq_true_eq, decide_eq_false_iff_not, eq_iff_iff, iff_true, iff_false] at *); (try simp only [ByteArray.size_extract, ByteArray.size_append, show (⟨#[97, 98, 99]⟩ : ByteArray).size = 3 from rfl, show (⟨#[88, 89, 90]⟩ : ByteArray).size = 3 from rfl, show (⟨#[61]⟩ : ByteArray).size = 1 from rfl] at *); omega)]; done)
           rotate_left
           ·simp only [Act.put, List.setIfInBounds_toArray, List.set_cons_zero, List.set_cons_succ, i64_w, i32_w]
            rfl
           refine pure_ (i := 18) (N := some 110) (v := undef) (a' := ?_) #[true, true, true, true, true, true, true, true, true, true, true, true, true, true, true, true, true, true, true, false, false, false, false, false, false, false, false] rfl rfl (any_of HT_.out (by kernel_rfl)) (fun _ _ _ h => h) (Or.inr ⟨by rfl, rfl⟩) ?_ ?_
           rotate_left
           ·simp only [Act.put, List.setIfInBounds_toArray, List.set_cons_zero, List.set_cons_succ, i64_w, i32_w]
            rfl
           refine pure_ (i := 19) (N := some 111) (v := undef) (a' := ?_) #[true, true, true, true, true, true, true, true, true, true, true, true, true, true, true, true, true, true, true, true, false, false, false, false, false, false, false] rfl rfl (any_of HT_.out (by kernel_rfl)) (fun _ _ _ h => h) (Or.inr ⟨by rfl, rfl⟩) ?_ ?_
           rotate_left
           ·simp only [Act.put, List.setIfInBounds_toArray, List.set_cons_zero, List.set_cons_succ, i64_w, i32_w]
            rfl
           refine pure_ (i := 20) (N := some 112) (v := undef) (a' := ?_) #[true, true, true, true, true, true, true, true, true, true, true, true, true, true, true, true, true, true, true, true, true, false, false, false, false, false, false] rfl rfl (any_of HT_.out (by kernel_rfl)) (fun _ _ _ h => h) (Or.inr ⟨by rfl, rfl⟩) ?_ ?_
           rotate_left
           ·simp only [Act.put, List.setIfInBounds_toArray, List.set_cons_zero, List.set_cons_succ, i64_w, i32_w]
            rfl
           refine pure_ (i := 21) (N := some 113) (v := undef) (a' := ?_) #[true, true, true, true, true, true, true, true, true, true, true, true, true, true, true, true, true, true, true, true, true, true, false, false, false, false, false] rfl rfl (any_of HT_.out (by kernel_rfl)) (fun _ _ _ h => h) (Or.inr ⟨by rfl, rfl⟩) ?_ ?_
           rotate_left
           ·simp only [Act.put, List.setIfInBounds_toArray, List.set_cons_zero, List.set_cons_succ, i64_w, i32_w]
            rfl
           refine pure_ (i := 22) (N := some 114) (v := undef) (a' := ?_) #[true, true, true, true, true, true, true, true, true, true, true, true, true, true, true, true, true, true, true, true, true, true, true, false, false, false, false] rfl rfl (any_of HT_.out (by kernel_rfl)) (fun _ _ _ h => h) (Or.inr ⟨by rfl, rfl⟩) ?_ ?_
           rotate_left
           ·simp only [Act.put, List.setIfInBounds_toArray, List.set_cons_zero, List.set_cons_succ, i64_w, i32_w]
            rfl
           refine pure_ (i := 23) (N := some 115) (v := undef) (a' := ?_) #[true, true, true, true, true, true, true, true, true, true, true, true, true, true, true, true, true, true, true, true, true, true, true, true, false, false, false] rfl rfl (any_of HT_.out (by kernel_rfl)) (fun _ _ _ h => h) (Or.inr ⟨by rfl, rfl⟩) ?_ ?_
           rotate_left
           ·simp only [Act.put, List.setIfInBounds_toArray, List.set_cons_zero, List.set_cons_succ, i64_w, i32_w]
            rfl
           refine pure_ (i := 24) (N := some 116) (v := undef) (a' := ?_) #[true, true, true, true, true, true, true, true, true, true, true, true, true, true, true, true, true, true, true, true, true, true, true, true, true, false, false] rfl rfl (any_of HT_.out (by kernel_rfl)) (fun _ _ _ h => h) (Or.inr ⟨by rfl, rfl⟩) ?_ ?_
           rotate_left
           ·simp only [Act.put, List.setIfInBounds_toArray, List.set_cons_zero, List.set_cons_succ, i64_w, i32_w]
            rfl
           refine pure_ (i := 25) (N := some 117) (v := ?_) (a' := ?_) #[true, true, true, true, true, true, true, true, true, true, true, true, true, true, true, true, true, true, true, true, true, true, true, true, true, true, false] rfl rfl (any_of HT_.out (by kernel_rfl)) (fun _ _ _ h => h) (Or.inl ⟨by rfl, ?_⟩) ?_ ?_
           rotate_left
           ·intro w'
            go_simp
            first | with_reducible rfl | (rw [if_neg (by omega)]; done) | (rw [if_neg (by (try simp only [decide_eq_true_eq, decide_eq_false_iff_not, eq_iff_iff, iff_true, iff_false] at *); (try simp only [ByteArray.size_extract, ByteArray.size_append, show (⟨#[97, 98, 99]⟩ : ByteArray).size = 3 from rfl, show (⟨#[88, 89, 90]⟩ : ByteArray).size = 3 from rfl, show (⟨#[61]⟩ : ByteArray).size = 1 from rfl] at *); omega)]; done)
           rotate_left
           ·simp only [Act.put, List.setIfInBounds_toArray, List.set_cons_zero, List.set_cons_succ, i64_w, i32_w]
            rfl
           refine pure_ (i := 26) (N := some 2) (v := ?_) (a' := ?_) #[true, true, true, true, true, true, true, true, true, true, true, true, true, true, true, true, true, true, true, true, true, true, true, true, true, true, true] rfl rfl (any_of HT_.out (by kernel_rfl)) (fun _ _ _ h => h) (Or.inl ⟨by rfl, ?_⟩) ?_ ?_
           rotate_left
           ·intro w'
            go_simp
            first | with_reducible rfl | (rw [if_neg (by omega)]; done) | (rw [if_neg (by (try simp only [decide_eq_true_eq, decide_eq_false_iff_not, eq_iff_iff, iff_true, iff_false] at *); (try simp only [ByteArray.size_extract, ByteArray.size_append, show (⟨#[97, 98, 99]⟩ : ByteArray).size = 3 from rfl, show (⟨#[88, 89, 90]⟩ : ByteArray).size = 3 from rfl, show (⟨#[61]⟩ : ByteArray).size = 1 from rfl] at *); omega)]; done)
           rotate_left
           ·simp only [Act.put, List.setIfInBounds_toArray, List.set_cons_zero, List.set_cons_succ, i64_w, i32_w]
            rfl
           refine done_ (done_of HT_.out (by kernel_rfl)) ?_
           try go_wp2
           go_ret
           exact ⟨by first | rfl | (simp [errW_none, errW_some] <;> rfl) | (simp [*, errW_none, errW_some] <;> rfl), by repeat (first | (with_reducible first | exact HB.out | apply below_alloc | apply pw_below_drewN | apply below_drew1 | refine below_set ?_ GE7006.out | refine below_set ?_ GE7025.out | refine below_set ?_ GE7029.out | refine below_set ?_ GE7034.out) | exact HB.out)⟩
        ·rw [if_neg c64] at H
         have c64b0 : (t7026.toList == t7035.toList && (t7027.toList == t7036.toList && (t7028.toList == t7037.toList))) = false := by simpa using c64
         (try (have c64b1 : decide (t7026.toList = t7035.toList && (t7027.toList == t7036.toList && (t7028.toList == t7037.toList))) = false := by simpa using c64))
         (try (have c64b2 : (t7026.toList == t7035.toList && (t7027.toList == t7036.toList && (t7028.toList == t7037.toList))) = false := by simpa using c64))
         (try (have c64b3 : ¬ (t7026.toList = t7035.toList && (t7027.toList == t7036.toList && (t7028.toList == t7037.toList))) := by simpa using c64))
         clear c64
         obtain rfl := Option.some.inj H
         try go_wp2_with (first | ((with_reducible refine gate_callee (f := 55) rfl ?_); refine goesL_ (some 79) rfl rfl Try.func55 (by kernel_rfl) rfl #[.slice A0 l0.length c0] rfl (by (try simp only [List.map_toArray, List.map_cons, List.map_nil]); first | done | rfl | (simp only [List.length_drop, List.length_take]; rfl)) ?_; (with_reducible refine (spec_DrawWithValue.calls k2 _ _ l0 t7020 t7021 t7022 t7023 t7024 _ ?side1 ?side2 A60.out).mono ?_); (case side1 => repeat (first | exact (Kd.C_below HR0.out HB.out) | (with_reducible refine Kd.C_alloc ?_ _) | (with_reducible refine Kd.C_drewN ?_ _) | (with_reducible refine Kd.C_drew ?_))); (case side2 => exact HC0.out); rintro e w132 ⟨rfl, hb⟩; refine ⟨_, rfl, ?_⟩; have n0_ := Aside0.mk (blk_below (g := gb7006) (o := .cells #[.string t7003, .string t7004, .string t7005] 84 (0, 0)) (by (with_reducible repeat (first | refine blk_drewN ?_ _ | refine blk_drew ?_ | refine blk_alloc ?_ _)); exact BK7006.out) hb); have n1_ := Aside0.mk (below_step (by repeat (first | (with_reducible first | exact HB.out | apply below_alloc | apply pw_below_drewN | apply below_drew1 | refine below_set ?_ GE7006.out) | exact HB.out)) hb); clear BK7006; clear HB; have BK7006 := n0_; have HB := n1_; clear n0_ n1_; (try clear hb); (try clear hb2); (try clear hk); (try clear hi)) | ((with_reducible refine gate_dst (N := 9) rfl ?_); refine box_event ?hg (N := 9) ?hd (cs := #[.string (⟨#[]⟩ : ByteArray), .string (⟨#[]⟩ : ByteArray), .string (⟨#[]⟩ : ByteArray)]) (t := 84) ?hr ?_; (case hd => rfl); (case hg => rfl); (case hr => first | (go_simp; done) | (go_simp; rfl)); intro gb7025 hg w133 hbox hb; have n0_ := Aside0.mk (blk_below (g := gb7006) (o := .cells #[.string t7003, .string t7004, .string t7005] 84 (0, 0)) (by (with_reducible repeat (first | refine blk_drewN ?_ _ | refine blk_drew ?_ | refine blk_alloc ?_ _)); exact BK7006.out) hb); have n1_ := Aside0.mk (below_step (by repeat (first | (with_reducible first | exact HB.out | apply below_alloc | apply pw_below_drewN | apply below_drew1 | refine below_set ?_ GE7006.out) | exact HB.out)) hb); have n2_ := Aside0.mk (hbox); have n3_ := Aside0.mk ((by rw [hg]; exact (below_size (by repeat (first | (with_reducible first | exact HB.out | apply below_alloc | apply pw_below_drewN | apply below_drew1 | refine below_set ?_ GE7006.out) | exact HB.out))) : w.heap.size ≤ gb7025)); have n4_ := Aside0.mk ((by rw [hg]; exact (below_size (by repeat (first | (with_reducible first | exact HB.out | apply below_alloc | apply pw_below_drewN | apply below_drew1 | refine below_set ?_ GE7006.out) | exact HB.out))) : w.heap.size ≤ gb7025)); have n5_ := Aside0.mk ((by rw [hg]; exact Nat.ne_of_lt (blk_lt (g := gb7006) (o := .cells #[.string t7003, .string t7004, .string t7005] 84 (0, 0)) (by (with_reducible repeat (first | refine blk_drewN ?_ _ | refine blk_drew ?_ | refine blk_alloc ?_ _)); exact BK7006.out)) : gb7006 ≠ gb7025)); have n6_ := Aside0.mk ((by rw [hg]; exact Nat.ne_of_gt (blk_lt (g := gb7006) (o := .cells #[.string t7003, .string t7004, .string t7005] 84 (0, 0)) (by (with_reducible repeat (first | refine blk_drewN ?_ _ | refine blk_drew ?_ | refine blk_alloc ?_ _)); exact BK7006.out)) : gb7025 ≠ gb7006)); clear BK7006; clear HB; have BK7006 := n0_; have HB := n1_; have BK7025 := n2_; have GW7025 := n3_; have GE7025 := n4_; have NB7006_7025 := n5_; have NB7025_7006 := n6_; clear n0_ n1_ n2_ n3_ n4_ n5_ n6_; clear hb hbox hg; have hnb134 := NB7025_7006.out; have hnc134 := NB7006_7025.out; have hcz135_0 : w133.cell? ⟨gb7025, 0, none⟩ = some (.string (⟨#[]⟩ : ByteArray)) := (blk_cell BK7025.out 0).trans rfl; have hcz135_1 : w133.cell? ⟨gb7025, 1, none⟩ = some (.string (⟨#[]⟩ : ByteArray)) := (blk_cell BK7025.out 1).trans rfl; have hcz135_2 : w133.cell? ⟨gb7025, 2, none⟩ = some (.string (⟨#[]⟩ : ByteArray)) := (blk_cell BK7025.out 2).trans rfl; have hfz135_0 := blk_frozen BK7025.out 0; have hfz135_1 := blk_frozen BK7025.out 1; have hfz135_2 := blk_frozen BK7025.out 2) | ((with_reducible refine gate_callee (f := 56) rfl ?_); refine goesL_ (some 86) rfl rfl Try.func56 (by kernel_rfl) rfl #[.agg #[.string t7020, .string t7021, .string t7022], .int .u8 t7023, .string t7024] rfl (by (try simp only [List.map_toArray, List.map_cons, List.map_nil]); first | done | rfl | (simp only [List.length_drop, List.length_take]; rfl)) ?_; (with_reducible refine (impl_WithValue.calls t7020 t7021 t7022 t7023 t7024 t7026 t7027 t7028 _ A61.out).mono ?_); rintro e w136 ⟨rfl, hb⟩; refine ⟨_, rfl, ?_⟩; have n0_ := Aside0.mk (blk_below (g := gb7006) (o := .cells #[.string t7003, .string t7004, .string t7005] 84 (0, 0)) (by (with_reducible repeat (first | refine blk_drewN ?_ _ | refine blk_drew ?_ | refine blk_alloc ?_ _)); refine blk_far ?_ NB7006_7025.out _; (with_reducible repeat (first | refine blk_drewN ?_ _ | refine blk_drew ?_ | refine blk_alloc ?_ _)); refine blk_far ?_ NB7006_7025.out _; (with_reducible repeat (first | refine blk_drewN ?_ _ | refine blk_drew ?_ | refine blk_alloc ?_ _)); refine blk_far ?_ NB7006_7025.out _; (with_reducible repeat (first | refine blk_drewN ?_ _ | refine blk_drew ?_ | refine blk_alloc ?_ _)); exact BK7006.out) hb); have n1_ := Aside0.mk (blk_below (g := gb7025) (o := .cells #[.string t7020, .string t7021, .string t7022] 84 (0, 0)) (by (with_reducible repeat (first | refine blk_drewN ?_ _ | refine blk_drew ?_ | refine blk_alloc ?_ _)); refine blk_put (cs := #[.string t7020, .string t7021, .string (⟨#[]⟩ : ByteArray)]) ?_ 2 _ rfl; (with_reducible repeat (first | refine blk_drewN ?_ _ | refine blk_drew ?_ | refine blk_alloc ?_ _)); refine blk_put (cs := #[.string t7020, .string (⟨#[]⟩ : ByteArray), .string (⟨#[]⟩ : ByteArray)]) ?_ 1 _ rfl; (with_reducible repeat (first | refine blk_drewN ?_ _ | refine blk_drew ?_ | refine blk_alloc ?_ _)); refine blk_put (cs := #[.string (⟨#[]⟩ : ByteArray), .string (⟨#[]⟩ : ByteArray), .string (⟨#[]⟩ : ByteArray)]) ?_ 0 _ rfl; (with_reducible repeat (first | refine blk_drewN ?_ _ | refine blk_drew ?_ | refine blk_alloc ?_ _)); exact BK7025.out) hb); have n2_ := Aside0.mk (below_step (by repeat (first | (with_reducible first | exact HB.out | apply below_alloc | apply pw_below_drewN | apply below_drew1 | refine below_set ?_ GE7006.out | refine below_set ?_ GE7025.out) | exact HB.out)) hb); clear BK7006; clear BK7025; clear HB; have BK7006 := n0_; have BK7025 := n1_; have HB := n2_; clear n0_ n1_ n2_; (try clear hb); (try clear hb2); (try clear hk); (try clear hi)) | ((with_reducible refine gate_dst (N := 12) rfl ?_); refine box_event ?hg (N := 12) ?hd (cs := #[.string (⟨#[]⟩ : ByteArray), .string (⟨#[]⟩ : ByteArray), .string (⟨#[]⟩ : ByteArray)]) (t := 84) ?hr ?_; (case hd => rfl); (case hg => rfl); (case hr => first | (go_simp; done) | (go_simp; rfl)); intro gb7029 hg w137 hbox hb; have n0_ := Aside0.mk (blk_below (g := gb7006) (o := .cells #[.string t7003, .string t7004, .string t7005] 84 (0, 0)) (by (with_reducible repeat (first | refine blk_drewN ?_ _ | refine blk_drew ?_ | refine blk_alloc ?_ _)); exact BK7006.out) hb); have n1_ := Aside0.mk (blk_below (g := gb7025) (o := .cells #[.string t7020, .string t7021, .string t7022] 84 (0, 0)) (by (with_reducible repeat (first | refine blk_drewN ?_ _ | refine blk_drew ?_ | refine blk_alloc ?_ _)); exact BK7025.out) hb); have n2_ := Aside0.mk (below_step (by repeat (first | (with_reducible first | exact HB.out | apply below_alloc | apply pw_below_drewN | apply below_drew1 | refine below_set ?_ GE7006.out | refine below_set ?_ GE7025.out) | exact HB.out)) hb); have n3_ := Aside0.mk (hbox); have n4_ := Aside0.mk ((by rw [hg]; exact (below_size (by repeat (first | (with_reducible first | exact HB.out | apply below_alloc | apply pw_below_drewN | apply below_drew1 | refine below_set ?_ GE7006.out | refine below_set ?_ GE7025.out) | exact HB.out))) : w.heap.size ≤ gb7029)); have n5_ := Aside0.mk ((by rw [hg]; exact (below_size (by repeat (first | (with_reducible first | exact HB.out | apply below_alloc | apply pw_below_drewN | apply below_drew1 | refine below_set ?_ GE7006.out | refine below_set ?_ GE7025.out) | exact HB.out))) : w.heap.size ≤ gb7029)); have n6_ := Aside0.mk ((by rw [hg]; exact Nat.ne_of_lt (blk_lt (g := gb7006) (o := .cells #[.string t7003, .string t7004, .string t7005] 84 (0, 0)) (by (with_reducible repeat (first | refine blk_drewN ?_ _ | refine blk_drew ?_ | refine blk_alloc ?_ _)); exact BK7006.out)) : gb7006 ≠ gb7029)); have n7_ := Aside0.mk ((by rw [hg]; exact Nat.ne_of_gt (blk_lt (g := gb7006) (o := .cells #[.string t7003, .string t7004, .string t7005] 84 (0, 0)) (by (with_reducible repeat (first | refine blk_drewN ?_ _ | refine blk_drew ?_ | refine blk_alloc ?_ _)); exact BK7006.out)) : gb7029 ≠ gb7006)); have n8_ := Aside0.mk ((by rw [hg]; exact Nat.ne_of_lt (blk_lt (g := gb7025) (o := .cells #[.string t7020, .string t7021, .string t7022] 84 (0, 0)) (by (with_reducible repeat (first | refine blk_drewN ?_ _ | refine blk_drew ?_ | refine blk_alloc ?_ _)); exact BK7025.out)) : gb7025 ≠ gb7029)); have n9_ := Aside0.mk ((by rw [hg]; exact Nat.ne_of_gt (blk_lt (g := gb7025) (o := .cells #[.string t7020, .string t7021, .string t7022] 84 (0, 0)) (by (with_reducible repeat (first | refine blk_drewN ?_ _ | refine blk_drew ?_ | refine blk_alloc ?_ _)); exact BK7025.out)) : gb7029 ≠ gb7025)); clear BK7006; clear BK7025; clear HB; have BK7006 := n0_; have BK7025 := n1_; have HB := n2_; have BK7029 := n3_; have GW7029 := n4_; have GE7029 := n5_; have NB7006_7029 := n6_; have NB7029_7006 := n7_; have NB7025_7029 := n8_; have NB7029_7025 := n9_; clear n0_ n1_ n2_ n3_ n4_ n5_ n6_ n7_ n8_ n9_; clear hb hbox hg; have hnb138 := NB7029_7006.out; have hnc138 := NB7006_7029.out; have hnb139 := NB7029_7025.out; have hnc139 := NB7025_7029.out; have hcz140_0 : w137.cell? ⟨gb7029, 0, none⟩ = some (.string (⟨#[]⟩ : ByteArray)) := (blk_cell BK7029.out 0).trans rfl; have hcz140_1 : w137.cell? ⟨gb7029, 1, none⟩ = some (.string (⟨#[]⟩ : ByteArray)) := (blk_cell BK7029.out 1).trans rfl; have hcz140_2 : w137.cell? ⟨gb7029, 2, none⟩ = some (.string (⟨#[]⟩ : ByteArray)) := (blk_cell BK7029.out 2).trans rfl; have hfz140_0 := blk_frozen BK7029.out 0; have hfz140_1 := blk_frozen BK7029.out 1; have hfz140_2 := blk_frozen BK7029.out 2) | ((with_reducible refine gate_callee (f := 57) rfl ?_); refine goesL_ (some 89) rfl rfl Try.func57 (by kernel_rfl) rfl #[.slice A0 l0.length c0] rfl (by (try simp only [List.map_toArray, List.map_cons, List.map_nil]); first | done | rfl | (simp only [List.length_drop, List.length_take]; rfl)) ?_; (with_reducible refine (spec_DrawFormatValues.calls k2 _ _ l0 t7030 t7031 t7032 t7033 _ ?side1 ?side2 A62.out).mono ?_); (case side1 => exact Kd.C_below HR0.out (by repeat (first | (with_reducible first | exact HB.out | apply below_alloc | apply pw_below_drewN | apply below_drew1 | refine below_set ?_ GE7006.out | refine below_set ?_ GE7025.out | refine below_set ?_ GE7029.out) | exact HB.out))); (case side2 => exact HC0.out); rintro e w141 ⟨rfl, hb⟩; refine ⟨_, rfl, ?_⟩; have n0_ := Aside0.mk (blk_below (g := gb7006) (o := .cells #[.string t7003, .string t7004, .string t7005] 84 (0, 0)) (by (with_reducible repeat (first | refine blk_drewN ?_ _ | refine blk_drew ?_ | refine blk_alloc ?_ _)); refine blk_far ?_ NB7006_7029.out _; (with_reducible repeat (first | refine blk_drewN ?_ _ | refine blk_drew ?_ | refine blk_alloc ?_ _)); refine blk_far ?_ NB7006_7029.out _; (with_reducible repeat (first | refine blk_drewN ?_ _ | refine blk_drew ?_ | refine blk_alloc ?_ _)); refine blk_far ?_ NB7006_7029.out _; (with_reducible repeat (first | refine blk_drewN ?_ _ | refine blk_drew ?_ | refine blk_alloc ?_ _)); exact BK7006.out) hb); have n1_ := Aside0.mk (blk_below (g := gb7025) (o := .cells #[.string t7020, .string t7021, .string t7022] 84 (0, 0)) (by (with_reducible repeat (first | refine blk_drewN ?_ _ | refine blk_drew ?_ | refine blk_alloc ?_ _)); refine blk_far ?_ NB7025_7029.out _; (with_reducible repeat (first | refine blk_drewN ?_ _ | refine blk_drew ?_ | refine blk_alloc ?_ _)); refine blk_far ?_ NB7025_7029.out _; (with_reducible repeat (first | refine blk_drewN ?_ _ | refine blk_drew ?_ | refine blk_alloc ?_ _)); refine blk_far ?_ NB7025_7029.out _; (with_reducible repeat (first | refine blk_drewN ?_ _ | refine blk_drew ?_ | refine blk_alloc ?_ _)); exact BK7025.out) hb); have n2_ := Aside0.mk (blk_below (g := gb7029) (o := .cells #[.string t7026, .string t7027, .string t7028] 84 (0, 0)) (by (with_reducible repeat (first | refine blk_drewN ?_ _ | refine blk_drew ?_ | refine blk_alloc ?_ _)); refine blk_put (cs := #[.string t7026, .string t7027, .string (⟨#[]⟩ : ByteArray)]) ?_ 2 _ rfl; (with_reducible repeat (first | refine blk_drewN ?_ _ | refine blk_drew ?_ | refine blk_alloc ?_ _)); refine blk_put (cs := #[.string t7026, .string (⟨#[]⟩ : ByteArray), .string (⟨#[]⟩ : ByteArray)]) ?_ 1 _ rfl; (with_reducible repeat (first | refine blk_drewN ?_ _ | refine blk_drew ?_ | refine blk_alloc ?_ _)); refine blk_put (cs := #[.string (⟨#[]⟩ : ByteArray), .string (⟨#[]⟩ : ByteArray), .string (⟨#[]⟩ : ByteArray)]) ?_ 0 _ rfl; (with_reducible repeat (first | refine blk_drewN ?_ _ | refine blk_drew ?_ | refine blk_alloc ?_ _)); exact BK7029.out) hb); have n3_ := Aside0.mk (below_step (by repeat (first | (with_reducible first | exact HB.out | apply below_alloc | apply pw_below_drewN | apply below_drew1 | refine below_set ?_ GE7006.out | refine below_set ?_ GE7025.out | refine below_set ?_ GE7029.out) | exact HB.out)) hb); clear BK7006; clear BK7025; clear BK7029; clear HB; have BK7006 := n0_; have BK7025 := n1_; have BK7029 := n2_; have HB := n3_; clear n0_ n1_ n2_ n3_; (try clear hb); (try clear hb2); (try clear hk); (try clear hi)) | ((with_reducible refine gate_dst (N := 13) rfl ?_); refine box_event ?hg (N := 13) ?hd (cs := #[.string (⟨#[]⟩ : ByteArray), .string (⟨#[]⟩ : ByteArray), .string (⟨#[]⟩ : ByteArray)]) (t := 84) ?hr ?_; (case hd => rfl); (case hg => rfl); (case hr => first | (go_simp; done) | (go_simp; rfl)); intro gb7034 hg w142 hbox hb; have n0_ := Aside0.mk (blk_below (g := gb7006) (o := .cells #[.string t7003, .string t7004, .string t7005] 84 (0, 0)) (by (with_reducible repeat (first | refine blk_drewN ?_ _ | refine blk_drew ?_ | refine blk_alloc ?_ _)); exact BK7006.out) hb); have n1_ := Aside0.mk (blk_below (g := gb7025) (o := .cells #[.string t7020, .string t7021, .string t7022] 84 (0, 0)) (by (with_reducible repeat (first | refine blk_drewN ?_ _ | refine blk_drew ?_ | refine blk_alloc ?_ _)); exact BK7025.out) hb); have n2_ := Aside0.mk (blk_below (g := gb7029) (o := .cells #[.string t7026, .string t7027, .string t7028] 84 (0, 0)) (by (with_reducible repeat (first | refine blk_drewN ?_ _ | refine blk_drew ?_ | refine blk_alloc ?_ _)); exact BK7029.out) hb); have n3_ := Aside0.mk (below_step (by repeat (first | (with_reducible first | exact HB.out | apply below_alloc | apply pw_below_drewN | apply below_drew1 | refine below_set ?_ GE7006.out | refine below_set ?_ GE7025.out | refine below_set ?_ GE7029.out) | exact HB.out)) hb); have n4_ := Aside0.mk (hbox); have n5_ := Aside0.mk ((by rw [hg]; exact (below_size (by repeat (first | (with_reducible first | exact HB.out | apply below_alloc | apply pw_below_drewN | apply below_drew1 | refine below_set ?_ GE7006.out | refine below_set ?_ GE7025.out | refine below_set ?_ GE7029.out) | exact HB.out))) : w.heap.size ≤ gb7034)); have n6_ := Aside0.mk ((by rw [hg]; exact (below_size (by repeat (first | (with_reducible first | exact HB.out | apply below_alloc | apply pw_below_drewN | apply below_drew1 | refine below_set ?_ GE7006.out | refine below_set ?_ GE7025.out | refine below_set ?_ GE7029.out) | exact HB.out))) : w.heap.size ≤ gb7034)); have n7_ := Aside0.mk ((by rw [hg]; exact Nat.ne_of_lt (blk_lt (g := gb7006) (o := .cells #[.string t7003, .string t7004, .string t7005] 84 (0, 0)) (by (with_reducible repeat (first | refine blk_drewN ?_ _ | refine blk_drew ?_ | refine blk_alloc ?_ _)); exact BK7006.out)) : gb7006 ≠ gb7034)); have n8_ := Aside0.mk ((by rw [hg]; exact Nat.ne_of_gt (blk_lt (g := gb7006) (o := .cells #[.string t7003, .string t7004, .string t7005] 84 (0, 0)) (by (with_reducible repeat (first | refine blk_drewN ?_ _ | refine blk_drew ?_ | refine blk_alloc ?_ _)); exact BK7006.out)) : gb7034 ≠ gb7006)); have n9_ := Aside0.mk ((by rw [hg]; exact Nat.ne_of_lt (blk_lt (g := gb7025) (o := .cells #[.string t7020, .string t7021, .string t7022] 84 (0, 0)) (by (with_reducible repeat (first | refine blk_drewN ?_ _ | refine blk_drew ?_ | refine blk_alloc ?_ _)); exact BK7025.out)) : gb7025 ≠ gb7034)); have n10_ := Aside0.mk ((by rw [hg]; exact Nat.ne_of_gt (blk_lt (g := gb7025) (o := .cells #[.string t7020, .string t7021, .string t7022] 84 (0, 0)) (by (with_reducible repeat (first | refine blk_drewN ?_ _ | refine blk_drew ?_ | refine blk_alloc ?_ _)); exact BK7025.out)) : gb7034 ≠ gb7025)); have n11_ := Aside0.mk ((by rw [hg]; exact Nat.ne_of_lt (blk_lt (g := gb7029) (o := .cells #[.string t7026, .string t7027, .string t7028] 84 (0, 0)) (by (with_reducible repeat (first | refine blk_drewN ?_ _ | refine blk_drew ?_ | refine blk_alloc ?_ _)); exact BK7029.out)) : gb7029 ≠ gb7034)); have n12_ := Aside0.mk ((by rw [hg]; exact Nat.ne_of_gt (blk_lt (g := gb7029) (o := .cells #[.string t7026, .string t7027, .string t7028] 84 (0, 0)) (by (with_reducible repeat (first | refine blk_drewN ?_ _ | refine blk_drew ?_ | refine blk_alloc ?_ _)); exact BK7029.out)) : gb7034 ≠ gb7029)); clear BK7006; clear BK7025; clear BK7029; clear HB; have BK7006 := n0_; have BK7025 := n1_; have BK7029 := n2_; have HB := n3_; have BK7034 := n4_; have GW7034 := n5_; have GE7034 := n6_; have NB7006_7034 := n7_; have NB7034_7006 := n8_; have NB7025_7034 := n9_; have NB7034_7025 := n10_; have NB7029_7034 := n11_; have NB7034_7029 := n12_; clear n0_ n1_ n2_ n3_ n4_ n5_ n6_ n7_ n8_ n9_ n10_ n11_ n12_; clear hb hbox hg; have hnb143 := NB7034_7006.out; have hnc143 := NB7006_7034.out; have hnb144 := NB7034_7025.out; have hnc144 := NB7025_7034.out; have hnb145 := NB7034_7029.out; have hnc145 := NB7029_7034.out; have hcz146_0 : w142.cell? ⟨gb7034, 0, none⟩ = some (.string (⟨#[]⟩ : ByteArray)) := (blk_cell BK7034.out 0).trans rfl; have hcz146_1 : w142.cell? ⟨gb7034, 1, none⟩ = some (.string (⟨#[]⟩ : ByteArray)) := (blk_cell BK7034.out 1).trans rfl; have hcz146_2 : w142.cell? ⟨gb7034, 2, none⟩ = some (.string (⟨#[]⟩ : ByteArray)) := (blk_cell BK7034.out 2).trans rfl; have hfz146_0 := blk_frozen BK7034.out 0; have hfz146_1 := blk_frozen BK7034.out 1; have hfz146_2 := blk_frozen BK7034.out 2))
         have n0_ : Aside0 ((((w142.setCell ⟨gb7034, 0, none⟩ (.string t7030)).setCell ⟨gb7034, 1, none⟩ (.string t7031)).setCell ⟨gb7034, 2, none⟩ (.string t7032)).heap[gb7006]? = some (.cells #[.string t7003, .string t7004, .string t7005] 84 (0, 0))) := ⟨by (with_reducible repeat (first | refine blk_drewN ?_ _ | refine blk_drew ?_ | refine blk_alloc ?_ _)); refine blk_far ?_ NB7006_7034.out _; (with_reducible repeat (first | refine blk_drewN ?_ _ | refine blk_drew ?_ | refine blk_alloc ?_ _)); refine blk_far ?_ NB7006_7034.out _; (with_reducible repeat (first | refine blk_drewN ?_ _ | refine blk_drew ?_ | refine blk_alloc ?_ _)); refine blk_far ?_ NB7006_7034.out _; (with_reducible repeat (first | refine blk_drewN ?_ _ | refine blk_drew ?_ | refine blk_alloc ?_ _)); exact BK7006.out⟩
         have n1_ : Aside0 ((((w142.setCell ⟨gb7034, 0, none⟩ (.string t7030)).setCell ⟨gb7034, 1, none⟩ (.string t7031)).setCell ⟨gb7034, 2, none⟩ (.string t7032)).heap[gb7025]? = some (.cells #[.string t7020, .string t7021, .string t7022] 84 (0, 0))) := ⟨by (with_reducible repeat (first | refine blk_drewN ?_ _ | refine blk_drew ?_ | refine blk_alloc ?_ _)); refine blk_far ?_ NB7025_7034.out _; (with_reducible repeat (first | refine blk_drewN ?_ _ | refine blk_drew ?_ | refine blk_alloc ?_ _)); refine blk_far ?_ NB7025_7034.out _; (with_reducible repeat (first | refine blk_drewN ?_ _ | refine blk_drew ?_ | refine blk_alloc ?_ _)); refine blk_far ?_ NB7025_7034.out _; (with_reducible repeat (first | refine blk_drewN ?_ _ | refine blk_drew ?_ | refine blk_alloc ?_ _)); exact BK7025.out⟩
         have n2_ : Aside0 ((((w142.setCell ⟨gb7034, 0, none⟩ (.string t7030)).setCell ⟨gb7034, 1, none⟩ (.string t7031)).setCell ⟨gb7034, 2, none⟩ (.string t7032)).heap[gb7029]? = some (.cells #[.string t7026, .string t7027, .string t7028] 84 (0, 0))) := ⟨by (with_reducible repeat (first | refine blk_drewN ?_ _ | refine blk_drew ?_ | refine blk_alloc ?_ _)); refine blk_far ?_ NB7029_7034.out _; (with_reducible repeat (first | refine blk_drewN ?_ _ | refine blk_drew ?_ | refine blk_alloc ?_ _)); refine blk_far ?_ NB7029_7034.out _; (with_reducible repeat (first | refine blk_drewN ?_ _ | refine blk_drew ?_ | refine blk_alloc ?_ _)); refine blk_far ?_ NB7029_7034.out _; (with_reducible repeat (first | refine blk_drewN ?_ _ | refine blk_drew ?_ | refine blk_alloc ?_ _)); exact BK7029.out⟩
         have n3_ : Aside0 ((((w142.setCell ⟨gb7034, 0, none⟩ (.string t7030)).setCell ⟨gb7034, 1, none⟩ (.string t7031)).setCell ⟨gb7034, 2, none⟩ (.string t7032)).heap[gb7034]? = some (.cells #[.string t7030, .string t7031, .string t7032] 84 (0, 0))) := ⟨by (with_reducible repeat (first | refine blk_drewN ?_ _ | refine blk_drew ?_ | refine blk_alloc ?_ _)); refine blk_put (cs := #[.string t7030, .string t7031, .string (⟨#[]⟩ : ByteArray)]) ?_ 2 _ rfl; (with_reducible repeat (first | refine blk_drewN ?_ _ | refine blk_drew ?_ | refine blk_alloc ?_ _)); refine blk_put (cs := #[.string t7030, .string (⟨#[]⟩ : ByteArray), .string (⟨#[]⟩ : ByteArray)]) ?_ 1 _ rfl; (with_reducible repeat (first | refine blk_drewN ?_ _ | refine blk_drew ?_ | refine blk_alloc ?_ _)); refine blk_put (cs := #[.string (⟨#[]⟩ : ByteArray), .string (⟨#[]⟩ : ByteArray), .string (⟨#[]⟩ : ByteArray)]) ?_ 0 _ rfl; (with_reducible repeat (first | refine blk_drewN ?_ _ | refine blk_drew ?_ | refine blk_alloc ?_ _)); exact BK7034.out⟩
         have n4_ : Aside0 (Below w.heap.size w (((w142.setCell ⟨gb7034, 0, none⟩ (.string t7030)).setCell ⟨gb7034, 1, none⟩ (.string t7031)).setCell ⟨gb7034, 2, none⟩ (.string t7032))) := ⟨by repeat (first | (with_reducible first | exact HB.out | apply below_alloc | apply pw_below_drewN | apply below_drew1 | refine below_set ?_ GE7006.out | refine below_set ?_ GE7025.out | refine below_set ?_ GE7029.out | refine below_set ?_ GE7034.out) | exact HB.out)⟩
         (try clear BK7006)
         (try clear BK7025)
         (try clear BK7029)
         (try clear BK7034)
         (try clear HB)
         generalize (((w142.setCell ⟨gb7034, 0, none⟩ (.string t7030)).setCell ⟨gb7034, 1, none⟩ (.string t7031)).setCell ⟨gb7034, 2, none⟩ (.string t7032)) = w147 at n0_ n1_ n2_ n3_ n4_ ⊢
         have BK7006 := n0_
         have BK7025 := n1_
         have BK7029 := n2_
         have BK7034 := n3_
         have HB := n4_
         clear n0_ n1_ n2_ n3_ n4_
         have n0_ := Aside0.mk (blk_drew BK7006.out)
         have n1_ := Aside0.mk (blk_drew BK7025.out)
         have n2_ := Aside0.mk (blk_drew BK7029.out)
         have n3_ := Aside0.mk (blk_drew BK7034.out)
         have n4_ := Aside0.mk (below_drew1 HB.out)
         clear BK7006
         clear BK7025
         clear BK7029
         clear BK7034
         clear HB
         have BK7006 := n0_
         have BK7025 := n1_
         have BK7029 := n2_
         have BK7034 := n3_
         have HB := n4_
         clear n0_ n1_ n2_ n3_ n4_
         refine start_ (n := 27) (S := fun w' => w'.cell? ⟨gb7029, 0, none⟩ = some (.string t7026) ∧ w'.cell? ⟨gb7029, 1, none⟩ = some (.string t7027) ∧ w'.cell? ⟨gb7029, 2, none⟩ = some (.string t7028) ∧ w'.cell? ⟨gb7025, 0, none⟩ = some (.string t7020) ∧ w'.cell? ⟨gb7025, 1, none⟩ = some (.string t7021) ∧ w'.cell? ⟨gb7025, 2, none⟩ = some (.string t7022)) (ds := []) #[false, false, false, false, false, false, false, false, false, false, false, false, false, false, false, false, false, false, false, false, false, false, false, false, false, false, false] (by kernel_rfl) rfl rfl ⟨(blk_cell BK7029.out 0).trans rfl, (blk_cell BK7029.out 1).trans rfl, (blk_cell BK7029.out 2).trans rfl, (blk_cell BK7025.out 0).trans rfl, (blk_cell BK7025.out 1).trans rfl, (blk_cell BK7025.out 2).trans rfl⟩ (fun hHeld => ?_); refine with_tabW laws_FnTerms.tab17 laws_FnTerms.bits17 (fun HT_ HW_ => ?_)
         generalize w147.drew = w148 at BK7006 BK7025 BK7029 BK7034 HB hHeld ⊢
         refine pure_ (i := 2) (N := some 94) (v := ?_) (a' := ?_) #[false, false, true, false, false, false, false, false, false, false, false, false, false, false, false, false, false, false, false, false, false, false, false, false, false, false, false] rfl rfl (any_of HT_.out (by kernel_rfl)) (fun _ _ _ h => h) (Or.inl ⟨by rfl, ?_⟩) ?_ ?_
         rotate_left
         ·intro w'
          go_simp
          first | with_reducible rfl | (rw [if_neg (by omega)]; done) | (rw [if_neg (by (try simp only [decide_eq_true_eq, decide_eq_false_iff_not, eq_iff_iff, iff_true, iff_false] at *); (try simp only [ByteArray.size_extract, ByteArray.size_append, show (⟨#[97, 98, 99]⟩ : ByteArray).size = 3 from rfl, show (⟨#[88, 89, 90]⟩ : ByteArray).size = 3 from rfl, show (⟨#[61]⟩ : ByteArray).size = 1 from rfl] at *); omega)]; done)
         rotate_left
         ·simp only [Act.put, List.setIfInBounds_toArray, List.set_cons_zero, List.set_cons_succ, i64_w, i32_w]
          rfl
         refine pure_ (i := 3) (N := some 95) (v := ?_) (a' := ?_) #[false, false, true, true, false, false, false, false, false, false, false, false, false, false, false, false, false, false, false, false, false, false, false, false, false, false, false] rfl rfl (any_of HT_.out (by kernel_rfl)) (fun _ _ _ h => h) (Or.inl ⟨by rfl, ?_⟩) ?_ ?_
         rotate_left
         ·intro w'
          go_simp
          first | with_reducible rfl | (rw [if_neg (by omega)]; done) | (rw [if_neg (by (try simp only [decide_eq_true_eq, decide_eq_false_iff_not, eq_iff_iff, iff_true, iff_false] at *); (try simp only [ByteArray.size_extract, ByteArray.size_append, show (⟨#[97, 98, 99]⟩ : ByteArray).size = 3 from rfl, show (⟨#[88, 89, 90]⟩ : ByteArray).size = 3 from rfl, show (⟨#[61]⟩ : ByteArray).size = 1 from rfl] at *); omega)]; done)
         rotate_left
         ·simp only [Act.put, List.setIfInBounds_toArray, List.set_cons_zero, List.set_cons_succ, i64_w, i32_w]
          rfl
         refine take_ (i := 0) (N := some 92) (v := ?_) (a' := ?_) #[true, false, true, true, false, false, false, false, false, false, false, false, false, false, false, false, false, false, false, false, false, false, false, false, false, false, false] rfl rfl (take_ofW HT_.out HW_.out (by kernel_rfl)) (fun _ _ _ h => h) (Or.inl ⟨by rfl, ?_⟩) hHeld ?_ ?_
         rotate_left
         ·rintro w' ⟨s0, s1, s2, s3, s4, s5⟩
          go_simp
          first | with_reducible rfl | (rw [if_neg (by omega)]; done) | (rw [if_neg (by (try simp only [decide_eq_true_eq, decide_eq_false_iff_not, eq_iff_iff, iff_true, iff_false] at *); (try simp only [ByteArray.size_extract, ByteArray.size_append, show (⟨#[97, 98, 99]⟩ : ByteArray).size = 3 from rfl, show (⟨#[88, 89, 90]⟩ : ByteArray).size = 3 from rfl, show (⟨#[61]⟩ : ByteArray).size = 1 from rfl] at *); omega)]; done)
         rotate_left
         ·simp only [Act.put, List.setIfInBounds_toArray, List.set_cons_zero, List.set_cons_succ, i64_w, i32_w]
          rfl
         refine take_ (i := 1) (N := some 93) (v := ?_) (a' := ?_) #[true, true, true, true, false, false, false, false, false, false, false, false, false, false, false, false, false, false, false, false, false, false, false, false, false, false, false] rfl rfl (take_ofW HT_.out HW_.out (by kernel_rfl)) (fun _ _ _ h => h) (Or.inl ⟨by rfl, ?_⟩) hHeld ?_ ?_
         rotate_left
         ·rintro w' ⟨s0, s1, s2, s3, s4, s5⟩
          go_simp
          first | with_reducible rfl | (rw [if_neg (by omega)]; done) | (rw [if_neg (by (try simp only [decide_eq_true_eq, decide_eq_false_iff_not, eq_iff_iff, iff_true, iff_false] at *); (try simp only [ByteArray.size_extract, ByteArray.size_append, show (⟨#[97, 98, 99]⟩ : ByteArray).size = 3 from rfl, show (⟨#[88, 89, 90]⟩ : ByteArray).size = 3 from rfl, show (⟨#[61]⟩ : ByteArray).size = 1 from rfl] at *); omega)]; done)
         rotate_left
         ·simp only [Act.put, List.setIfInBounds_toArray, List.set_cons_zero, List.set_cons_succ, i64_w, i32_w]
          rfl
         refine one_ (i := 4) (N := some 96) #[true, true, true, true, true, false, false, false, false, false, false, false, false, false, false, false, false, false, false, false, false, false, false, false, false, false, false] rfl rfl (one_of HT_.out (by kernel_rfl)) (by decide) (fun K hK => ?_)
         refine goes_ Try.func58 (by kernel_rfl) rfl #[.agg #[.string t7020, .string t7021, .string t7022], .int .u8 t7023, .string t7024] (by rfl) rfl rfl (by (try simp only [List.map_toArray, List.map_cons, List.map_nil]); first | done | rfl | (simp only [List.length_drop, List.length_take]; rfl)) ?_
         with_reducible refine (spec_WithValue.calls t7020 t7021 t7022 t7023 t7024 t7035 t7036 t7037 _ A63.out).mono ?_
         rintro e w149 ⟨rfl, hb⟩
         refine ⟨_, rfl, ?_⟩
         have n0_ := Aside0.mk (blk_below (g := gb7006) (o := .cells #[.string t7003, .string t7004, .string t7005] 84 (0, 0)) (by (with_reducible repeat (first | refine blk_drewN ?_ _ | refine blk_drew ?_ | refine blk_alloc ?_ _)); exact BK7006.out) hb)
         have n1_ := Aside0.mk (blk_below (g := gb7025) (o := .cells #[.string t7020, .string t7021, .string t7022] 84 (0, 0)) (by (with_reducible repeat (first | refine blk_drewN ?_ _ | refine blk_drew ?_ | refine blk_alloc ?_ _)); exact BK7025.out) hb)
         have n2_ := Aside0.mk (blk_below (g := gb7029) (o := .cells #[.string t7026, .string t7027, .string t7028] 84 (0, 0)) (by (with_reducible repeat (first | refine blk_drewN ?_ _ | refine blk_drew ?_ | refine blk_alloc ?_ _)); exact BK7029.out) hb)
         have n3_ := Aside0.mk (blk_below (g := gb7034) (o := .cells #[.string t7030, .string t7031, .string t7032] 84 (0, 0)) (by (with_reducible repeat (first | refine blk_drewN ?_ _ | refine blk_drew ?_ | refine blk_alloc ?_ _)); exact BK7034.out) hb)
         have n4_ := Aside0.mk (below_step (by repeat (first | (with_reducible first | exact HB.out | apply below_alloc | apply pw_below_drewN | apply below_drew1 | refine below_set ?_ GE7006.out | refine below_set ?_ GE7025.out | refine below_set ?_ GE7029.out | refine below_set ?_ GE7034.out) | exact HB.out)) hb)
         clear BK7006
         clear BK7025
         clear BK7029
         clear BK7034
         clear HB
         have BK7006 := n0_
         have BK7025 := n1_
         have BK7029 := n2_
         have BK7034 := n3_
         have HB := n4_
         clear n0_ n1_ n2_ n3_ n4_
         (try clear hb)
         (try clear hb2)
         (try clear hk)
         (try clear hi)
         refine hK.out _ _ ⟨(blk_cell BK7029.out 0).trans rfl, (blk_cell BK7029.out 1).trans rfl, (blk_cell BK7029.out 2).trans rfl, (blk_cell BK7025.out 0).trans rfl, (blk_cell BK7025.out 1).trans rfl, (blk_cell BK7025.out 2).trans rfl⟩ (fun hHeld => ?_)
         clear hK K
         refine norm_ (a' := ?_) ?_ ?_
         rotate_left
         ·show Act.put _ (some 96) _ = _
          simp only [Act.put, List.setIfInBounds_toArray, List.set_cons_zero, List.set_cons_succ, i64_w, i32_w]
          rfl
         refine pure_ (i := 5) (N := some 97) (v := ?_) (a' := ?_) #[true, true, true, true, true, true, false, false, false, false, false, false, false, false, false, false, false, false, false, false, false, false, false, false, false, false, false] rfl rfl (any_of HT_.out (by kernel_rfl)) (fun _ _ _ h => h) (Or.inl ⟨by rfl, ?_⟩) ?_ ?_
         rotate_left
         ·intro w'
          go_simp
          first | with_reducible rfl | (rw [if_neg (by omega)]; done) | (rw [if_neg (by (try simp only [decide_eq_true_eq, decide_eq_false_iff_not, eq_iff_iff, iff_true, iff_false] at *); (try simp only [ByteArray.size_extract, ByteArray.size_append, show (⟨#[97, 98, 99]⟩ : ByteArray).size = 3 from rfl, show (⟨#[88, 89, 90]⟩ : ByteArray).size = 3 from rfl, show (⟨#[61]⟩ : ByteArray).size = 1 from rfl] at *); omega)]; done)
         rotate_left
         ·simp only [Act.put, List.setIfInBounds_toArray, List.set_cons_zero, List.set_cons_succ, i64_w, i32_w]
          rfl
         refine pure_ (i := 6) (N := some 98) (v := ?_) (a' := ?_) #[true, true, true, true, true, true, true, false, false, false, false, false, false, false, false, false, false, false, false, false, false, false, false, false, false, false, false] rfl rfl (any_of HT_.out (by kernel_rfl)) (fun _ _ _ h => h) (Or.inl ⟨by rfl, ?_⟩) ?_ ?_
         rotate_left
         ·intro w'
          go_simp
          first | with_reducible rfl | (rw [if_neg (by omega)]; done) | (rw [if_neg (by (try simp only [decide_eq_true_eq, decide_eq_false_iff_not, eq_iff_iff, iff_true, iff_false] at *); (try simp only [ByteArray.size_extract, ByteArray.size_append, show (⟨#[97, 98, 99]⟩ : ByteArray).size = 3 from rfl, show (⟨#[88, 89, 90]⟩ : ByteArray).size = 3 from rfl, show (⟨#[61]⟩ : ByteArray).size = 1 from rfl] at *); omega)]; done)
         rotate_left
         ·simp only [Act.put, List.setIfInBounds_toArray, List.set_cons_zero, List.set_cons_succ, i64_w, i32_w]
          rfl
         refine pure_ (i := 7) (N := some 99) (v := undef) (a' := ?_) #[true, true, true, true, true, true, true, true, false, false, false, false, false, false, false, false, false, false, false, false, false, false, false, false, false, false, false] rfl rfl (any_of HT_.out (by kernel_rfl)) (fun _ _ _ h => h) (Or.inr ⟨by rfl, rfl⟩) ?_ ?_
         rotate_left
         ·simp only [Act.put, List.setIfInBounds_toArray, List.set_cons_zero, List.set_cons_succ, i64_w, i32_w]
          rfl
         refine pure_ (i := 8) (N := some 100) (v := undef) (a' := ?_) #[true, true, true, true, true, true, true, true, true, false, false, false, false, false, false, false, false, false, false, false, false, false, false, false, false, false, false] rfl rfl (any_of HT_.out (by kernel_rfl)) (fun _ _ _ h => h) (Or.inr ⟨by rfl, rfl⟩) ?_ ?_
         rotate_left
         ·simp only [Act.put, List.setIfInBounds_toArray, List.set_cons_zero, List.set_cons_succ, i64_w, i32_w]
          rfl
         refine pure_ (i := 9) (N := some 101) (v := undef) (a' := ?_) #[true, true, true, true, true, true, true, true, true, true, false, false, false, false, false, false, false, false, false, false, false, false, false, false, false, false, false] rfl rfl (any_of HT_.out (by kernel_rfl)) (fun _ _ _ h => h) (Or.inr ⟨by rfl, rfl⟩) ?_ ?_
         rotate_left
         ·simp only [Act.put, List.setIfInBounds_toArray, List.set_cons_zero, List.set_cons_succ, i64_w, i32_w]
          rfl
         refine pure_ (i := 10) (N := some 102) (v := undef) (a' := ?_) #[true, true, true, true, true, true, true, true, true, true, true, false, false, false, false, false, false, false, false, false, false, false, false, false, false, false, false] rfl rfl (any_of HT_.out (by kernel_rfl)) (fun _ _ _ h => h) (Or.inr ⟨by rfl, rfl⟩) ?_ ?_
         rotate_left
         ·simp only [Act.put, List.setIfInBounds_toArray, List.set_cons_zero, List.set_cons_succ, i64_w, i32_w]
          rfl
         refine pure_ (i := 11) (N := some 103) (v := undef) (a' := ?_) #[true, true, true, true, true, true, true, true, true, true, true, true, false, false, false, false, false, false, false, false, false, false, false, false, false, false, false] rfl rfl (any_of HT_.out (by kernel_rfl)) (fun _ _ _ h => h) (Or.inr ⟨by rfl, rfl⟩) ?_ ?_
         rotate_left
         ·simp only [Act.put, List.setIfInBounds_toArray, List.set_cons_zero, List.set_cons_succ, i64_w, i32_w]
          rfl
         refine pure_ (i := 12) (N := some 104) (v := undef) (a' := ?_) #[true, true, true, true, true, true, true, true, true, true, true, true, true, false, false, false, false, false, false, false, false, false, false, false, false, false, false] rfl rfl (any_of HT_.out (by kernel_rfl)) (fun _ _ _ h => h) (Or.inr ⟨by rfl, rfl⟩) ?_ ?_
         rotate_left
         ·simp only [Act.put, List.setIfInBounds_toArray, List.set_cons_zero, List.set_cons_succ, i64_w, i32_w]
          rfl
         refine pure_ (i := 13) (N := some 105) (v := undef) (a' := ?_) #[true, true, true, true, true, true, true, true, true, true, true, true, true, true, false, false, false, false, false, false, false, false, false, false, false, false, false] rfl rfl (any_of HT_.out (by kernel_rfl)) (fun _ _ _ h => h) (Or.inr ⟨by rfl, rfl⟩) ?_ ?_
         rotate_left
         ·simp only [Act.put, List.setIfInBounds_toArray, List.set_cons_zero, List.set_cons_succ, i64_w, i32_w]
          rfl
         refine pure_ (i := 14) (N := some 106) (v := undef) (a' := ?_) #[true, true, true, true, true, true, true, true, true, true, true, true, true, true, true, false, false, false, false, false, false, false, false, false, false, false, false] rfl rfl (any_of HT_.out (by kernel_rfl)) (fun _ _ _ h => h) (Or.inr ⟨by rfl, rfl⟩) ?_ ?_
         rotate_left
         ·simp only [Act.put, List.setIfInBounds_toArray, List.set_cons_zero, List.set_cons_succ, i64_w, i32_w]
          rfl
         refine pure_ (i := 15) (N := some 107) (v := undef) (a' := ?_) #[true, true, true, true, true, true, true, true, true, true, true, true, true, true, true, true, false, false, false, false, false, false, false, false, false, false, false] rfl rfl (any_of HT_.out (by kernel_rfl)) (fun _ _ _ h => h) (Or.inr ⟨by rfl, rfl⟩) ?_ ?_
         rotate_left
         ·simp only [Act.put, List.setIfInBounds_toArray, List.set_cons_zero, List.set_cons_succ, i64_w, i32_w]
          rfl
         refine pure_ (i := 16) (N := some 108) (v := ?_) (a' := ?_) #[true, true, true, true, true, true, true, true, true, true, true, true, true, true, true, true, true, false, false, false, false, false, false, false, false, false, false] rfl rfl (any_of HT_.out (by kernel_rfl)) (fun _ _ _ h => h) (Or.inl ⟨by rfl, ?_⟩) ?_ ?_
         rotate_left
         ·intro w'
          go_simp
          first | with_reducible rfl | (rw [if_neg (by omega)]; done) | (rw [if_neg (by (try simp only [decide_eq_true_eq, decide_eq_false_iff_not, eq_iff_iff, iff_true, iff_false] at *); (try simp only [ByteArray.size_extract, ByteArray.size_append, show (⟨#[97, 98, 99]⟩ : ByteArray).size = 3 from rfl, show (⟨#[88, 89, 90]⟩ : ByteArray).size = 3 from rfl, show (⟨#[61]⟩ : ByteArray).size = 1 from rfl] at *); omega)]; done)
         rotate_left
         ·simp only [Act.put, List.setIfInBounds_toArray, List.set_cons_zero, List.set_cons_succ, i64_w, i32_w]
          rfl
         refine pure_ (i := 17) (N := some 109) (v := ?_) (a' := ?_) #[true, true, true, true, true, true, true, true, true, true, true, true, true, true, true, true, true, true, false, false, false, false, false, false, false, false, false] rfl rfl (any_of HT_.out (by kernel_rfl)) (fun _ _ _ h => h) (Or.inl ⟨by rfl, ?_⟩) ?_ ?_
         rotate_left
         ·intro w'
          go_simp
          first | with_reducible rfl | (rw [if_neg (by omega)]; done) | (rw [if_neg (by (try simp only [decide_eq_true_eq, decide_eq_false_iff_not, eq_iff_iff, iff_true, iff_false] at *); (try simp only [ByteArray.size_extract, ByteArray.size_append, show (⟨#[97, 98, 99]⟩ : ByteArray).size = 3 from rfl, show (⟨#[88, 89, 90]⟩ : ByteArray).size = 3 from rfl, show (⟨#[61]⟩ : ByteArray).size = 1 from rfl] at *); omega)]; done)
         rotate_left
         ·simp only [Act.put, List.setIfInBounds_toArray, List.set_cons_zero, List.set_cons_succ, i64_w, i32_w]
          rfl
         refine pure_ (i := 18) (N := some 110) (v := undef) (a' := ?_) #[true, true, true, true, true, true, true, true, true, true, true, true, true, true, true, true, true, true, true, false, false, false, false, false, false, false, false] rfl rfl (any_of HT_.out (by kernel_rfl)) (fun _ _ _ h => h) (Or.inr ⟨by rfl, rfl⟩) ?_ ?_
         rotate_left
         ·simp only [Act.put, List.setIfInBounds_toArray, List.set_cons_zero, List.set_cons_succ, i64_w, i32_w]
          rfl
         refine pure_ (i := 19) (N := some 111) (v := undef) (a' := ?_) #[true, true, true, true, true, true, true, true, true, true, true, true, true, true, true, true, true, true, true, true, false, false, false, false, false, false, false] rfl rfl (any_of HT_.out (by kernel_rfl)) (fun _ _ _ h => h) (Or.inr ⟨by rfl, rfl⟩) ?_ ?_
         rotate_left
         ·simp only [Act.put, List.setIfInBounds_toArray, List.set_cons_zero, List.set_cons_succ, i64_w, i32_w]
          rfl
         refine pure_ (i := 20) (N := some 112) (v := undef) (a' := ?_) #[true, true, true, true, true, true, true, true, true, true, true, true, true, true, true, true, true, true, true, true, true, false, false, false, false, false, false] rfl rfl (any_of HT_.out (by kernel_rfl)) (fun _ _ _ h => h) (Or.inr ⟨by rfl, rfl⟩) ?_ ?_
         rotate_left
         ·simp only [Act.put, List.setIfInBounds_toArray, List.set_cons_zero, List.set_cons_succ, i64_w, i32_w]
          rfl
         refine pure_ (i := 21) (N := some 113) (v := undef) (a' := ?_) #[true, true, true, true, true, true, true, true, true, true, true, true, true, true, true, true, true, true, true, true, true, true, false, false, false, false, false] rfl rfl (any_of HT_.out (by kernel_rfl)) (fun _ _ _ h => h) (Or.inr ⟨by rfl, rfl⟩) ?_ ?_
         rotate_left
         ·simp only [Act.put, List.setIfInBounds_toArray, List.set_cons_zero, List.set_cons_succ, i64_w, i32_w]
          rfl
         refine pure_ (i := 22) (N := some 114) (v := undef) (a' := ?_) #[true, true, true, true, true, true, true, true, true, true, true, true, true, true, true, true, true, true, true, true, true, true, true, false, false, false, false] rfl rfl (any_of HT_.out (by kernel_rfl)) (fun _ _ _ h => h) (Or.inr ⟨by rfl, rfl⟩) ?_ ?_
         rotate_left
         ·simp only [Act.put, List.setIfInBounds_toArray, List.set_cons_zero, List.set_cons_succ, i64_w, i32_w]
          rfl
         refine pure_ (i := 23) (N := some 115) (v := undef) (a' := ?_) #[true, true, true, true, true, true, true, true, true, true, true, true, true, true, true, true, true, true, true, true, true, true, true, true, false, false, false] rfl rfl (any_of HT_.out (by kernel_rfl)) (fun _ _ _ h => h) (Or.inr ⟨by rfl, rfl⟩) ?_ ?_
         rotate_left
         ·simp only [Act.put, List.setIfInBounds_toArray, List.set_cons_zero, List.set_cons_succ, i64_w, i32_w]
          rfl
         refine pure_ (i := 24) (N := some 116) (v := undef) (a' := ?_) #[true, true, true, true, true, true, true, true, true, true, true, true, true, true, true, true, true, true, true, true, true, true, true, true, true, false, false] rfl rfl (any_of HT_.out (by kernel_rfl)) (fun _ _ _ h => h) (Or.inr ⟨by rfl, rfl⟩) ?_ ?_
         rotate_left
         ·simp only [Act.put, List.setIfInBounds_toArray, List.set_cons_zero, List.set_cons_succ, i64_w, i32_w]
          rfl
         refine pure_ (i := 25) (N := some 117) (v := ?_) (a' := ?_) #[true, true, true, true, true, true, true, true, true, true, true, true, true, true, true, true, true, true, true, true, true, true, true, true, true, true, false] rfl rfl (any_of HT_.out (by kernel_rfl)) (fun _ _ _ h => h) (Or.inl ⟨by rfl, ?_⟩) ?_ ?_
         rotate_left
         ·intro w'
          go_simp
          first | with_reducible rfl | (rw [if_neg (by omega)]; done) | (rw [if_neg (by (try simp only [decide_eq_true_eq, decide_eq_false_iff_not, eq_iff_iff, iff_true, iff_false] at *); (try simp only [ByteArray.size_extract, ByteArray.size_append, show (⟨#[97, 98, 99]⟩ : ByteArray).size = 3 from rfl, show (⟨#[88, 89, 90]⟩ : ByteArray).size = 3 from rfl, show (⟨#[61]⟩ : ByteArray).size = 1 from rfl] at *); omega)]; done)
         rotate_left
         ·simp only [Act.put, List.setIfInBounds_toArray, List.set_cons_zero, List.set_cons_succ, i64_w, i32_w]
          rfl
         refine pure_ (i := 26) (N := some 2) (v := ?_) (a' := ?_) #[true, true, true, true, true, true, true, true, true, true, true, true, true, true, true, true, true, true, true, true, true, true, true, true, true, true, true] rfl rfl (any_of HT_.out (by kernel_rfl)) (fun _ _ _ h => h) (Or.inl ⟨by rfl, ?_⟩) ?_ ?_
         rotate_left
         ·intro w'
          go_simp
          first | with_reducible rfl | (rw [if_neg (by omega)]; done) | (rw [if_neg (by (try simp only [decide_eq_true_eq, decide_eq_false_iff_not, eq_iff_iff, iff_true, iff_false] at *); (try simp only [ByteArray.size_extract, ByteArray.size_append, show (⟨#[97, 98, 99]⟩ : ByteArray).size = 3 from rfl, show (⟨#[88, 89, 90]⟩ : ByteArray).size = 3 from rfl, show (⟨#[61]⟩ : ByteArray).size = 1 from rfl] at *); omega)]; done)
         rotate_left
         ·simp only [Act.put, List.setIfInBounds_toArray, List.set_cons_zero, List.set_cons_succ, i64_w, i32_w]
          rfl
         refine done_ (done_of HT_.out (by kernel_rfl)) ?_
         try go_wp2
         go_ret
         exact ⟨by first | rfl | (simp [errW_none, errW_some] <;> rfl) | (simp [*, errW_none, errW_some] <;> rfl), by repeat (first | (with_reducible first | exact HB.out | apply below_alloc | apply pw_below_drewN | apply below_drew1 | refine below_set ?_ GE7006.out | refine below_set ?_ GE7025.out | refine below_set ?_ GE7029.out | refine below_set ?_ GE7034.out) | exact HB.out)⟩
end Go.Proofs.Ytpppopdmnejcfaa.A
